/- Sh: the draws' cursor (l1Cur): each draw returns, within bounds. -/
import Derived.Test.YtmhcefpknmhbgaaShLib
import Derived.Test.YtmhcefpknmhbgaaShF1
set_option linter.unusedVariables false
set_option linter.unusedSimpArgs false
namespace Sh
open Go

/-- Bytes. -/
def Byt (a : List Int) : Prop := ∀ b ∈ a, 0 ≤ b ∧ b ≤ 255
theorem Byt.get {a : List Int} (h : Byt a) (k : Nat) : 0 ≤ a.getD k 0 ∧ a.getD k 0 ≤ 255 := by
  by_cases hk : k < a.length
  · exact h _ (getD_mem hk 0)
  · rw [List.getD_eq_getElem?_getD, List.getElem?_eq_none (by omega)]; simp
theorem ands_255 (x : Int) : 0 ≤ ands .u64 x 255 ∧ ands .u64 x 255 ≤ 255 := by
  unfold ands
  have h : (BitVec.ofInt IntKind.u64.bits x &&& BitVec.ofInt IntKind.u64.bits 255).toNat ≤ 255 := by
    rw [BitVec.toNat_and]
    exact Nat.le_trans Nat.and_le_right (by decide)
  have := u64_of (x := ((BitVec.ofInt IntKind.u64.bits x &&& BitVec.ofInt IntKind.u64.bits 255).toNat : Int)) (by omega) (by omega)
  unfold u64 at this
  rw [this]; omega

theorem next_ok {a : List Int} {p h : Int} (hb : Byt a) (h0 : 0 ≤ p) (h1 : p ≤ 1000000000000000000) : Ok (spec_l1Cur_next a p h) (fun r => r.1 = p + 1 ∧ 0 ≤ r.2.2 ∧ r.2.2 ≤ 255) := by
  unfold spec_l1Cur_next
  refine Ok.bind (P := fun b => 0 ≤ b ∧ b ≤ 255) ?_ ?_
  · refine Ok.ite (fun hc => ?_) fun hc => Ok.ret (by omega)
    have hc' : p < a.length := of_decide_eq_true hc
    have := hb.get p.toNat
    simp (disch := omega) only [decide_true, decide_false, i64_of, chk_and, chk_dec, chk_true, dec_t, dec_f, if_true, if_false, Bool.false_eq_true, Bool.not_true, Bool.not_false, Bool.and_self, Bool.and_false, Bool.false_and, Bool.and_true, Bool.true_and, Bool.or_false, Bool.false_or, Bool.or_true, Bool.true_or, bind_some, Int.toNat_natCast]
    exact Ok.ret (by omega)
  · intro b hb
    have := fun x => ands_255 x
    rw [i64_of (x := p + 1) (by omega) (by omega)]
    refine Ok.ite (fun hc => Ok.ret ⟨rfl, hb⟩) fun hc => Ok.ret ⟨rfl, ?_⟩
    generalize hq : ands .u64 _ 255 = q
    have := ands_255 (shrs .u64 (u64 ((u64 ((u64 (h * (6364136223846793005 : Int))) + (u64 b))) + (1442695040888963407 : Int))) (40 : Int))
    rw [hq] at this
    rw [i64_of (by omega) (by omega)]; exact this
theorem pick_ok {a : List Int} {p h : Int} (hb : Byt a) (h0 : 0 ≤ p) (h1 : p ≤ 100000000000000000) (n : Int) : Ok (spec_l1Cur_pick a p h n) (fun r => p ≤ r.1 ∧ r.1 ≤ p + 2 ∧ 0 ≤ r.2.2 ∧ r.2.2 ≤ max 0 (n - 1)) := by
  unfold spec_l1Cur_pick
  refine Ok.ite (fun hc => Ok.ret (by dsimp only; omega)) fun hc => ?_
  have hn : ¬ n ≤ 1 := by simpa using hc
  refine Ok.bind (next_ok hb h0 (by omega)) fun r hr => ?_
  refine Ok.bind (P := fun s => p ≤ s.1 ∧ s.1 ≤ p + 2 ∧ 0 ≤ s.2.2) ?_ ?_
  · refine Ok.ite (fun hc => ?_) fun hc => Ok.ret (by dsimp only; omega)
    refine Ok.bind (next_ok hb (by omega) (by omega)) fun q hq => ?_
    simp (disch := omega) only [decide_true, decide_false, i64_of, chk_and, chk_dec, chk_true, dec_t, dec_f, if_true, if_false, Bool.false_eq_true, Bool.not_true, Bool.not_false, Bool.and_self, Bool.and_false, Bool.false_and, Bool.and_true, Bool.true_and, Bool.or_false, Bool.false_or, Bool.or_true, Bool.true_or, bind_some, Int.toNat_natCast]
    exact Ok.ret (by dsimp only; omega)
  · intro s hs
    simp (disch := omega) only [decide_true, decide_false, i64_of, chk_and, chk_dec, chk_true, dec_t, dec_f, if_true, if_false, Bool.false_eq_true, Bool.not_true, Bool.not_false, Bool.and_self, Bool.and_false, Bool.false_and, Bool.and_true, Bool.true_and, Bool.or_false, Bool.false_or, Bool.or_true, Bool.true_or, bind_some, Int.toNat_natCast]
    refine Ok.ret ⟨hs.1, hs.2.1, ?_, ?_⟩
    · exact Int.tmod_nonneg _ hs.2.2
    · have := Int.tmod_lt_of_pos s.2.2 (show 0 < n by omega)
      dsimp only; omega
theorem one_ok {a : List Int} {p h : Int} (hb : Byt a) (h0 : 0 ≤ p) (h1 : p ≤ 100000000000000000) (n : Int) : Ok (spec_l1Cur_one a p h n) (fun r => p ≤ r.1 ∧ r.1 ≤ p + 2) := by
  unfold spec_l1Cur_one
  exact Ok.bind (pick_ok hb h0 h1 n) fun r hr => Ok.ret ⟨hr.1, hr.2.1⟩
theorem among_ok {a : List Int} {p h : Int} (hb : Byt a) (h0 : 0 ≤ p) (h1 : p ≤ 100000000000000000) {l : List Int} (hl : l ≠ []) (P : Int → Prop) (hP : ∀ x ∈ l, P x) : Ok (spec_l1Cur_among a p h l) (fun r => p ≤ r.1 ∧ r.1 ≤ p + 2 ∧ P r.2.2) := by
  unfold spec_l1Cur_among
  refine Ok.bind (pick_ok hb h0 h1 _) fun r hr => ?_
  have hlen : 0 < l.length := List.length_pos_iff.2 hl
  simp (disch := omega) only [decide_true, decide_false, i64_of, chk_and, chk_dec, chk_true, dec_t, dec_f, if_true, if_false, Bool.false_eq_true, Bool.not_true, Bool.not_false, Bool.and_self, Bool.and_false, Bool.false_and, Bool.and_true, Bool.true_and, Bool.or_false, Bool.false_or, Bool.or_true, Bool.true_or, bind_some, Int.toNat_natCast]
  exact Ok.ret ⟨hr.1, hr.2.1, hP _ (getD_mem (by omega) _)⟩
end Sh
