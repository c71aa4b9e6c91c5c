/- Sh: what the statements' own helpers do: copies, comparisons, marks. -/
import Derived.Test.YtmhcefpknmhbgaaShLib
import Derived.Test.YtmhcefpknmhbgaaShF1
set_option linter.unusedVariables false
set_option linter.unusedSimpArgs false
namespace Sh
open Go

theorem laws_eqIntS_eq {a b : List Int} (h : a.length ≤ 1000000000) : laws_eqIntS a b = some (decide (a = b)) := by
  unfold laws_eqIntS
  by_cases hl : a.length = b.length
  · simp (disch := omega) only [decide_true, decide_false, i64_of, chk_and, chk_dec, chk_true, dec_t, dec_f, if_true, if_false, Bool.false_eq_true, Bool.not_true, Bool.not_false, Bool.and_self, Bool.and_false, Bool.false_and, Bool.and_true, Bool.true_and, Bool.or_false, Bool.false_or, Bool.or_true, Bool.true_or, bind_some, Int.toNat_natCast]
    refine bind_of (loop_any (fun k : Nat => (k : Int)) a.length (fun k => !decide (a.getD k 0 = b.getD k 0)) (.inr false) (.inl ()) ?_ ?_) ?_
    · intro k hk
      have hk1 : (k : Int) < a.length := by omega
      simp (disch := omega) only [decide_true, decide_false, i64_of, chk_and, chk_dec, chk_true, dec_t, dec_f, if_true, if_false, Bool.false_eq_true, Bool.not_true, Bool.not_false, Bool.and_self, Bool.and_false, Bool.false_and, Bool.and_true, Bool.true_and, Bool.or_false, Bool.false_or, Bool.or_true, Bool.true_or, bind_some, Int.toNat_natCast]
      by_cases e : a.getD k 0 = b.getD k 0
      · simp only [e, decide_true, Bool.not_true, Bool.false_eq_true, if_false]; rfl
      · simp only [e, decide_false, Bool.not_false, if_true]
    · simp
    · rw [any_ne 0 hl]
      by_cases e : a = b <;> simp [e]
  · have : a ≠ b := fun e => hl (by rw [e])
    simp (disch := omega) only [decide_true, decide_false, i64_of, chk_and, chk_dec, chk_true, dec_t, dec_f, if_true, if_false, Bool.false_eq_true, Bool.not_true, Bool.not_false, Bool.and_self, Bool.and_false, Bool.false_and, Bool.and_true, Bool.true_and, Bool.or_false, Bool.false_or, Bool.or_true, Bool.true_or, bind_some, Int.toNat_natCast]
theorem laws_markIntS_eq {a : List Int} {m : Int} (h : a.length ≤ 1000000000) (h0 : 0 ≤ m) (h1 : m ≤ 1000000000000000) : laws_markIntS a m = some (seqL id m a.length, m + a.length) := by
  unfold laws_markIntS
  refine bind_of (bind_of (loop_steps' (fun k : Nat => ((seqL id m a.length).take k ++ a.drop k, m + k, (k : Int))) a.length (seqL id m a.length, m + a.length) (by simp) ?_ ?_) (by exact rfl)) (by exact rfl)
  · intro k hk
    have hk1 : (k : Int) < a.length := by omega
    have hs := seqL_length id m a.length
    have e := set_take' (seqL id m a.length) a 0 k (by rw [hs]) (by omega)
    rw [seqL_getD id m hk] at e
    simp only [id] at e
    simp (disch := omega) only [decide_true, decide_false, i64_of, chk_and, chk_dec, chk_true, dec_t, dec_f, if_true, if_false, Bool.false_eq_true, Bool.not_true, Bool.not_false, Bool.and_self, Bool.and_false, Bool.false_and, Bool.and_true, Bool.true_and, Bool.or_false, Bool.false_or, Bool.or_true, Bool.true_or, bind_some, Int.toNat_natCast, take_drop_length (show a.length = (seqL id m a.length).length by rw [hs]), hs, e]
    simp; omega
  · have hs := seqL_length id m a.length
    simp only [List.drop_length, List.append_nil]
    rw [List.take_of_length_le (by omega)]
    simp [hs]
theorem laws_heldIntS_eq {n : Nat} {m : Int} (h : n ≤ 1000000000) (h0 : 0 ≤ m) (h1 : m ≤ 1000000000000000) : laws_heldIntS (seqL id m n) m = some (m + n) := by
  unfold laws_heldIntS
  simp only [seqL_length]
  refine bind_of (loop_steps' (fun k : Nat => (m + k, (k : Int))) n (Sum.inl (m + n)) (by simp) ?_ ?_) (by exact rfl)
  · intro k hk
    have hk1 : (k : Int) < n := by omega
    simp (disch := omega) only [decide_true, decide_false, i64_of, chk_and, chk_dec, chk_true, dec_t, dec_f, if_true, if_false, Bool.false_eq_true, Bool.not_true, Bool.not_false, Bool.and_self, Bool.and_false, Bool.false_and, Bool.and_true, Bool.true_and, Bool.or_false, Bool.false_or, Bool.or_true, Bool.true_or, bind_some, Int.toNat_natCast, seqL_getD id m hk, id]
    simp; omega
  · simp

theorem laws_toLeaseStepS_eq {a : List (Int × Int × Int)} (h : a.length ≤ 1000000000) : laws_toLeaseStepS a = some a := by
  unfold laws_toLeaseStepS
  simp (disch := omega) only [decide_true, decide_false, i64_of, chk_and, chk_dec, chk_true, dec_t, dec_f, if_true, if_false, Bool.false_eq_true, Bool.not_true, Bool.not_false, Bool.and_self, Bool.and_false, Bool.false_and, Bool.and_true, Bool.true_and, Bool.or_false, Bool.false_or, Bool.or_true, Bool.true_or, bind_some, Int.toNat_natCast]
  refine bind_of (bind_of (loop_steps (fun k : Nat => (a.take k ++ (List.replicate a.length (0, (0, 0))).drop k, (k : Int))) a.length a ?_ ?_) rfl) rfl
  · intro k hk
    have hk1 : (k : Int) < a.length := by omega
    have hs : (List.replicate a.length ((0 : Int), ((0 : Int), (0 : Int)))).length = a.length := by simp
    have e := set_take' a (List.replicate a.length (0, (0, 0))) (0, (0, 0)) k hs hk
    simp (disch := omega) only [decide_true, decide_false, i64_of, chk_and, chk_dec, chk_true, dec_t, dec_f, if_true, if_false, Bool.false_eq_true, Bool.not_true, Bool.not_false, Bool.and_self, Bool.and_false, Bool.false_and, Bool.and_true, Bool.true_and, Bool.or_false, Bool.false_or, Bool.or_true, Bool.true_or, bind_some, Int.toNat_natCast, laws_toLeaseStep, take_drop_length hs, e]
    simp
  · simp
theorem laws_eqLeaseStep_eq (a b : Int × Int × Int) : laws_eqLeaseStep a.1 a.2.1 a.2.2 b.1 b.2.1 b.2.2 = some (decide (a = b)) := by
  obtain ⟨a0, a1, a2⟩ := a
  obtain ⟨b0, b1, b2⟩ := b
  unfold laws_eqLeaseStep
  by_cases e0 : a0 = b0 <;> by_cases e1 : a1 = b1 <;> by_cases e2 : a2 = b2 <;> simp [e0, e1, e2]
theorem laws_eqLeaseStepS_eq {a b : List (Int × Int × Int)} (h : a.length ≤ 1000000000) : laws_eqLeaseStepS a b = some (decide (a = b)) := by
  unfold laws_eqLeaseStepS
  by_cases hl : a.length = b.length
  · simp (disch := omega) only [decide_true, decide_false, i64_of, chk_and, chk_dec, chk_true, dec_t, dec_f, if_true, if_false, Bool.false_eq_true, Bool.not_true, Bool.not_false, Bool.and_self, Bool.and_false, Bool.false_and, Bool.and_true, Bool.true_and, Bool.or_false, Bool.false_or, Bool.or_true, Bool.true_or, bind_some, Int.toNat_natCast]
    refine bind_of (loop_any (fun k : Nat => (k : Int)) a.length (fun k => !decide (a.getD k (0, (0, 0)) = b.getD k (0, (0, 0)))) (.inr false) (.inl ()) ?_ ?_) ?_
    · intro k hk
      have hk1 : (k : Int) < a.length := by omega
      simp (disch := omega) only [decide_true, decide_false, i64_of, chk_and, chk_dec, chk_true, dec_t, dec_f, if_true, if_false, Bool.false_eq_true, Bool.not_true, Bool.not_false, Bool.and_self, Bool.and_false, Bool.false_and, Bool.and_true, Bool.true_and, Bool.or_false, Bool.false_or, Bool.or_true, Bool.true_or, bind_some, Int.toNat_natCast, laws_eqLeaseStep_eq]
      by_cases e : a.getD k (0, (0, 0)) = b.getD k (0, (0, 0))
      · simp only [e, decide_true, Bool.not_true, Bool.false_eq_true, if_false]; rfl
      · simp only [e, decide_false, Bool.not_false, if_true]
    · simp
    · rw [any_ne (0, (0, 0)) hl]
      by_cases e : a = b <;> simp [e]
  · have : a ≠ b := fun e => hl (by rw [e])
    simp (disch := omega) only [decide_true, decide_false, i64_of, chk_and, chk_dec, chk_true, dec_t, dec_f, if_true, if_false, Bool.false_eq_true, Bool.not_true, Bool.not_false, Bool.and_self, Bool.and_false, Bool.false_and, Bool.and_true, Bool.true_and, Bool.or_false, Bool.false_or, Bool.or_true, Bool.true_or, bind_some, Int.toNat_natCast]
theorem laws_markLeaseStepS_ok {a : List (Int × Int × Int)} {m : Int} (h : a.length ≤ 1000000000) (h0 : 0 ≤ m) (h1 : m ≤ 1000000000000000) : ∃ b, laws_markLeaseStepS a m = some (b, m + 3 * a.length) := by
  unfold laws_markLeaseStepS
  refine ⟨seqL (fun i => (m + 3 * i, m + 3 * i + 1, m + 3 * i + 1 + 1)) 0 a.length, ?_⟩
  generalize hf : (fun i : Int => (m + 3 * i, m + 3 * i + 1, m + 3 * i + 1 + 1)) = f
  refine bind_of (bind_of (loop_steps' (fun k : Nat => ((seqL f 0 a.length).take k ++ a.drop k, m + 3 * k, (k : Int))) a.length (seqL f 0 a.length, m + 3 * a.length) (by simp) ?_ ?_) (by exact rfl)) (by exact rfl)
  · intro k hk
    have hk1 : (k : Int) < a.length := by omega
    have hs := seqL_length f 0 a.length
    have e := set_take' (seqL f 0 a.length) a (0, (0, 0)) k (by rw [hs]) (by omega)
    rw [seqL_getD f 0 hk] at e
    have hq := take_drop_length (show a.length = (seqL f 0 a.length).length by rw [hs]) k
    rw [hs] at hq
    simp (disch := omega) only [decide_true, decide_false, i64_of, chk_and, chk_dec, chk_true, dec_t, dec_f, if_true, if_false, Bool.false_eq_true, Bool.not_true, Bool.not_false, Bool.and_self, Bool.and_false, Bool.false_and, Bool.and_true, Bool.true_and, Bool.or_false, Bool.false_or, Bool.or_true, Bool.true_or, bind_some, Int.toNat_natCast, hq, getD_set_eq, List.set_set, List.length_set]
    rw [← e, ← hf]
    simp; omega
  · have hs := seqL_length f 0 a.length
    simp only [List.drop_length, List.append_nil]
    rw [List.take_of_length_le (by omega)]
    simp [hs]
theorem laws_szLeaseStepS_eq (a : List (Int × Int × Int)) (h : a.length ≤ 9223372036854775807) : laws_szLeaseStepS a 1048576 = some (if a.length ≤ 1048576 then 1048576 - (a.length : Int) else -1) := by
  unfold laws_szLeaseStepS
  simp (disch := omega) only [decide_true, decide_false, i64_of, chk_and, chk_dec, chk_true, dec_t, dec_f, if_true, if_false, Bool.false_eq_true, Bool.not_true, Bool.not_false, Bool.and_self, Bool.and_false, Bool.false_and, Bool.and_true, Bool.true_and, Bool.or_false, Bool.false_or, Bool.or_true, Bool.true_or, bind_some, Int.toNat_natCast]
  by_cases e : a.length ≤ 1048576
  · have : ¬ (1048576 - (a.length : Int) < 0) := by omega
    simp (disch := omega) only [decide_true, decide_false, i64_of, chk_and, chk_dec, chk_true, dec_t, dec_f, if_true, if_false, Bool.false_eq_true, Bool.not_true, Bool.not_false, Bool.and_self, Bool.and_false, Bool.false_and, Bool.and_true, Bool.true_and, Bool.or_false, Bool.false_or, Bool.or_true, Bool.true_or, bind_some, Int.toNat_natCast, e]
  · have : 1048576 - (a.length : Int) < 0 := by omega
    simp (disch := omega) only [decide_true, decide_false, i64_of, chk_and, chk_dec, chk_true, dec_t, dec_f, if_true, if_false, Bool.false_eq_true, Bool.not_true, Bool.not_false, Bool.and_self, Bool.and_false, Bool.false_and, Bool.and_true, Bool.true_and, Bool.or_false, Bool.false_or, Bool.or_true, Bool.true_or, bind_some, Int.toNat_natCast, e]
theorem laws_sameInts_eq {a b : List Int} (h : a.length ≤ 1000000000) : laws_sameInts a b = some (decide (a = b)) := laws_eqIntS_eq h
theorem laws_has_eq {l : List Int} (h : l.length ≤ 1000000000) (x : Int) : laws_has l x = some (decide (x ∈ l)) := by
  unfold laws_has
  refine bind_of (loop_any (fun k : Nat => (k : Int)) l.length (fun k => decide (l.getD k 0 = x)) (.inr true) (.inl ()) ?_ ?_) ?_
  · intro k hk
    have hk1 : (k : Int) < l.length := by omega
    simp (disch := omega) only [decide_true, decide_false, i64_of, chk_and, chk_dec, chk_true, dec_t, dec_f, if_true, if_false, Bool.false_eq_true, Bool.not_true, Bool.not_false, Bool.and_self, Bool.and_false, Bool.false_and, Bool.and_true, Bool.true_and, Bool.or_false, Bool.false_or, Bool.or_true, Bool.true_or, bind_some, Int.toNat_natCast]
    by_cases e : l.getD k 0 = x
    · simp only [e, decide_true, if_true]
    · simp only [e, decide_false, Bool.false_eq_true, if_false]; rfl
  · simp
  · have : ((List.range l.length).any fun k => decide (l.getD k 0 = x)) = decide (x ∈ l) := by
      rw [Bool.eq_iff_iff, any_range]
      simp only [decide_eq_true_eq]
      constructor
      · rintro ⟨k, hk, rfl⟩; exact getD_mem hk 0
      · intro hx
        obtain ⟨k, hk, e⟩ := List.getElem_of_mem hx
        exact ⟨k, hk, by rw [List.getD_eq_getElem?_getD, List.getElem?_eq_getElem hk]; exact e⟩
    rw [this]
    by_cases e : x ∈ l <;> simp [e]

end Sh
