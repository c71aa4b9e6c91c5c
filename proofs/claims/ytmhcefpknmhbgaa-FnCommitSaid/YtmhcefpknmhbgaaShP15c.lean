/- Sh: commits (l15), part 3: draws, the law FnCommit. -/
import Derived.Test.YtmhcefpknmhbgaaShP15b
set_option linter.unusedVariables false
set_option linter.unusedSimpArgs false
namespace Sh
open Go

theorem impl_isCommit_eq {l : List Shrd} (hl : l.length ≤ 1000000000) (hx : ∀ x ∈ l, x.length ≤ 1000000000) (a b : Int) :
    impl_isCommit l a b = some (((decide (1 ≤ (l.length : Int)) && decide ((l.length : Int) ≤ 4)) && (decide (0 ≤ a) && decide (a ≤ 2))) && (decide (0 ≤ b) && decide (b ≤ 2)) && !(l.any isBad)) := by
  unfold impl_isCommit
  simp -zeta only [if_someB, bind_some, if_t, if_f, if_t', if_f', or_ng, or_ng', nor_g, and_g, Bool.not_not, List.nil_append, impl_in_eq, cfShard3_eq hl hx]
  dsimp only
  congr 1
  cases (decide (1 ≤ (l.length : Int)) && decide ((l.length : Int) ≤ 4)) <;> cases (decide (0 ≤ a) && decide (a ≤ 2)) <;> cases (decide (0 ≤ b) && decide (b ≤ 2)) <;> simp
theorem CInv.good {c : CS} (h : CInv c) : impl_isCommit c.sh c.dr c.rc = some true := by
  rw [impl_isCommit_eq h.len.1 h.len.2]
  have h0 := h.l0; have h1 := h.l1; have h2 := h.dr; have h3 := h.rc
  have hb : c.sh.any isBad = false := by
    rw [List.any_eq_false]
    intro x hx
    have h4 := h.x0 x hx
    have h5 := h.rg x hx
    unfold isBad
    simp (disch := omega) only [decide_true, decide_false, i64_of, chk_and, chk_dec, chk_true, dec_t, dec_f, if_true, if_false, Bool.false_eq_true, Bool.not_true, Bool.not_false, Bool.and_self, Bool.and_false, Bool.false_and, Bool.and_true, Bool.true_and, Bool.or_false, Bool.false_or, Bool.or_true, Bool.true_or, bind_some, Int.toNat_natCast, dec_t (show 1 ≤ (x.length : Int) by omega), dec_t (show (x.length : Int) ≤ 5 by omega)]
    rw [List.any_eq_true]
    rintro ⟨r, hr, hn⟩
    have := h5 r hr
    simp at hn; omega
  simp (disch := omega) only [decide_true, decide_false, i64_of, chk_and, chk_dec, chk_true, dec_t, dec_f, if_true, if_false, Bool.false_eq_true, Bool.not_true, Bool.not_false, Bool.and_self, Bool.and_false, Bool.false_and, Bool.and_true, Bool.true_and, Bool.or_false, Bool.false_or, Bool.or_true, Bool.true_or, bind_some, Int.toNat_natCast, dec_t (show 1 ≤ (c.sh.length : Int) by omega), dec_t (show (c.sh.length : Int) ≤ 4 by omega), dec_t h2.1, dec_t h2.2, dec_t h3.1, dec_t h3.2, hb]
theorem CInv.lives {c : CS} (h : CInv c) : impl_LivesIn c.sh c.dr c.rc = some (true, true) := by
  unfold impl_LivesIn
  rw [h.good]
  simp (disch := omega) only [decide_true, decide_false, i64_of, chk_and, chk_dec, chk_true, dec_t, dec_f, if_true, if_false, Bool.false_eq_true, Bool.not_true, Bool.not_false, Bool.and_self, Bool.and_false, Bool.false_and, Bool.and_true, Bool.true_and, Bool.or_false, Bool.false_or, Bool.or_true, Bool.true_or, bind_some, Int.toNat_natCast, cfShard4_eq h.len.1 h.len.2]
  have hb : c.sh.any deadB = false := by
    rw [List.any_eq_false]
    intro x hx
    have := prim_live (h.up x hx)
    unfold deadB
    simp; omega
  rw [hb]; rfl
theorem CInv.agrees {c : CS} (h : CInv c) : impl_AgreesIn c.sh c.dr c.rc = some (true, true) := by
  unfold impl_AgreesIn
  rw [h.good]
  have h1 := h.len.1
  have hv : ((if (!decide (c.dr = (0 : Int))) then (!decide (c.rc = (0 : Int))) else false) && (!decide (c.dr = c.rc))) = false := by
    by_cases q1 : c.dr = 0
    · simp [q1]
    · by_cases q2 : c.rc = 0
      · simp [q2]
      · simp [h.ag q1 q2]
  simp -zeta only [if_someB, bind_some, if_t, if_f, if_t', if_f', or_ng, or_ng', nor_g, and_g, Bool.not_not, List.nil_append, impl_Commit_decision_eq]
  simp only [if_f] at hv
  dsimp only
  simp only [hv, Bool.not_true, Bool.false_eq_true, if_false]
  refine bind_of (loop_steps' (fun k : Nat => (k : Int)) c.sh.length (.inl ()) rfl ?_ (by simp)) rfl
  intro k hk
  have hk1 : (k : Int) < c.sh.length := by omega
  have hxm := getD_mem hk []
  have hxl := h.len.2 _ hxm
  have g3 := h.d3 _ hxm
  have g4 := h.d4 _ hxm
  obtain ⟨x, hX⟩ : ∃ x, c.sh.getD k [] = x := ⟨_, rfl⟩
  rw [hX] at hxl g3 g4
  simp (disch := omega) only [decide_true, decide_false, i64_of, chk_and, chk_dec, chk_true, dec_t, dec_f, if_true, if_false, Bool.false_eq_true, Bool.not_true, Bool.not_false, Bool.and_self, Bool.and_false, Bool.false_and, Bool.and_true, Bool.true_and, Bool.or_false, Bool.false_or, Bool.or_true, Bool.true_or, bind_some, Int.toNat_natCast, hX]
  refine bind_of (loop_steps' (fun k : Nat => (k : Int)) x.length (.inl ()) rfl ?_ (by simp)) rfl
  intro q hq
  have hq1 : (q : Int) < x.length := by omega
  have hd : (if c.dr = 0 then c.rc else c.dr) = c.dec := rfl
  have k3 := g3 _ (getD_mem hq (false, 0))
  have k4 := g4 _ (getD_mem hq (false, 0))
  obtain ⟨r, hR⟩ : ∃ r, List.getD x q (false, 0) = r := ⟨_, rfl⟩
  rw [hR] at k3 k4
  simp (disch := omega) only [decide_true, decide_false, i64_of, chk_and, chk_dec, chk_true, dec_t, dec_f, if_true, if_false, Bool.false_eq_true, Bool.not_true, Bool.not_false, Bool.and_self, Bool.and_false, Bool.false_and, Bool.and_true, Bool.true_and, Bool.or_false, Bool.false_or, Bool.or_true, Bool.true_or, bind_some, Int.toNat_natCast, hd, hR]
  obtain ⟨d, v⟩ := r
  cases d with
  | true => simp
  | false =>
    by_cases e3 : v = 3
    · simp [e3, k3 rfl e3]
    · by_cases e4 : v = 4
      · simp [e4, k4 rfl e4]
      · simp [e3, e4]

theorem shardSizes_ok {a : List Int} {p h : Int} (hb : Byt a) (h0 : 0 ≤ p) (h1 : p ≤ 10000000000) : Ok (spec_l1Cur_shardSizes a p h) (fun r => p ≤ r.1 ∧ r.1 ≤ p + 1000 ∧ r.2.2.length ≤ 5) := by
  unfold spec_l1Cur_shardSizes
  refine Ok.bind (pick_ok hb h0 (by omega) _) fun r0 hr0 => ?_
  refine Ok.bind (one_ok hb (by omega) (by omega) _) fun r1 hr1 => ?_
  refine Ok.bind (P := fun s => p ≤ s.1 ∧ s.1 ≤ p + 10 ∧ 0 ≤ s.2.2 ∧ s.2.2 ≤ 5) ?_ fun s4 h4 => ?_
  · refine Ok.ite (fun hc => ?_) fun hc => ?_
    · refine Ok.bind (among_ok hb (by omega) (by omega) (by simp) (fun x => 0 ≤ x ∧ x ≤ 5) (by simp)) fun r hr => Ok.ret (by dsimp only; omega)
    · simp (disch := omega) only [decide_true, decide_false, i64_of, chk_and, chk_dec, chk_true, dec_t, dec_f, if_true, if_false, Bool.false_eq_true, Bool.not_true, Bool.not_false, Bool.and_self, Bool.and_false, Bool.false_and, Bool.and_true, Bool.true_and, Bool.or_false, Bool.false_or, Bool.or_true, Bool.true_or, bind_some, Int.toNat_natCast]; exact Ok.ret (by dsimp only; omega)
  refine Ok.bind (P := fun s => p ≤ s.1 ∧ s.1 ≤ p + 500 ∧ s.2.2.length ≤ 5) ?_ fun s11 h11 => ?_
  · refine Ok.bind ?_ fun s hs => Ok.ret hs
    refine loop_ok (fun s => p ≤ s.1 ∧ s.1 + 20 * s.2.2.2 ≤ p + 200 ∧ 0 ≤ s.2.2.2 ∧ s.2.2.2 ≤ 5 ∧ (s.2.2.1.length : Int) + s.2.2.2 ≤ 5) (fun s => s.2.2.2.toNat) ?_ ?_
    · intro s hs
      refine Ok.ite (fun hc => ?_) fun hc => Ok.ret (by dsimp only; omega)
      have hc' : 0 < s.2.2.2 := of_decide_eq_true hc
      refine Ok.bb ?_
      refine Ok.bind (pick_ok hb (by omega) (by omega) _) fun r hr => ?_
      dsimp only
      refine Ok.bc (dec_t (by simp only [List.length_append, List.length_cons, List.length_nil]; omega)) ?_
      simp (disch := omega) only [decide_true, decide_false, i64_of, chk_and, chk_dec, chk_true, dec_t, dec_f, if_true, if_false, Bool.false_eq_true, Bool.not_true, Bool.not_false, Bool.and_self, Bool.and_false, Bool.false_and, Bool.and_true, Bool.true_and, Bool.or_false, Bool.false_or, Bool.or_true, Bool.true_or, bind_some, Int.toNat_natCast]
      refine Ok.ret ?_
      simp only [List.length_append, List.length_cons, List.length_nil]
      omega
    · dsimp only; simp only [List.length_nil]; omega
  refine Ok.bind (P := fun r => ¬ (0 < s11.2.2.length) ∨ (p ≤ r.1 ∧ r.1 ≤ p + 510)) ?_ fun r12 h12 => ?_
  · refine Ok.ite (fun hc => ?_) fun hc => Ok.ret (.inl ?_)
    · exact (one_ok hb (by omega) (by omega) _).mono fun r hr => .inr (by omega)
    · simpa using hc
  have e13 : p ≤ (if (decide ((0 : Int) < ((s11.2.2.length : Nat) : Int))) then r12.1 else s11.1) ∧ (if (decide ((0 : Int) < ((s11.2.2.length : Nat) : Int))) then r12.1 else s11.1) ≤ p + 510 := by
    by_cases hk : 0 < s11.2.2.length
    · rw [if_pos (by simp; omega)]; omega
    · rw [if_neg fun h => hk (by have := of_decide_eq_true h; omega)]; omega
  generalize (if (decide ((0 : Int) < ((s11.2.2.length : Nat) : Int))) then r12.1 else s11.1) = v13 at e13 ⊢
  dsimp only
  refine Ok.bind (P := fun s => p ≤ s.1 ∧ s.1 ≤ p + 600 ∧ s.2.2.length ≤ 5) ?_ fun s19 h19 => Ok.ret (by dsimp only; omega)
  refine Ok.ite (fun hc => ?_) fun hc => Ok.ret (by dsimp only; omega)
  have hl : 0 < s11.2.2.length := by
    by_cases hk : 0 < s11.2.2.length
    · exact hk
    · rw [if_neg fun h => hk (by have := of_decide_eq_true h; omega)] at hc; cases hc
  refine Ok.bind (among_ok' hb (by omega) (by omega) (by simp)) fun r hr => ?_
  simp (disch := omega) only [decide_true, decide_false, i64_of, chk_and, chk_dec, chk_true, dec_t, dec_f, if_true, if_false, Bool.false_eq_true, Bool.not_true, Bool.not_false, Bool.and_self, Bool.and_false, Bool.false_and, Bool.and_true, Bool.true_and, Bool.or_false, Bool.false_or, Bool.or_true, Bool.true_or, bind_some, Int.toNat_natCast]
  exact Ok.ret (by dsimp only; rw [List.length_set]; omega)
theorem commitSteps_ok {a : List Int} {p h : Int} (hb : Byt a) (h0 : 0 ≤ p) (h1 : p ≤ 10000000000) (n : Int) (hn : 0 ≤ n ∧ n ≤ 1000) : Ok (spec_l1Cur_commitSteps a p h n) (fun r => p ≤ r.1 ∧ r.1 ≤ p + 10000 ∧ r.2.2.length ≤ 102) := by
  unfold spec_l1Cur_commitSteps
  refine Ok.bind (pick_ok hb h0 (by omega) _) fun r0 hr0 => ?_
  refine Ok.bind (one_ok hb (by omega) (by omega) _) fun r1 hr1 => ?_
  refine Ok.bind (P := fun s => p ≤ s.1 ∧ s.1 ≤ p + 10 ∧ 0 ≤ s.2.2 ∧ s.2.2 ≤ 102) ?_ fun s3 h3 => ?_
  · refine Ok.ite (fun hc => ?_) fun hc => Ok.ret (by dsimp only; omega)
    refine Ok.bind (pick_ok hb (by omega) (by omega) _) fun r hr => ?_
    simp (disch := omega) only [decide_true, decide_false, i64_of, chk_and, chk_dec, chk_true, dec_t, dec_f, if_true, if_false, Bool.false_eq_true, Bool.not_true, Bool.not_false, Bool.and_self, Bool.and_false, Bool.false_and, Bool.and_true, Bool.true_and, Bool.or_false, Bool.false_or, Bool.or_true, Bool.true_or, bind_some, Int.toNat_natCast]; exact Ok.ret (by dsimp only; omega)
  refine Ok.bind (P := fun s => p ≤ s.1 ∧ s.1 ≤ p + 10000 ∧ s.2.2.length ≤ 102) ?_ fun s h => Ok.ret h
  refine Ok.bind ?_ fun s hs => Ok.ret hs
  refine loop_ok (fun s => p ≤ s.1 ∧ s.1 + 20 * s.2.2.2 ≤ p + 10 + 20 * s3.2.2 ∧ 0 ≤ s.2.2.2 ∧ s.2.2.2 ≤ 102 ∧ (s.2.2.1.length : Int) + s.2.2.2 ≤ 102) (fun s => s.2.2.2.toNat) ?_ ?_
  · intro s hs
    refine Ok.ite (fun hc => ?_) fun hc => Ok.ret (by dsimp only; omega)
    have hc' : 0 < s.2.2.2 := of_decide_eq_true hc
    dsimp only
    (repeat' (first | with_reducible refine Ok.bb ?_ | with_reducible refine Ok.bs ?_ | (with_reducible refine Ok.bc ?_ ?_; (· exact (by first | rfl | (refine dec_t ?_; (try simp only [List.length_append, List.length_cons, List.length_nil, List.length_set, List.length_take, List.length_drop, List.length_replicate]); omega) | (simp only [Bool.and_eq_true, decide_eq_true_eq, List.length_append, List.length_cons, List.length_nil, List.length_set]; omega)))) | with_reducible refine Ok.bid (fun hc => ?_) (fun hc => ?_) | with_reducible refine Ok.bi (fun hc => ?_) (fun hc => ?_) | with_reducible refine Ok.ited (fun hc => ?_) (fun hc => ?_) | with_reducible refine Ok.ite (fun hc => ?_) (fun hc => ?_) | (with_reducible refine Ok.chk ?_ ?_; (· exact (by first | rfl | (refine dec_t ?_; (try simp only [List.length_append, List.length_cons, List.length_nil, List.length_set, List.length_take, List.length_drop, List.length_replicate]); omega) | (simp only [Bool.and_eq_true, decide_eq_true_eq, List.length_append, List.length_cons, List.length_nil, List.length_set]; omega)))) | (with_reducible refine Ok.bind (pick_ok hb ?_ ?_ _) fun r hr => ?_; (· omega); (· omega)) | (with_reducible refine Ok.bind (one_ok hb ?_ ?_ _) fun r hr => ?_; (· omega); (· omega)) | (with_reducible refine Ok.bind (among_ok' hb ?_ ?_ ?_) fun r hr => ?_; (· omega); (· omega); (· simp))))
    all_goals (simp (disch := omega) only [decide_true, decide_false, i64_of, chk_and, chk_dec, chk_true, dec_t, dec_f, if_true, if_false, Bool.false_eq_true, Bool.not_true, Bool.not_false, Bool.and_self, Bool.and_false, Bool.false_and, Bool.and_true, Bool.true_and, Bool.or_false, Bool.false_or, Bool.or_true, Bool.true_or, bind_some, Int.toNat_natCast]; (refine Ok.ret ?_; (try simp only [List.length_append, List.length_cons, List.length_nil, List.length_set, List.length_take, List.length_drop, List.length_replicate]); omega))
  · dsimp only; simp only [List.length_nil]; omega
theorem DrawPlayCommit_ok {a : List Int} (hb : Byt a) : Ok (spec_DrawPlayCommit a) (fun r => r.1.length ≤ 5) := by
  unfold spec_DrawPlayCommit
  refine Ok.bind (shardSizes_ok hb (by omega) (by omega)) fun r0 hr0 => ?_
  refine Ok.bind (commitSteps_ok hb (by omega) (by omega) _ (by omega)) fun r1 hr1 => ?_
  exact Ok.ret hr0.2.2
theorem laws_sameBools_eq {a b : List Bool} (h : a.length ≤ 1000000000) : laws_sameBools a b = some (decide (a = b)) := by
  unfold laws_sameBools
  by_cases hl : a.length = b.length
  · simp (disch := omega) only [decide_true, decide_false, i64_of, chk_and, chk_dec, chk_true, dec_t, dec_f, if_true, if_false, Bool.false_eq_true, Bool.not_true, Bool.not_false, Bool.and_self, Bool.and_false, Bool.false_and, Bool.and_true, Bool.true_and, Bool.or_false, Bool.false_or, Bool.or_true, Bool.true_or, bind_some, Int.toNat_natCast]
    refine bind_of (loop_any' (fun k : Nat => (k : Int)) a.length (fun k => !decide (a.getD k false = b.getD k false)) (.inr false) (.inl ()) rfl ?_ ?_) ?_
    · intro k hk
      have hk1 : (k : Int) < a.length := by omega
      simp (disch := omega) only [decide_true, decide_false, i64_of, chk_and, chk_dec, chk_true, dec_t, dec_f, if_true, if_false, Bool.false_eq_true, Bool.not_true, Bool.not_false, Bool.and_self, Bool.and_false, Bool.false_and, Bool.and_true, Bool.true_and, Bool.or_false, Bool.false_or, Bool.or_true, Bool.true_or, bind_some, Int.toNat_natCast]
      cases a.getD k false <;> cases b.getD k false <;> rfl
    · simp
    · rw [any_ne false hl]
      by_cases e : a = b <;> simp [e]
  · have : a ≠ b := fun e => hl (by rw [e])
    simp (disch := omega) only [decide_true, decide_false, i64_of, chk_and, chk_dec, chk_true, dec_t, dec_f, if_true, if_false, Bool.false_eq_true, Bool.not_true, Bool.not_false, Bool.and_self, Bool.and_false, Bool.false_and, Bool.and_true, Bool.true_and, Bool.or_false, Bool.false_or, Bool.or_true, Bool.true_or, bind_some, Int.toNat_natCast]
theorem playC_did (v : List Int) (l : List (Int × Int × Int)) : (playC v l).2.2.2.1.length ≤ 100 := by
  unfold playC
  split
  · rename_i h
    simp only [Bool.and_eq_true, decide_eq_true_eq] at h
    dsimp only
    rw [didS_length]; exact h.2
  · simp
theorem laws_FnCommit_ok {a : List Int} (hb : Byt a) : laws_FnCommit a = some true := by
  unfold laws_FnCommit
  refine Ok.of_eq ?_
  refine Ok.ited (fun _ => Ok.ret rfl) fun _ => ?_
  refine Ok.bind (DrawPlayCommit_ok hb) fun r hr => ?_
  have hd := playC_did r.1 r.2
  rw [impl_PlayCommit_eq (by omega), spec_PlayCommit_eq (by omega)]
  simp (disch := omega) only [decide_true, decide_false, i64_of, chk_and, chk_dec, chk_true, dec_t, dec_f, if_true, if_false, Bool.false_eq_true, Bool.not_true, Bool.not_false, Bool.and_self, Bool.and_false, Bool.false_and, Bool.and_true, Bool.true_and, Bool.or_false, Bool.false_or, Bool.or_true, Bool.true_or, bind_some, Int.toNat_natCast, bne_self_eq_false, laws_sameBools_eq (show (playC r.1 r.2).2.2.2.1.length ≤ 1000000000 by omega)]
  unfold playC
  split
  · rename_i h
    simp only [Bool.and_eq_true, decide_eq_true_eq] at h
    have hg := runS_inv stpC_inv (newC_inv h.1) r.2
    simp (disch := omega) only [decide_true, decide_false, i64_of, chk_and, chk_dec, chk_true, dec_t, dec_f, if_true, if_false, Bool.false_eq_true, Bool.not_true, Bool.not_false, Bool.and_self, Bool.and_false, Bool.false_and, Bool.and_true, Bool.true_and, Bool.or_false, Bool.false_or, Bool.or_true, Bool.true_or, bind_some, Int.toNat_natCast, hg.agrees, hg.lives, impl_GoodCommit, hg.good]
    exact Ok.ret rfl
  · simp (disch := omega) only [decide_true, decide_false, i64_of, chk_and, chk_dec, chk_true, dec_t, dec_f, if_true, if_false, Bool.false_eq_true, Bool.not_true, Bool.not_false, Bool.and_self, Bool.and_false, Bool.false_and, Bool.and_true, Bool.true_and, Bool.or_false, Bool.false_or, Bool.or_true, Bool.true_or, bind_some, Int.toNat_natCast]; exact Ok.ret rfl

end Sh
