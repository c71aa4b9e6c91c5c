/- Sh: leases (l11): the draws and the law FnLease. -/
import Derived.Test.YtbifjnccebhmkaaShP1
import Derived.Test.YtbifjnccebhmkaaShP11
set_option linter.unusedVariables false
set_option linter.unusedSimpArgs false
namespace Sh
open Go

theorem leaseSteps_ok {a : List Int} {p h : Int} (hb : Byt a) (h0 : 0 ≤ p) (h1 : p ≤ 10000000000) : Ok (spec_l1Cur_leaseSteps a p h) (fun r => p ≤ r.1 ∧ r.1 ≤ p + 10000 ∧ r.2.2.length ≤ 102) := by
  unfold spec_l1Cur_leaseSteps
  refine Ok.bind (pick_ok hb h0 (by omega) 30) fun r0 hr0 => ?_
  refine Ok.bind (one_ok hb (by omega) (by omega) 8) fun r1 hr1 => ?_
  refine Ok.bind (P := fun s => p ≤ s.1 ∧ s.1 ≤ p + 6 ∧ 0 ≤ s.2.2 ∧ s.2.2 ≤ 102) ?_ ?_
  · refine Ok.ite (fun hc => ?_) fun hc => Ok.ret (by dsimp only; omega)
    refine Ok.bind (pick_ok hb (by omega) (by omega) 22) fun r2 hr2 => ?_
    simp (disch := omega) only [decide_true, decide_false, i64_of, chk_and, chk_dec, chk_true, dec_t, dec_f, if_true, if_false, Bool.false_eq_true, Bool.not_true, Bool.not_false, Bool.and_self, Bool.and_true, Bool.true_and, Bool.or_false, Bool.false_or, Bool.or_true, Bool.true_or, bind_some, Int.toNat_natCast]
    exact Ok.ret (by dsimp only; omega)
  · intro s3 hs3
    refine Ok.bind (P := fun r => p ≤ r.1 ∧ r.1 ≤ p + 10000 ∧ r.2.2.length ≤ 102) ?_ fun s hs => Ok.ret hs
    refine Ok.bind (P := fun r => p ≤ r.1 ∧ r.1 ≤ p + 10000 ∧ r.2.2.length ≤ 102) ?_ fun s hs => Ok.ret hs
    refine loop_ok (fun s => p ≤ s.1 ∧ s.1 + 20 * s.2.2.2 ≤ p + 6 + 20 * s3.2.2 ∧ 0 ≤ s.2.2.2 ∧ s.2.2.2 ≤ 102 ∧ (s.2.2.1.length : Int) + s.2.2.2 ≤ 102) (fun s => s.2.2.2.toNat) ?_ ?_
    · intro s hs
      obtain ⟨q1, q2, q3, q4, q5⟩ := hs
      refine Ok.ite (fun hc => ?_) fun hc => ?_
      · have hc' : 0 < s.2.2.2 := of_decide_eq_true hc
        refine Ok.bind (P := fun r => p ≤ r.1 ∧ r.1 ≤ s.1 + 20 ∧ r.2.2.length = s.2.2.1.length + 1) ?_ ?_
        · refine Ok.bind (among_ok hb (by omega) (by omega) (by simp) (fun _ => True) (fun _ _ => trivial)) fun r6 hr6 => ?_
          refine Ok.bind (pick_ok hb (by omega) (by omega) 4) fun r7 hr7 => ?_
          refine Ok.bind (pick_ok hb (by omega) (by omega) 12) fun r8 hr8 => ?_
          refine Ok.bind (P := fun r => ¬ (r6.2.2 = 4) ∨ (p ≤ r.1 ∧ r.1 ≤ s.1 + 8)) ?_ ?_
          · refine Ok.ite (fun hc => ?_) fun hc => Ok.ret (.inl (by simpa using hc))
            exact (one_ok hb (by omega) (by omega) 3).mono fun r hr => .inr (by omega)
          · intro r9 hr9
            have e10 : p ≤ (if (decide (r6.2.2 = (4 : Int))) then r9.1 else r8.1) ∧ (if (decide (r6.2.2 = (4 : Int))) then r9.1 else r8.1) ≤ s.1 + 8 := by
              by_cases hk : r6.2.2 = 4
              · simp only [hk, decide_true, if_true]; omega
              · simp only [hk, decide_false, Bool.false_eq_true, if_false]; omega
            generalize (if (decide (r6.2.2 = (4 : Int))) then r9.1 else r8.1) = v10 at e10 ⊢
            dsimp only
            refine Ok.bind (P := fun _ => True) ?_ fun s13 _ => ?_
            · exact Ok.ite (fun _ => Ok.ret trivial) fun _ => Ok.ret trivial
            refine Ok.bind (one_ok hb (by omega) (by omega) 60) fun r14 hr14 => ?_
            refine Ok.bind (P := fun r => p ≤ r.1 ∧ r.1 ≤ s.1 + 20) ?_ ?_
            · refine Ok.ite (fun hc => ?_) fun hc => Ok.ret (by dsimp only; omega)
              refine Ok.bind (pick_ok hb (by omega) (by omega) 6) fun r15 hr15 => ?_
              refine Ok.bind (pick_ok hb (by omega) (by omega) 8) fun r16 hr16 => ?_
              refine Ok.bind (among_ok hb (by omega) (by omega) (by simp) (fun _ => True) (fun _ _ => trivial)) fun r18 hr18 => ?_
              exact Ok.ret (by dsimp only; omega)
            · intro s19 hs19
              rw [chk_dec (by simp only [List.length_append, List.length_cons, List.length_nil]; omega)]
              exact Ok.ret ⟨hs19.1, hs19.2, by simp⟩
        · intro s22 hs22
          simp (disch := omega) only [decide_true, decide_false, i64_of, chk_and, chk_dec, chk_true, dec_t, dec_f, if_true, if_false, Bool.false_eq_true, Bool.not_true, Bool.not_false, Bool.and_self, Bool.and_true, Bool.true_and, Bool.or_false, Bool.false_or, Bool.or_true, Bool.true_or, bind_some, Int.toNat_natCast]
          exact Ok.ret (by dsimp only; omega)
      · have hc' : ¬ 0 < s.2.2.2 := fun h => hc (decide_eq_true h)
        exact Ok.ret (by dsimp only; omega)
    · dsimp only; simp only [List.length_nil]; omega
theorem DrawPlayLeases_ok {a : List Int} (hb : Byt a) : Ok (spec_DrawPlayLeases a) (fun _ => True) := by
  unfold spec_DrawPlayLeases
  refine Ok.bind (pick_ok hb (by omega) (by omega) 4) fun r0 hr0 => ?_
  refine Ok.bind (pick_ok hb (by omega) (by omega) 20) fun r1 hr1 => ?_
  refine Ok.bind (leaseSteps_ok hb (by omega) (by omega)) fun r2 hr2 => ?_
  exact Ok.ret trivial
theorem leases_ok {a : List Int} {p h : Int} (hb : Byt a) (h0 : 0 ≤ p) (h1 : p ≤ 10000000000) : Ok (spec_l1Cur_leases a p h) (fun r => p ≤ r.1 ∧ r.1 ≤ p + 11000) := by
  unfold spec_l1Cur_leases
  refine Ok.bind (leaseSteps_ok hb h0 h1) fun r0 hr0 => ?_
  refine Ok.bind (P := fun _ => True) ?_ fun s1 _ => ?_
  · refine Ok.ite (fun hc => ?_) fun hc => Ok.ret trivial
    have hc' : 100 < (r0.2.2.length : Int) := of_decide_eq_true hc
    simp (disch := omega) only [decide_true, decide_false, i64_of, chk_and, chk_dec, chk_true, dec_t, dec_f, if_true, if_false, Bool.false_eq_true, Bool.not_true, Bool.not_false, Bool.and_self, Bool.and_true, Bool.true_and, Bool.or_false, Bool.false_or, Bool.or_true, Bool.true_or, bind_some, Int.toNat_natCast]
    exact Ok.ret trivial
  refine Ok.bind (pick_ok hb (by omega) (by omega) 4) fun r2 hr2 => ?_
  refine Ok.bind (pick_ok hb (by omega) (by omega) 20) fun r3 hr3 => ?_
  refine Ok.bind (P := fun r => r.2.2.2.2.2.1.length ≤ 100) ?_ fun r4 hr4 => ?_
  · rw [spec_PlayLeases_eq]
    obtain ⟨sk, now, cl, ho, un, kn, ct, ok, hR, q1, q2, q3⟩ := playR (i64 ((1 : Int) + r2.2.2)) r3.2.2 ((r0.2.2.take (Int.toNat s1)).drop (Int.toNat (0 : Int)))
    rw [hR]
    exact Ok.ret q2
  refine Ok.bind (pick_ok hb (by omega) (by omega) 40) fun r5 hr5 => ?_
  refine Ok.bind (P := fun r => p ≤ r.1 ∧ r.1 ≤ p + 11000) ?_ fun s hs => Ok.ret hs
  refine Ok.bind (P := fun r => p ≤ r.1 ∧ r.1 ≤ p + 11000) ?_ fun s hs => Ok.ret hs
  refine Ok.ite (fun hc => ?_) fun hc => ?_
  · refine Ok.bind (among_ok hb (by omega) (by omega) (by simp) (fun _ => True) (fun _ _ => trivial)) fun r7 hr7 => ?_
    exact Ok.ret (by dsimp only; omega)
  · refine Ok.bind (P := fun r => p ≤ r.1 ∧ r.1 ≤ p + 11000) ?_ fun s hs => Ok.ret hs
    refine Ok.ite (fun hc => ?_) fun hc => ?_
    · refine Ok.bind (pick_ok hb (by omega) (by omega) 6) fun r8 hr8 => ?_
      exact Ok.ret (by dsimp only; omega)
    · refine Ok.bind (P := fun _ => True) ?_ fun s _ => Ok.ret (by dsimp only; omega)
      refine Ok.ite (fun hc => ?_) fun hc => Ok.ret trivial
      dsimp only
      exact Ok.chk (dec_t (by simp only [List.length_append, List.length_cons, List.length_nil]; omega)) (Ok.ret trivial)
theorem DrawStepLease_ok {a : List Int} (hb : Byt a) : Ok (spec_DrawStepLease a) (fun _ => True) := by
  unfold spec_DrawStepLease
  refine Ok.bind (leases_ok hb (by omega) (by omega)) fun r0 hr0 => ?_
  refine Ok.bind (pick_ok hb (by omega) (by omega) 6) fun r1 hr1 => ?_
  refine Ok.bind (pick_ok hb (by omega) (by omega) _) fun r2 hr2 => ?_
  refine Ok.bind (pick_ok hb (by omega) (by omega) 30) fun r3 hr3 => ?_
  exact Ok.ret trivial

/-! ### The law -/
theorem LeaseS.good.bel_mem {x : LeaseS} (h : x.good) {i : Int} (hi : i ∈ x.bel) : i = x.holder ∧ x.now < x.till := by
  obtain ⟨k, hk, hp, rfl⟩ := mem_gath.1 hi
  have hp := of_decide_eq_true hp
  have := h.c k hk
  unfold LeaseS.cell at this
  omega
theorem gath_nodup (p : Nat → Bool) (n : Nat) : (gath p n).Nodup := by
  unfold gath
  refine List.Pairwise.map _ (fun a b hab => ?_) (List.Pairwise.filter _ List.nodup_range)
  exact fun e => hab (Int.ofNat.inj e)
theorem len_le_one {l : List Int} (hn : l.Nodup) {x : Int} (h : ∀ y ∈ l, y = x) : l.length ≤ 1 := by
  match l, hn, h with
  | [], _, _ => simp
  | [_], _, _ => simp
  | a :: b :: r, hn, h =>
    exfalso
    have h1 := h a (by simp)
    have h2 := h b (by simp)
    simp at hn
    exact hn.1.1 (by rw [h1, h2])
theorem LeaseS.good.bel_one {x : LeaseS} (h : x.good) : x.bel.length ≤ 1 := len_le_one (gath_nodup _ _) fun y hy => (h.bel_mem hy).1
theorem LeaseS.trace_one : ∀ {x : LeaseS} (h : x.good) (l : List (Int × Int × Int)), ∀ n ∈ x.trace l, n ≤ 1
  | x, h, [], n, hn => by simp [LeaseS.trace] at hn
  | x, h, s :: l, n, hn => by
    simp only [LeaseS.trace, List.mem_cons] at hn
    have hg := LeaseS.next_good h s
    rcases hn with rfl | hn
    · have := hg.bel_one; omega
    · exact LeaseS.trace_one hg l n hn
theorem LeaseS.step_now {x y : LeaseS} {k nd n : Int} (h : x.step k nd n = some y) : x.now ≤ y.now := by
  unfold LeaseS.step at h
  split at h
  · rename_i z hz
    split at h
    · cases h
      unfold LeaseS.try at hz
      split at hz
      · split at hz
        · cases hz; dsimp only; omega
        · cases hz
      · split at hz
        · split at hz
          · split at hz
            · cases hz; exact Int.le_refl _
            · cases hz
          · split at hz
            · split at hz
              · cases hz; exact Int.le_refl _
              · cases hz
            · split at hz
              · split at hz
                · cases hz; exact Int.le_refl _
                · cases hz
              · cases hz
        · cases hz
    · cases h
  · cases h

theorem laws_sameInts_eq {a b : List Int} (h : a.length ≤ 1000000000) : laws_sameInts a b = some (decide (a = b)) := laws_eqIntS_eq h
theorem laws_has_eq {l : List Int} (h : l.length ≤ 1000000000) (x : Int) : laws_has l x = some (decide (x ∈ l)) := by
  unfold laws_has
  refine bind_of (loop_any (fun k : Nat => (k : Int)) l.length (fun k => decide (l.getD k 0 = x)) (.inr true) (.inl ()) ?_ ?_) ?_
  · intro k hk
    have hk1 : (k : Int) < l.length := by omega
    simp (disch := omega) only [decide_true, decide_false, i64_of, chk_and, chk_dec, chk_true, dec_t, dec_f, if_true, if_false, Bool.false_eq_true, Bool.not_true, Bool.not_false, Bool.and_self, Bool.and_true, Bool.true_and, Bool.or_false, Bool.false_or, Bool.or_true, Bool.true_or, bind_some, Int.toNat_natCast]
    by_cases e : l.getD k 0 = x
    · simp only [e, decide_true, if_true]
    · simp only [e, decide_false, Bool.false_eq_true, if_false]; rfl
  · simp
  · have : ((List.range l.length).any fun k => decide (l.getD k 0 = x)) = decide (x ∈ l) := by
      rw [Bool.eq_iff_iff, any_range]
      simp only [decide_eq_true_eq]
      constructor
      · rintro ⟨k, hk, rfl⟩; exact getD_mem hk 0
      · intro hx
        obtain ⟨k, hk, e⟩ := List.getElem_of_mem hx
        exact ⟨k, hk, by rw [List.getD_eq_getElem?_getD, List.getElem?_eq_getElem hk]; exact e⟩
    rw [this]
    by_cases e : x ∈ l <;> simp [e]

open Classical in
theorem impl_StepLease_eq (x : LeaseS) (k nd n : Int) : impl_StepLease x.skew x.now x.clocks x.holder x.till x.known k nd n =
    some (if x.good then (match x.step k nd n with
      | some y => (y.skew, y.now, y.clocks, y.holder, y.till, y.known, true)
      | none => (0, 0, [], 0, 0, [], false)) else (0, 0, [], 0, 0, [], false)) := by
  unfold impl_StepLease
  rw [impl_areLeases_eq]
  by_cases g : x.good
  · rw [impl_Leases_step_eq g]
    cases x.step k nd n <;> simp [g]
  · simp [g]
open Classical in
theorem spec_StepLease_ok (x : LeaseS) (k nd n : Int) : Ok (spec_StepLease x.skew x.now x.clocks x.holder x.till x.known k nd n) (fun r => r.2.2.2.2.2.2 = decide (x.good ∧ (x.step k nd n).isSome = true)) := by
  unfold spec_StepLease
  rw [spec_GoodLeases_eq]
  by_cases g : x.good
  · have h1 := g.l1
    have h2 := g.kl
    simp only [g, bind_some, decide_true, Bool.not_true, Bool.false_eq_true, if_false, spec_l11Own_eq _ _ _ _ _ _ (show x.clocks.length ≤ 100 by omega) (show x.known.length ≤ 100 by omega)]
    obtain ⟨r, hr, h3⟩ := spec_l11Step_eq g k nd n
    rw [hr]
    simp only [bind_some]
    cases hs : x.step k nd n with
    | none =>
      rw [hs] at h3
      rw [if_pos (by rw [h3]; rfl)]
      exact Ok.ret (by simp)
    | some y =>
      rw [hs] at h3
      rw [if_neg (by rw [h3]; simp)]
      exact Ok.ret (by simp)
  · simp only [g, bind_some, decide_false, Bool.not_false, if_true]
    exact Ok.ret (by simp)
theorem playR' (nodes skew : Int) (l : List (Int × Int × Int)) : ∃ (x : LeaseS) (ct : List Int) (ok : Bool), (if playOk nodes skew l.length then
    (let y := (newL nodes skew).run l; (y.skew, y.now, y.clocks, y.holder, y.till, y.known, (newL nodes skew).trace l, true)) else (0, 0, [], 0, 0, [], [], false)) = ((x.skew, x.now, x.clocks, x.holder, x.till, x.known, ct, ok) : Int × Int × List Int × Int × Int × List Int × List Int × Bool) ∧ ct.length ≤ 100 ∧ (ok = true → x.good) ∧ ∀ n ∈ ct, n ≤ 1 := by
  by_cases H : playOk nodes skew l.length
  · rw [if_pos H]
    obtain ⟨h1, h2, h3, h4, h5⟩ := H
    have hg := newL_good h1 h2 h3 h4
    exact ⟨(newL nodes skew).run l, _, _, rfl, by rw [LeaseS.trace_length]; exact h5, fun _ => LeaseS.run_good hg l, LeaseS.trace_one hg l⟩
  · rw [if_neg H]
    exact ⟨⟨0, 0, [], 0, 0, []⟩, _, _, rfl, by simp, fun h => by simp at h, by simp⟩
theorem impl_SafeUntil_eq {x : LeaseS} (h : x.good) {i : Int} (h0 : 0 ≤ i) (h1 : i < x.clocks.length) : impl_SafeUntil x.skew x.now x.clocks x.holder x.till x.known i = some (max (x.known.getD i.toNat 0 - x.skew) 0, true) := by
  classical
  have e1 := h.l1
  have e2 := h.kl
  have e3 := h.s0
  have e4 := h.s1
  have hc := h.c i.toNat (by omega)
  have e5 := h.u1
  unfold LeaseS.cell at hc
  unfold impl_SafeUntil
  rw [impl_areLeases_eq]
  simp -zeta only [if_someB, bind_some, if_t, if_f, if_t', if_f', or_ng, or_ng', nor_g, and_g, Bool.not_not, List.nil_append, impl_in_eq]
  simp only [h]
  simp (disch := omega) only [decide_true, decide_false, i64_of, chk_and, chk_dec, chk_true, dec_t, dec_f, if_true, if_false, Bool.false_eq_true, Bool.not_true, Bool.not_false, Bool.and_self, Bool.and_true, Bool.true_and, Bool.or_false, Bool.false_or, Bool.or_true, Bool.true_or, bind_some, Int.toNat_natCast]
theorem laws_FnLease_ok {a0 a1 : List Int} (h0 : Byt a0) (h1 : Byt a1) : laws_FnLease a0 a1 = some true := by
  classical
  apply Ok.of_eq
  unfold laws_FnLease
  refine Ok.ite (fun _ => Ok.ret rfl) fun _ => ?_
  refine Ok.bind (DrawPlayLeases_ok h0) fun r0 _ => ?_
  rw [impl_PlayLeases_eq, spec_PlayLeases_eq]
  obtain ⟨x, ct, ok, hR, hl, hg, hct⟩ := playR' r0.1 r0.2.1 r0.2.2
  rw [hR]
  simp only [bind_some, bne_self_eq_false, Bool.not_false, if_true, laws_sameInts_eq (show ct.length ≤ 1000000000 by omega), decide_true, Bool.not_true, Bool.false_eq_true, if_false]
  refine Ok.bind (Ok.eq (loop_any (fun k : Nat => (k : Int)) ct.length (fun k => decide (1 < ct.getD k 0)) (.inr false) (.inl ()) ?_ ?_) (Q := fun r => r = .inl ()) ?_) ?_
  · intro k hk
    have hk1 : (k : Int) < ct.length := by omega
    simp (disch := omega) only [decide_true, decide_false, i64_of, chk_and, chk_dec, chk_true, dec_t, dec_f, if_true, if_false, Bool.false_eq_true, Bool.not_true, Bool.not_false, Bool.and_self, Bool.and_true, Bool.true_and, Bool.or_false, Bool.false_or, Bool.or_true, Bool.true_or, bind_some, Int.toNat_natCast]
    by_cases e : 1 < ct.getD k 0
    · simp only [e, decide_true, if_true]
    · simp only [e, decide_false, Bool.false_eq_true, if_false]; rfl
  · simp
  · rw [if_neg]
    intro hh
    obtain ⟨k, hk, e⟩ := any_range.1 hh
    have := hct _ (getD_mem hk 0)
    have e := of_decide_eq_true e
    omega
  · rintro _ rfl
    simp only [sumE_inl]
    refine Ok.bind (P := fun r => ok = true → r = true) ?_ fun r7 hr7 => ?_
    · refine Ok.ite (fun hok => ?_) fun hok => Ok.ret fun h => absurd h hok
      unfold impl_GoodLeases
      rw [impl_areLeases_eq]
      exact Ok.ret fun _ => decide_eq_true (hg hok)
    rw [if_neg (by cases ok <;> simp_all)]
    refine Ok.bind (DrawStepLease_ok h1) fun r9 _ => ?_
    obtain ⟨sk, now, cl, ho, un, kn, k, nd, n⟩ := r9
    simp only
    have e1 := impl_StepLease_eq ⟨sk, now, cl, ho, un, kn⟩ k nd n
    have e2 := spec_StepLease_ok ⟨sk, now, cl, ho, un, kn⟩ k nd n
    simp only at e1 e2
    rw [e1]
    simp only [bind_some]
    refine Ok.bind e2 fun r11 hr11 => ?_
    rw [hr11]
    by_cases g : LeaseS.good ⟨sk, now, cl, ho, un, kn⟩
    · cases hs : LeaseS.step ⟨sk, now, cl, ho, un, kn⟩ k nd n with
      | none =>
        simp only [g, if_true, Option.isSome_none, Bool.false_eq_true, and_false, decide_false, bne_self_eq_false, if_false, Bool.not_false, List.length_nil]
        exact Ok.ret rfl
      | some y =>
        have gy := LeaseS.step_good hs
        have hnow := LeaseS.step_now hs
        simp only at hnow
        have hb1 := gy.bel_one
        have hbl : y.bel.length ≤ 1000000000 := by omega
        simp only [g, if_true, Option.isSome_some, and_self, decide_true, bne_self_eq_false, Bool.false_eq_true, if_false, Bool.not_true]
        unfold impl_BelieversOf impl_GoodLeases
        rw [impl_areLeases_eq, impl_Leases_believers_eq gy]
        simp only [gy, bind_some, decide_true, Bool.not_true, Bool.false_eq_true, if_false]
        simp (disch := omega) only [dec_f, Bool.not_false, if_true, bind_some, Bool.not_true, Bool.false_eq_true, if_false]
        have hy1 := gy.l1
        refine Ok.bind (Ok.eq (loop_any (fun k : Nat => (k : Int)) y.clocks.length (fun k => false) (.inr false) (.inl ()) ?_ ?_) (Q := fun r => r = .inl ()) ?_) ?_
        · intro i hi
          have hi1 : (i : Int) < y.clocks.length := by omega
          have hc := gy.c i hi
          have hs0 := gy.s0
          unfold LeaseS.cell at hc
          have hm : ((i : Int) ∈ y.bel) ↔ y.clocks.getD i 0 + y.skew < y.known.getD i 0 := by
            unfold LeaseS.bel
            rw [mem_gath]
            constructor
            · rintro ⟨j, hj, hp, e⟩
              have : j = i := by omega
              subst this
              exact of_decide_eq_true hp
            · intro h
              exact ⟨i, hi, decide_eq_true h, rfl⟩
          simp (disch := omega) only [decide_true, decide_false, i64_of, chk_and, chk_dec, chk_true, dec_t, dec_f, if_true, if_false, Bool.false_eq_true, Bool.not_true, Bool.not_false, Bool.and_self, Bool.and_true, Bool.true_and, Bool.or_false, Bool.false_or, Bool.or_true, Bool.true_or, bind_some, Int.toNat_natCast, impl_SafeUntil_eq gy (show (0 : Int) ≤ i by omega) hi1, laws_has_eq hbl]
          have hd : decide (y.clocks.getD i 0 < max (y.known.getD i 0 - y.skew) 0) = decide ((i : Int) ∈ y.bel) := by
            rw [decide_eq_decide, hm]; omega
          rw [hd]
          by_cases hmem : (i : Int) ∈ y.bel
          · obtain ⟨q1, q2⟩ := gy.bel_mem hmem
            have q3 : ¬ y.till ≤ y.now := by omega
            simp [hmem, q1, q3]
          · simp [hmem]
        · simp
        · simp
        · rintro _ rfl
          exact Ok.ret rfl
    · simp only [g, if_false, false_and, decide_false, bne_self_eq_false, Bool.false_eq_true, Bool.not_false, if_true, List.length_nil]
      exact Ok.ret rfl
end Sh
