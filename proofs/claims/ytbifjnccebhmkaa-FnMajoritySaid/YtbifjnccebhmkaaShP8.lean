/- Sh: quorums (l8): good groups, what two have both, minimal ones; the law FnMajority. -/
import Derived.Test.YtbifjnccebhmkaaShP1
import Derived.Test.YtbifjnccebhmkaaShP16
import Derived.Test.YtbifjnccebhmkaaShF3
set_option linter.unusedVariables false
set_option linter.unusedSimpArgs false
namespace Sh
open Go

/-- Rising numbers below another one. -/
def RisN (n : Int) (l : List Int) : Prop := ∀ k, k < l.length → 0 ≤ l.getD k 0 ∧ l.getD k 0 ≤ n - 1 ∧ (0 < k → l.getD (k - 1) 0 < l.getD k 0)
structure GoodG (n : Int) (l : List Int) : Prop where
  n0 : 1 ≤ n
  n1 : n ≤ 12
  r : RisN n l
theorem RisN.mem {n : Int} {l : List Int} (h : RisN n l) {x : Int} (hx : x ∈ l) : 0 ≤ x ∧ x < n := by
  obtain ⟨k, hk, e⟩ := List.getElem_of_mem hx
  have := h k hk
  rw [List.getD_eq_getElem?_getD, List.getElem?_eq_getElem hk] at this
  simp only [Option.getD_some, e] at this
  omega
theorem RisN.lt {n : Int} {l : List Int} (h : RisN n l) : ∀ {d i : Nat}, i + d + 1 < l.length → l.getD i 0 < l.getD (i + d + 1) 0
  | 0, i, hi => by
    have := (h (i + 1) (by omega)).2.2 (by omega)
    simpa using this
  | d + 1, i, hi => by
    have h1 := h.lt (d := d) (i := i) (by omega)
    have h2 := (h (i + (d + 1) + 1) hi).2.2 (by omega)
    rw [show i + (d + 1) + 1 - 1 = i + d + 1 by omega] at h2
    omega
theorem RisN.nodup {n : Int} {l : List Int} (h : RisN n l) : l.Nodup := by
  unfold List.Nodup
  rw [List.pairwise_iff_getElem]
  intro i j hi hj hij e
  have := h.lt (d := j - i - 1) (i := i) (by omega)
  rw [show i + (j - i - 1) + 1 = j by omega] at this
  rw [List.getD_eq_getElem?_getD, List.getD_eq_getElem?_getD, List.getElem?_eq_getElem hi, List.getElem?_eq_getElem hj] at this
  simp only [Option.getD_some] at this
  omega
theorem few : ∀ (n : Nat) (l : List Int), l.Nodup → (∀ x ∈ l, 0 ≤ x ∧ x < n) → l.length ≤ n
  | 0, l, _, h => by
    cases l with
    | nil => simp
    | cons a l => have := h a (by simp); omega
  | n + 1, l, hn, h => by
    by_cases hm : (n : Int) ∈ l
    · have h1 := few n (l.erase n) (hn.erase _) (fun x hx => by
        rw [hn.mem_erase_iff] at hx
        have := h x hx.2
        have := hx.1
        omega)
      rw [List.length_erase_of_mem hm] at h1
      omega
    · have := few n l hn (fun x hx => by
        have h1 := h x hx
        have : x ≠ n := fun e => hm (e ▸ hx)
        omega)
      omega

open Classical in
theorem risN_any (n : Int) (l : List Int) : ((List.range l.length).any fun k => !(decide (0 ≤ l.getD k 0) && decide (l.getD k 0 ≤ n - 1)) || (decide (0 < k) && decide (l.getD k 0 ≤ l.getD (k - 1) 0))) = !decide (RisN n l) := by
  rw [Bool.eq_iff_iff, any_range]
  simp only [Bool.not_eq_true', decide_eq_false_iff_not]
  constructor
  · rintro ⟨k, hk, hb⟩ h
    have := h k hk
    simp only [Bool.or_eq_true, Bool.not_eq_true', Bool.and_eq_true, Bool.and_eq_false_iff, decide_eq_true_eq, decide_eq_false_iff_not] at hb
    omega
  · intro hn
    refine Classical.byContradiction fun hc => hn fun k hk => ?_
    have : ¬ (!(decide (0 ≤ l.getD k 0) && decide (l.getD k 0 ≤ n - 1)) || (decide (0 < k) && decide (l.getD k 0 ≤ l.getD (k - 1) 0))) = true := fun hb => hc ⟨k, hk, hb⟩
    simp only [Bool.or_eq_true, Bool.not_eq_true', Bool.and_eq_true, Bool.and_eq_false_iff, decide_eq_true_eq, decide_eq_false_iff_not] at this
    omega
open Classical in
theorem impl_areRisingN_eq {l : List Int} {n : Int} (h : l.length ≤ 1000000000) (n0 : -1000000000 ≤ n) (n1 : n ≤ 1000000000) : impl_areRising l n = some (decide (RisN n l)) := by
  unfold impl_areRising
  refine bind_of (loop_any (fun k : Nat => (k : Int)) l.length (fun k => !(decide (0 ≤ l.getD k 0) && decide (l.getD k 0 ≤ n - 1)) || (decide (0 < k) && decide (l.getD k 0 ≤ l.getD (k - 1) 0))) (.inr false) (.inl ()) ?_ ?_) ?_
  · intro k hk
    have hk1 : (k : Int) < l.length := by omega
    simp -zeta only [if_someB, bind_some, if_t, if_f, if_t', if_f', or_ng, or_ng', nor_g, and_g, Bool.not_not, List.nil_append, impl_in_eq]
    by_cases h0 : 0 < k
    · have e1 : ((k : Int) - 1).toNat = k - 1 := by omega
      have h0' : (0 : Int) < k := by omega
      simp (disch := omega) only [decide_true, decide_false, i64_of, chk_and, chk_dec, chk_true, dec_t, dec_f, if_true, if_false, Bool.false_eq_true, Bool.not_true, Bool.not_false, Bool.and_self, Bool.and_false, Bool.false_and, Bool.and_true, Bool.true_and, Bool.or_false, Bool.false_or, Bool.or_true, Bool.true_or, bind_some, Int.toNat_natCast, e1]
      rw [if_some]; rfl
    · have h0' : ¬ (0 : Int) < k := by omega
      simp (disch := omega) only [decide_true, decide_false, i64_of, chk_and, chk_dec, chk_true, dec_t, dec_f, if_true, if_false, Bool.false_eq_true, Bool.not_true, Bool.not_false, Bool.and_self, Bool.and_false, Bool.false_and, Bool.and_true, Bool.true_and, Bool.or_false, Bool.false_or, Bool.or_true, Bool.true_or, bind_some, Int.toNat_natCast]
      rw [if_some]; rfl
  · simp
  · rw [risN_any]
    by_cases hr : RisN n l <;> simp [hr]
open Classical in
theorem impl_isGroup_eq {l : List Int} {n : Int} (h : l.length ≤ 1000000000) : impl_isGroup l n = some (decide (GoodG n l)) := by
  unfold impl_isGroup
  simp -zeta only [if_someB, bind_some, if_t, if_f, if_t', if_f', or_ng, or_ng', nor_g, and_g, Bool.not_not, List.nil_append, impl_in_eq]
  by_cases hn : 1 ≤ n ∧ n ≤ 12
  · simp only [hn.1, hn.2, decide_true, Bool.and_self, if_true, impl_areRisingN_eq h (show -1000000000 ≤ n by omega) (show n ≤ 1000000000 by omega), bind_some, Bool.true_and]
    congr 1
    rw [decide_eq_decide]
    exact ⟨fun hr => ⟨hn.1, hn.2, hr⟩, fun hg => hg.r⟩
  · have : (decide (1 ≤ n) && decide (n ≤ 12)) = false := by
      rw [Bool.and_eq_false_iff, decide_eq_false_iff_not, decide_eq_false_iff_not]; omega
    simp only [this, Bool.false_eq_true, if_false, bind_some, Bool.false_and]
    rw [decide_eq_false fun hg : GoodG n l => hn ⟨hg.n0, hg.n1⟩]
open Classical in
theorem spec_GoodGroup_eq {l : List Int} {n : Int} (h : l.length ≤ 1000000000) (n0 : -1000000000 ≤ n) (n1 : n ≤ 1000000000) : spec_GoodGroup l n = some (decide (GoodG n l)) := by
  unfold spec_GoodGroup
  refine bind_of (loop_any (fun k : Nat => (k : Int)) l.length (fun k => !(decide (0 ≤ l.getD k 0) && decide (l.getD k 0 ≤ n - 1)) || (decide (0 < k) && decide (l.getD k 0 ≤ l.getD (k - 1) 0))) (.inr false) (.inl ()) ?_ ?_) ?_
  · intro k hk
    have hk1 : (k : Int) < l.length := by omega
    simp -zeta only [if_someB, bind_some, if_t, if_f, if_t', if_f', or_ng, or_ng', nor_g, and_g, Bool.not_not, List.nil_append, spec_l1In_eq]
    by_cases h0 : 0 < k
    · have e1 : ((k : Int) - 1).toNat = k - 1 := by omega
      have h0' : (0 : Int) < k := by omega
      simp (disch := omega) only [decide_true, decide_false, i64_of, chk_and, chk_dec, chk_true, dec_t, dec_f, if_true, if_false, Bool.false_eq_true, Bool.not_true, Bool.not_false, Bool.and_self, Bool.and_false, Bool.false_and, Bool.and_true, Bool.true_and, Bool.or_false, Bool.false_or, Bool.or_true, Bool.true_or, bind_some, Int.toNat_natCast, e1]
      rw [if_some]; rfl
    · have h0' : ¬ (0 : Int) < k := by omega
      simp (disch := omega) only [decide_true, decide_false, i64_of, chk_and, chk_dec, chk_true, dec_t, dec_f, if_true, if_false, Bool.false_eq_true, Bool.not_true, Bool.not_false, Bool.and_self, Bool.and_false, Bool.false_and, Bool.and_true, Bool.true_and, Bool.or_false, Bool.false_or, Bool.or_true, Bool.true_or, bind_some, Int.toNat_natCast]
      rw [if_some]; rfl
  · simp
  · rw [risN_any]
    by_cases hr : RisN n l
    · simp only [hr, decide_true, Bool.not_true, Bool.false_eq_true, if_false, sumE_inl, spec_l8Nodes_eq, bind_some]
      congr 1
      rw [← Bool.decide_and, decide_eq_decide]
      exact ⟨fun hn => ⟨hn.1, hn.2, hr⟩, fun hg => ⟨hg.n0, hg.n1⟩⟩
    · simp only [hr, decide_false, Bool.not_false, if_true, sumE_inr]
      rw [decide_eq_false fun hg : GoodG n l => hr hg.r]
open Classical in
theorem impl_IsMajority_eq {l : List Int} {n : Int} (h : l.length ≤ 1000000000) : impl_IsMajority l n = some (decide (GoodG n l) && decide (n < 2 * l.length), decide (GoodG n l)) := by
  unfold impl_IsMajority
  rw [impl_isGroup_eq h, bind_some]
  by_cases g : GoodG n l
  · simp only [g, decide_true, Bool.not_true, Bool.false_eq_true, if_false, Bool.true_and]
    rw [i64_of (by omega) (by omega)]
  · simp [g]
open Classical in
theorem spec_IsMajority_eq {l : List Int} {n : Int} (h : l.length ≤ 1000000000) (n0 : -1000000000 ≤ n) (n1 : n ≤ 1000000000) : spec_IsMajority l n = some (decide (GoodG n l) && decide (n < 2 * l.length), decide (GoodG n l)) := by
  unfold spec_IsMajority
  rw [spec_GoodGroup_eq h n0 n1, bind_some]
  by_cases g : GoodG n l
  · simp only [g, decide_true, Bool.not_true, Bool.false_eq_true, if_false, Bool.true_and]
    rw [i64_of (by omega) (by omega)]
  · simp [g]

/-! ### What two groups have both -/
def meetL (a b : List Int) : List Int := a.filter fun x => decide (x ∈ b)
theorem mem_meetL {a b : List Int} {x : Int} : x ∈ meetL a b ↔ x ∈ a ∧ x ∈ b := by simp [meetL]
theorem meetL_length (a b : List Int) : (meetL a b).length ≤ a.length := List.length_filter_le _ _
theorem meetL_full {a b : List Int} : (meetL a b).length = a.length ↔ ∀ x ∈ a, x ∈ b := by
  unfold meetL
  rw [List.length_filter_eq_length_iff]
  simp
theorem filt1 {b : List Int} {x : Int} (h : x ∈ b) : [x].filter (fun x => decide (x ∈ b)) = [x] := by simp [h]
theorem filt0 {b : List Int} {x : Int} (h : x ∉ b) : [x].filter (fun x => decide (x ∈ b)) = [] := by simp [h]
theorem spec_l8Meet_eq {a b : List Int} (ha : a.length ≤ 1000000000) (hb : b.length ≤ 1000000000) : spec_l8Meet a b = some (meetL a b) := by
  unfold spec_l8Meet
  refine bind_of (bind_of (loop_steps' (fun k : Nat => ((a.take k).filter (fun x => decide (x ∈ b)), (k : Int))) a.length (meetL a b) rfl ?_ ?_) rfl) rfl
  · intro k hk
    have hk1 : (k : Int) < a.length := by omega
    have hl : ((a.take k).filter (fun x => decide (x ∈ b))).length ≤ a.length := Nat.le_trans (List.length_filter_le _ _) (by simp; omega)
    simp (disch := omega) only [decide_true, decide_false, i64_of, chk_and, chk_dec, chk_true, dec_t, dec_f, if_true, if_false, Bool.false_eq_true, Bool.not_true, Bool.not_false, Bool.and_self, Bool.and_false, Bool.false_and, Bool.and_true, Bool.true_and, Bool.or_false, Bool.false_or, Bool.or_true, Bool.true_or, bind_some, Int.toNat_natCast, spec_l1Has_eq hb]
    rw [take_snoc a 0 hk, List.filter_append]
    by_cases hm : a.getD k 0 ∈ b
    · simp only [hm, decide_true, if_true, List.filter_cons_of_pos, List.filter_nil]
      rw [chk_dec (by simp only [List.length_append, List.length_cons, List.length_nil]; omega)]; rfl
    · simp only [hm, decide_false, Bool.false_eq_true, if_false, not_false_eq_true, List.filter_cons_of_neg, List.filter_nil, List.append_nil]; rfl
  · simp [meetL]
theorem impl_meet_1_eq {b : List Int} (hb : b.length ≤ 1000000000) (x : Int) : impl_meet_1 x b = some (!decide (x ∈ b)) := by
  unfold impl_meet_1
  rw [slices_Contains_int_eq hb]; rfl
theorem impl_meet_eq {a b : List Int} (ha : a.length ≤ 1000000000) (hb : b.length ≤ 1000000000) : Ok (impl_meet a b) (fun r => r.2 = (meetL a b).length ∧ r.1.take (meetL a b).length = meetL a b) := by
  unfold impl_meet
  dsimp only
  rw [List.nil_append, chk_dec (by omega)]
  refine Ok.bind (P := fun r : List Int × Int => r.2 = ((meetL a b).length : Int) ∧ r.1.take (meetL a b).length = meetL a b) ?_ fun r hr => Ok.ret hr
  unfold slices_DeleteFunc__int_int
  refine Ok.bind (P := fun r => r = firstIdx a.length (fun k => !decide (a.getD k 0 ∈ b))) ?_ ?_
  · unfold slices_IndexFunc__int_int'
    refine Ok.eq (bind_of (loop_index (fun k : Nat => (k : Int)) a.length (fun k => !decide (a.getD k 0 ∈ b)) rfl ?_ ?_) (firstR_out _ _)) rfl
    · intro k hk
      have hk1 : (k : Int) < a.length := by omega
      simp (disch := omega) only [decide_true, decide_false, i64_of, chk_and, chk_dec, chk_true, dec_t, dec_f, if_true, if_false, Bool.false_eq_true, Bool.not_true, Bool.not_false, Bool.and_self, Bool.and_false, Bool.false_and, Bool.and_true, Bool.true_and, Bool.or_false, Bool.false_or, Bool.or_true, Bool.true_or, bind_some, Int.toNat_natCast, impl_meet_1_eq hb]
      by_cases e : a.getD k 0 ∈ b
      · simp only [e, decide_true, Bool.not_true, Bool.false_eq_true, if_false]; rfl
      · simp only [e, decide_false, Bool.not_false, if_true]
    · simp
  · rintro _ rfl
    unfold firstIdx
    cases hf : (List.range a.length).find? (fun k => !decide (a.getD k 0 ∈ b)) with
    | none =>
      simp only [decide_true, if_true]
      have : meetL a b = a := by
        unfold meetL
        rw [List.filter_eq_self]
        intro x hx
        obtain ⟨k, hk, e⟩ := List.getElem_of_mem hx
        rw [List.find?_eq_none] at hf
        have := hf k (List.mem_range.2 hk)
        rw [List.getD_eq_getElem?_getD, List.getElem?_eq_getElem hk, Option.getD_some, e] at this
        simpa using this
      rw [this]
      exact Ok.ret ⟨rfl, by simp⟩
    | some i =>
      have hi1 := List.mem_range.1 (List.mem_of_find?_eq_some hf)
      have hi2 := List.find?_some hf
      have hi3 : (a.take i).filter (fun x => decide (x ∈ b)) = a.take i := by
        rw [List.filter_eq_self]
        intro x hx
        obtain ⟨k, hk, e⟩ := List.getElem_of_mem hx
        simp only [List.length_take] at hk
        rw [List.find?_range_eq_some] at hf
        have := hf.2.2 k (by omega)
        rw [List.getElem_take] at e
        rw [List.getD_eq_getElem?_getD, List.getElem?_eq_getElem (by omega), Option.getD_some, e] at this
        simpa using this
      rw [if_neg (by simp)]
      refine Ok.bind (P := fun s : List Int × Int => s.2 = ((meetL a b).length : Int) ∧ s.1.length = a.length ∧ s.1.take (meetL a b).length = meetL a b) ?_ ?_
      · refine Ok.bind (P := fun s : List Int × Int => s.2 = ((meetL a b).length : Int) ∧ s.1.length = a.length ∧ s.1.take (meetL a b).length = meetL a b) ?_ fun s hs => Ok.ret hs
        refine loop_ok (fun s : List Int × Int × Int => ∃ (p q : Nat), s.2.1 = (p : Int) ∧ s.2.2 = (q : Int) ∧ p < q ∧ q ≤ a.length ∧ s.1.length = a.length ∧ s.1.take p = (a.take q).filter (fun x => decide (x ∈ b)) ∧ p = ((a.take q).filter (fun x => decide (x ∈ b))).length ∧ s.1.drop q = a.drop q) (fun s => ((a.length : Int) - s.2.2).toNat) ?_ ?_
        · rintro ⟨s, ip, iq⟩ ⟨p, q, rfl, rfl, h1, h2, h3, h4, h5, h6⟩
          simp only at h3 h4 h6 ⊢
          refine Ok.ite (fun hc => ?_) fun hc => ?_
          · have hc' : (q : Int) < s.length := of_decide_eq_true hc
            have hq : q < a.length := by omega
            have hg : s.getD q 0 = a.getD q 0 := by
              have := congrArg (fun l => l.getD 0 0) h6
              simpa [List.getD_eq_getElem?_getD] using this
            have htk := take_snoc a 0 hq
            simp (disch := omega) only [decide_true, decide_false, i64_of, chk_and, chk_dec, chk_true, dec_t, dec_f, if_true, if_false, Bool.false_eq_true, Bool.not_true, Bool.not_false, Bool.and_self, Bool.and_false, Bool.false_and, Bool.and_true, Bool.true_and, Bool.or_false, Bool.false_or, Bool.or_true, Bool.true_or, bind_some, Int.toNat_natCast, impl_meet_1_eq hb]
            rw [hg]
            by_cases hm : a.getD q 0 ∈ b
            · simp only [hm, decide_true, Bool.not_true, Bool.not_false, if_true]
              simp (disch := omega) only [decide_true, decide_false, i64_of, chk_and, chk_dec, chk_true, dec_t, dec_f, if_true, if_false, Bool.false_eq_true, Bool.not_true, Bool.not_false, Bool.and_self, Bool.and_false, Bool.false_and, Bool.and_true, Bool.true_and, Bool.or_false, Bool.false_or, Bool.or_true, Bool.true_or, bind_some, Int.toNat_natCast]
              refine Ok.ret ⟨⟨p + 1, q + 1, rfl, rfl, by omega, by omega, by simpa using h3, ?_, ?_, ?_⟩, by dsimp only; omega⟩
              · rw [htk, List.filter_append, ← h4]
                rw [filt1 hm, List.take_succ_eq_append_getElem (by simp; omega), List.take_set_of_le (Nat.le_refl _)]
                simp
              · rw [htk, List.filter_append, List.length_append, ← h5, filt1 hm]; rfl
              · rw [List.drop_set_of_lt (by omega)]
                have := congrArg (List.drop 1) h6
                simpa [List.drop_drop, Nat.add_comm] using this
            · simp only [hm, decide_false, Bool.not_true, Bool.not_false, if_false, Bool.false_eq_true]
              simp (disch := omega) only [decide_true, decide_false, i64_of, chk_and, chk_dec, chk_true, dec_t, dec_f, if_true, if_false, Bool.false_eq_true, Bool.not_true, Bool.not_false, Bool.and_self, Bool.and_false, Bool.false_and, Bool.and_true, Bool.true_and, Bool.or_false, Bool.false_or, Bool.or_true, Bool.true_or, bind_some, Int.toNat_natCast]
              refine Ok.ret ⟨⟨p, q + 1, rfl, rfl, by omega, by omega, h3, ?_, ?_, ?_⟩, by dsimp only; omega⟩
              · rw [htk, List.filter_append, ← h4, filt0 hm, List.append_nil]
              · rw [htk, List.filter_append, List.length_append, ← h5, filt0 hm]; rfl
              · have := congrArg (List.drop 1) h6
                simpa [List.drop_drop, Nat.add_comm] using this
          · have hc' : ¬ (q : Int) < s.length := fun h => hc (decide_eq_true h)
            have hq : q = a.length := by omega
            subst hq
            rw [List.take_length] at h4 h5
            refine Ok.ret ⟨?_, h3, ?_⟩
            · show (p : Int) = _
              rw [h5]; rfl
            · show s.take (meetL a b).length = meetL a b
              have : (meetL a b).length = p := h5.symm
              rw [this, h4]; rfl
        · refine ⟨i, i + 1, rfl, ?_, by omega, by omega, rfl, ?_, ?_, rfl⟩
          · show i64 ((i : Int) + 1) = _
            rw [i64_of (by omega) (by omega)]; omega
          · rw [take_snoc a 0 hi1, List.filter_append, hi3]
            have : a.getD i 0 ∉ b := by simpa using hi2
            rw [filt0 this, List.append_nil]
          · rw [take_snoc a 0 hi1, List.filter_append, hi3]
            have : a.getD i 0 ∉ b := by simpa using hi2
            rw [filt0 this, List.append_nil, List.length_take]; omega
      · rintro ⟨s, ip⟩ ⟨h1, h2, h3⟩
        simp only at h1 h2 h3
        subst h1
        have hl := meetL_length a b
        simp (disch := omega) only [decide_true, decide_false, i64_of, chk_and, chk_dec, chk_true, dec_t, dec_f, if_true, if_false, Bool.false_eq_true, Bool.not_true, Bool.not_false, Bool.and_self, Bool.and_false, Bool.false_and, Bool.and_true, Bool.true_and, Bool.or_false, Bool.false_or, Bool.or_true, Bool.true_or, bind_some, Int.toNat_natCast]
        refine Ok.chk ?_ (Ok.ret ⟨rfl, ?_⟩)
        · simp; omega
        · show List.take _ (_ ++ _) = _
          rw [List.take_append_of_le_length (by simp; omega)]
          simp [h3]

/-! ### Groups -/
structure GoodGs (n : Int) (l : List (List Int)) : Prop where
  n0 : 1 ≤ n
  n1 : n ≤ 12
  len : l.length ≤ 40
  g : ∀ g ∈ l, RisN n g
theorem GoodGs.good {n : Int} {l : List (List Int)} (h : GoodGs n l) {g : List Int} (hg : g ∈ l) : GoodG n g := ⟨h.n0, h.n1, h.g g hg⟩
theorem RisN.len {n : Int} {l : List Int} (h : RisN n l) (hn : n ≤ 12) : l.length ≤ 12 :=
  few 12 l h.nodup fun x hx => by have := h.mem hx; omega
theorem sorted_sub_eq : ∀ {a b : List Int}, a.Pairwise (· < ·) → b.Pairwise (· < ·) → (∀ x ∈ a, x ∈ b) → b.length ≤ a.length → a = b
  | [], b, _, _, _, hl => by cases b with | nil => rfl | cons => simp at hl
  | x :: a, [], _, _, h, _ => by have := h x (by simp); simp at this
  | x :: a, y :: b, ha, hb, h, hl => by
    rw [List.pairwise_cons] at ha hb
    have hsub : ∀ z ∈ a, z ∈ b := by
      intro z hz
      rcases List.mem_cons.1 (h z (by simp [hz])) with e | e
      · have h1 := ha.1 z hz
        rcases List.mem_cons.1 (h x (by simp)) with e2 | e2
        · omega
        · have := hb.1 x e2; omega
      · exact e
    have hab := sorted_sub_eq ha.2 hb.2 hsub (by simpa using hl)
    subst hab
    rcases List.mem_cons.1 (h x (by simp)) with e | e
    · rw [e]
    · have := ha.1 x e; omega
theorem RisN.sorted {n : Int} {l : List Int} (h : RisN n l) : l.Pairwise (· < ·) := by
  rw [List.pairwise_iff_getElem]
  intro i j hi hj hij
  have := h.lt (d := j - i - 1) (i := i) (by omega)
  rw [show i + (j - i - 1) + 1 = j by omega] at this
  rw [List.getD_eq_getElem?_getD, List.getD_eq_getElem?_getD, List.getElem?_eq_getElem hi, List.getElem?_eq_getElem hj] at this
  simpa using this
theorem ris_sub_eq {n : Int} {a b : List Int} (ha : RisN n a) (hb : RisN n b) (h : ∀ x ∈ a, x ∈ b) (hl : b.length ≤ a.length) : a = b := sorted_sub_eq ha.sorted hb.sorted h hl
def Short (l : List (List Int)) : Prop := ∀ g ∈ l, g.length ≤ 1000000000
theorem Short.get {l : List (List Int)} (h : Short l) (k : Nat) : (l.getD k []).length ≤ 1000000000 := by
  by_cases hk : k < l.length
  · exact h _ (getD_mem hk _)
  · rw [List.getD_eq_getElem?_getD, List.getElem?_eq_none (by omega)]; simp
open Classical in
theorem impl_areGroups_eq {n : Int} {l : List (List Int)} (hl : l.length ≤ 1000000000) (hs : Short l) : impl_areGroups n l = some (decide (GoodGs n l)) := by
  have hc : slices_ContainsFunc__impl_Group_impl_Group l n = some (l.any fun g => !decide (GoodG n g)) := by
    unfold slices_ContainsFunc__impl_Group_impl_Group slices_IndexFunc__impl_Group_impl_Group
    refine bind_of (bind_of (loop_index (fun k : Nat => (k : Int)) l.length (fun k => !decide (GoodG n (l.getD k []))) rfl ?_ ?_) (firstR_out _ _)) ?_
    · intro k hk
      have hk1 : (k : Int) < l.length := by omega
      unfold impl_areGroups_1
      simp (disch := omega) only [decide_true, decide_false, i64_of, chk_and, chk_dec, chk_true, dec_t, dec_f, if_true, if_false, Bool.false_eq_true, Bool.not_true, Bool.not_false, Bool.and_self, Bool.and_false, Bool.false_and, Bool.and_true, Bool.true_and, Bool.or_false, Bool.false_or, Bool.or_true, Bool.true_or, bind_some, Int.toNat_natCast, impl_isGroup_eq (hs.get k)]
      by_cases e : GoodG n (l.getD k [])
      · simp only [e, decide_true, Bool.not_true, Bool.false_eq_true, if_false]; rfl
      · simp only [e, decide_false, Bool.not_false, if_true]
    · simp
    · rw [firstIdx_any, any_mem l [] (fun g => !decide (GoodG n g))]
  unfold impl_areGroups
  simp -zeta only [if_someB, bind_some, if_t, if_f, if_t', if_f', or_ng, or_ng', nor_g, and_g, Bool.not_not, List.nil_append, impl_in_eq, hc]
  dsimp only
  by_cases h1 : (1 ≤ n ∧ n ≤ 12) ∧ (l.length : Int) ≤ 40
  · simp only [h1.1.1, h1.1.2, h1.2, decide_true, Bool.and_self, if_true, bind_some, Bool.true_and]
    congr 1
    rw [Bool.eq_iff_iff, decide_eq_true_iff]
    simp only [Bool.not_eq_true', List.any_eq_false, decide_eq_false_iff_not, Classical.not_not, decide_eq_true_eq]
    constructor
    · intro h
      exact ⟨h1.1.1, h1.1.2, by omega, fun g hg => by
        exact (h g hg).r⟩
    · intro h g hg
      exact h.good hg
  · have : ((decide (1 ≤ n) && decide (n ≤ 12)) && decide ((l.length : Int) ≤ 40)) = false := by
      simp only [Bool.and_eq_false_iff, decide_eq_false_iff_not]; omega
    simp only [this, Bool.false_eq_true, if_false, bind_some, Bool.false_and]
    rw [decide_eq_false fun h : GoodGs n l => h1 ⟨⟨h.n0, h.n1⟩, by have := h.len; omega⟩]
open Classical in
theorem spec_l8Sets_eq {n : Int} {l : List (List Int)} (hl : l.length ≤ 1000000000) (hs : Short l) (n0 : -1000000000 ≤ n) (n1 : n ≤ 1000000000) : spec_l8Sets n l = some (decide (GoodGs n l)) := by
  unfold spec_l8Sets
  refine bind_of (loop_any (fun k : Nat => (k : Int)) l.length (fun k => !decide (GoodG n (l.getD k []))) (.inr false) (.inl ()) ?_ ?_) ?_
  · intro k hk
    have hk1 : (k : Int) < l.length := by omega
    simp (disch := omega) only [decide_true, decide_false, i64_of, chk_and, chk_dec, chk_true, dec_t, dec_f, if_true, if_false, Bool.false_eq_true, Bool.not_true, Bool.not_false, Bool.and_self, Bool.and_false, Bool.false_and, Bool.and_true, Bool.true_and, Bool.or_false, Bool.false_or, Bool.or_true, Bool.true_or, bind_some, Int.toNat_natCast, spec_GoodGroup_eq (hs.get k) n0 n1]
    by_cases e : GoodG n (l.getD k [])
    · simp only [e, decide_true, Bool.not_true, Bool.false_eq_true, if_false]; rfl
    · simp only [e, decide_false, Bool.not_false, if_true]
  · simp
  · rw [any_mem l [] (fun g => !decide (GoodG n g))]
    by_cases h : (l.any fun g => !decide (GoodG n g)) = true
    · rw [if_pos h]
      simp only [sumE_inr]
      rw [decide_eq_false]
      intro hg
      obtain ⟨g, hg1, hg2⟩ := List.any_eq_true.1 h
      simp [hg.good hg1] at hg2
    · rw [if_neg h]
      simp only [sumE_inl, spec_l8Nodes_eq, bind_some, if_f]
      congr 1
      have h' : ∀ g ∈ l, GoodG n g := by
        intro g hg
        refine Classical.byContradiction fun hn => h (List.any_eq_true.2 ⟨g, hg, by simp [hn]⟩)
      rw [Bool.eq_iff_iff]
      simp only [Bool.and_eq_true, decide_eq_true_eq]
      exact ⟨fun hh => ⟨hh.1.1, hh.1.2, by omega, fun g hg => (h' g hg).r⟩, fun hh => ⟨⟨hh.n0, hh.n1⟩, by have := hh.len; omega⟩⟩

/-- Any two meet, and each with itself. -/
def MeetsM (l : List (List Int)) : Prop := ∀ a ∈ l, ∀ b ∈ l, ∃ x, x ∈ a ∧ x ∈ b
theorem meetL_none {a b : List Int} : (meetL a b).length = 0 ↔ ¬ ∃ x, x ∈ a ∧ x ∈ b := by
  rw [List.length_eq_zero_iff, List.eq_nil_iff_forall_not_mem]
  constructor
  · rintro h ⟨x, hx⟩; exact h x (mem_meetL.2 hx)
  · intro h x hx; exact h ⟨x, mem_meetL.1 hx⟩
theorem mem_getD {A : Type} {l : List A} {x : A} (h : x ∈ l) (d : A) : ∃ k, k < l.length ∧ l.getD k d = x := by
  obtain ⟨k, hk, e⟩ := List.getElem_of_mem h
  exact ⟨k, hk, by rw [List.getD_eq_getElem?_getD, List.getElem?_eq_getElem hk, Option.getD_some, e]⟩
theorem meets_pairs {l : List (List Int)} (h2 : l.length ≠ 1) : ((List.range l.length).any fun i => (List.range i).any fun j => decide ((meetL (l.getD i []) (l.getD j [])).length = 0)) = true ↔ ¬ MeetsM l := by
  rw [any_range]
  constructor
  · rintro ⟨i, hi, hj⟩ hm
    obtain ⟨j, hj, hz⟩ := any_range.1 hj
    have hz := of_decide_eq_true hz
    exact meetL_none.1 hz (hm _ (getD_mem hi _) _ (getD_mem (by omega) _))
  · intro hn
    refine Classical.byContradiction fun hc => hn fun a ha b hb => ?_
    have hp : ∀ i j, i < l.length → j < i → ∃ x, x ∈ l.getD i [] ∧ x ∈ l.getD j [] := fun i j hi hj => Classical.byContradiction fun hx => hc ⟨i, hi, any_range.2 ⟨j, hj, decide_eq_true (meetL_none.2 hx)⟩⟩
    obtain ⟨i, hi, rfl⟩ := mem_getD ha []
    obtain ⟨j, hj, rfl⟩ := mem_getD hb []
    rcases Nat.lt_trichotomy i j with h | h | h
    · obtain ⟨x, h1, h2⟩ := hp j i hj h; exact ⟨x, h2, h1⟩
    · subst h
      by_cases h0 : i = 0
      · subst h0
        obtain ⟨x, h1, h2⟩ := hp 1 0 (by omega) (by omega); exact ⟨x, h2, h2⟩
      · obtain ⟨x, h1, h2⟩ := hp i 0 hi (by omega); exact ⟨x, h1, h1⟩
    · exact hp i j hi h
theorem meets_pairs' {l : List (List Int)} : ((List.range l.length).any fun i => (List.range (i + 1)).any fun j => decide ((meetL (l.getD i []) (l.getD j [])).length = 0)) = true ↔ ¬ MeetsM l := by
  rw [any_range]
  constructor
  · rintro ⟨i, hi, hj⟩ hm
    obtain ⟨j, hj, hz⟩ := any_range.1 hj
    have hz := of_decide_eq_true hz
    exact meetL_none.1 hz (hm _ (getD_mem hi _) _ (getD_mem (by omega) _))
  · intro hn
    refine Classical.byContradiction fun hc => hn fun a ha b hb => ?_
    have hp : ∀ i j, i < l.length → j < i + 1 → ∃ x, x ∈ l.getD i [] ∧ x ∈ l.getD j [] := fun i j hi hj => Classical.byContradiction fun hx => hc ⟨i, hi, any_range.2 ⟨j, hj, decide_eq_true (meetL_none.2 hx)⟩⟩
    obtain ⟨i, hi, rfl⟩ := mem_getD ha []
    obtain ⟨j, hj, rfl⟩ := mem_getD hb []
    by_cases h : j < i + 1
    · exact hp i j hi h
    · obtain ⟨x, h1, h2⟩ := hp j i hj (by omega); exact ⟨x, h2, h1⟩
open Classical in
theorem impl_AllMeet_eq {n : Int} {l : List (List Int)} (hl : l.length ≤ 1000000000) (hs : Short l) : impl_AllMeet n l = some (if GoodGs n l then (decide (MeetsM l), true) else (false, false)) := by
  unfold impl_AllMeet
  rw [impl_areGroups_eq hl hs]
  by_cases g : GoodGs n l
  · simp only [g, bind_some, decide_true, Bool.not_true, Bool.false_eq_true, if_false, if_true]
    by_cases h1 : l.length = 1
    · have e1 : (l.length : Int) = 1 := by omega
      obtain ⟨a, rfl⟩ := List.length_eq_one_iff.1 h1
      simp only [e1, decide_true, if_true]
      simp (disch := omega) only [decide_true, decide_false, i64_of, chk_and, chk_dec, chk_true, dec_t, dec_f, if_true, if_false, Bool.false_eq_true, Bool.not_true, Bool.not_false, Bool.and_self, Bool.and_false, Bool.false_and, Bool.and_true, Bool.true_and, Bool.or_false, Bool.false_or, Bool.or_true, Bool.true_or, bind_some, Int.toNat_natCast]
      congr 2
      rw [decide_eq_decide]
      simp only [Int.toNat_zero, List.getD_cons_zero]
      constructor
      · intro h b hb c hc
        simp only [List.mem_singleton] at hb hc
        subst hb hc
        match hq : c with
        | x :: _ => exact ⟨x, by simp, by simp⟩
        | [] => simp at h
      · intro h
        obtain ⟨x, hx, _⟩ := h a (by simp) a (by simp)
        have := List.length_pos_of_mem hx
        omega
    · have e1 : ¬ (l.length : Int) = 1 := by omega
      rw [if_neg (by simpa using e1)]
      refine bind_of (loop_any (fun k : Nat => (k : Int)) l.length (fun i => (List.range i).any fun j => decide ((meetL (l.getD i []) (l.getD j [])).length = 0)) (.inr (false, true)) (.inl ()) ?_ ?_) ?_
      · intro i hi
        have hi1 : (i : Int) < l.length := by omega
        simp (disch := omega) only [decide_true, decide_false, i64_of, chk_and, chk_dec, chk_true, dec_t, dec_f, if_true, if_false, Bool.false_eq_true, Bool.not_true, Bool.not_false, Bool.and_self, Bool.and_false, Bool.false_and, Bool.and_true, Bool.true_and, Bool.or_false, Bool.false_or, Bool.or_true, Bool.true_or, bind_some, Int.toNat_natCast]
        refine bind_of (loop_any (fun k : Nat => (k : Int)) i (fun j => decide ((meetL (l.getD i []) (l.getD j [])).length = 0)) (.inr (false, true)) (.inl ()) ?_ ?_) ?_
        · intro j hj
          have hj1 : (j : Int) < i := by omega
          simp (disch := omega) only [decide_true, decide_false, i64_of, chk_and, chk_dec, chk_true, dec_t, dec_f, if_true, if_false, Bool.false_eq_true, Bool.not_true, Bool.not_false, Bool.and_self, Bool.and_false, Bool.false_and, Bool.and_true, Bool.true_and, Bool.or_false, Bool.false_or, Bool.or_true, Bool.true_or, bind_some, Int.toNat_natCast]
          obtain ⟨r, hr, q1, q2⟩ := impl_meet_eq (hs.get i) (hs.get j)
          rw [hr]
          simp only [bind_some, q1]
          by_cases e : (meetL (l.getD i []) (l.getD j [])).length = 0
          · simp only [e, decide_true, if_true]; rfl
          · have e' : ¬ ((meetL (l.getD i []) (l.getD j [])).length : Int) = 0 := by omega
            simp only [e, e', decide_false, Bool.false_eq_true, if_false]; rfl
        · simp
        · cases h : (List.range i).any fun j => decide ((meetL (l.getD i []) (l.getD j [])).length = 0) <;> simp
      · simp
      · by_cases hm : MeetsM l
        · rw [if_neg fun hh => (meets_pairs h1).1 hh hm]
          simp [hm]
        · rw [if_pos ((meets_pairs h1).2 hm)]
          simp [hm]
  · simp [g]
open Classical in
theorem spec_AllMeet_eq {n : Int} {l : List (List Int)} (hl : l.length ≤ 1000000000) (hs : Short l) (n0 : -1000000000 ≤ n) (n1 : n ≤ 1000000000) : spec_AllMeet n l = some (if GoodGs n l then (decide (MeetsM l), true) else (false, false)) := by
  unfold spec_AllMeet
  rw [spec_l8Sets_eq hl hs n0 n1]
  by_cases g : GoodGs n l
  · simp only [g, bind_some, decide_true, Bool.not_true, Bool.false_eq_true, if_false, if_true]
    refine bind_of (loop_any (fun k : Nat => (k : Int)) l.length (fun i => (List.range (i + 1)).any fun j => decide ((meetL (l.getD i []) (l.getD j [])).length = 0)) (.inr (false, true)) (.inl ()) ?_ ?_) ?_
    · intro i hi
      have hi1 : (i : Int) < l.length := by omega
      simp (disch := omega) only [decide_true, decide_false, i64_of, chk_and, chk_dec, chk_true, dec_t, dec_f, if_true, if_false, Bool.false_eq_true, Bool.not_true, Bool.not_false, Bool.and_self, Bool.and_false, Bool.false_and, Bool.and_true, Bool.true_and, Bool.or_false, Bool.false_or, Bool.or_true, Bool.true_or, bind_some, Int.toNat_natCast]
      refine bind_of (loop_any (fun k : Nat => (k : Int)) (i + 1) (fun j => decide ((meetL (l.getD i []) (l.getD j [])).length = 0)) (.inr (false, true)) (.inl ()) ?_ ?_) ?_
      · intro j hj
        have hj1 : (j : Int) < i + 1 := by omega
        simp (disch := omega) only [decide_true, decide_false, i64_of, chk_and, chk_dec, chk_true, dec_t, dec_f, if_true, if_false, Bool.false_eq_true, Bool.not_true, Bool.not_false, Bool.and_self, Bool.and_false, Bool.false_and, Bool.and_true, Bool.true_and, Bool.or_false, Bool.false_or, Bool.or_true, Bool.true_or, bind_some, Int.toNat_natCast, spec_l8Meet_eq (hs.get i) (hs.get j)]
        by_cases e : (meetL (l.getD i []) (l.getD j [])).length = 0
        · simp only [e, decide_true, if_true]; rfl
        · have e' : ¬ ((meetL (l.getD i []) (l.getD j [])).length : Int) = 0 := by omega
          simp only [e, e', decide_false, Bool.false_eq_true, if_false]; rfl
      · simp (disch := omega) only [decide_true, decide_false, i64_of, chk_and, chk_dec, chk_true, dec_t, dec_f, if_true, if_false, Bool.false_eq_true, Bool.not_true, Bool.not_false, Bool.and_self, Bool.and_false, Bool.false_and, Bool.and_true, Bool.true_and, Bool.or_false, Bool.false_or, Bool.or_true, Bool.true_or, bind_some, Int.toNat_natCast]
      · cases h : (List.range (i + 1)).any fun j => decide ((meetL (l.getD i []) (l.getD j [])).length = 0) <;> simp
    · simp
    · by_cases hm : MeetsM l
      · rw [if_neg fun hh => meets_pairs'.1 hh hm]
        simp [hm]
      · rw [if_pos (meets_pairs'.2 hm)]
        simp [hm]
  · simp [g]

/-! ### Minimal groups -/
theorem slices_Equal_int_eq {a b : List Int} (ha : a.length ≤ 1000000000) : slices_Equal__int_int a b = some (decide (a = b)) := by
  unfold slices_Equal__int_int
  by_cases h : a.length = b.length
  · have e : (a.length : Int) = b.length := by omega
    simp only [e, decide_true, Bool.not_true, Bool.false_eq_true, if_false]
    refine bind_of (loop_any (fun k : Nat => (k : Int)) a.length (fun k => !decide (a.getD k 0 = b.getD k 0)) (.inr false) (.inl ()) ?_ ?_) ?_
    · intro k hk
      have hk1 : (k : Int) < a.length := by omega
      simp (disch := omega) only [decide_true, decide_false, i64_of, chk_and, chk_dec, chk_true, dec_t, dec_f, if_true, if_false, Bool.false_eq_true, Bool.not_true, Bool.not_false, Bool.and_self, Bool.and_false, Bool.false_and, Bool.and_true, Bool.true_and, Bool.or_false, Bool.false_or, Bool.or_true, Bool.true_or, bind_some, Int.toNat_natCast]
      by_cases e : a.getD k 0 = b.getD k 0
      · simp only [e, decide_true, Bool.not_true, Bool.false_eq_true, if_false]; rfl
      · simp only [e, decide_false, Bool.not_false, if_true]
    · simp [e]
    · rw [any_ne 0 h]
      by_cases e : a = b <;> simp [e]
  · have e : ¬ (a.length : Int) = b.length := by omega
    simp only [e, decide_false, Bool.not_false, if_true]
    rw [decide_eq_false fun hh : a = b => h (by rw [hh])]
theorem impl_MinimalOf_1_eq {a b : List Int} (ha : a.length ≤ 1000000000) : impl_MinimalOf_1 a b = some (decide (a = b)) := by
  unfold impl_MinimalOf_1
  rw [slices_Equal_int_eq ha]; rfl
/-- One that lies in another one, and is not that one. -/
def lessB (o g : List Int) : Bool := !decide (o = g) && o.all fun x => decide (x ∈ g)
theorem impl_MinimalOf_2_eq {a g : List Int} (ha : a.length ≤ 1000000000) (hg : g.length ≤ 1000000000) : impl_MinimalOf_2 a g g = some (lessB a g) := by
  unfold impl_MinimalOf_2 lessB
  rw [impl_MinimalOf_1_eq ha]
  by_cases e : a = g
  · simp [e]
  · obtain ⟨r, hr, q1, q2⟩ := impl_meet_eq ha hg
    simp only [e, bind_some, decide_false, Bool.not_false, if_true, hr, Bool.true_and]
    congr 1
    rw [q1, Bool.eq_iff_iff, decide_eq_true_iff, List.all_eq_true]
    have := meetL_full (a := a) (b := g)
    simp only [decide_eq_true_eq]
    rw [← this]; omega
def minimalB (l : List (List Int)) (g : List Int) : Bool := !(l.any fun o => lessB o g)
theorem containsLess_eq {l : List (List Int)} {g : List Int} (hl : l.length ≤ 1000000000) (hs : Short l) (hg : g.length ≤ 1000000000) : slices_ContainsFunc__impl_Group_impl_Group' l g g = some (l.any fun o => lessB o g) := by
  unfold slices_ContainsFunc__impl_Group_impl_Group' slices_IndexFunc__impl_Group_impl_Group'
  refine bind_of (bind_of (loop_index (fun k : Nat => (k : Int)) l.length (fun k => lessB (l.getD k []) g) rfl ?_ ?_) (firstR_out _ _)) ?_
  · intro k hk
    have hk1 : (k : Int) < l.length := by omega
    simp (disch := omega) only [decide_true, decide_false, i64_of, chk_and, chk_dec, chk_true, dec_t, dec_f, if_true, if_false, Bool.false_eq_true, Bool.not_true, Bool.not_false, Bool.and_self, Bool.and_false, Bool.false_and, Bool.and_true, Bool.true_and, Bool.or_false, Bool.false_or, Bool.or_true, Bool.true_or, bind_some, Int.toNat_natCast, impl_MinimalOf_2_eq (hs.get k) hg]
    cases lessB (l.getD k []) g <;> rfl
  · simp
  · rw [firstIdx_any, any_mem l [] (fun o => lessB o g)]
theorem containsSame_eq {l : List (List Int)} {g : List Int} (hl : l.length ≤ 1000000000) (hs : Short l) : slices_ContainsFunc__impl_Group_impl_Group'' l g = some (decide (g ∈ l)) := by
  unfold slices_ContainsFunc__impl_Group_impl_Group'' slices_IndexFunc__impl_Group_impl_Group''
  refine bind_of (bind_of (loop_index (fun k : Nat => (k : Int)) l.length (fun k => decide (l.getD k [] = g)) rfl ?_ ?_) (firstR_out _ _)) ?_
  · intro k hk
    have hk1 : (k : Int) < l.length := by omega
    simp (disch := omega) only [decide_true, decide_false, i64_of, chk_and, chk_dec, chk_true, dec_t, dec_f, if_true, if_false, Bool.false_eq_true, Bool.not_true, Bool.not_false, Bool.and_self, Bool.and_false, Bool.false_and, Bool.and_true, Bool.true_and, Bool.or_false, Bool.false_or, Bool.or_true, Bool.true_or, bind_some, Int.toNat_natCast, impl_MinimalOf_1_eq (hs.get k)]
    by_cases e : l.getD k [] = g
    · simp only [e, decide_true, if_true]
    · simp only [e, decide_false, Bool.false_eq_true, if_false]; rfl
  · simp
  · rw [firstIdx_any, any_mem l [] (fun o => decide (o = g))]
    congr 1
    rw [Bool.eq_iff_iff]; simp

/-- What is put together of minimal ones. -/
structure MinOut (l : List (List Int)) (k : Nat) (out : List (List Int)) : Prop where
  len : out.length ≤ k
  sub : ∀ g ∈ out, g ∈ l
  all : ∀ i, i < k → minimalB l (l.getD i []) = true → l.getD i [] ∈ out
open Classical in
theorem impl_MinimalOf_ok {n : Int} {l : List (List Int)} (hl : l.length ≤ 1000000000) (hs : Short l) : Ok (impl_MinimalOf n l) (fun r => r.2 = decide (GoodGs n l) ∧ (GoodGs n l → MinOut l l.length r.1) ∧ (¬ GoodGs n l → r.1 = [])) := by
  unfold impl_MinimalOf
  rw [impl_areGroups_eq hl hs]
  by_cases g : GoodGs n l
  · simp only [g, bind_some, decide_true, Bool.not_true, Bool.false_eq_true, if_false]
    refine Ok.bind (P := fun out => MinOut l l.length out) ?_ fun s hs => Ok.ret ⟨rfl, fun _ => hs, fun h => absurd trivial h⟩
    refine Ok.bind (P := fun out => MinOut l l.length out) ?_ fun s hs => Ok.ret hs
    refine loop_ok (fun s : List (List Int) × Int => ∃ k : Nat, s.2 = (k : Int) ∧ k ≤ l.length ∧ MinOut l k s.1) (fun s => ((l.length : Int) - s.2).toNat) ?_ ?_
    · rintro ⟨out, ik⟩ ⟨k, rfl, h1, h2⟩
      simp only at h2 ⊢
      have hso : Short out := fun g hg => hs g (h2.sub g hg)
      have hol := h2.len
      have hgl := g.len
      refine Ok.ite (fun hc => ?_) fun hc => ?_
      · have hk : k < l.length := by have := of_decide_eq_true hc; omega
        have hsk := hs.get k
        have e1 := containsLess_eq hl hs hsk
        have e2 := containsSame_eq (l := out) (g := l.getD k []) (by omega) hso
        simp (disch := omega) only [decide_true, decide_false, i64_of, chk_and, chk_dec, chk_true, dec_t, dec_f, if_true, if_false, Bool.false_eq_true, Bool.not_true, Bool.not_false, Bool.and_self, Bool.and_false, Bool.false_and, Bool.and_true, Bool.true_and, Bool.or_false, Bool.false_or, Bool.or_true, Bool.true_or, bind_some, Int.toNat_natCast, e1, e2]
        refine Ok.bind (P := fun out' => MinOut l (k + 1) out') ?_ fun s hs => Ok.ret ⟨⟨k + 1, rfl, by omega, hs⟩, by dsimp only; omega⟩
        refine Ok.bind (P := fun r => (l.any fun o => lessB o (l.getD k [])) = false → r = decide (l.getD k [] ∈ out)) ?_ ?_
        · refine Ok.ite (fun hh => Ok.ret fun _ => rfl) fun hh => Ok.ret fun h => absurd (by rw [h]; rfl) hh
        · intro r4 hr4
          refine Ok.bind (P := fun out' => MinOut l (k + 1) out') ?_ fun s hs => Ok.ret hs
          cases hm : (l.any fun o => lessB o (l.getD k [])) with
          | true =>
            simp only [Bool.not_true, Bool.false_eq_true, if_false]
            refine Ok.ret ⟨by omega, h2.sub, fun i hi hmin => ?_⟩
            by_cases e : i = k
            · subst e; unfold minimalB at hmin; rw [hm] at hmin; simp at hmin
            · exact h2.all i (by omega) hmin
          | false =>
            have := hr4 hm
            subst this
            simp only [Bool.not_false, if_true]
            by_cases hin : l.getD k [] ∈ out
            · simp only [hin, decide_true, Bool.not_true, Bool.false_eq_true, if_false]
              refine Ok.ret ⟨by omega, h2.sub, fun i hi hmin => ?_⟩
              by_cases e : i = k
              · subst e; exact hin
              · exact h2.all i (by omega) hmin
            · simp only [hin, decide_false, Bool.not_false, if_true, List.nil_append]
              rw [chk_dec (by omega), chk_dec (by simp only [List.length_append, List.length_cons, List.length_nil]; omega)]
              refine Ok.ret ⟨by simp; omega, fun g hg => ?_, fun i hi hmin => ?_⟩
              · rcases List.mem_append.1 hg with h | h
                · exact h2.sub g h
                · rw [List.mem_singleton.1 h]; exact getD_mem hk _
              · by_cases e : i = k
                · subst e; exact List.mem_append.2 (.inr (by simp))
                · exact List.mem_append.2 (.inl (h2.all i (by omega) hmin))
      · have hk : k = l.length := by have : ¬ (k : Int) < l.length := fun h => hc (decide_eq_true h); omega
        subst hk
        exact Ok.ret h2
    · exact ⟨0, rfl, by omega, by simp, fun g hg => by simp at hg, fun i hi => by omega⟩
  · simp only [g, bind_some, decide_false, Bool.not_false, if_true]
    exact Ok.ret ⟨rfl, fun h => absurd h (by simp), fun _ => rfl⟩
theorem spec_l8Same_ok {a b : List Int} (ha : a.length ≤ 1000000000) (hb : b.length ≤ 1000000000) : Ok (spec_l8Same a b) (fun _ => True) := by
  unfold spec_l8Same
  refine Ok.bind (P := fun _ => True) ?_ fun _ _ => Ok.ret trivial
  refine Ok.ite (fun _ => ?_) fun _ => Ok.ret trivial
  rw [spec_l8Meet_eq ha hb]; exact Ok.ret trivial
open Classical in
theorem spec_MinimalOf_ok {n : Int} {l : List (List Int)} (hl : l.length ≤ 1000000000) (hs : Short l) (n0 : -1000000000 ≤ n) (n1 : n ≤ 1000000000) : Ok (spec_MinimalOf n l) (fun r => r.2 = decide (GoodGs n l)) := by
  unfold spec_MinimalOf
  rw [spec_l8Sets_eq hl hs n0 n1]
  by_cases g : GoodGs n l
  · simp only [g, bind_some, decide_true, Bool.not_true, Bool.false_eq_true, if_false]
    have hgl := g.len
    refine Ok.bind (P := fun _ => True) ?_ fun s _ => Ok.ret rfl
    refine Ok.bind (P := fun _ => True) ?_ fun s _ => Ok.ret trivial
    refine loop_ok (fun s : List (List Int) × Int => ∃ k : Nat, s.2 = (k : Int) ∧ k ≤ l.length ∧ s.1.length ≤ k) (fun s => ((l.length : Int) - s.2).toNat) ?_ ?_
    · rintro ⟨out, ik⟩ ⟨k, rfl, h1, h2⟩
      simp only at h2 ⊢
      refine Ok.ite (fun hc => ?_) fun hc => Ok.ret trivial
      have hk : k < l.length := by have := of_decide_eq_true hc; omega
      have hsk := hs.get k
      simp (disch := omega) only [decide_true, decide_false, i64_of, chk_and, chk_dec, chk_true, dec_t, dec_f, if_true, if_false, Bool.false_eq_true, Bool.not_true, Bool.not_false, Bool.and_self, Bool.and_false, Bool.false_and, Bool.and_true, Bool.true_and, Bool.or_false, Bool.false_or, Bool.or_true, Bool.true_or, bind_some, Int.toNat_natCast]
      refine Ok.bind (P := fun out' => out'.length ≤ k + 1) ?_ fun s hs => Ok.ret ⟨⟨k + 1, rfl, by omega, hs⟩, by dsimp only; omega⟩
      refine Ok.bind (P := fun _ => True) ?_ fun s14 _ => ?_
      · refine Ok.bind (P := fun _ => True) ?_ fun s _ => Ok.ret trivial
        refine loop_ok (fun s : Bool × Int => ∃ q : Nat, s.2 = (q : Int) ∧ q ≤ l.length) (fun s => ((l.length : Int) - s.2).toNat) ?_ ⟨0, rfl, by omega⟩
        rintro ⟨bb, iq⟩ ⟨q, rfl, h3⟩
        simp only
        refine Ok.ite (fun hc => ?_) fun hc => Ok.ret trivial
        have hq : q < l.length := by have := of_decide_eq_true hc; omega
        have hsq := hs.get q
        simp (disch := omega) only [decide_true, decide_false, i64_of, chk_and, chk_dec, chk_true, dec_t, dec_f, if_true, if_false, Bool.false_eq_true, Bool.not_true, Bool.not_false, Bool.and_self, Bool.and_false, Bool.false_and, Bool.and_true, Bool.true_and, Bool.or_false, Bool.false_or, Bool.or_true, Bool.true_or, bind_some, Int.toNat_natCast, spec_l8Meet_eq hsk hsq]
        refine Ok.bind (P := fun _ => True) ?_ fun s _ => Ok.ret ⟨⟨q + 1, rfl, by omega⟩, by dsimp only; omega⟩
        refine Ok.bind (P := fun _ => True) ?_ fun r6 _ => ?_
        · exact Ok.ite (fun _ => spec_l8Same_ok hsk hsq) fun _ => Ok.ret trivial
        refine Ok.bind (P := fun _ => True) ?_ fun r8 _ => ?_
        · exact Ok.ite (fun _ => spec_l8Same_ok hsk hsq) fun _ => Ok.ret trivial
        refine Ok.bind (P := fun _ => True) ?_ fun s _ => Ok.ret trivial
        exact Ok.ite (fun _ => Ok.ret trivial) fun _ => Ok.ret trivial
      · refine Ok.bind (P := fun out' => out'.length ≤ k + 1) ?_ fun s hs => Ok.ret hs
        refine Ok.ite (fun _ => ?_) fun _ => Ok.ret (by omega)
        simp only [List.nil_append]
        rw [chk_dec (by omega), chk_dec (by simp only [List.length_append, List.length_cons, List.length_nil]; omega)]
        exact Ok.ret (by simp; omega)
    · exact ⟨0, rfl, by omega, by simp⟩
  · simp only [g, bind_some, decide_false, Bool.not_false, if_true]
    exact Ok.ret rfl

/-- Each one has a minimal one in it. -/
theorem has_minimal {n : Int} {l : List (List Int)} (h : GoodGs n l) : ∀ (m : Nat) (a : List Int), a.length = m → a ∈ l → ∃ p ∈ l, minimalB l p = true ∧ ∀ x ∈ p, x ∈ a := by
  intro m
  induction m using Nat.strongRecOn with
  | _ m ih =>
    intro a hm ha
    cases hb : minimalB l a with
    | true => exact ⟨a, ha, hb, fun x hx => hx⟩
    | false =>
      unfold minimalB at hb
      simp only [Bool.not_eq_false', List.any_eq_true] at hb
      obtain ⟨o, ho, hlo⟩ := hb
      unfold lessB at hlo
      simp only [Bool.and_eq_true, Bool.not_eq_true', decide_eq_false_iff_not, List.all_eq_true, decide_eq_true_eq] at hlo
      have hlt : o.length < a.length := by
        refine Classical.byContradiction fun hge => hlo.1 ?_
        exact ris_sub_eq (h.g o ho) (h.g a ha) hlo.2 (by omega)
      obtain ⟨p, p1, p2, p3⟩ := ih o.length (by omega) o rfl ho
      exact ⟨p, p1, p2, fun x hx => hlo.2 x (p3 x hx)⟩

/-! ### Draws -/
theorem nodes_ok {a : List Int} {p h : Int} (hb : Byt a) (h0 : 0 ≤ p) (h1 : p ≤ 10000000000) : Ok (spec_l1Cur_nodes a p h) (fun r => p ≤ r.1 ∧ r.1 ≤ p + 4 ∧ 0 ≤ r.2.2 ∧ r.2.2 ≤ 13) := by
  unfold spec_l1Cur_nodes
  refine Ok.bind (one_ok hb h0 (by omega) 30) fun r0 hr0 => ?_
  refine Ok.ite (fun _ => ?_) fun _ => ?_
  · refine Ok.bind (among_ok hb (by omega) (by omega) (by simp) (fun x => 0 ≤ x ∧ x ≤ 13) (fun x hx => by simp at hx; omega)) fun r hr => ?_
    exact Ok.ret ⟨by dsimp only; omega, by dsimp only; omega, hr.2.2⟩
  · refine Ok.bind (pick_ok hb (by omega) (by omega) 7) fun r hr => ?_
    simp (disch := omega) only [decide_true, decide_false, i64_of, chk_and, chk_dec, chk_true, dec_t, dec_f, if_true, if_false, Bool.false_eq_true, Bool.not_true, Bool.not_false, Bool.and_self, Bool.and_false, Bool.false_and, Bool.and_true, Bool.true_and, Bool.or_false, Bool.false_or, Bool.or_true, Bool.true_or, bind_some, Int.toNat_natCast]
    exact Ok.ret (by dsimp only; omega)
theorem group_ok {a : List Int} {p h n : Int} (hb : Byt a) (h0 : 0 ≤ p) (h1 : p ≤ 10000000000) (n0 : 0 ≤ n) (n1 : n ≤ 13) : Ok (spec_l1Cur_group a p h n) (fun r => p ≤ r.1 ∧ r.1 ≤ p + 100 ∧ r.2.2.length ≤ 14) := by
  unfold spec_l1Cur_group
  refine Ok.bind (P := fun r => p ≤ r.1 ∧ r.1 ≤ p + 26 ∧ r.2.2.length ≤ 13) ?_ fun s hs => ?_
  · refine Ok.bind (P := fun r => p ≤ r.1 ∧ r.1 ≤ p + 26 ∧ r.2.2.length ≤ 13) ?_ fun s hs => Ok.ret hs
    refine loop_ok (fun s => p ≤ s.1 ∧ s.1 ≤ p + 2 * s.2.2.2 ∧ 0 ≤ s.2.2.2 ∧ s.2.2.2 ≤ n ∧ (s.2.2.1.length : Int) ≤ s.2.2.2) (fun s => (n - s.2.2.2).toNat) ?_ ?_
    · intro s hs
      obtain ⟨q1, q2, q3, q4, q5⟩ := hs
      refine Ok.ite (fun hc => ?_) fun hc => Ok.ret (by dsimp only; omega)
      have hc := of_decide_eq_true hc
      refine Ok.bind (P := fun r => p ≤ r.1 ∧ r.1 ≤ s.1 + 2 ∧ r.2.2.length ≤ s.2.2.1.length + 1) ?_ fun r hr => ?_
      · refine Ok.bind (one_ok hb (by omega) (by omega) 3) fun r1 hr1 => ?_
        refine Ok.bind (P := fun l => l.length ≤ s.2.2.1.length + 1) ?_ fun l hl => Ok.ret (by dsimp only; omega)
        refine Ok.ite (fun _ => ?_) fun _ => Ok.ret (by omega)
        dsimp only
        rw [chk_dec (by simp only [List.length_append, List.length_cons, List.length_nil]; omega)]
        exact Ok.ret (by simp)
      · simp (disch := omega) only [decide_true, decide_false, i64_of, chk_and, chk_dec, chk_true, dec_t, dec_f, if_true, if_false, Bool.false_eq_true, Bool.not_true, Bool.not_false, Bool.and_self, Bool.and_false, Bool.false_and, Bool.and_true, Bool.true_and, Bool.or_false, Bool.false_or, Bool.or_true, Bool.true_or, bind_some, Int.toNat_natCast]
        exact Ok.ret (by dsimp only; omega)
    · dsimp only; simp only [List.length_nil]; omega
  · refine Ok.bind (one_ok hb (by omega) (by omega) 30) fun r8 hr8 => ?_
    refine Ok.bind (P := fun r => p ≤ r.1 ∧ r.1 ≤ p + 100 ∧ r.2.2.length ≤ 14) ?_ fun r hr => Ok.ret hr
    refine Ok.ite (fun _ => ?_) fun _ => Ok.ret (by dsimp only; omega)
    refine Ok.bind (pick_ok hb (by omega) (by omega) 14) fun r9 hr9 => ?_
    dsimp only
    rw [chk_dec (by simp only [List.length_append, List.length_cons, List.length_nil]; omega)]
    exact Ok.ret ⟨by dsimp only; omega, by dsimp only; omega, by simp; omega⟩
theorem DrawMeetOf_ok {a : List Int} (hb : Byt a) : Ok (spec_DrawMeetOf a) (fun r => r.1.length ≤ 14 ∧ r.2.1.length ≤ 14 ∧ 0 ≤ r.2.2 ∧ r.2.2 ≤ 13) := by
  unfold spec_DrawMeetOf
  refine Ok.bind (nodes_ok hb (by omega) (by omega)) fun r0 hr0 => ?_
  refine Ok.bind (group_ok hb (by omega) (by omega) hr0.2.2.1 hr0.2.2.2) fun r1 hr1 => ?_
  refine Ok.bind (group_ok hb (by omega) (by omega) hr0.2.2.1 hr0.2.2.2) fun r2 hr2 => ?_
  exact Ok.ret ⟨hr1.2.2, hr2.2.2, hr0.2.2⟩
theorem DrawAllMeet_ok {a : List Int} (hb : Byt a) : Ok (spec_DrawAllMeet a) (fun r => 0 ≤ r.1 ∧ r.1 ≤ 13 ∧ r.2.length ≤ 50 ∧ ∀ g ∈ r.2, g.length ≤ 14) := by
  unfold spec_DrawAllMeet
  refine Ok.bind (nodes_ok hb (by omega) (by omega)) fun r0 hr0 => ?_
  refine Ok.bind (pick_ok hb (by omega) (by omega) 6) fun r1 hr1 => ?_
  refine Ok.bind (P := fun r => 0 ≤ r.1 ∧ r.1 ≤ 1000 ∧ r.2.2.length ≤ 5 ∧ ∀ g ∈ r.2.2, g.length ≤ 14) ?_ fun s8 hs8 => ?_
  · refine Ok.bind (P := fun r => 0 ≤ r.1 ∧ r.1 ≤ 1000 ∧ r.2.2.length ≤ 5 ∧ ∀ g ∈ r.2.2, g.length ≤ 14) ?_ fun s hs => Ok.ret hs
    refine loop_ok (fun s => 0 ≤ s.1 ∧ s.1 + 100 * s.2.2.2 ≤ 1000 ∧ 0 ≤ s.2.2.2 ∧ (s.2.2.1.length : Int) + s.2.2.2 ≤ 5 ∧ ∀ g ∈ s.2.2.1, g.length ≤ 14) (fun s => s.2.2.2.toNat) ?_ ?_
    · intro s hs
      obtain ⟨q1, q2, q3, q4, q5⟩ := hs
      refine Ok.ite (fun hc => ?_) fun hc => Ok.ret ⟨q1, by dsimp only; omega, by dsimp only; omega, q5⟩
      have hc := of_decide_eq_true hc
      refine Ok.bind (P := fun r => 0 ≤ r.1 ∧ r.1 ≤ s.1 + 100 ∧ r.2.2.length = s.2.2.1.length + 1 ∧ ∀ g ∈ r.2.2, g.length ≤ 14) ?_ fun r hr => ?_
      · refine Ok.bind (group_ok hb (by omega) (by omega) hr0.2.2.1 hr0.2.2.2) fun r3 hr3 => ?_
        dsimp only
        rw [chk_dec (by simp only [List.length_append, List.length_cons, List.length_nil]; omega)]
        refine Ok.ret ⟨by dsimp only; omega, by dsimp only; omega, by simp, fun g hg => ?_⟩
        rcases List.mem_append.1 hg with h | h
        · exact q5 g h
        · rw [List.mem_singleton.1 h]; exact hr3.2.2
      · simp (disch := omega) only [decide_true, decide_false, i64_of, chk_and, chk_dec, chk_true, dec_t, dec_f, if_true, if_false, Bool.false_eq_true, Bool.not_true, Bool.not_false, Bool.and_self, Bool.and_false, Bool.false_and, Bool.and_true, Bool.true_and, Bool.or_false, Bool.false_or, Bool.or_true, Bool.true_or, bind_some, Int.toNat_natCast]
        exact Ok.ret ⟨⟨hr.1, by dsimp only; omega, by dsimp only; omega, by dsimp only; omega, hr.2.2.2⟩, by dsimp only; omega⟩
    · dsimp only; simp only [List.length_nil]
      exact ⟨by omega, by omega, by omega, by omega, by simp⟩
  · refine Ok.bind (one_ok hb (by omega) (by omega) 40) fun r9 hr9 => ?_
    refine Ok.bind (P := fun l => l.length ≤ 50 ∧ ∀ g ∈ l, g.length ≤ 14) ?_ fun l hl => Ok.ret ⟨hr0.2.2.1, hr0.2.2.2, hl⟩
    refine Ok.ite (fun _ => ?_) fun _ => Ok.ret ⟨by omega, hs8.2.2.2⟩
    rw [chk_dec (by omega)]
    dsimp only
    rw [chk_dec (by simp only [List.length_append, List.length_replicate]; omega)]
    refine Ok.ret ⟨by simp; omega, fun g hg => ?_⟩
    rcases List.mem_append.1 hg with h | h
    · exact hs8.2.2.2 g h
    · rw [(List.mem_replicate.1 h).2]; simp

/-! ### The law -/
theorem majorities_meet {n : Int} {a b : List Int} (ha : GoodG n a) (hb : GoodG n b) (h1 : n < 2 * a.length) (h2 : n < 2 * b.length) : (meetL a b).length ≠ 0 := by
  intro h0
  have hno := meetL_none.1 h0
  have hd : (a ++ b).Nodup := by
    rw [List.nodup_append]
    exact ⟨ha.r.nodup, hb.r.nodup, fun x hx y hy e => hno ⟨x, hx, e ▸ hy⟩⟩
  have hn0 := ha.n0
  have := few n.toNat (a ++ b) hd fun x hx => by
    rcases List.mem_append.1 hx with h | h
    · have := ha.r.mem h; omega
    · have := hb.r.mem h; omega
  rw [List.length_append] at this
  omega
open Classical in
theorem impl_MeetOf_ok {n : Int} {a b : List Int} (ha : a.length ≤ 1000000000) (hb : b.length ≤ 1000000000) : Ok (impl_MeetOf a b n) (fun r => r.2 = (decide (GoodG n a) && decide (GoodG n b)) ∧ (GoodG n a → GoodG n b → r.1 = meetL a b)) := by
  unfold impl_MeetOf
  rw [impl_isGroup_eq ha, impl_isGroup_eq hb]
  by_cases g1 : GoodG n a
  · by_cases g2 : GoodG n b
    · obtain ⟨r, hr, q1, q2⟩ := impl_meet_eq ha hb
      simp only [g1, g2, bind_some, decide_true, Bool.not_true, Bool.not_false, Bool.false_eq_true, if_true, if_false, hr]
      refine Ok.ret ⟨rfl, fun _ _ => ?_⟩
      simp only [q1, Int.toNat_natCast, Int.toNat_zero, List.drop_zero]
      exact q2
    · simp only [g1, g2, bind_some, decide_true, decide_false, Bool.not_true, Bool.not_false, Bool.false_eq_true, if_true, if_false]
      exact Ok.ret ⟨rfl, fun _ h => absurd h (by simp)⟩
  · simp only [g1, bind_some, decide_false, Bool.not_true, Bool.not_false, Bool.false_eq_true, if_true, if_false]
    exact Ok.ret ⟨rfl, fun h => absurd h (by simp)⟩
theorem laws_FnMajority_ok {a0 a1 : List Int} (h0 : Byt a0) (h1 : Byt a1) : laws_FnMajority a0 a1 = some true := by
  classical
  apply Ok.of_eq
  unfold laws_FnMajority
  refine Ok.ite (fun _ => Ok.ret rfl) fun _ => ?_
  refine Ok.bind (DrawMeetOf_ok h0) fun r0 hr0 => ?_
  obtain ⟨a, b, n⟩ := r0
  obtain ⟨k1, k2, k3, k4⟩ := hr0
  simp only at k1 k2 k3 k4 ⊢
  rw [impl_IsMajority_eq (by omega), impl_IsMajority_eq (by omega), spec_IsMajority_eq (by omega) (by omega) (by omega), spec_IsMajority_eq (by omega) (by omega) (by omega)]
  simp only [bind_some]
  refine Ok.bind (impl_MeetOf_ok (by omega) (by omega)) fun r5 hr5 => ?_
  rw [if_neg ?_]
  · refine Ok.bind (DrawAllMeet_ok h1) fun r14 hr14 => ?_
    obtain ⟨m, l⟩ := r14
    obtain ⟨j1, j2, j3, j4⟩ := hr14
    simp only at j1 j2 j3 j4 ⊢
    have hs : Short l := fun g hg => by have := j4 g hg; omega
    rw [impl_AllMeet_eq (by omega) hs, spec_AllMeet_eq (by omega) hs (by omega) (by omega)]
    simp only [bind_some]
    refine Ok.bind (impl_MinimalOf_ok (by omega) hs) fun r17 hr17 => ?_
    refine Ok.bind (spec_MinimalOf_ok (by omega) hs (by omega) (by omega)) fun r18 hr18 => ?_
    obtain ⟨e1, e2, e3⟩ := hr17
    rw [hr18, e1]
    simp only [bne_self_eq_false, Bool.false_eq_true, if_false]
    by_cases g : GoodGs m l
    · have hm := e2 g
      have hgl : GoodGs m r17.1 := ⟨g.n0, g.n1, by have := hm.len; have := g.len; omega, fun x hx => g.g x (hm.sub x hx)⟩
      have hsl : Short r17.1 := fun x hx => hs x (hm.sub x hx)
      have hml := hm.len
      rw [impl_AllMeet_eq (by omega) hsl]
      simp only [g, hgl, decide_true, Bool.not_true, Bool.false_eq_true, if_false, if_true, bind_some]
      have hmin : ∀ x ∈ l, ∃ p ∈ r17.1, ∀ y ∈ p, y ∈ x := by
        intro x hx
        obtain ⟨p, p1, p2, p3⟩ := has_minimal g _ x rfl hx
        obtain ⟨i, hi, rfl⟩ := mem_getD p1 []
        exact ⟨_, hm.all i hi p2, p3⟩
      have hmm : MeetsM r17.1 ↔ MeetsM l := by
        constructor
        · intro h x hx y hy
          obtain ⟨p, p1, p2⟩ := hmin x hx
          obtain ⟨q, q1, q2⟩ := hmin y hy
          obtain ⟨z, z1, z2⟩ := h p p1 q q1
          exact ⟨z, p2 z z1, q2 z z2⟩
        · exact fun h x hx y hy => h x (hm.sub x hx) y (hm.sub y hy)
      refine Ok.ret ?_
      have c1 : decide (MeetsM r17.1) = decide (MeetsM l) := by rw [decide_eq_decide]; exact hmm
      have c2 : ((r17.1.length : Int) ≤ (l.length : Int)) := by omega
      rw [c1]
      simp only [beq_self_eq_true, if_true, c2, decide_true]
      by_cases hl0 : l.length = 0
      · have : (l.length : Int) = 0 := by omega
        simp [this]
      · have hpos : 0 < r17.1.length := by
          obtain ⟨p, p1, _⟩ := hmin _ (getD_mem (k := 0) (by omega) [])
          exact List.length_pos_of_mem p1
        have d1 : ¬ (l.length : Int) = 0 := by omega
        have d2 : (0 : Int) < r17.1.length := by omega
        simp only [d1, d2, decide_true, decide_false, Bool.false_eq_true, if_false]
    · simp only [g, decide_false, Bool.not_false, if_true, e3 g]
      exact Ok.ret rfl
  · intro hv
    simp only [bne_self_eq_false, Bool.false_eq_true, if_false, hr5.1] at hv
    by_cases g1 : GoodG n a
    · by_cases g2 : GoodG n b
      · simp only [g1, g2, decide_true, Bool.true_and, if_true, Bool.and_self, bne_self_eq_false, Bool.false_eq_true, if_false, hr5.2 g1 g2] at hv
        by_cases c1 : n < 2 * (a.length : Int)
        · by_cases c2 : n < 2 * (b.length : Int)
          · have := majorities_meet g1 g2 c1 c2
            simp only [c1, c2, decide_true, if_true, decide_eq_true_eq] at hv
            omega
          · simp [c1, c2] at hv
        · simp [c1] at hv
      · simp [g1, g2] at hv
    · simp [g1] at hv
end Sh
