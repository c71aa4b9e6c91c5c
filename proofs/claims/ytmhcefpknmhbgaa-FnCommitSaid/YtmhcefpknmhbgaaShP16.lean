/- Sh: configs (l16): good ones, loads. -/
import Derived.Test.YtmhcefpknmhbgaaShPx
import Derived.Test.YtmhcefpknmhbgaaShP11
import Derived.Test.YtmhcefpknmhbgaaShF2
set_option linter.unusedVariables false
set_option linter.unusedSimpArgs false
namespace Sh
open Go

abbrev Home := Int × List Int
/-- Rising nodes. -/
def Ris (l : List Int) : Prop := ∀ k, k < l.length → 0 ≤ l.getD k 0 ∧ l.getD k 0 ≤ 11 ∧ (0 < k → l.getD (k - 1) 0 < l.getD k 0)
theorem Ris.ge {l : List Int} (h : Ris l) : ∀ k, k < l.length → (k : Int) ≤ l.getD k 0
  | 0, hk => (h 0 hk).1
  | k + 1, hk => by
    have h1 := h.ge k (by omega)
    have h2 := (h (k + 1) hk).2.2 (by omega)
    simp only [Nat.add_sub_cancel] at h2
    omega
theorem Ris.len {l : List Int} (h : Ris l) : l.length ≤ 12 := by
  by_cases h0 : l.length = 0
  · omega
  · have h1 := h.ge (l.length - 1) (by omega)
    have h2 := (h (l.length - 1) (by omega)).2.1
    omega

theorem spec_l16Node_eq (n : Int) : spec_l16Node n = some (decide (0 ≤ n) && decide (n ≤ 11)) := by
  unfold spec_l16Node
  simp only [spec_l1In_eq, bind_some]
open Classical in
theorem ris_any (l : List Int) : ((List.range l.length).any fun k => !(decide (0 ≤ l.getD k 0) && decide (l.getD k 0 ≤ 11)) || (decide (0 < k) && decide (l.getD k 0 ≤ l.getD (k - 1) 0))) = !decide (Ris l) := by
  rw [Bool.eq_iff_iff, any_range]
  simp only [Bool.not_eq_true', decide_eq_false_iff_not]
  constructor
  · rintro ⟨k, hk, hb⟩ h
    have := h k hk
    simp only [Bool.or_eq_true, Bool.not_eq_true', Bool.and_eq_true, Bool.and_eq_false_iff, decide_eq_true_eq, decide_eq_false_iff_not] at hb
    omega
  · intro hn
    refine Classical.byContradiction fun hc => hn fun k hk => ?_
    have : ¬ (!(decide (0 ≤ l.getD k 0) && decide (l.getD k 0 ≤ 11)) || (decide (0 < k) && decide (l.getD k 0 ≤ l.getD (k - 1) 0))) = true := fun hb => hc ⟨k, hk, hb⟩
    simp only [Bool.or_eq_true, Bool.not_eq_true', Bool.and_eq_true, Bool.and_eq_false_iff, decide_eq_true_eq, decide_eq_false_iff_not] at this
    omega
open Classical in
theorem spec_l16Rising_eq {l : List Int} (h : l.length ≤ 1000000000) (most : Int) : spec_l16Rising l most = some (decide (Ris l) && decide ((l.length : Int) ≤ most)) := by
  unfold spec_l16Rising
  refine bind_of (loop_any (fun k : Nat => (k : Int)) l.length (fun k => !(decide (0 ≤ l.getD k 0) && decide (l.getD k 0 ≤ 11)) || (decide (0 < k) && decide (l.getD k 0 ≤ l.getD (k - 1) 0))) (.inr false) (.inl ()) ?_ ?_) ?_
  · intro k hk
    have hk1 : (k : Int) < l.length := by omega
    simp -zeta only [if_someB, bind_some, if_t, if_f, if_t', if_f', or_ng, or_ng', nor_g, and_g, Bool.not_not, List.nil_append, spec_l16Node_eq]
    by_cases h0 : 0 < k
    · have e1 : ((k : Int) - 1).toNat = k - 1 := by omega
      have h0' : (0 : Int) < k := by omega
      simp (disch := omega) only [decide_true, decide_false, i64_of, chk_and, chk_dec, chk_true, dec_t, dec_f, if_true, if_false, Bool.false_eq_true, Bool.not_true, Bool.not_false, Bool.and_self, Bool.and_false, Bool.false_and, Bool.and_true, Bool.true_and, Bool.or_false, Bool.false_or, Bool.or_true, Bool.true_or, bind_some, Int.toNat_natCast, e1]
      rw [if_some]; rfl
    · have h0' : ¬ (0 : Int) < k := by omega
      simp (disch := omega) only [decide_true, decide_false, i64_of, chk_and, chk_dec, chk_true, dec_t, dec_f, if_true, if_false, Bool.false_eq_true, Bool.not_true, Bool.not_false, Bool.and_self, Bool.and_false, Bool.false_and, Bool.and_true, Bool.true_and, Bool.or_false, Bool.false_or, Bool.or_true, Bool.true_or, bind_some, Int.toNat_natCast]
      rw [if_some]; rfl
  · simp
  · rw [ris_any]
    by_cases hr : Ris l <;> simp [hr]
open Classical in
theorem impl_areRising_eq {l : List Int} (h : l.length ≤ 1000000000) : impl_areRising l 12 = some (decide (Ris l)) := by
  unfold impl_areRising
  refine bind_of (loop_any (fun k : Nat => (k : Int)) l.length (fun k => !(decide (0 ≤ l.getD k 0) && decide (l.getD k 0 ≤ 11)) || (decide (0 < k) && decide (l.getD k 0 ≤ l.getD (k - 1) 0))) (.inr false) (.inl ()) ?_ ?_) ?_
  · intro k hk
    have hk1 : (k : Int) < l.length := by omega
    simp -zeta only [if_someB, bind_some, if_t, if_f, if_t', if_f', or_ng, or_ng', nor_g, and_g, Bool.not_not, List.nil_append, impl_in_eq]
    by_cases h0 : 0 < k
    · have e1 : ((k : Int) - 1).toNat = k - 1 := by omega
      have h0' : (0 : Int) < k := by omega
      simp (disch := omega) only [decide_true, decide_false, i64_of, chk_and, chk_dec, chk_true, dec_t, dec_f, if_true, if_false, Bool.false_eq_true, Bool.not_true, Bool.not_false, Bool.and_self, Bool.and_false, Bool.false_and, Bool.and_true, Bool.true_and, Bool.or_false, Bool.false_or, Bool.or_true, Bool.true_or, bind_some, Int.toNat_natCast, e1]
      rw [if_some]; rfl
    · have h0' : ¬ (0 : Int) < k := by omega
      simp (disch := omega) only [decide_true, decide_false, i64_of, chk_and, chk_dec, chk_true, dec_t, dec_f, if_true, if_false, Bool.false_eq_true, Bool.not_true, Bool.not_false, Bool.and_self, Bool.and_false, Bool.false_and, Bool.and_true, Bool.true_and, Bool.or_false, Bool.false_or, Bool.or_true, Bool.true_or, bind_some, Int.toNat_natCast]
      rw [if_some]; rfl
  · simp
  · rw [ris_any]
    by_cases hr : Ris l <;> simp [hr]
theorem spec_l1Has_eq {l : List Int} (h : l.length ≤ 1000000000) (x : Int) : spec_l1Has l x = some (decide (x ∈ l)) := laws_has_eq h x
theorem slices_Contains_int_eq {l : List Int} (h : l.length ≤ 1000000000) (x : Int) : slices_Contains__int_int l x = some (decide (x ∈ l)) := by
  unfold slices_Contains__int_int slices_Index__int_int
  refine bind_of (bind_of (loop_index (fun k : Nat => (k : Int)) l.length (fun k => decide (x = l.getD k 0)) rfl ?_ ?_) (firstR_out _ _)) ?_
  · intro k hk
    have hk1 : (k : Int) < l.length := by omega
    simp (disch := omega) only [decide_true, decide_false, i64_of, chk_and, chk_dec, chk_true, dec_t, dec_f, if_true, if_false, Bool.false_eq_true, Bool.not_true, Bool.not_false, Bool.and_self, Bool.and_false, Bool.false_and, Bool.and_true, Bool.true_and, Bool.or_false, Bool.false_or, Bool.or_true, Bool.true_or, bind_some, Int.toNat_natCast]
    by_cases e : x = l.getD k 0
    · simp only [e, decide_true, if_true]
    · simp only [e, decide_false, Bool.false_eq_true, if_false]; rfl
  · simp
  · rw [firstIdx_any, any_mem l 0 (fun y => decide (x = y))]
    congr 1
    rw [Bool.eq_iff_iff]; simp

theorem impl_isConfig_1_1_eq {down : List Int} (h : down.length ≤ 1000000000) (x num : Int) (homes : List Home) : impl_isConfig_1_1 x num down homes = some (decide (x ∈ down)) := by
  unfold impl_isConfig_1_1
  rw [slices_Contains_int_eq h]; rfl
theorem slices_ContainsFunc_int_eq {l down : List Int} (h : l.length ≤ 1000000000) (hd : down.length ≤ 1000000000) (num : Int) (homes : List Home) : slices_ContainsFunc__int_int l num down homes = some (l.any fun x => decide (x ∈ down)) := by
  unfold slices_ContainsFunc__int_int slices_IndexFunc__int_int
  refine bind_of (bind_of (loop_index (fun k : Nat => (k : Int)) l.length (fun k => decide (l.getD k 0 ∈ down)) rfl ?_ ?_) (firstR_out _ _)) ?_
  · intro k hk
    have hk1 : (k : Int) < l.length := by omega
    simp (disch := omega) only [decide_true, decide_false, i64_of, chk_and, chk_dec, chk_true, dec_t, dec_f, if_true, if_false, Bool.false_eq_true, Bool.not_true, Bool.not_false, Bool.and_self, Bool.and_false, Bool.false_and, Bool.and_true, Bool.true_and, Bool.or_false, Bool.false_or, Bool.or_true, Bool.true_or, bind_some, Int.toNat_natCast, impl_isConfig_1_1_eq hd]
    by_cases e : l.getD k 0 ∈ down
    · simp only [e, decide_true, if_true]
    · simp only [e, decide_false, Bool.false_eq_true, if_false]; rfl
  · simp
  · rw [firstIdx_any, any_mem l 0 (fun y => decide (y ∈ down))]

def GoodH (down : List Int) (h : Home) : Prop := -1 ≤ h.1 ∧ h.1 ≤ 11 ∧ h.1 ∉ down ∧ (∀ b ∈ h.2, b ∉ down) ∧ h.2.length ≤ 11 ∧ Ris h.2 ∧ h.1 ∉ h.2 ∧ (h.1 < 0 → h.2 = [])
structure GoodC (num : Int) (down : List Int) (homes : List Home) : Prop where
  n0 : 1 ≤ num
  n1 : num ≤ 1000000
  d : Ris down
  l0 : 1 ≤ homes.length
  l1 : homes.length ≤ 8
  h : ∀ h ∈ homes, GoodH down h

open Classical in
theorem impl_isConfig_1_eq {down : List Int} (hd : down.length ≤ 1000000000) (x : Home) (hx : x.2.length ≤ 1000000000) (num : Int) (homes : List Home) : impl_isConfig_1 x.1 x.2 num down homes = some (!decide (GoodH down x)) := by
  obtain ⟨pr, ba⟩ := x
  unfold impl_isConfig_1
  simp -zeta only [if_someB, bind_some, if_t, if_f, if_t', if_f', or_ng, or_ng', nor_g, and_g, Bool.not_not, List.nil_append, impl_in_eq, slices_Contains_int_eq hd, slices_Contains_int_eq hx, slices_ContainsFunc_int_eq hx hd, impl_areRising_eq hx]
  dsimp only
  congr 1
  rw [Bool.eq_iff_iff]
  simp only [Bool.or_eq_true, Bool.not_eq_true', Bool.and_eq_true, Bool.and_eq_false_iff, decide_eq_true_eq, decide_eq_false_iff_not, List.any_eq_true]
  simp only [GoodH]
  have hl : (0 < (ba.length : Int)) ↔ ba ≠ [] := by
    rw [← List.length_pos_iff]; omega
  rw [hl]
  constructor
  · rintro h ⟨a1, a2, a3, a4, a5, a6, a7, a8⟩
    rcases h with (((((h | h) | ⟨b, hb, hbd⟩) | h) | h) | h) | ⟨h1, h2⟩
    · omega
    · exact a3 h.2
    · exact a4 b hb hbd
    · omega
    · exact h a6
    · exact a7 h
    · exact h2 (a8 h1)
  · intro h
    refine Classical.byContradiction fun hc => h ?_
    simp only [not_or, not_and, Classical.not_not, not_exists] at hc
    obtain ⟨⟨⟨⟨⟨⟨c1, c2⟩, c3⟩, c4⟩, c5⟩, c6⟩, c7⟩ := hc
    refine ⟨by omega, by omega, fun hm => c2 ⟨by omega, by omega⟩ hm, fun b hb => c3 b hb, by omega, c5, c6, fun hn => ?_⟩
    exact Classical.byContradiction fun hne => hne (c7 hn)
open Classical in
theorem impl_isConfig_eq {num : Int} {down : List Int} {homes : List Home} (hd : down.length ≤ 1000000000) (hh : ∀ x ∈ homes, x.2.length ≤ 1000000000) : impl_isConfig num down homes = some (decide (GoodC num down homes)) := by
  unfold impl_isConfig
  simp -zeta only [if_someB, bind_some, if_t, if_f, if_t', if_f', or_ng, or_ng', nor_g, and_g, Bool.not_not, List.nil_append, impl_in_eq, impl_areRising_eq hd]
  by_cases H : 1 ≤ num ∧ num ≤ 1000000 ∧ Ris down ∧ 1 ≤ (homes.length : Int) ∧ (homes.length : Int) ≤ 8
  · obtain ⟨h1, h2, h3, h4, h5⟩ := H
    simp only [h1, h2, h3, h4, h5, decide_true, Bool.and_self, Bool.not_true, Bool.or_self, Bool.false_eq_true, if_false]
    unfold slices_ContainsFunc__impl_Home_impl_Home slices_IndexFunc__impl_Home_impl_Home
    refine bind_of (bind_of (bind_of (loop_index (fun k : Nat => (k : Int)) homes.length (fun k => !decide (GoodH down (homes.getD k (0, [])))) rfl ?_ ?_) (firstR_out _ _)) rfl) ?_
    · intro k hk
      have hk1 : (k : Int) < homes.length := by omega
      simp (disch := omega) only [decide_true, decide_false, i64_of, chk_and, chk_dec, chk_true, dec_t, dec_f, if_true, if_false, Bool.false_eq_true, Bool.not_true, Bool.not_false, Bool.and_self, Bool.and_false, Bool.false_and, Bool.and_true, Bool.true_and, Bool.or_false, Bool.false_or, Bool.or_true, Bool.true_or, bind_some, Int.toNat_natCast, impl_isConfig_1_eq hd _ (hh _ (getD_mem hk (0, [])))]
      by_cases e : GoodH down (homes.getD k (0, []))
      · simp only [e, decide_true, Bool.not_true, Bool.false_eq_true, if_false]; rfl
      · simp only [e, decide_false, Bool.not_false, if_true]
    · simp
    · rw [firstIdx_any, any_mem homes (0, []) (fun x => !decide (GoodH down x))]
      congr 1
      rw [Bool.eq_iff_iff]
      simp only [Bool.not_eq_true', List.any_eq_false, Bool.not_eq_true', Bool.not_eq_false, decide_eq_true_eq]
      constructor
      · intro h
        exact ⟨h1, h2, h3, by omega, by omega, fun x hx => by simpa using h x hx⟩
      · intro h x hx
        simpa using h.h x hx
  · rw [if_pos]
    · rw [decide_eq_false fun h : GoodC num down homes => H ⟨h.n0, h.n1, h.d, by have := h.l0; omega, by have := h.l1; omega⟩]
    · refine yes_of fun hf => H ?_
      simp only [Bool.or_eq_false_iff, Bool.not_eq_false', Bool.and_eq_true, decide_eq_true_eq] at hf
      obtain ⟨⟨⟨f1, f2⟩, f3⟩, f4, f5⟩ := hf
      exact ⟨f1, f2, f3, f4, f5⟩

open Classical in
theorem spec_GoodConfig_eq {num : Int} {down : List Int} {homes : List Home} (hd : down.length ≤ 1000000000) (hh : ∀ x ∈ homes, x.2.length ≤ 1000000000) : spec_GoodConfig num down homes = some (decide (GoodC num down homes)) := by
  unfold spec_GoodConfig
  simp -zeta only [if_someB, bind_some, if_t, if_f, if_t', if_f', or_ng, or_ng', nor_g, and_g, Bool.not_not, List.nil_append, spec_l1In_eq, spec_l16Rising_eq hd]
  by_cases H : 1 ≤ num ∧ num ≤ 1000000 ∧ Ris down ∧ 1 ≤ (homes.length : Int) ∧ (homes.length : Int) ≤ 8
  · obtain ⟨h1, h2, h3, h4, h5⟩ := H
    have hdl := h3.len
    have hdl' : (down.length : Int) ≤ 12 := by omega
    simp only [h1, h2, h3, h4, h5, hdl', decide_true, Bool.and_self, Bool.not_true, Bool.or_self, Bool.false_eq_true, if_false]
    refine bind_of (loop_any (fun k : Nat => (k : Int)) homes.length (fun k => !decide (GoodH down (homes.getD k (0, [])))) (.inr false) (.inl ()) ?_ ?_) ?_
    · intro k hk
      have hk1 : (k : Int) < homes.length := by omega
      have hb := hh _ (getD_mem hk (0, []))
      simp (disch := omega) only [decide_true, decide_false, i64_of, chk_and, chk_dec, chk_true, dec_t, dec_f, if_true, if_false, Bool.false_eq_true, Bool.not_true, Bool.not_false, Bool.and_self, Bool.and_false, Bool.false_and, Bool.and_true, Bool.true_and, Bool.or_false, Bool.false_or, Bool.or_true, Bool.true_or, bind_some, Int.toNat_natCast]
      obtain ⟨pr, ba, hx⟩ : ∃ pr ba, homes.getD k (0, []) = (pr, ba) := ⟨_, _, rfl⟩
      simp only [hx] at hb ⊢
      simp only [spec_l16Rising_eq hb, spec_l1Has_eq hb, spec_l1Has_eq hd, if_someB, bind_some, if_t, if_f, or_ng, or_ng', Bool.not_not]
      by_cases G : -1 ≤ pr ∧ pr ≤ 11 ∧ pr ∉ down ∧ ba.length ≤ 11 ∧ Ris ba ∧ pr ∉ ba ∧ (pr < 0 → ba = [])
      · obtain ⟨g1, g2, g3, g4, g5, g6, g7⟩ := G
        have g4' : (ba.length : Int) ≤ 11 := by omega
        have g8 : (decide (pr = -1) && decide (0 < (ba.length : Int))) = false := by
          by_cases hp : pr = -1
          · rw [g7 (by omega)]; simp
          · simp [hp]
        simp only [g1, g2, g3, g4', g5, g6, g8, decide_true, decide_false, Bool.and_self, Bool.not_true, Bool.or_self, Bool.false_eq_true, if_false]
        refine bind_of (loop_any (fun q : Nat => (ba, (q : Int))) ba.length (fun q => decide (ba.getD q 0 ∈ down)) (.inr false) (.inl ()) ?_ ?_) ?_
        · intro q hq
          have hq1 : (q : Int) < ba.length := by omega
          simp (disch := omega) only [decide_true, decide_false, i64_of, chk_and, chk_dec, chk_true, dec_t, dec_f, if_true, if_false, Bool.false_eq_true, Bool.not_true, Bool.not_false, Bool.and_self, Bool.and_false, Bool.false_and, Bool.and_true, Bool.true_and, Bool.or_false, Bool.false_or, Bool.or_true, Bool.true_or, bind_some, Int.toNat_natCast, spec_l1Has_eq hd]
          rw [if_some]; rfl
        · simp
        · have : ((List.range ba.length).any fun q => decide (ba.getD q 0 ∈ down)) = !decide (GoodH down (pr, ba)) := by
            rw [any_mem ba 0 (fun y => decide (y ∈ down)), Bool.eq_iff_iff]
            simp only [List.any_eq_true, decide_eq_true_eq, Bool.not_eq_true', decide_eq_false_iff_not]
            constructor
            · rintro ⟨y, hy, hyd⟩ hg
              exact hg.2.2.2.1 y hy hyd
            · intro hn
              refine Classical.byContradiction fun hc => hn ⟨g1, g2, g3, fun b hb hbd => hc ⟨b, hb, hbd⟩, g4, g5, g6, g7⟩
          rw [this]
          by_cases hg : GoodH down (pr, ba)
          · simp only [hg, decide_true, Bool.not_true, Bool.false_eq_true, if_false, sumE_inl]; rfl
          · simp only [hg, decide_false, Bool.not_false, if_true, sumE_inr]
      · have hg : ¬ GoodH down (pr, ba) := fun h => G ⟨h.1, h.2.1, h.2.2.1, h.2.2.2.2.1, h.2.2.2.2.2.1, h.2.2.2.2.2.2.1, h.2.2.2.2.2.2.2⟩
        simp only [hg, decide_false, Bool.not_false, if_true]
        rw [if_pos]
        refine yes_of fun hf => G ?_
        simp only [Bool.or_eq_false_iff, Bool.not_eq_false', Bool.and_eq_true, Bool.and_eq_false_iff, decide_eq_true_eq, decide_eq_false_iff_not] at hf
        obtain ⟨⟨⟨⟨f1, f2⟩, f3⟩, f4⟩, f5⟩ := hf
        refine ⟨f1.1, f1.2, f4, by omega, f2.2.1, f3, fun hp => ?_⟩
        rcases f5 with f5 | f5
        · omega
        · exact List.eq_nil_of_length_eq_zero (by omega)
    · simp
    · have : ((List.range homes.length).any fun k => !decide (GoodH down (homes.getD k (0, [])))) = !decide (GoodC num down homes) := by
        rw [any_mem homes (0, []) (fun x => !decide (GoodH down x)), Bool.eq_iff_iff]
        simp only [List.any_eq_true, Bool.not_eq_true', decide_eq_false_iff_not]
        constructor
        · rintro ⟨x, hx, hn⟩ hg; exact hn (hg.h x hx)
        · intro hn
          refine Classical.byContradiction fun hc => hn ⟨h1, h2, h3, by omega, by omega, fun x hx => Classical.byContradiction fun hne => hc ⟨x, hx, hne⟩⟩
      rw [this]
      by_cases g : GoodC num down homes <;> simp [g]
  · rw [if_pos]
    · rw [decide_eq_false fun h : GoodC num down homes => H ⟨h.n0, h.n1, h.d, by have := h.l0; omega, by have := h.l1; omega⟩]
    · refine yes_of fun hf => H ?_
      simp only [Bool.or_eq_false_iff, Bool.not_eq_false', Bool.and_eq_true, decide_eq_true_eq] at hf
      obtain ⟨⟨⟨f1, f2⟩, f3, _⟩, f4, f5⟩ := hf
      exact ⟨f1, f2, f3, f4, f5⟩

def loadN (homes : List Home) (n : Int) : Int := (homes.countP fun h => decide (h.1 = n) : Nat)
theorem spec_l16Load_eq {homes : List Home} (h : homes.length ≤ 1000000000) (num : Int) (down : List Int) (n : Int) : spec_l16Load num down homes n = some (loadN homes n) := by
  unfold spec_l16Load
  refine bind_of (bind_of (loop_steps' (fun k : Nat => (loadN (homes.take k) n, (k : Int))) homes.length (loadN homes n) (by simp [loadN]) ?_ ?_) (by exact rfl)) (by exact rfl)
  · intro k hk
    have hk1 : (k : Int) < homes.length := by omega
    have hc : (homes.take k).countP (fun h => decide (h.1 = n)) ≤ k := Nat.le_trans List.countP_le_length (by simp; omega)
    have e : loadN (homes.take (k + 1)) n = loadN (homes.take k) n + if (homes.getD k (0, [])).1 = n then 1 else 0 := by
      unfold loadN
      rw [take_snoc homes (0, []) hk, List.countP_append, List.countP_singleton]
      by_cases hp : (homes.getD k (0, [])).1 = n
      · simp only [hp, decide_true, if_true, Int.natCast_add]; rfl
      · simp only [hp, decide_false, Bool.false_eq_true, if_false, Nat.add_zero, Int.add_zero]
    have hb : 0 ≤ loadN (homes.take k) n ∧ loadN (homes.take k) n ≤ k := by unfold loadN; omega
    simp (disch := omega) only [decide_true, decide_false, i64_of, chk_and, chk_dec, chk_true, dec_t, dec_f, if_true, if_false, Bool.false_eq_true, Bool.not_true, Bool.not_false, Bool.and_self, Bool.and_false, Bool.false_and, Bool.and_true, Bool.true_and, Bool.or_false, Bool.false_or, Bool.or_true, Bool.true_or, bind_some, Int.toNat_natCast, e]
    by_cases hp : (homes.getD k (0, [])).1 = n
    · simp only [hp, decide_true, if_true, bind_some]; rfl
    · simp only [hp, decide_false, Bool.false_eq_true, if_false, bind_some, Int.add_zero]; rfl
  · simp
theorem impl_Config_load_eq {homes : List Home} (h : homes.length ≤ 1000000000) (num : Int) (down : List Int) (n : Int) : impl_Config_load num down homes n = some (loadN homes n) := spec_l16Load_eq h num down n
theorem load_loop {homes : List Home} {f : Int → Option Int} (hf : ∀ n, f n = some (loadN homes n)) :
    (loopM (σ := (List Int) × Int) (X := List Int) (fun s2 =>
      (if (decide (s2.2 < (((List.replicate 12 (0 : Int)).length : Nat) : Int))) then
        (((f s2.2).bind fun r3 =>
          chk ((decide ((0 : Int) ≤ s2.2)) && (decide (s2.2 < ((s2.1.length : Nat) : Int)))) <|
          some (s2.1.set (Int.toNat s2.2) r3) : Option (List Int)).bind fun s5 =>
          some (.inl (s5, (i64 (s2.2 + (1 : Int))))))
      else some (.inr s2.1))) (List.replicate 12 (0 : Int), (0 : Int))) = some (seqL (loadN homes) 0 12) := by
  refine loop_steps' (fun k : Nat => ((seqL (loadN homes) 0 12).take k ++ (List.replicate 12 (0 : Int)).drop k, (k : Int))) 12 _ (by simp) ?_ ?_
  · intro k hk
    have hs := seqL_length (loadN homes) 0 12
    have hr : (List.replicate 12 (0 : Int)).length = (seqL (loadN homes) 0 12).length := by rw [hs]; simp
    have e := set_take' (seqL (loadN homes) 0 12) (List.replicate 12 (0 : Int)) 0 k hr (by rw [hs]; exact hk)
    rw [seqL_getD _ _ hk, Int.zero_add] at e
    have hk1 : (k : Int) < 12 := by omega
    simp (disch := omega) only [decide_true, decide_false, i64_of, chk_and, chk_dec, chk_true, dec_t, dec_f, if_true, if_false, Bool.false_eq_true, Bool.not_true, Bool.not_false, Bool.and_self, Bool.and_false, Bool.false_and, Bool.and_true, Bool.true_and, Bool.or_false, Bool.false_or, Bool.or_true, Bool.true_or, bind_some, Int.toNat_natCast, hf, take_drop_length hr, hs, e, List.length_replicate, Int.reduceToNat, Int.cast_ofNat_Int]
    rfl
  · have hs := seqL_length (loadN homes) 0 12
    simp [List.take_of_length_le, hs]
open Classical in
theorem spec_LoadOf_eq {num : Int} {down : List Int} {homes : List Home} (hd : down.length ≤ 1000000000) (hh : ∀ x ∈ homes, x.2.length ≤ 1000000000) : spec_LoadOf num down homes = some (if GoodC num down homes then (seqL (loadN homes) 0 12, true) else ([], false)) := by
  unfold spec_LoadOf
  rw [spec_GoodConfig_eq hd hh]
  by_cases g : GoodC num down homes
  · have hl : homes.length ≤ 1000000000 := by have := g.l1; omega
    simp only [g, decide_true, bind_some, Bool.not_true, Bool.false_eq_true, if_false, if_true]
    rw [chk_pos (by decide)]
    exact bind_of (bind_of (load_loop (f := fun n => spec_l16Load num down homes n) (spec_l16Load_eq hl num down)) rfl) rfl
  · simp [g]
open Classical in
theorem impl_LoadOf_eq {num : Int} {down : List Int} {homes : List Home} (hd : down.length ≤ 1000000000) (hh : ∀ x ∈ homes, x.2.length ≤ 1000000000) : impl_LoadOf num down homes = some (if GoodC num down homes then (seqL (loadN homes) 0 12, true) else ([], false)) := by
  unfold impl_LoadOf
  rw [impl_isConfig_eq hd hh]
  by_cases g : GoodC num down homes
  · have hl : homes.length ≤ 1000000000 := by have := g.l1; omega
    simp only [g, decide_true, bind_some, Bool.not_true, Bool.false_eq_true, if_false, if_true]
    rw [chk_pos (by decide)]
    exact bind_of (bind_of (load_loop (f := fun n => impl_Config_load num down homes n) (impl_Config_load_eq hl num down)) rfl) rfl
  · simp [g]

/-! ### The statement's helpers -/
theorem laws_szIntS_eq {a : List Int} {m : Int} (h : a.length ≤ 9223372036854775807) (h0 : 0 ≤ m) (h1 : m ≤ 1048576) : laws_szIntS a m = some (if (a.length : Int) ≤ m then m - (a.length : Int) else -1) := by
  unfold laws_szIntS
  simp (disch := omega) only [decide_true, decide_false, i64_of, chk_and, chk_dec, chk_true, dec_t, dec_f, if_true, if_false, Bool.false_eq_true, Bool.not_true, Bool.not_false, Bool.and_self, Bool.and_false, Bool.false_and, Bool.and_true, Bool.true_and, Bool.or_false, Bool.false_or, Bool.or_true, Bool.true_or, bind_some, Int.toNat_natCast]
  by_cases e : (a.length : Int) ≤ m
  · have : ¬ (m - (a.length : Int) < 0) := by omega
    simp (disch := omega) only [decide_true, decide_false, i64_of, chk_and, chk_dec, chk_true, dec_t, dec_f, if_true, if_false, Bool.false_eq_true, Bool.not_true, Bool.not_false, Bool.and_self, Bool.and_false, Bool.false_and, Bool.and_true, Bool.true_and, Bool.or_false, Bool.false_or, Bool.or_true, Bool.true_or, bind_some, Int.toNat_natCast, e]
  · have : m - (a.length : Int) < 0 := by omega
    simp (disch := omega) only [decide_true, decide_false, i64_of, chk_and, chk_dec, chk_true, dec_t, dec_f, if_true, if_false, Bool.false_eq_true, Bool.not_true, Bool.not_false, Bool.and_self, Bool.and_false, Bool.false_and, Bool.and_true, Bool.true_and, Bool.or_false, Bool.false_or, Bool.or_true, Bool.true_or, bind_some, Int.toNat_natCast, e]
theorem laws_toIntS_eq {a : List Int} (h : a.length ≤ 1000000000) : laws_toIntS a = some a := by
  unfold laws_toIntS
  simp (disch := omega) only [decide_true, decide_false, i64_of, chk_and, chk_dec, chk_true, dec_t, dec_f, if_true, if_false, Bool.false_eq_true, Bool.not_true, Bool.not_false, Bool.and_self, Bool.and_false, Bool.false_and, Bool.and_true, Bool.true_and, Bool.or_false, Bool.false_or, Bool.or_true, Bool.true_or, bind_some, Int.toNat_natCast]
  refine bind_of (bind_of (loop_steps (fun k : Nat => (a.take k ++ (List.replicate a.length 0).drop k, (k : Int))) a.length a ?_ ?_) rfl) rfl
  · intro k hk
    have hk1 : (k : Int) < a.length := by omega
    have hs : (List.replicate a.length (0 : Int)).length = a.length := by simp
    have e := set_take' a (List.replicate a.length 0) 0 k hs hk
    simp (disch := omega) only [decide_true, decide_false, i64_of, chk_and, chk_dec, chk_true, dec_t, dec_f, if_true, if_false, Bool.false_eq_true, Bool.not_true, Bool.not_false, Bool.and_self, Bool.and_false, Bool.false_and, Bool.and_true, Bool.true_and, Bool.or_false, Bool.false_or, Bool.or_true, Bool.true_or, bind_some, Int.toNat_natCast, take_drop_length hs, e]
    simp
  · simp
/-- Sizes that the statement lets in. -/
def SzC (down : List Int) (homes : List Home) : Prop := down.length ≤ 1048576 ∧ homes.length ≤ 1048576 ∧ ∀ x ∈ homes, x.2.length ≤ 1048576
theorem laws_szHomeS_ok {a : List Home} {m : Int} (h : a.length ≤ 9223372036854775807) (hh : ∀ x ∈ a, x.2.length ≤ 9223372036854775807) (h0 : 0 ≤ m) (h1 : m ≤ 1048576) :
    Ok (laws_szHomeS a m) (fun r => 0 ≤ r → a.length ≤ 1048576 ∧ ∀ x ∈ a, x.2.length ≤ 1048576) := by
  unfold laws_szHomeS
  simp (disch := omega) only [decide_true, decide_false, i64_of, chk_and, chk_dec, chk_true, dec_t, dec_f, if_true, if_false, Bool.false_eq_true, Bool.not_true, Bool.not_false, Bool.and_self, Bool.and_false, Bool.false_and, Bool.and_true, Bool.true_and, Bool.or_false, Bool.false_or, Bool.or_true, Bool.true_or, bind_some, Int.toNat_natCast]
  by_cases e : m - (a.length : Int) < 0
  · simp (disch := omega) only [decide_true, decide_false, i64_of, chk_and, chk_dec, chk_true, dec_t, dec_f, if_true, if_false, Bool.false_eq_true, Bool.not_true, Bool.not_false, Bool.and_self, Bool.and_false, Bool.false_and, Bool.and_true, Bool.true_and, Bool.or_false, Bool.false_or, Bool.or_true, Bool.true_or, bind_some, Int.toNat_natCast, e]
    exact Ok.ret (by omega)
  · simp (disch := omega) only [decide_true, decide_false, i64_of, chk_and, chk_dec, chk_true, dec_t, dec_f, if_true, if_false, Bool.false_eq_true, Bool.not_true, Bool.not_false, Bool.and_self, Bool.and_false, Bool.false_and, Bool.and_true, Bool.true_and, Bool.or_false, Bool.false_or, Bool.or_true, Bool.true_or, bind_some, Int.toNat_natCast, e]
    have hl : a.length ≤ 1048576 := by omega
    refine Ok.bind (P := fun x => match x with
      | .inl y => ∀ x ∈ a, x.2.length ≤ 1048576
      | .inr z => z = -1) (loop_ok (fun s => 0 ≤ s.1 ∧ s.1 ≤ 1048576 ∧ 0 ≤ s.2 ∧ s.2 ≤ (a.length : Int) ∧ ∀ k : Nat, (k : Int) < s.2 → (a.getD k (0, [])).2.length ≤ 1048576) (fun s => (a.length - s.2.toNat)) ?_ ?_) ?_
    · rintro ⟨r, i⟩ ⟨q1, q2, q3, q4, q5⟩
      dsimp only at q1 q2 q3 q4 q5 ⊢
      by_cases hi : i < a.length
      · have hg := hh _ (getD_mem (show i.toNat < a.length by omega) (0, []))
        simp (disch := omega) only [decide_true, decide_false, i64_of, chk_and, chk_dec, chk_true, dec_t, dec_f, if_true, if_false, Bool.false_eq_true, Bool.not_true, Bool.not_false, Bool.and_self, Bool.and_false, Bool.false_and, Bool.and_true, Bool.true_and, Bool.or_false, Bool.false_or, Bool.or_true, Bool.true_or, bind_some, Int.toNat_natCast]
        unfold laws_szHome
        rw [laws_szIntS_eq hg q1 q2]
        by_cases hs : ((a.getD i.toNat (0, [])).2.length : Int) ≤ r
        · simp only [hs, if_true, bind_some]
          simp (disch := omega) only [decide_true, decide_false, i64_of, chk_and, chk_dec, chk_true, dec_t, dec_f, if_true, if_false, Bool.false_eq_true, Bool.not_true, Bool.not_false, Bool.and_self, Bool.and_false, Bool.false_and, Bool.and_true, Bool.true_and, Bool.or_false, Bool.false_or, Bool.or_true, Bool.true_or, bind_some, Int.toNat_natCast]
          refine Ok.ret ⟨⟨by omega, by omega, by omega, by omega, fun k hk => ?_⟩, by omega⟩
          by_cases hki : (k : Int) < i
          · exact q5 k hki
          · have : k = i.toNat := by omega
            rw [this]; omega
        · simp only [hs, if_false, bind_some]
          exact Ok.ret rfl
      · simp (disch := omega) only [decide_true, decide_false, i64_of, chk_and, chk_dec, chk_true, dec_t, dec_f, if_true, if_false, Bool.false_eq_true, Bool.not_true, Bool.not_false, Bool.and_self, Bool.and_false, Bool.false_and, Bool.and_true, Bool.true_and, Bool.or_false, Bool.false_or, Bool.or_true, Bool.true_or, bind_some, Int.toNat_natCast]
        refine Ok.ret fun x hx => ?_
        obtain ⟨k, hk, e⟩ := List.getElem_of_mem hx
        have := q5 k (by omega)
        rw [List.getD_eq_getElem?_getD, List.getElem?_eq_getElem hk] at this
        simpa [e] using this
    · dsimp only
      exact ⟨by omega, by omega, by omega, by omega, fun k hk => by omega⟩
    · intro x hx
      cases x with
      | inl y => exact Ok.ret fun _ => ⟨hl, hx⟩
      | inr z => subst hx; exact Ok.ret (by omega)
theorem laws_szConfig_ok {num : Int} {down : List Int} {homes : List Home} (hd : down.length ≤ 9223372036854775807) (h : homes.length ≤ 9223372036854775807) (hh : ∀ x ∈ homes, x.2.length ≤ 9223372036854775807) :
    Ok (laws_szConfig num down homes 1048576) (fun r => 0 ≤ r → SzC down homes) := by
  unfold laws_szConfig
  rw [laws_szIntS_eq hd (by omega) (by omega)]
  by_cases e : (down.length : Int) ≤ 1048576
  · simp only [e, if_true, bind_some]
    simp (disch := omega) only [decide_true, decide_false, i64_of, chk_and, chk_dec, chk_true, dec_t, dec_f, if_true, if_false, Bool.false_eq_true, Bool.not_true, Bool.not_false, Bool.and_self, Bool.and_false, Bool.false_and, Bool.and_true, Bool.true_and, Bool.or_false, Bool.false_or, Bool.or_true, Bool.true_or, bind_some, Int.toNat_natCast]
    refine Ok.bind (laws_szHomeS_ok h hh (by omega) (by omega)) fun r hr => ?_
    refine Ok.ite (fun _ => Ok.ret (by omega)) fun _ => Ok.ret fun h0 => ?_
    obtain ⟨h1, h2⟩ := hr h0
    exact ⟨by omega, h1, h2⟩
  · simp only [e, if_false, bind_some]
    exact Ok.ret (by omega)
theorem laws_toHomeS_eq {a : List Home} (h : a.length ≤ 1000000000) (hh : ∀ x ∈ a, x.2.length ≤ 1000000000) : laws_toHomeS a = some a := by
  unfold laws_toHomeS
  simp (disch := omega) only [decide_true, decide_false, i64_of, chk_and, chk_dec, chk_true, dec_t, dec_f, if_true, if_false, Bool.false_eq_true, Bool.not_true, Bool.not_false, Bool.and_self, Bool.and_false, Bool.false_and, Bool.and_true, Bool.true_and, Bool.or_false, Bool.false_or, Bool.or_true, Bool.true_or, bind_some, Int.toNat_natCast]
  refine bind_of (bind_of (loop_steps (fun k : Nat => (a.take k ++ (List.replicate a.length (0, [])).drop k, (k : Int))) a.length a ?_ ?_) rfl) rfl
  · intro k hk
    have hk1 : (k : Int) < a.length := by omega
    have hs : (List.replicate a.length ((0 : Int), ([] : List Int))).length = a.length := by simp
    have e := set_take' a (List.replicate a.length (0, [])) (0, []) k hs hk
    simp (disch := omega) only [decide_true, decide_false, i64_of, chk_and, chk_dec, chk_true, dec_t, dec_f, if_true, if_false, Bool.false_eq_true, Bool.not_true, Bool.not_false, Bool.and_self, Bool.and_false, Bool.false_and, Bool.and_true, Bool.true_and, Bool.or_false, Bool.false_or, Bool.or_true, Bool.true_or, bind_some, Int.toNat_natCast, laws_toHome, laws_toIntS_eq (hh _ (getD_mem hk (0, []))), take_drop_length hs, e]
    simp
  · simp
theorem laws_toConfig_eq {num : Int} {down : List Int} {homes : List Home} (h : SzC down homes) : laws_toConfig num down homes = some (num, down, homes) := by
  obtain ⟨h1, h2, h3⟩ := h
  unfold laws_toConfig
  rw [laws_toIntS_eq (by omega), laws_toHomeS_eq (by omega) (fun x hx => by have := h3 x hx; omega)]; rfl
theorem laws_eqHomeS_eq {a b : List Home} (h : a.length ≤ 1000000000) (hh : ∀ x ∈ a, x.2.length ≤ 1000000000) : laws_eqHomeS a b = some (decide (a = b)) := by
  unfold laws_eqHomeS
  by_cases hl : a.length = b.length
  · simp (disch := omega) only [decide_true, decide_false, i64_of, chk_and, chk_dec, chk_true, dec_t, dec_f, if_true, if_false, Bool.false_eq_true, Bool.not_true, Bool.not_false, Bool.and_self, Bool.and_false, Bool.false_and, Bool.and_true, Bool.true_and, Bool.or_false, Bool.false_or, Bool.or_true, Bool.true_or, bind_some, Int.toNat_natCast]
    refine bind_of (loop_any (fun k : Nat => (k : Int)) a.length (fun k => !decide (a.getD k (0, []) = b.getD k (0, []))) (.inr false) (.inl ()) ?_ ?_) ?_
    · intro k hk
      have hk1 : (k : Int) < a.length := by omega
      simp (disch := omega) only [decide_true, decide_false, i64_of, chk_and, chk_dec, chk_true, dec_t, dec_f, if_true, if_false, Bool.false_eq_true, Bool.not_true, Bool.not_false, Bool.and_self, Bool.and_false, Bool.false_and, Bool.and_true, Bool.true_and, Bool.or_false, Bool.false_or, Bool.or_true, Bool.true_or, bind_some, Int.toNat_natCast, laws_eqHome, laws_eqIntS_eq (hh _ (getD_mem hk (0, [])))]
      obtain ⟨x1, x2, hx⟩ : ∃ x1 x2, a.getD k (0, []) = (x1, x2) := ⟨_, _, rfl⟩
      obtain ⟨y1, y2, hy⟩ : ∃ x1 x2, b.getD k (0, []) = (x1, x2) := ⟨_, _, rfl⟩
      simp only [hx, hy]
      by_cases e1 : x1 = y1 <;> by_cases e2 : x2 = y2 <;> simp [e1, e2]
    · simp
    · rw [any_ne (0, []) hl]
      by_cases e : a = b <;> simp [e]
  · have : a ≠ b := fun e => hl (by rw [e])
    simp (disch := omega) only [decide_true, decide_false, i64_of, chk_and, chk_dec, chk_true, dec_t, dec_f, if_true, if_false, Bool.false_eq_true, Bool.not_true, Bool.not_false, Bool.and_self, Bool.and_false, Bool.false_and, Bool.and_true, Bool.true_and, Bool.or_false, Bool.false_or, Bool.or_true, Bool.true_or, bind_some, Int.toNat_natCast]
theorem laws_eqConfig_self {num : Int} {down : List Int} {homes : List Home} (h : SzC down homes) : laws_eqConfig num down homes num down homes = some true := by
  obtain ⟨h1, h2, h3⟩ := h
  unfold laws_eqConfig
  rw [laws_eqIntS_eq (by omega), laws_eqHomeS_eq (by omega) (fun x hx => by have := h3 x hx; omega)]
  simp
theorem laws_markHomeS_ok {a : List Home} {m : Int} (h : a.length ≤ 1048576) (hh : ∀ x ∈ a, x.2.length ≤ 1048576) (h0 : 0 ≤ m) (h1 : m ≤ 1048577) : Ok (laws_markHomeS a m) (fun r => 0 ≤ r.2) := by
  unfold laws_markHomeS
  refine Ok.bind (P := fun r => 0 ≤ r.2) (Ok.bind (P := fun r => 0 ≤ r.2) (loop_ok (fun s => 0 ≤ s.2.2 ∧ s.2.2 ≤ (a.length : Int) ∧ s.1.length = a.length ∧ 0 ≤ s.2.1 ∧ s.2.1 ≤ m + 1048577 * s.2.2 ∧ ∀ x ∈ s.1, x.2.length ≤ 1048576) (fun s => a.length - s.2.2.toNat) ?_ ?_) fun x hx => Ok.ret hx) fun x hx => Ok.ret hx
  · rintro ⟨l, c, i⟩ ⟨q1, q2, q3, q4, q5, q6⟩
    dsimp only at q1 q2 q3 q4 q5 q6 ⊢
    by_cases hi : i < a.length
    · have hg := q6 _ (getD_mem (show i.toNat < l.length by omega) (0, []))
      have hil : i.toNat < l.length := by omega
      simp (disch := omega) only [decide_true, decide_false, i64_of, chk_and, chk_dec, chk_true, dec_t, dec_f, if_true, if_false, Bool.false_eq_true, Bool.not_true, Bool.not_false, Bool.and_self, Bool.and_false, Bool.false_and, Bool.and_true, Bool.true_and, Bool.or_false, Bool.false_or, Bool.or_true, Bool.true_or, bind_some, Int.toNat_natCast, q3, List.length_set, getD_set_eq, List.set_set]
      rw [laws_markIntS_eq (by omega) (by omega) (by omega)]
      simp (disch := omega) only [decide_true, decide_false, i64_of, chk_and, chk_dec, chk_true, dec_t, dec_f, if_true, if_false, Bool.false_eq_true, Bool.not_true, Bool.not_false, Bool.and_self, Bool.and_false, Bool.false_and, Bool.and_true, Bool.true_and, Bool.or_false, Bool.false_or, Bool.or_true, Bool.true_or, bind_some, Int.toNat_natCast]
      refine Ok.ret ?_
      dsimp only
      refine ⟨⟨by omega, by omega, by simpa using q3, by omega, by omega, fun x hx => ?_⟩, by omega⟩
      rcases List.mem_or_eq_of_mem_set hx with hx | hx
      · exact q6 x hx
      · rw [hx]; simpa [seqL_length] using hg
    · have : ¬ i < (l.length : Int) := by omega
      simp (disch := omega) only [decide_true, decide_false, i64_of, chk_and, chk_dec, chk_true, dec_t, dec_f, if_true, if_false, Bool.false_eq_true, Bool.not_true, Bool.not_false, Bool.and_self, Bool.and_false, Bool.false_and, Bool.and_true, Bool.true_and, Bool.or_false, Bool.false_or, Bool.or_true, Bool.true_or, bind_some, Int.toNat_natCast]
      exact Ok.ret q4
  · dsimp only
    exact ⟨by omega, by omega, rfl, by omega, by omega, hh⟩
theorem laws_markConfig_ok {num : Int} {down : List Int} {homes : List Home} (h : SzC down homes) : Ok (laws_markConfig num down homes 1) (fun r => 0 ≤ r.2.2) := by
  obtain ⟨h1, h2, h3⟩ := h
  unfold laws_markConfig
  rw [laws_markIntS_eq (by omega) (by omega) (by omega)]
  simp only [bind_some]
  exact Ok.bind (laws_markHomeS_ok h2 h3 (by omega) (by omega)) fun r hr => Ok.ret hr

theorem laws_FnExactLoadOf_ok {num : Int} {down : List Int} {homes : List Home} (hd : down.length ≤ 9223372036854775807) (h : homes.length ≤ 9223372036854775807) (hh : ∀ x ∈ homes, x.2.length ≤ 9223372036854775807) :
    laws_FnExactLoadOf num down homes = some true := by
  classical
  apply Ok.of_eq
  unfold laws_FnExactLoadOf
  refine Ok.bind (laws_szConfig_ok hd h hh) fun r0 hr0 => ?_
  refine Ok.ite (fun _ => Ok.ret rfl) fun hc => ?_
  have hs : SzC down homes := hr0 (by simpa using hc)
  have s1 : down.length ≤ 1000000000 := by have := hs.1; omega
  have s3 : ∀ x ∈ homes, x.2.length ≤ 1000000000 := fun x hx => by have := hs.2.2 x hx; omega
  simp only [laws_toConfig_eq hs, bind_some, spec_LoadOf_eq s1 s3, impl_LoadOf_eq s1 s3, laws_eqConfig_self hs]
  obtain ⟨l, ok, hR, hl⟩ : ∃ (l : List Int) (ok : Bool), (if GoodC num down homes then (seqL (loadN homes) 0 12, true) else ([], false)) = (l, ok) ∧ l.length ≤ 1000 := by
    by_cases g : GoodC num down homes
    · exact ⟨_, _, by rw [if_pos g], by rw [seqL_length]; omega⟩
    · exact ⟨_, _, by rw [if_neg g], by simp⟩
  rw [hR]
  have hl' : l.length ≤ 1000000000 := by omega
  simp only [laws_eqIntS_eq hl', bind_some, decide_true, Bool.not_true, bne_self_eq_false, Bool.false_eq_true, if_false]
  refine Ok.bind (laws_markConfig_ok hs) fun r9 hr9 => ?_
  have h9 : ¬ r9.2.2 < 0 := by omega
  simp (disch := omega) only [h9, decide_false, Bool.not_false, if_true, bind_some, Bool.false_eq_true, if_false, Bool.not_true, laws_markIntS_eq hl', laws_heldIntS_eq, decide_true, dec_f]
  exact Ok.ret rfl
end Sh
