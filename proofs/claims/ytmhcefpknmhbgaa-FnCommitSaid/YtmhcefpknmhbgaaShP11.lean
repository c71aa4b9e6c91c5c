/- Sh: leases (l11). -/
import Derived.Test.YtmhcefpknmhbgaaShLib
import Derived.Test.YtmhcefpknmhbgaaShPx
set_option linter.unusedVariables false
set_option linter.unusedSimpArgs false
namespace Sh
open Go

theorem impl_in_eq (n a b : Int) : impl_in n a b = some (decide (a ≤ n) && decide (n ≤ b)) := by
  unfold impl_in
  simp only [if_f]
theorem spec_l1In_eq (n a b : Int) : spec_l1In n a b = some (decide (a ≤ n) && decide (n ≤ b)) := by
  unfold spec_l1In
  simp only [if_f]
theorem spec_l8Nodes_eq (n : Int) : spec_l8Nodes n = some (decide (1 ≤ n) && decide (n ≤ 12)) := by
  unfold spec_l8Nodes
  simp only [spec_l1In_eq, bind_some]

structure LeaseS where
  skew : Int
  now : Int
  clocks : List Int
  holder : Int
  till : Int
  known : List Int
def LeaseS.cell (x : LeaseS) (k : Nat) : Prop :=
  0 ≤ x.clocks.getD k 0 ∧ x.now - x.skew ≤ x.clocks.getD k 0 ∧ x.clocks.getD k 0 ≤ x.now + x.skew ∧ 0 ≤ x.known.getD k 0 ∧ x.known.getD k 0 ≤ x.till ∧ ((k : Int) ≠ x.holder → x.known.getD k 0 ≤ x.now)
structure LeaseS.head (x : LeaseS) : Prop where
  s0 : 0 ≤ x.skew
  s1 : x.skew ≤ 1000
  n0 : 0 ≤ x.now
  n1 : x.now ≤ 1000000
  l0 : 1 ≤ x.clocks.length
  l1 : x.clocks.length ≤ 12
  h0 : -1 ≤ x.holder
  h1 : x.holder ≤ (x.clocks.length : Int) - 1
  u0 : 0 ≤ x.till
  u1 : x.till ≤ 2000000
  kl : x.known.length = x.clocks.length
structure LeaseS.good (x : LeaseS) : Prop extends LeaseS.head x where
  c : ∀ k, k < x.clocks.length → x.cell k

open Classical in
theorem impl_areLeases_eq (x : LeaseS) : impl_areLeases x.skew x.now x.clocks x.holder x.till x.known = some (decide x.good) := by
  obtain ⟨sk, now, cl, ho, un, kn⟩ := x
  unfold impl_areLeases
  simp -zeta only [impl_in_eq, if_some, bind_some, if_t, if_f, or_ng, and_g, Bool.not_not]
  simp only
  by_cases H : LeaseS.head ⟨sk, now, cl, ho, un, kn⟩
  · have H' := H
    obtain ⟨s0, s1, n0, n1, l0, l1, h0, h1, u0, u1, kl⟩ := H'
    simp only at s0 s1 n0 n1 l0 l1 h0 h1 u0 u1 kl
    simp (disch := omega) only [i64_of]
    rw [if_neg (by simp; omega)]
    refine bind_of (loop_any (fun k : Nat => (k : Int)) cl.length (fun k => !decide (LeaseS.cell ⟨sk, now, cl, ho, un, kn⟩ k)) (.inr false) (.inl ()) ?_ ?_) ?_
    · intro k hk
      have hk1 : (k : Int) < cl.length := by omega
      simp (disch := omega) only [i64_of, hk1, kl, Int.toNat_natCast, decide_true, if_true, chk_true, Bool.and_true, Bool.or_true, decide_eq_true (Int.natCast_nonneg k)]
      rw [if_some]
      refine congrArg some (if_iff ?_ rfl rfl)
      simp [LeaseS.cell]; omega
    · simp
    · have : ((List.range cl.length).any fun k => !decide (LeaseS.cell ⟨sk, now, cl, ho, un, kn⟩ k)) = !decide (LeaseS.good ⟨sk, now, cl, ho, un, kn⟩) := by
        rw [Bool.eq_iff_iff, any_range]
        simp only [Bool.not_eq_true', decide_eq_false_iff_not]
        constructor
        · rintro ⟨k, hk, h⟩ g; exact h (g.c k hk)
        · intro h
          refine Classical.byContradiction fun hn => h ⟨H, fun k hk => Classical.byContradiction fun hc => hn ⟨k, hk, hc⟩⟩
      rw [this]
      by_cases g : LeaseS.good ⟨sk, now, cl, ho, un, kn⟩ <;> simp [g]
  · rw [if_pos]
    · rw [decide_eq_false fun h : LeaseS.good _ => H h.tohead]
    · refine yes_of fun hf => H ?_
      simp at hf
      rw [i64_of (by omega) (by omega)] at hf
      constructor <;> simp only <;> omega
open Classical in
theorem spec_GoodLeases_eq (x : LeaseS) : spec_GoodLeases x.skew x.now x.clocks x.holder x.till x.known = some (decide x.good) := by
  obtain ⟨sk, now, cl, ho, un, kn⟩ := x
  unfold spec_GoodLeases
  simp -zeta only [spec_l1In_eq, spec_l8Nodes_eq, if_some, bind_some, if_t, if_f, or_ng, and_g, Bool.not_not]
  simp only
  by_cases H : LeaseS.head ⟨sk, now, cl, ho, un, kn⟩
  · have H' := H
    obtain ⟨s0, s1, n0, n1, l0, l1, h0, h1, u0, u1, kl⟩ := H'
    simp only at s0 s1 n0 n1 l0 l1 h0 h1 u0 u1 kl
    simp (disch := omega) only [i64_of]
    rw [if_neg (by simp; omega)]
    refine bind_of (loop_any (fun k : Nat => (k : Int)) cl.length (fun k => !decide (LeaseS.cell ⟨sk, now, cl, ho, un, kn⟩ k)) (.inr false) (.inl ()) ?_ ?_) ?_
    · intro k hk
      have hk1 : (k : Int) < cl.length := by omega
      simp (disch := omega) only [i64_of, hk1, kl, Int.toNat_natCast, decide_true, if_true, chk_true, Bool.and_true, Bool.or_true, decide_eq_true (Int.natCast_nonneg k)]
      rw [if_some]
      refine congrArg some (if_iff ?_ rfl rfl)
      simp [LeaseS.cell]; omega
    · simp
    · have : ((List.range cl.length).any fun k => !decide (LeaseS.cell ⟨sk, now, cl, ho, un, kn⟩ k)) = !decide (LeaseS.good ⟨sk, now, cl, ho, un, kn⟩) := by
        rw [Bool.eq_iff_iff, any_range]
        simp only [Bool.not_eq_true', decide_eq_false_iff_not]
        constructor
        · rintro ⟨k, hk, h⟩ g; exact h (g.c k hk)
        · intro h
          refine Classical.byContradiction fun hn => h ⟨H, fun k hk => Classical.byContradiction fun hc => hn ⟨k, hk, hc⟩⟩
      rw [this]
      by_cases g : LeaseS.good ⟨sk, now, cl, ho, un, kn⟩ <;> simp [g]
  · rw [if_pos]
    · rw [decide_eq_false fun h : LeaseS.good _ => H h.tohead]
    · refine yes_of fun hf => H ?_
      simp at hf
      rw [i64_of (by omega) (by omega)] at hf
      constructor <;> simp only <;> omega

def LeaseS.try (x : LeaseS) (k nd n : Int) : Option LeaseS :=
  if k = 3 then (if 1 ≤ n ∧ n ≤ 1000000 then some { x with now := x.now + n } else none)
  else if 0 ≤ nd ∧ nd < x.clocks.length then
    (if k = 1 then (if (1 ≤ n ∧ n ≤ 1000000) ∧ (nd = x.holder ∨ x.till ≤ x.now) then some { x with holder := nd, till := if nd = x.holder then max (x.now + n) x.till else x.now + n } else none)
    else if k = 2 then (if nd = x.holder then some { x with known := x.known.set nd.toNat x.till } else none)
    else if k = 4 then (if -1000 ≤ n ∧ n ≤ 1000000 then some { x with clocks := x.clocks.set nd.toNat (x.clocks.getD nd.toNat 0 + n) } else none)
    else none)
  else none
open Classical in
noncomputable def LeaseS.step (x : LeaseS) (k nd n : Int) : Option LeaseS := match x.try k nd n with
  | some y => if y.good then some y else none
  | none => none
theorem areL (sk now : Int) (cl : List Int) (ho un : Int) (kn : List Int) [Decidable (LeaseS.good ⟨sk, now, cl, ho, un, kn⟩)] : impl_areLeases sk now cl ho un kn = some (decide (LeaseS.good ⟨sk, now, cl, ho, un, kn⟩)) := by
  rw [impl_areLeases_eq ⟨sk, now, cl, ho, un, kn⟩]; congr
theorem goodL (sk now : Int) (cl : List Int) (ho un : Int) (kn : List Int) [Decidable (LeaseS.good ⟨sk, now, cl, ho, un, kn⟩)] : spec_GoodLeases sk now cl ho un kn = some (decide (LeaseS.good ⟨sk, now, cl, ho, un, kn⟩)) := by
  rw [spec_GoodLeases_eq ⟨sk, now, cl, ho, un, kn⟩]; congr
abbrev LeaseT := Int × Int × (List Int) × Int × Int × (List Int)
def LeaseS.tup (x : LeaseS) : LeaseT := (x.skew, x.now, x.clocks, x.holder, x.till, x.known)

theorem LeaseS.good.cellv {x : LeaseS} (h : x.good) {nd : Int} (h0 : 0 ≤ nd) (h1 : nd < x.clocks.length) : 0 ≤ x.clocks.getD nd.toNat 0 ∧ x.clocks.getD nd.toNat 0 ≤ 1001000 := by
  have := h.c nd.toNat (by omega)
  have := h.n1; have := h.s1
  unfold LeaseS.cell at *
  omega
theorem zeroL {A : Type} {p : Prop} [Decidable p] {y : LeaseS} {a b : A} (f : LeaseS → A) (h : a = f y) : (if p then a else b) = (match (if p then some y else none) with
  | some y => f y
  | none => b) := by by_cases hp : p <;> simp [hp, h]
open Classical in
theorem impl_Leases_step_eq {x : LeaseS} (h : x.good) (k nd n : Int) : impl_Leases_step x.skew x.now x.clocks x.holder x.till x.known k nd n =
    some (match x.step k nd n with
      | some y => (y.skew, y.now, y.clocks, y.holder, y.till, y.known, true)
      | none => (0, 0, [], 0, 0, [], false)) := by
  have hc := fun h0 h1 => h.cellv (nd := nd) h0 h1
  obtain ⟨sk, now, cl, ho, un, kn⟩ := x
  obtain ⟨⟨s0, s1, n0, n1, l0, l1, h0, h1, u0, u1, kl⟩, h2⟩ := h
  simp only at s0 s1 n0 n1 l0 l1 h0 h1 u0 u1 kl hc
  have e1 : (cl.length : Int) ≤ 17592186044416 := by omega
  have e2 : (kn.length : Int) ≤ 17592186044416 := by omega
  unfold impl_Leases_step
  simp -zeta only [impl_in_eq, if_some, bind_some, if_t, if_f, or_ng, and_g, Bool.not_not, List.nil_append]
  simp (disch := omega) only [i64_of, chk_dec e1, chk_dec e2, LeaseS.step, LeaseS.try, chk_and]
  by_cases k3 : k = 3
  · subst k3
    by_cases hn : 1 ≤ n ∧ n ≤ 1000000
    · simp (disch := omega) [hn, i64_of, areL]
      by_cases g : LeaseS.good ⟨sk, now + n, cl, ho, un, kn⟩ <;> simp [g]
    · by_cases hn1 : 1 ≤ n <;> by_cases hn2 : n ≤ 1000000 <;> simp [hn1, hn2] <;> omega
  · by_cases hd0 : 0 ≤ nd
    · by_cases hd1 : nd < cl.length
      · have hd2 : nd ≤ cl.length - 1 := by omega
        have hcv := hc hd0 hd1
        by_cases k1 : k = 1
        · subst k1
          by_cases hn : (1 ≤ n ∧ n ≤ 1000000) ∧ (nd = ho ∨ un ≤ now)
          · have hq : ¬ (¬ nd = ho ∧ now < un) := by omega
            by_cases hh : nd = ho
            · subst hh
              simp (disch := omega) [hn, hd0, hd1, hd2, i64_of, areL]
              split <;> rename_i g <;> simp [g]
            · have hu : un ≤ now := by omega
              simp (disch := omega) [hn, hd0, hd1, hd2, i64_of, areL, hh, hu]
              split <;> rename_i g <;> simp [g]
          · by_cases hn1 : 1 ≤ n <;> by_cases hn2 : n ≤ 1000000 <;> by_cases hn3 : nd = ho <;> by_cases hn4 : un ≤ now <;> simp [hn1, hn2, hn3, hn4] <;> omega
        · by_cases k2 : k = 2
          · subst k2
            by_cases hh : nd = ho
            · subst hh
              simp (disch := omega) [hd0, hd1, hd2, i64_of, areL, kl]
              split <;> rename_i g <;> simp [g]
            · simp (disch := omega) [hd0, hd1, hd2, i64_of, areL, kl, hh]
          · by_cases k4 : k = 4
            · subst k4
              by_cases hn : -1000 ≤ n ∧ n ≤ 1000000
              · simp (disch := omega) only [i64_of]
                simp (disch := omega) [hn, hd0, hd1, hd2, areL]
                split <;> rename_i g <;> simp [g]
              · by_cases hn1 : -1000 ≤ n <;> by_cases hn2 : n ≤ 1000000 <;> simp [hn1, hn2] <;> omega
            · simp (disch := omega) [hd0, hd1, hd2, k1, k2, k3, k4]
      · have hd2 : ¬ nd ≤ cl.length - 1 := by omega
        simp (disch := omega) [hd0, hd1, hd2, k3]
    · simp (disch := omega) [hd0, k3]

open Classical in
/-- The reference's step: whether it was done, and what is then there. -/
theorem spec_l11Step_eq {x : LeaseS} (h : x.good) (k nd n : Int) : ∃ r, spec_l11Step x.skew x.now x.clocks x.holder x.till x.known k nd n = some r ∧
    (match x.step k nd n with
      | some y => r = (y.clocks, y.known, y.skew, y.now, y.holder, y.till, true)
      | none => r.2.2.2.2.2.2 = false) := by
  have hc := fun h0 h1 => h.cellv (nd := nd) h0 h1
  obtain ⟨sk, now, cl, ho, un, kn⟩ := x
  obtain ⟨⟨s0, s1, n0, n1, l0, l1, h0, h1, u0, u1, kl⟩, h2⟩ := h
  simp only at s0 s1 n0 n1 l0 l1 h0 h1 u0 u1 kl hc
  unfold spec_l11Step
  simp -zeta only [spec_l1In_eq, if_some, bind_some, if_t, if_f, or_ng, and_g, Bool.not_not, List.nil_append]
  simp (disch := omega) only [i64_of, LeaseS.step, LeaseS.try, chk_and]
  by_cases k3 : k = 3
  · subst k3
    by_cases hn : 1 ≤ n ∧ n ≤ 1000000
    · simp (disch := omega) [hn, i64_of, goodL]
      by_cases g : LeaseS.good ⟨sk, now + n, cl, ho, un, kn⟩ <;> simp [g]
    · by_cases hn1 : 1 ≤ n <;> by_cases hn2 : n ≤ 1000000 <;> simp [hn1, hn2] <;> omega
  · by_cases hd0 : 0 ≤ nd
    · by_cases hd1 : nd < cl.length
      · have hd2 : nd ≤ cl.length - 1 := by omega
        have hcv := hc hd0 hd1
        by_cases k1 : k = 1
        · subst k1
          by_cases hn : (1 ≤ n ∧ n ≤ 1000000) ∧ (nd = ho ∨ un ≤ now)
          · by_cases hh : nd = ho
            · subst hh
              by_cases hm : now + n < un
              · have hm' : max (now + n) un = un := by omega
                simp (disch := omega) [hn, hd0, hd1, hd2, i64_of, goodL, hm, hm']
                by_cases g : LeaseS.good ⟨sk, now, cl, nd, un, kn⟩ <;> simp [g]
              · have hm' : max (now + n) un = now + n := by omega
                simp (disch := omega) [hn, hd0, hd1, hd2, i64_of, goodL, hm, hm']
                by_cases g : LeaseS.good ⟨sk, now, cl, nd, now + n, kn⟩ <;> simp [g]
            · have hu : un ≤ now := by omega
              have hh' : ¬ ho = nd := by omega
              have hu' : ¬ now < un := by omega
              simp (disch := omega) [hn, hd0, hd1, hd2, i64_of, goodL, hh, hh', hu, hu']
              by_cases g : LeaseS.good ⟨sk, now, cl, nd, now + n, kn⟩ <;> simp [g]
          · by_cases hn0 : 1 ≤ n ∧ n ≤ 1000000
            · have hh : ¬ nd = ho := by omega
              have hh' : ¬ ho = nd := by omega
              have hu : ¬ un ≤ now := by omega
              have hu' : now < un := by omega
              simp [hn0, hd0, hd1, hd2, hh, hh', hu, hu']
            · by_cases hn1 : 1 ≤ n <;> by_cases hn2 : n ≤ 1000000 <;> simp [hn1, hn2, hd0, hd1, hd2] <;> omega
        · by_cases k2 : k = 2
          · subst k2
            by_cases hh : nd = ho
            · subst hh
              simp (disch := omega) [hd0, hd1, hd2, i64_of, goodL, kl]
              by_cases g : LeaseS.good ⟨sk, now, cl, nd, un, kn.set nd.toNat un⟩ <;> simp [g]
            · have hh' : ¬ ho = nd := by omega
              simp (disch := omega) [hd0, hd1, hd2, i64_of, goodL, kl, hh, hh']
          · by_cases k4 : k = 4
            · subst k4
              by_cases hn : -1000 ≤ n ∧ n ≤ 1000000
              · simp (disch := omega) only [i64_of]
                simp (disch := omega) [hn, hd0, hd1, hd2, goodL, -List.getD_eq_getElem?_getD]
                by_cases g : LeaseS.good ⟨sk, now, cl.set nd.toNat (cl.getD nd.toNat 0 + n), ho, un, kn⟩ <;> simp [g, -List.getD_eq_getElem?_getD]
              · by_cases hn1 : -1000 ≤ n <;> by_cases hn2 : n ≤ 1000000 <;> simp [hn1, hn2] <;> omega
            · simp (disch := omega) [hd0, hd1, hd2, k1, k2, k3, k4]
      · have hd2 : ¬ nd ≤ cl.length - 1 := by omega
        simp (disch := omega) [hd0, hd1, hd2, k3]
    · simp (disch := omega) [hd0, k3]

def LeaseS.bel (x : LeaseS) : List Int := gath (fun k => decide (x.clocks.getD k 0 + x.skew < x.known.getD k 0)) x.clocks.length
theorem impl_Leases_believers_eq {x : LeaseS} (h : x.good) : impl_Leases_believers x.skew x.now x.clocks x.holder x.till x.known = some x.bel := by
  have hc := fun nd h0 h1 => h.cellv (nd := nd) h0 h1
  obtain ⟨sk, now, cl, ho, un, kn⟩ := x
  obtain ⟨⟨s0, s1, n0, n1, l0, l1, h0, h1, u0, u1, kl⟩, h2⟩ := h
  simp only at s0 s1 n0 n1 l0 l1 h0 h1 u0 u1 kl hc
  unfold impl_Leases_believers LeaseS.bel
  simp only
  refine bind_of (bind_of (loop_steps (fun k : Nat => (gath (fun k => decide (cl.getD k 0 + sk < kn.getD k 0)) k, (k : Int))) cl.length (gath (fun k => decide (cl.getD k 0 + sk < kn.getD k 0)) cl.length) ?_ ?_) rfl) rfl
  · intro k hk
    have hk1 : (k : Int) < cl.length := by omega
    have hcv := hc k (by omega) (by omega)
    have hg := gath_length (fun k => decide (cl.getD k 0 + sk < kn.getD k 0)) k
    simp only [Int.toNat_natCast] at hcv
    simp (disch := omega) only [i64_of, hk1, kl, Int.toNat_natCast, decide_true, if_true, chk_and, chk_dec, gath_succ]
    by_cases g : cl.getD k 0 + sk < kn.getD k 0
    · simp only [g, decide_true, if_true, bind_some]
      rw [chk_dec (by simp only [List.length_append, List.length_cons, List.length_nil]; omega)]
      simp
    · simp only [g, decide_false, bind_some]
      simp
  · simp
theorem spec_l11Believers_eq {x : LeaseS} (h : x.good) : spec_l11Believers x.skew x.now x.clocks x.holder x.till x.known = some x.bel := by
  have hc := fun nd h0 h1 => h.cellv (nd := nd) h0 h1
  obtain ⟨sk, now, cl, ho, un, kn⟩ := x
  obtain ⟨⟨s0, s1, n0, n1, l0, l1, h0, h1, u0, u1, kl⟩, h2⟩ := h
  simp only at s0 s1 n0 n1 l0 l1 h0 h1 u0 u1 kl hc
  unfold spec_l11Believers LeaseS.bel
  simp only
  refine bind_of (bind_of (loop_steps (fun k : Nat => (gath (fun k => decide (cl.getD k 0 + sk < kn.getD k 0)) k, (k : Int))) cl.length (gath (fun k => decide (cl.getD k 0 + sk < kn.getD k 0)) cl.length) ?_ ?_) rfl) rfl
  · intro k hk
    have hk1 : (k : Int) < cl.length := by omega
    have hcv := hc k (by omega) (by omega)
    have hg := gath_length (fun k => decide (cl.getD k 0 + sk < kn.getD k 0)) k
    simp only [Int.toNat_natCast] at hcv
    simp (disch := omega) only [i64_of, hk1, kl, Int.toNat_natCast, decide_true, if_true, chk_and, chk_dec, gath_succ]
    by_cases g : cl.getD k 0 + sk < kn.getD k 0
    · simp only [g, decide_true, if_true, bind_some]
      rw [chk_dec (by simp only [List.length_append, List.length_cons, List.length_nil]; omega)]
      simp
    · simp only [g, decide_false, bind_some]
      simp
  · simp

noncomputable def LeaseS.next (x : LeaseS) (s : Int × Int × Int) : LeaseS := (x.step s.1 s.2.1 s.2.2).getD x
noncomputable def LeaseS.run (x : LeaseS) (l : List (Int × Int × Int)) : LeaseS := l.foldl LeaseS.next x
noncomputable def LeaseS.trace (x : LeaseS) : List (Int × Int × Int) → List Int
  | [] => []
  | s :: l => ((x.next s).bel.length : Int) :: (x.next s).trace l
theorem LeaseS.run_snoc (x : LeaseS) (l : List (Int × Int × Int)) (s : Int × Int × Int) : x.run (l ++ [s]) = (x.run l).next s := by simp [LeaseS.run]
theorem LeaseS.trace_snoc : ∀ (x : LeaseS) (l : List (Int × Int × Int)) (s : Int × Int × Int), x.trace (l ++ [s]) = x.trace l ++ [((x.run (l ++ [s])).bel.length : Int)]
  | x, [], s => rfl
  | x, a :: l, s => by
    simp only [List.cons_append, LeaseS.trace]
    rw [LeaseS.trace_snoc _ l s]; rfl
theorem LeaseS.trace_length : ∀ (x : LeaseS) (l : List (Int × Int × Int)), (x.trace l).length = l.length
  | _, [] => rfl
  | x, s :: l => by simp only [LeaseS.trace, List.length_cons, LeaseS.trace_length _ l]
theorem LeaseS.step_good {x y : LeaseS} {k nd n : Int} (h : x.step k nd n = some y) : y.good := by
  unfold LeaseS.step at h
  split at h
  · split at h
    · cases h; assumption
    · cases h
  · cases h
theorem LeaseS.next_good {x : LeaseS} (h : x.good) (s : Int × Int × Int) : (x.next s).good := by
  unfold LeaseS.next
  cases hs : x.step s.1 s.2.1 s.2.2 with
  | none => exact h
  | some y => exact LeaseS.step_good hs
theorem LeaseS.run_good : ∀ {x : LeaseS} (h : x.good) (l : List (Int × Int × Int)), (x.run l).good
  | _, h, [] => h
  | _, h, s :: l => LeaseS.run_good (LeaseS.next_good h s) l
def newL (nodes skew : Int) : LeaseS := ⟨skew, 0, List.replicate nodes.toNat 0, -1, 0, List.replicate nodes.toNat 0⟩
theorem newL_good {nodes skew : Int} (h1 : 1 ≤ nodes) (h2 : nodes ≤ 12) (h3 : 0 ≤ skew) (h4 : skew ≤ 1000) : (newL nodes skew).good := by
  refine ⟨?_, ?_⟩
  · constructor <;> simp only [newL, List.length_replicate] <;> omega
  · intro k hk
    simp only [newL, List.length_replicate] at hk
    simp only [LeaseS.cell, newL, List.getD_eq_getElem?_getD, List.getElem?_replicate, hk, if_true, Option.getD_some]
    omega
def playOk (nodes skew : Int) (n : Nat) : Prop := 1 ≤ nodes ∧ nodes ≤ 12 ∧ 0 ≤ skew ∧ skew ≤ 1000 ∧ n ≤ 100
instance (nodes skew : Int) (n : Nat) : Decidable (playOk nodes skew n) := by unfold playOk; infer_instance

theorem impl_PlayLeases_eq (nodes skew : Int) (l : List (Int × Int × Int)) : impl_PlayLeases nodes skew l = some (if playOk nodes skew l.length then
    (let y := (newL nodes skew).run l; (y.skew, y.now, y.clocks, y.holder, y.till, y.known, (newL nodes skew).trace l, true)) else (0, 0, [], 0, 0, [], [], false)) := by
  unfold impl_PlayLeases impl_newLeases
  simp -zeta only [if_someB, bind_some, if_t, if_f, if_t', if_f', or_ng, or_ng', nor_g, and_g, Bool.not_not, List.nil_append, impl_in_eq]
  by_cases H : playOk nodes skew l.length
  · have H' := H
    obtain ⟨h1, h2, h3, h4, h5⟩ := H'
    rw [if_pos H]
    have hG := newL_good h1 h2 h3 h4
    simp (disch := omega) only [decide_true, decide_false, i64_of, chk_and, chk_dec, chk_true, dec_t, dec_f, if_true, if_false, Bool.false_eq_true, Bool.not_true, Bool.not_false, Bool.and_self, Bool.and_false, Bool.false_and, Bool.and_true, Bool.true_and, Bool.or_false, Bool.false_or, Bool.or_true, Bool.true_or, bind_some, Int.toNat_natCast]
    refine bind_of (bind_of (loop_steps (fun k : Nat => (let y := (newL nodes skew).run (l.take k); (y.skew, y.now, y.clocks, y.holder, y.till, y.known, (newL nodes skew).trace (l.take k), (k : Int)))) l.length (let y := (newL nodes skew).run l; (y.skew, y.now, y.clocks, y.holder, y.till, y.known, (newL nodes skew).trace l)) ?_ ?_) rfl) rfl
    · intro k hk
      have hk1 : (k : Int) < l.length := by omega
      have hg := LeaseS.run_good hG (l.take k)
      have ht := LeaseS.trace_length (newL nodes skew) (l.take k)
      rw [List.length_take, Nat.min_eq_left (by omega)] at ht
      simp (disch := omega) only [decide_true, decide_false, i64_of, chk_and, chk_dec, chk_true, dec_t, dec_f, if_true, if_false, Bool.false_eq_true, Bool.not_true, Bool.not_false, Bool.and_self, Bool.and_false, Bool.false_and, Bool.and_true, Bool.true_and, Bool.or_false, Bool.false_or, Bool.or_true, Bool.true_or, bind_some, Int.toNat_natCast, take_snoc l (0, 0, 0) hk, LeaseS.run_snoc, LeaseS.trace_snoc]
      generalize (newL nodes skew).run (l.take k) = y at hg ⊢
      generalize l.getD k (0, 0, 0) = s
      rw [impl_Leases_step_eq hg]
      have hn := LeaseS.next_good hg s
      unfold LeaseS.next at hn ⊢
      cases hs : y.step s.1 s.2.1 s.2.2 with
      | none =>
        rw [hs] at hn
        simp only [bind_some, Option.getD_none, Bool.false_eq_true, if_false]
        rw [impl_Leases_believers_eq hg]
        simp only [bind_some]
        rw [chk_dec (by simp only [List.length_append, List.length_cons, List.length_nil]; omega)]
        simp
      | some z =>
        rw [hs] at hn
        simp only [bind_some, Option.getD_some, if_true]
        simp only [Option.getD_some] at hn
        rw [impl_Leases_believers_eq hn]
        simp only [bind_some]
        rw [chk_dec (by simp only [List.length_append, List.length_cons, List.length_nil]; omega)]
        simp
    · simp only [List.take_length]; simp
  · rw [if_neg H]
    unfold playOk at H
    by_cases h1 : 1 ≤ nodes ∧ nodes ≤ 12
    · by_cases h2 : 0 ≤ skew ∧ skew ≤ 1000
      · have h3 : 100 < (l.length : Int) := by omega
        simp (disch := omega) only [decide_true, decide_false, i64_of, chk_and, chk_dec, chk_true, dec_t, dec_f, if_true, if_false, Bool.false_eq_true, Bool.not_true, Bool.not_false, Bool.and_self, Bool.and_false, Bool.false_and, Bool.and_true, Bool.true_and, Bool.or_false, Bool.false_or, Bool.or_true, Bool.true_or, bind_some, Int.toNat_natCast]
      · by_cases h3 : 0 ≤ skew <;> by_cases h4 : skew ≤ 1000 <;> simp [h1, h3, h4] <;> omega
    · by_cases h3 : 1 ≤ nodes <;> by_cases h4 : nodes ≤ 12 <;> simp [h3, h4] <;> omega

theorem spec_l11Own_eq (sk now : Int) (cl : List Int) (ho un : Int) (kn : List Int) (h1 : cl.length ≤ 100) (h2 : kn.length ≤ 100) : spec_l11Own sk now cl ho un kn = some (sk, now, cl, ho, un, kn) := by
  unfold spec_l11Own
  simp (disch := omega) only [decide_true, decide_false, i64_of, chk_and, chk_dec, chk_true, dec_t, dec_f, if_true, if_false, Bool.false_eq_true, Bool.not_true, Bool.not_false, Bool.and_self, Bool.and_false, Bool.false_and, Bool.and_true, Bool.true_and, Bool.or_false, Bool.false_or, Bool.or_true, Bool.true_or, bind_some, Int.toNat_natCast, List.nil_append]
theorem LeaseS.step_len {x y : LeaseS} {k nd n : Int} (h : x.step k nd n = some y) : y.clocks.length = x.clocks.length ∧ y.known.length = x.known.length := by
  unfold LeaseS.step at h
  split at h
  · rename_i z hz
    split at h
    · cases h
      unfold LeaseS.try at hz
      split at hz
      · split at hz
        · cases hz; exact ⟨rfl, rfl⟩
        · cases hz
      · split at hz
        · split at hz
          · split at hz
            · cases hz; exact ⟨rfl, rfl⟩
            · cases hz
          · split at hz
            · split at hz
              · cases hz; simp
              · cases hz
            · split at hz
              · split at hz
                · cases hz; simp
                · cases hz
              · cases hz
        · cases hz
    · cases h
  · cases h
theorem spec_PlayLeases_eq (nodes skew : Int) (l : List (Int × Int × Int)) : spec_PlayLeases nodes skew l = some (if playOk nodes skew l.length then
    (let y := (newL nodes skew).run l; (y.skew, y.now, y.clocks, y.holder, y.till, y.known, (newL nodes skew).trace l, true)) else (0, 0, [], 0, 0, [], [], false)) := by
  unfold spec_PlayLeases spec_NewLeases
  simp -zeta only [if_someB, bind_some, if_t, if_f, if_t', if_f', or_ng, or_ng', nor_g, and_g, Bool.not_not, List.nil_append, spec_l1In_eq, spec_l8Nodes_eq]
  by_cases H : playOk nodes skew l.length
  · have H' := H
    obtain ⟨h1, h2, h3, h4, h5⟩ := H'
    rw [if_pos H]
    have hG := newL_good h1 h2 h3 h4
    have hE := LeaseS.run_good hG l
    have hE1 := hE.l1
    have hE2 := hE.kl
    simp (disch := omega) only [decide_true, decide_false, i64_of, chk_and, chk_dec, chk_true, dec_t, dec_f, if_true, if_false, Bool.false_eq_true, Bool.not_true, Bool.not_false, Bool.and_self, Bool.and_false, Bool.false_and, Bool.and_true, Bool.true_and, Bool.or_false, Bool.false_or, Bool.or_true, Bool.true_or, bind_some, Int.toNat_natCast]
    refine bind_of (bind_of (loop_steps (fun k : Nat => (let y := (newL nodes skew).run (l.take k); (y.skew, y.now, y.clocks, y.holder, y.till, y.known, (newL nodes skew).trace (l.take k), (k : Int)))) l.length (let y := (newL nodes skew).run l; (y.skew, y.now, y.clocks, y.holder, y.till, y.known, (newL nodes skew).trace l)) ?_ ?_) rfl) ?_
    · intro k hk
      have hk1 : (k : Int) < l.length := by omega
      have hg := LeaseS.run_good hG (l.take k)
      have ht := LeaseS.trace_length (newL nodes skew) (l.take k)
      rw [List.length_take, Nat.min_eq_left (by omega)] at ht
      simp (disch := omega) only [decide_true, decide_false, i64_of, chk_and, chk_dec, chk_true, dec_t, dec_f, if_true, if_false, Bool.false_eq_true, Bool.not_true, Bool.not_false, Bool.and_self, Bool.and_false, Bool.false_and, Bool.and_true, Bool.true_and, Bool.or_false, Bool.false_or, Bool.or_true, Bool.true_or, bind_some, Int.toNat_natCast, take_snoc l (0, 0, 0) hk, LeaseS.run_snoc, LeaseS.trace_snoc]
      generalize (newL nodes skew).run (l.take k) = y at hg ⊢
      generalize l.getD k (0, 0, 0) = s
      have hl1 := hg.l1
      have hl2 := hg.kl
      rw [spec_l11Own_eq _ _ _ _ _ _ (by omega) (by omega)]
      simp only [bind_some]
      obtain ⟨r, hr1, hr2⟩ := spec_l11Step_eq hg s.1 s.2.1 s.2.2
      rw [hr1]
      have hn := LeaseS.next_good hg s
      unfold LeaseS.next at hn ⊢
      cases hs : y.step s.1 s.2.1 s.2.2 with
      | none =>
        rw [hs] at hn hr2
        simp only [bind_some, Option.getD_none, hr2, Bool.false_eq_true, if_false]
        rw [spec_l11Believers_eq hg]
        simp only [bind_some]
        rw [chk_dec (by simp only [List.length_append, List.length_cons, List.length_nil]; omega)]
        simp
      | some z =>
        rw [hs] at hn hr2
        obtain ⟨q1, q2⟩ := LeaseS.step_len hs
        simp only at hr2
        simp only [bind_some, Option.getD_some, hr2, if_true, Int.toNat_natCast, ← q1, ← q2, List.take_length, Int.toNat_zero, List.drop_zero]
        simp only [Option.getD_some] at hn
        rw [spec_l11Believers_eq hn]
        simp only [bind_some]
        rw [chk_dec (by simp only [List.length_append, List.length_cons, List.length_nil]; omega)]
        simp
    · simp only [List.take_length]; simp
    · simp only [bind_some]
      rw [spec_l11Own_eq _ _ _ _ _ _ (by omega) (by omega)]; rfl
  · rw [if_neg H]
    unfold playOk at H
    by_cases h1 : 1 ≤ nodes ∧ nodes ≤ 12
    · by_cases h2 : 0 ≤ skew ∧ skew ≤ 1000
      · have h3 : 100 < (l.length : Int) := by omega
        simp (disch := omega) only [decide_true, decide_false, i64_of, chk_and, chk_dec, chk_true, dec_t, dec_f, if_true, if_false, Bool.false_eq_true, Bool.not_true, Bool.not_false, Bool.and_self, Bool.and_false, Bool.false_and, Bool.and_true, Bool.true_and, Bool.or_false, Bool.false_or, Bool.or_true, Bool.true_or, bind_some, Int.toNat_natCast]
      · by_cases h3 : 0 ≤ skew <;> by_cases h4 : skew ≤ 1000 <;> simp [h1, h3, h4] <;> omega
    · by_cases h3 : 1 ≤ nodes <;> by_cases h4 : nodes ≤ 12 <;> simp [h3, h4] <;> omega

theorem laws_eqLeases_eq {sk now : Int} {cl : List Int} {ho un : Int} {kn : List Int} {sk' now' : Int} {cl' : List Int} {ho' un' : Int} {kn' : List Int} (h1 : cl.length ≤ 1000000000) (h2 : kn.length ≤ 1000000000) :
    laws_eqLeases sk now cl ho un kn sk' now' cl' ho' un' kn' = some (decide ((sk, now, cl, ho, un, kn) = (sk', now', cl', ho', un', kn'))) := by
  unfold laws_eqLeases
  simp -zeta only [if_someB, bind_some, if_t, if_f, if_t', if_f', or_ng, or_ng', nor_g, and_g, Bool.not_not, List.nil_append, laws_eqIntS_eq h1, laws_eqIntS_eq h2]
  by_cases e0 : sk = sk' <;> by_cases e1 : now = now' <;> by_cases e2 : cl = cl' <;> by_cases e3 : ho = ho' <;> by_cases e4 : un = un' <;> by_cases e5 : kn = kn' <;> simp [e0, e1, e2, e3, e4, e5]
theorem playR (nodes skew : Int) (l : List (Int × Int × Int)) : ∃ sk now cl ho un kn ct ok, (if playOk nodes skew l.length then
    (let y := (newL nodes skew).run l; (y.skew, y.now, y.clocks, y.holder, y.till, y.known, (newL nodes skew).trace l, true)) else (0, 0, [], 0, 0, [], [], false)) = ((sk, now, cl, ho, un, kn, ct, ok) : Int × Int × List Int × Int × Int × List Int × List Int × Bool) ∧ cl.length ≤ 100 ∧ kn.length ≤ 100 ∧ ct.length ≤ 100 := by
  by_cases H : playOk nodes skew l.length
  · rw [if_pos H]
    obtain ⟨h1, h2, h3, h4, h5⟩ := H
    have hg := LeaseS.run_good (newL_good h1 h2 h3 h4) l
    have e1 := hg.l1
    have e2 := hg.kl
    exact ⟨_, _, _, _, _, _, _, _, rfl, by omega, by omega, by rw [LeaseS.trace_length]; exact h5⟩
  · rw [if_neg H]
    exact ⟨_, _, _, _, _, _, _, _, rfl, by simp, by simp, by simp⟩
theorem laws_FnExactPlayLeases_ok (nodes skew : Int) (l : List (Int × Int × Int)) (hl : l.length ≤ 9223372036854775807) : laws_FnExactPlayLeases nodes skew l = some true := by
  unfold laws_FnExactPlayLeases
  rw [laws_szLeaseStepS_eq l hl]
  simp only [bind_some]
  by_cases h : l.length ≤ 1048576
  · rw [if_pos h, if_neg (by simp; omega)]
    have hl1 : l.length ≤ 1000000000 := by omega
    simp only [laws_toLeaseStepS_eq hl1, bind_some, spec_PlayLeases_eq, impl_PlayLeases_eq, laws_eqLeaseStepS_eq hl1]
    obtain ⟨b, hb⟩ := laws_markLeaseStepS_ok (m := 1) hl1 (by omega) (by omega)
    rw [hb]
    obtain ⟨sk, now, cl, ho, un, kn, ct, ok, hR, hc1, hk1, ht1⟩ := playR nodes skew l
    rw [hR]
    have hc : cl.length ≤ 1000000000 := by omega
    have hk : kn.length ≤ 1000000000 := by omega
    have ht : ct.length ≤ 1000000000 := by omega
    simp only [bind_some]
    simp (disch := omega) only [laws_eqLeases_eq hc hk, laws_eqIntS_eq ht, bind_some, decide_true, Bool.not_true, Bool.false_eq_true, if_false, Bool.not_false, if_true, bne_self_eq_false, dec_f, laws_markLeases, laws_heldLeases, laws_markIntS_eq hc, laws_markIntS_eq hk, laws_markIntS_eq ht, laws_heldIntS_eq]
  · rw [if_neg h]
    simp
end Sh
