/- Sh: commits (l15), part 2: what holds of a played one; draws; FnCommit. -/
import Derived.Test.YtmhcefpknmhbgaaShP15
import Derived.Test.YtmhcefpknmhbgaaShPlay
set_option linter.unusedVariables false
set_option linter.unusedSimpArgs false
namespace Sh
open Go

/-! ### What holds of a played commit -/
def upR (x : Shrd) : Prop := ∃ r ∈ x, r.1 = false
structure CInv (c : CS) : Prop where
  l0 : 1 ≤ c.sh.length
  l1 : c.sh.length ≤ 4
  x0 : ∀ x ∈ c.sh, 1 ≤ x.length ∧ x.length ≤ 5
  up : ∀ x ∈ c.sh, upR x
  rg : ∀ x ∈ c.sh, ∀ r ∈ x, 0 ≤ r.2 ∧ r.2 ≤ 4
  d3 : ∀ x ∈ c.sh, ∀ r ∈ x, r.1 = false → r.2 = 3 → c.dec = 1
  d4 : ∀ x ∈ c.sh, ∀ r ∈ x, r.1 = false → r.2 = 4 → c.dec = 2
  dr : 0 ≤ c.dr ∧ c.dr ≤ 2
  rc : 0 ≤ c.rc ∧ c.rc ≤ 2
  ag : c.dr ≠ 0 → c.rc ≠ 0 → c.dr = c.rc
  tl : c.dr = 1 → ∀ x ∈ c.sh, ∀ r ∈ x, r.1 = false → r.2 = 2 ∨ r.2 = 3
theorem mem_setR {l : List Shrd} {s n : Int} {r : Rep} {x : Shrd} (h : x ∈ setR l s n r) : x ∈ l ∨ x = (l.getD s.toNat []).set n.toNat r := by
  unfold setR at h
  rcases List.mem_or_eq_of_mem_set h with h | h
  · exact .inl h
  · exact .inr h
theorem prim_live {x : Shrd} (h : upR x) : 0 ≤ primL x := by
  obtain ⟨r, hr, hd⟩ := h
  obtain ⟨k, hk, e⟩ := List.getElem_of_mem hr
  have h1 := firstIdx_any x.length (fun k => !(x.getD k (false, 0)).1)
  have h2 : (List.range x.length).any (fun k => !(x.getD k (false, 0)).1) = true := by
    rw [any_range]
    refine ⟨k, hk, ?_⟩
    rw [List.getD_eq_getElem?_getD, List.getElem?_eq_getElem hk]
    simp [e, hd]
  rw [h2] at h1
  exact of_decide_eq_true h1
theorem opn_dec {c : CS} : c.opn = true ↔ c.dec = 0 := by
  unfold CS.opn CS.dec
  by_cases h : c.dr = 0 <;> simp [h]
theorem up_crash {x : Shrd} {n : Nat} (hn : n < x.length) (hu : (x.getD n (false, 0)).1 = false) (h1 : (upL x).length ≠ 1) : upR (x.set n (true, 0)) := by
  have hc := List.countP_set (p := fun r : Rep => !r.1) (l := x) (i := n) (a := (true, 0)) hn
  have hg : x[n].1 = false := by
    rw [List.getD_eq_getElem?_getD, List.getElem?_eq_getElem hn] at hu
    exact hu
  simp only [hg, Bool.not_false, if_true, Bool.not_true, Bool.false_eq_true, if_false, Nat.add_zero] at hc
  have h2 : (upL x).length = x.countP fun r : Rep => !r.1 := (List.countP_eq_length_filter ..).symm
  have h3 : 0 < x.countP fun r : Rep => !r.1 := List.countP_pos_iff.2 ⟨x[n], List.getElem_mem hn, by simp [hg]⟩
  have h4 : 0 < (x.set n (true, 0)).countP fun r : Rep => !r.1 := by omega
  obtain ⟨r, hr, hd⟩ := List.countP_pos_iff.1 h4
  exact ⟨r, hr, by simpa using hd⟩
theorem up_set {x : Shrd} {n : Nat} (hn : n < x.length) (h : Int) : upR (x.set n (false, h)) :=
  ⟨(false, h), List.mem_set hn _, rfl⟩
theorem CInv.step {c y : CS} (h : CInv c) {k s n : Int} (hs : c.step k s n = some y) : CInv y := by
  unfold CS.step at hs
  split at hs
  · split at hs
    · rename_i hk hc
      cases hs
      simp only [Bool.and_eq_true, Bool.not_eq_true'] at hc
      have hd := opn_dec.1 hc.1
      exact { h with
        d3 := fun x hx r hr h1 h2 => by have := h.d3 x hx r hr h1 h2; omega
        d4 := fun x hx r hr h1 h2 => by have := h.d4 x hx r hr h1 h2; omega
        dr := by simp
        ag := fun _ h2 => by
          have : c.rc = 0 := by
            have := hc.1
            unfold CS.opn at this
            simp at this
            exact this.2
          exact absurd this h2
        tl := fun _ x hx r hr h1 => by
          have hb := hc.2
          rw [List.any_eq_false] at hb
          have hb := hb x hx
          unfold tellBad at hb
          simp only [Bool.or_eq_true, decide_eq_true_eq, not_or, haveL_full, Classical.not_not] at hb
          have := hb.2 r hr h1
          simp at this
          exact .inl this }
    · cases hs
  · split at hs
    · split at hs
      · rename_i hc
        cases hs
        have hd := opn_dec.1 hc
        exact { h with
          d3 := fun x hx r hr h1 h2 => by have := h.d3 x hx r hr h1 h2; omega
          d4 := fun x hx r hr h1 h2 => by have := h.d4 x hx r hr h1 h2; omega
          dr := by simp
          ag := fun _ h2 => by
            have : c.rc = 0 := by
              have := hc
              unfold CS.opn at this
              simp at this
              exact this.2
            exact absurd this h2
          tl := fun h1 => by simp at h1 }
      · cases hs
    · split at hs
      · split at hs
        · rename_i hc
          cases hs
          have hr0 := hc
          by_cases q : c.dr = 0
          · have hd : c.dec = 0 := by unfold CS.dec; simp [q, hr0]
            exact { h with
              d3 := fun x hx r hr h1 h2 => by have := h.d3 x hx r hr h1 h2; omega
              d4 := fun x hx r hr h1 h2 => by have := h.d4 x hx r hr h1 h2; omega
              rc := by simp only [q, if_true]; split <;> omega
              ag := fun h1 => absurd q h1 }
          · have hd : CS.dec { c with rc := if c.dr = 0 then (if c.sh.any recBad then 2 else 1) else c.dr } = c.dec := by unfold CS.dec; simp [q]
            exact { h with
              d3 := fun x hx r hr h1 h2 => by rw [hd]; exact h.d3 x hx r hr h1 h2
              d4 := fun x hx r hr h1 h2 => by rw [hd]; exact h.d4 x hx r hr h1 h2
              rc := by simp only [q, if_false]; exact h.dr
              ag := fun _ _ => by simp only [q, if_false] }
        · cases hs
      · split at hs
        · split at hs
          · rename_i hk ho
            unfold CS.actOk at ho
            simp only [Bool.and_eq_true, decide_eq_true_eq, Bool.not_eq_true'] at ho
            obtain ⟨⟨a1, a2⟩, ⟨a3, a4⟩, a5⟩ := ho
            unfold CS.rep at a5
            have hxm : c.sh.getD s.toNat [] ∈ c.sh := getD_mem (by omega) _
            have hnn : n.toNat < (c.sh.getD s.toNat []).length := by omega
            have hrm := getD_mem hnn ((false, 0) : Rep)
            split at hs
            · rename_i r hr
              cases hs
              have hgen : ∀ r : Rep, (0 ≤ r.2 ∧ r.2 ≤ 4) → upR ((c.sh.getD s.toNat []).set n.toNat r) → (r.1 = false → r.2 = 3 → c.dec = 1) → (r.1 = false → r.2 = 4 → c.dec = 2) → (c.dr = 1 → r.1 = false → r.2 = 2 ∨ r.2 = 3) → CInv { c with sh := setR c.sh s n r } := by
                intro r h1 h2 h3 h4 h5
                have hm : ∀ x ∈ setR c.sh s n r, ∀ q ∈ x, (∃ x' ∈ c.sh, q ∈ x') ∨ q = r := by
                  intro x hx q hq
                  rcases mem_setR hx with h | rfl
                  · exact .inl ⟨x, h, hq⟩
                  · rcases List.mem_or_eq_of_mem_set hq with h | h
                    · exact .inl ⟨_, hxm, h⟩
                    · exact .inr h
                refine { l0 := ?_, l1 := ?_, x0 := ?_, up := ?_, rg := ?_, d3 := ?_, d4 := ?_, dr := h.dr, rc := h.rc, ag := h.ag, tl := ?_ }
                · simp only [setR, List.length_set]; exact h.l0
                · simp only [setR, List.length_set]; exact h.l1
                · intro x hx
                  rcases mem_setR hx with h' | rfl
                  · exact h.x0 x h'
                  · rw [List.length_set]; exact h.x0 _ hxm
                · intro x hx
                  rcases mem_setR hx with h' | rfl
                  · exact h.up x h'
                  · exact h2
                · intro x hx q hq
                  rcases hm x hx q hq with ⟨x', hx', hq'⟩ | rfl
                  · exact h.rg x' hx' q hq'
                  · exact h1
                · intro x hx q hq
                  rcases hm x hx q hq with ⟨x', hx', hq'⟩ | rfl
                  · exact h.d3 x' hx' q hq'
                  · exact h3
                · intro x hx q hq
                  rcases hm x hx q hq with ⟨x', hx', hq'⟩ | rfl
                  · exact h.d4 x' hx' q hq'
                  · exact h4
                · intro hd x hx q hq
                  rcases hm x hx q hq with ⟨x', hx', hq'⟩ | rfl
                  · exact h.tl hd x' hx' q hq'
                  · exact h5 hd
              have hnd : c.opn = true → ¬ c.dr = 1 := fun ho hd => by
                unfold CS.opn at ho
                simp at ho
                omega
              unfold CS.act CS.rep at hr
              dsimp only at hr
              rw [a5] at hr
              split at hr
              · split at hr
                · rename_i hc
                  cases hr
                  simp only [Bool.and_eq_true] at hc
                  exact hgen _ (by simp) (up_set hnn _) (by simp) (by simp) fun hd => absurd hd (hnd hc.1)
                · cases hr
              · split at hr
                · split at hr
                  · rename_i hc
                    cases hr
                    simp only [Bool.and_eq_true] at hc
                    exact hgen _ (by simp) (up_set hnn _) (by simp) (by simp) fun hd => absurd hd (hnd hc.1)
                  · cases hr
                · split at hr
                  · split at hr
                    · cases hr
                    · rename_i hc
                      cases hr
                      exact hgen _ (by simp) (up_crash hnn a5 hc) (by simp) (by simp) (by simp)
                  · split at hr
                    · rename_i hc
                      cases hr
                      simp only [Bool.and_eq_true, Bool.not_eq_true'] at hc
                      have h0 : c.dec ≠ 0 := fun h => by rw [opn_dec.2 h] at hc; exact absurd hc.1 (by simp)
                      have h12 : c.dec = 1 ∨ c.dec = 2 := by
                        have := h.dr; have := h.rc
                        unfold CS.dec at *
                        split at h0 <;> rename_i hq <;> simp only [hq, if_true, if_false] <;> omega
                      refine hgen _ ?_ (up_set hnn _) ?_ ?_ ?_
                      · dsimp only; split <;> omega
                      · intro _ hh; dsimp only at hh; split at hh
                        · assumption
                        · omega
                      · intro _ hh; dsimp only at hh; split at hh <;> omega
                      · intro hd _
                        have : c.dec = 1 := by unfold CS.dec; rw [hd]; simp
                        simp [this]
                    · cases hr
            · cases hs
          · cases hs
        · cases hs
theorem CS.step_len {c y : CS} {k s n : Int} (hs : c.step k s n = some y) : y.sh.length = c.sh.length := by
  unfold CS.step at hs
  repeat' split at hs
  all_goals first | (cases hs; rfl) | (cases hs; simp [setR]) | cases hs

/-! ### Plays -/
abbrev stpC : CS → Int × Int × Int → Option CS := fun c a => c.step a.1 a.2.1 a.2.2
def newC (l : List Int) : CS := ⟨l.map fun n => List.replicate n.toNat (false, 0), 0, 0⟩
def shOk (l : List Int) : Bool := (decide (1 ≤ l.length) && decide (l.length ≤ 4)) && !(l.any fun n => !(decide (1 ≤ n) && decide (n ≤ 5)))
theorem newC_inv {l : List Int} (h : shOk l = true) : CInv (newC l) := by
  unfold shOk at h
  simp only [Bool.and_eq_true, decide_eq_true_eq, Bool.not_eq_true', List.any_eq_false] at h
  obtain ⟨⟨h1, h2⟩, h3⟩ := h
  have hx : ∀ x ∈ (newC l).sh, ∃ n : Nat, 1 ≤ n ∧ n ≤ 5 ∧ x = List.replicate n (false, 0) := by
    intro x hx
    simp only [newC, List.mem_map] at hx
    obtain ⟨n, hn, rfl⟩ := hx
    have := h3 n hn
    simp at this
    exact ⟨n.toNat, by omega, by omega, rfl⟩
  have hr : ∀ x ∈ (newC l).sh, ∀ r ∈ x, r = (false, 0) := by
    intro x hx' r hr
    obtain ⟨n, _, _, rfl⟩ := hx x hx'
    exact List.eq_of_mem_replicate hr
  refine { l0 := by simpa [newC] using h1, l1 := by simpa [newC] using h2, x0 := ?_, up := ?_, rg := ?_, d3 := ?_, d4 := ?_, dr := by simp [newC], rc := by simp [newC], ag := by simp [newC], tl := by simp [newC] }
  · intro x hx'
    obtain ⟨n, q1, q2, rfl⟩ := hx x hx'
    simp; omega
  · intro x hx'
    obtain ⟨n, q1, q2, rfl⟩ := hx x hx'
    exact ⟨(false, 0), List.mem_replicate.2 ⟨by omega, rfl⟩, rfl⟩
  · intro x hx' r hr'; rw [hr x hx' r hr']; simp
  · intro x hx' r hr' _ h; rw [hr x hx' r hr'] at h; simp at h
  · intro x hx' r hr' _ h; rw [hr x hx' r hr'] at h; simp at h
theorem impl_newCommit_eq {l : List Int} (hl : l.length ≤ 1000000000) : impl_newCommit l = some (if shOk l then ((newC l).sh, 0, true) else ([], 0, false)) := by
  unfold impl_newCommit
  simp -zeta only [if_someB, bind_some, if_t, if_f, if_t', if_f', or_ng, or_ng', nor_g, and_g, Bool.not_not, List.nil_append, impl_in_eq]
  unfold shOk
  by_cases h : 1 ≤ l.length ∧ l.length ≤ 4
  · have e1 : decide (1 ≤ l.length) = true := dec_t h.1
    have e2 : decide (l.length ≤ 4) = true := dec_t h.2
    simp (disch := omega) only [decide_true, decide_false, i64_of, chk_and, chk_dec, chk_true, dec_t, dec_f, if_true, if_false, Bool.false_eq_true, Bool.not_true, Bool.not_false, Bool.and_self, Bool.and_false, Bool.false_and, Bool.and_true, Bool.true_and, Bool.or_false, Bool.false_or, Bool.or_true, Bool.true_or, bind_some, Int.toNat_natCast, e1, e2]
    refine bind_of (loop_any' (fun k : Nat => (((l.take k).map fun n => List.replicate n.toNat ((false, 0) : Rep)), (k : Int))) l.length (fun k => !(decide (1 ≤ l.getD k 0) && decide (l.getD k 0 ≤ 5))) (.inr ([], 0, false)) (.inl (newC l).sh) rfl ?_ ?_) ?_
    · intro k hk
      have hk1 : (k : Int) < l.length := by omega
      simp (disch := omega) only [decide_true, decide_false, i64_of, chk_and, chk_dec, chk_true, dec_t, dec_f, if_true, if_false, Bool.false_eq_true, Bool.not_true, Bool.not_false, Bool.and_self, Bool.and_false, Bool.false_and, Bool.and_true, Bool.true_and, Bool.or_false, Bool.false_or, Bool.or_true, Bool.true_or, bind_some, Int.toNat_natCast]
      by_cases g : 1 ≤ l.getD k 0 ∧ l.getD k 0 ≤ 5
      · have g1 : l.getD k 0 ≤ 8796093022208 := by omega
        have g2 : 0 ≤ l.getD k 0 := by omega
        simp (disch := omega) only [decide_true, decide_false, i64_of, chk_and, chk_dec, chk_true, dec_t, dec_f, if_true, if_false, Bool.false_eq_true, Bool.not_true, Bool.not_false, Bool.and_self, Bool.and_false, Bool.false_and, Bool.and_true, Bool.true_and, Bool.or_false, Bool.false_or, Bool.or_true, Bool.true_or, bind_some, Int.toNat_natCast, g.1, g.2]
        rw [chk_dec (by simp; omega), take_snoc l 0 hk]
        simp
      · have hf : (decide (1 ≤ l.getD k 0) && decide (l.getD k 0 ≤ 5)) = false := by
          rw [Bool.and_eq_false_iff, decide_eq_false_iff_not, decide_eq_false_iff_not]; omega
        simp (disch := omega) only [decide_true, decide_false, i64_of, chk_and, chk_dec, chk_true, dec_t, dec_f, if_true, if_false, Bool.false_eq_true, Bool.not_true, Bool.not_false, Bool.and_self, Bool.and_false, Bool.false_and, Bool.and_true, Bool.true_and, Bool.or_false, Bool.false_or, Bool.or_true, Bool.true_or, bind_some, Int.toNat_natCast, hf]
    · simp [newC]
    · rw [any_mem l 0 (fun n => !(decide (1 ≤ n) && decide (n ≤ 5)))]
      cases l.any (fun n => !(decide (1 ≤ n) && decide (n ≤ 5))) <;> simp
  · have hf : (decide (1 ≤ (l.length : Int)) && decide ((l.length : Int) ≤ 4)) = false := by
      rw [Bool.and_eq_false_iff, decide_eq_false_iff_not, decide_eq_false_iff_not]; omega
    have hf' : (decide (1 ≤ l.length) && decide (l.length ≤ 4)) = false := by
      rw [Bool.and_eq_false_iff, decide_eq_false_iff_not, decide_eq_false_iff_not]; omega
    simp (disch := omega) only [decide_true, decide_false, i64_of, chk_and, chk_dec, chk_true, dec_t, dec_f, if_true, if_false, Bool.false_eq_true, Bool.not_true, Bool.not_false, Bool.and_self, Bool.and_false, Bool.false_and, Bool.and_true, Bool.true_and, Bool.or_false, Bool.false_or, Bool.or_true, Bool.true_or, bind_some, Int.toNat_natCast, hf, hf']
theorem spec_NewCommit_eq {l : List Int} (hl : l.length ≤ 1000000000) : spec_NewCommit l = some (if shOk l then ((newC l).sh, 0, true) else ([], 0, false)) := by
  rw [← impl_newCommit_eq hl]
  unfold spec_NewCommit impl_newCommit
  simp only [spec_l1In_eq, impl_in_eq]
def playC (v : List Int) (l : List (Int × Int × Int)) : (List Shrd) × Int × Int × (List Bool) × Bool :=
  if shOk v && decide (l.length ≤ 100) then (let y := runS stpC (newC v) l; (y.sh, y.dr, y.rc, didS stpC (newC v) l, true)) else ([], 0, 0, [], false)
theorem CInv.len {c : CS} (h : CInv c) : c.sh.length ≤ 1000000000 ∧ ∀ x ∈ c.sh, x.length ≤ 1000000000 := by
  have := h.l1
  exact ⟨by omega, fun x hx => by have := h.x0 x hx; omega⟩
theorem stpC_inv : ∀ x a y, CInv x → stpC x a = some y → CInv y := fun _ _ _ h hs => h.step hs
theorem impl_PlayCommit_eq {v : List Int} (hv : v.length ≤ 1000000000) (l : List (Int × Int × Int)) : impl_PlayCommit v l = some (playC v l) := by
  unfold impl_PlayCommit playC
  rw [impl_newCommit_eq hv]
  simp only [bind_some]
  cases hs : shOk v with
  | false => simp
  | true =>
    by_cases h5 : l.length ≤ 100
    · simp (disch := omega) only [decide_true, decide_false, i64_of, chk_and, chk_dec, chk_true, dec_t, dec_f, if_true, if_false, Bool.false_eq_true, Bool.not_true, Bool.not_false, Bool.and_self, Bool.and_false, Bool.false_and, Bool.and_true, Bool.true_and, Bool.or_false, Bool.false_or, Bool.or_true, Bool.true_or, bind_some, Int.toNat_natCast, h5]
      have hG := newC_inv hs
      refine bind_of (bind_of (loop_steps' (fun k : Nat => (let y := runS stpC (newC v) (l.take k); (y.sh, y.dr, y.rc, didS stpC (newC v) (l.take k), (k : Int)))) l.length (let y := runS stpC (newC v) l; (y.sh, y.dr, y.rc, didS stpC (newC v) l)) rfl ?_ ?_) rfl) rfl
      · intro k hk
        have hk1 : (k : Int) < l.length := by omega
        have hg := runS_inv stpC_inv hG (l.take k)
        have ht := didS_length stpC (newC v) (l.take k)
        rw [List.length_take, Nat.min_eq_left (by omega)] at ht
        simp (disch := omega) only [decide_true, decide_false, i64_of, chk_and, chk_dec, chk_true, dec_t, dec_f, if_true, if_false, Bool.false_eq_true, Bool.not_true, Bool.not_false, Bool.and_self, Bool.and_false, Bool.false_and, Bool.and_true, Bool.true_and, Bool.or_false, Bool.false_or, Bool.or_true, Bool.true_or, bind_some, Int.toNat_natCast, take_snoc l (0, 0, 0) hk, runS_snoc, didS_snoc]
        generalize runS stpC (newC v) (l.take k) = y at hg ⊢
        generalize l.getD k (0, 0, 0) = s
        rw [impl_Commit_step_eq hg.len.1 hg.len.2]
        unfold nextS
        cases hs : stpC y s with
        | none =>
          simp only [show y.step s.1 s.2.1 s.2.2 = none from hs, bind_some, Option.getD_none, Bool.false_eq_true, if_false, Option.isSome_none]
          rw [chk_dec (by simp only [List.length_append, List.length_cons, List.length_nil]; omega)]; rfl
        | some z =>
          simp only [show y.step s.1 s.2.1 s.2.2 = some z from hs, bind_some, Option.getD_some, if_true, Option.isSome_some]
          rw [chk_dec (by simp only [List.length_append, List.length_cons, List.length_nil]; omega)]; rfl
      · simp
    · have : (100 : Int) < l.length := by omega
      simp (disch := omega) only [decide_true, decide_false, i64_of, chk_and, chk_dec, chk_true, dec_t, dec_f, if_true, if_false, Bool.false_eq_true, Bool.not_true, Bool.not_false, Bool.and_self, Bool.and_false, Bool.false_and, Bool.and_true, Bool.true_and, Bool.or_false, Bool.false_or, Bool.or_true, Bool.true_or, bind_some, Int.toNat_natCast, h5]
theorem spec_PlayCommit_eq {v : List Int} (hv : v.length ≤ 1000000000) (l : List (Int × Int × Int)) : spec_PlayCommit v l = some (playC v l) := by
  unfold spec_PlayCommit playC
  rw [spec_NewCommit_eq hv]
  simp only [bind_some]
  cases hs : shOk v with
  | false => simp
  | true =>
    by_cases h5 : l.length ≤ 100
    · simp (disch := omega) only [decide_true, decide_false, i64_of, chk_and, chk_dec, chk_true, dec_t, dec_f, if_true, if_false, Bool.false_eq_true, Bool.not_true, Bool.not_false, Bool.and_self, Bool.and_false, Bool.false_and, Bool.and_true, Bool.true_and, Bool.or_false, Bool.false_or, Bool.or_true, Bool.true_or, bind_some, Int.toNat_natCast, h5]
      have hG := newC_inv hs
      refine bind_of (bind_of (loop_steps' (fun k : Nat => (let y := runS stpC (newC v) (l.take k); (y.sh, y.dr, y.rc, didS stpC (newC v) (l.take k), (k : Int)))) l.length (let y := runS stpC (newC v) l; (y.sh, y.dr, y.rc, didS stpC (newC v) l)) rfl ?_ ?_) rfl) ?_
      · intro k hk
        have hk1 : (k : Int) < l.length := by omega
        have hg := runS_inv stpC_inv hG (l.take k)
        have ht := didS_length stpC (newC v) (l.take k)
        rw [List.length_take, Nat.min_eq_left (by omega)] at ht
        simp (disch := omega) only [decide_true, decide_false, i64_of, chk_and, chk_dec, chk_true, dec_t, dec_f, if_true, if_false, Bool.false_eq_true, Bool.not_true, Bool.not_false, Bool.and_self, Bool.and_false, Bool.false_and, Bool.and_true, Bool.true_and, Bool.or_false, Bool.false_or, Bool.or_true, Bool.true_or, bind_some, Int.toNat_natCast, take_snoc l (0, 0, 0) hk, runS_snoc, didS_snoc]
        generalize runS stpC (newC v) (l.take k) = y at hg ⊢
        generalize l.getD k (0, 0, 0) = s
        rw [own_loop hg.len.1 hg.len.2]
        simp only [bind_some]
        obtain ⟨r, hr, q1, q2⟩ := spec_l15Step_ok hg.len.1 hg.len.2 (fun x hx => prim_live (hg.up x hx)) s.1 s.2.1 s.2.2
        rw [hr]
        unfold nextS
        cases hs : stpC y s with
        | none =>
          rw [show y.step s.1 s.2.1 s.2.2 = none from hs] at q1
          simp only [bind_some, q1, Option.getD_none, Bool.false_eq_true, if_false, Option.isSome_none]
          rw [chk_dec (by simp only [List.length_append, List.length_cons, List.length_nil]; omega)]; rfl
        | some z =>
          have hz := CS.step_len (show y.step s.1 s.2.1 s.2.2 = some z from hs)
          rw [q2 z hs]
          simp only [bind_some, Option.getD_some, if_true, Option.isSome_some, Int.toNat_natCast, ← hz, List.take_length, Int.toNat_zero, List.drop_zero]
          rw [chk_dec (by simp only [List.length_append, List.length_cons, List.length_nil]; omega)]; rfl
      · simp
      · have hg := runS_inv stpC_inv hG l
        simp only [bind_some]
        rw [own_loop hg.len.1 hg.len.2]; rfl
    · have : (100 : Int) < l.length := by omega
      simp (disch := omega) only [decide_true, decide_false, i64_of, chk_and, chk_dec, chk_true, dec_t, dec_f, if_true, if_false, Bool.false_eq_true, Bool.not_true, Bool.not_false, Bool.and_self, Bool.and_false, Bool.false_and, Bool.and_true, Bool.true_and, Bool.or_false, Bool.false_or, Bool.or_true, Bool.true_or, bind_some, Int.toNat_natCast, h5]
end Sh
