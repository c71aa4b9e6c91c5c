/- Gp, part 26: a region in any order, proved; a region's analysis. -/
import Derived.Test.YtbifjnccebhmkaaGpReg3
set_option linter.unusedVariables false
set_option linter.unusedSimpArgs false
namespace Gp
open Go
section
variable {tab : Tab} {Γ Γ' : Gam} {ρ ρ' : Env} {tm : Array Value} {w w' : World} {C C1 Cx : Ctx} {kn kn' : Kn} {Wr : CS} {w0 : World} {P : Program} {G : Grd} {nx no nx' no' nb : Nat} {obs : Obs} {S : Sig} {sigs : List Sig}

theorem St.congr {E : Nat → Prop} {C0 : Ctx} {nt : Nat} {a : Act} {ds : List Deferred} (h : St tab nt E C0 Γ ρ a w ds kn Wr w0) (hg : GEq Γ Γ') : St tab nt E C0 Γ' ρ a w ds kn Wr w0 := by
  obtain ⟨⟨C, h1, hk⟩, h2, h3, h4⟩ := h
  exact ⟨⟨C, h1.congr hg.1 hg.2, hk⟩, h2, fun t ht => h3 t (by rw [← hg.1]; exact ht), h4⟩

/-- How the rows of the text's order are numbered. -/
theorem anSeq_rows {nt : Nat} {ops : Array Oper} : ∀ (l : List Oper) {Γ : Gam} {nx no : Nat} {rs : List Row} {Γ' : Gam} {nx' no' : Nat}, anSeq tab sigs ops nt l Γ nx no = some (rs, Γ', nx', no') →
    rs.length = l.length ∧ nx ≤ nx' ∧ no ≤ no' ∧ (∀ (i : Nat) (R : Row), rs[i]? = some R → nx ≤ R.nx ∧ R.r.nx ≤ nx' ∧ no ≤ R.no ∧ R.r.no ≤ no' ∧ ∃ o : Oper, l[i]? = some o ∧ R.dst = o.dst) ∧
    (∀ (i j : Nat) (R S : Row), rs[i]? = some R → rs[j]? = some S → i < j → R.r.nx ≤ S.nx ∧ R.r.no ≤ S.no)
  | [], Γ, nx, no, rs, Γ', nx', no', h => by
    cases h
    exact ⟨rfl, Nat.le_refl _, Nat.le_refl _, fun i R hi => by simp at hi, fun i j R S hi => by simp at hi⟩
  | o :: l, Γ, nx, no, rs, Γ', nx', no', h => by
    simp only [anSeq] at h
    split at h
    case h_2 => cases h
    rename_i G r hstep
    split at h
    case h_2 => cases h
    rename_i rs' Γ2 nx2 no2 hrest
    cases h
    obtain ⟨h1, h2, h3, h4, h5⟩ := anSeq_rows l hrest
    obtain ⟨l1, l2⟩ := anStep_le hstep
    refine ⟨by simp [h1], by omega, by omega, fun i R hi => ?_, fun i j R S hi hj hij => ?_⟩
    · cases i with
      | zero => simp at hi; subst hi; exact ⟨Nat.le_refl _, h2, Nat.le_refl _, h3, o, rfl, rfl⟩
      | succ i =>
        obtain ⟨a1, a2, a3, a4, o', a5, a6⟩ := h4 i R (by simpa using hi)
        exact ⟨by omega, a2, by omega, a4, o', by simpa using a5, a6⟩
    · cases j with
      | zero => omega
      | succ j =>
        cases i with
        | zero =>
          simp at hi; subst hi
          obtain ⟨a1, a2, a3, a4, _⟩ := h4 j S (by simpa using hj)
          exact ⟨a1, a3⟩
        | succ i => exact h5 i j R S (by simpa using hi) (by simpa using hj) (by omega)

theorem anSeq_gam {nt : Nat} {ops : Array Oper} : ∀ (l : List Oper) {Γ : Gam} {nx no : Nat} {rs : List Row} {Γ' : Gam} {nx' no' : Nat} (k m : Nat), anSeq tab sigs ops nt l Γ nx no = some (rs, Γ', nx', no') →
    (∀ i, k ≤ i → i < k + rs.length → m.testBit i = true) → gamOf rs k m Γ = Γ'
  | [], Γ, nx, no, rs, Γ', nx', no', k, m, h, hm => by cases h; rfl
  | o :: l, Γ, nx, no, rs, Γ', nx', no', k, m, h, hm => by
    simp only [anSeq] at h
    split at h
    case h_2 => cases h
    rename_i G r hstep
    split at h
    case h_2 => cases h
    rename_i rs' Γ2 nx2 no2 hrest
    cases h
    simp only [gamOf]
    rw [if_pos (hm k (Nat.le_refl _) (by simp))]
    exact anSeq_gam l (k + 1) m hrest fun i h1 h2 => hm i (by omega) (by simp; omega)

theorem gamOf_zero : ∀ (l : List Row) (k : Nat) (Γ : Gam), gamOf l k 0 Γ = Γ
  | [], _, _ => rfl
  | R :: l, k, Γ => by simp only [gamOf, Nat.zero_testBit, Bool.false_eq_true, if_false]; exact gamOf_zero l (k + 1) Γ

theorem anyRow_spec {nt : Nat} {ops : Array Oper} {rows : List Row} {Γm : Gam} {m : Nat} {masks : List Nat} : ∀ (rs : List Row) (os : List Oper) (k : Nat), anyRow tab sigs ops nt rows Γm m masks rs os k = true →
    ∀ (i : Nat) (R : Row) (o : Oper), rs[i]? = some R → os[i]? = some o → m.testBit (k + i) = false → rdy m (preOf o) = true →
      anStep tab sigs ops nt Γm R.nx R.no o = some (R.G, R.r) ∧ masks.contains (addBit m (k + i)) = true ∧ apartAt R m rows 0 (k + i) = true
  | [], os, k, _, i, R, o, hR, _, _, _ => by simp at hR
  | R0 :: rs, [], k, _, i, R, o, _, ho, _, _ => by simp at ho
  | R0 :: rs, o0 :: os, k, h, i, R, o, hR, ho, hm, hr => by
    simp only [anyRow, Bool.and_eq_true] at h
    obtain ⟨h1, h2⟩ := h
    cases i with
    | zero =>
      simp at hR ho; subst hR; subst ho
      rw [Nat.add_zero] at hm ⊢
      simp only [hm, hr, Bool.not_true, Bool.false_or, Bool.and_eq_true] at h1
      obtain ⟨⟨h3, h4⟩, h5⟩ := h1
      refine ⟨?_, h4, h5⟩
      split at h3
      · rename_i G r hst
        simp only [Bool.and_eq_true, decide_eq_true_eq] at h3
        obtain ⟨⟨⟨⟨⟨a1, a2⟩, a3⟩, a4⟩, a5⟩, a6⟩ := h3
        replace a5 := Nat.eq_of_beq_eq_true a5
        replace a6 := Nat.eq_of_beq_eq_true a6
        rw [hst]
        obtain ⟨b1, b2, b3, b4, b5⟩ := r
        obtain ⟨RG, ⟨c1, c2, c3, c4, c5⟩, Rnx, Rno, Rdst⟩ := R0
        simp only at a1 a2 a3 a4 a5 a6
        subst a1; subst a2; subst a3; subst a4; subst a5; subst a6
        rfl
      · cases h3
    | succ i =>
      have := anyRow_spec rs os (k + 1) h2 i R o (by simpa using hR) (by simpa using ho) (by rw [show k + 1 + i = k + (i + 1) by omega]; exact hm) hr
      rw [show k + 1 + i = k + (i + 1) by omega] at this
      exact this
theorem someRdy_spec {m : Nat} : ∀ (os : List Oper) (k : Nat), someRdy m os k = true → ∃ (i : Nat) (o : Oper), os[i]? = some o ∧ m.testBit (k + i) = false ∧ rdy m (preOf o) = true
  | [], k, h => by simp [someRdy] at h
  | o :: os, k, h => by
    simp only [someRdy, Bool.or_eq_true, Bool.and_eq_true, Bool.not_eq_true'] at h
    rcases h with h | h
    · exact ⟨0, o, rfl, h.1, h.2⟩
    · obtain ⟨i, o', h1, h2, h3⟩ := someRdy_spec os (k + 1) h
      exact ⟨i + 1, o', by simpa using h1, by rw [show k + (i + 1) = k + 1 + i by omega]; exact h2, h3⟩

/-- What is known, when the operations of a mask are done. -/
def KnAt (rows : List Row) (nx no : Nat) (m : Nat) (kn : Kn) : Prop :=
  (∀ o, kn.o o → o < no ∨ ∃ (i : Nat) (R : Row), rows[i]? = some R ∧ m.testBit i = true ∧ R.no ≤ o ∧ o < R.r.no) ∧
  (∀ x, kn.v x → x < nx ∨ ∃ (i : Nat) (R : Row), rows[i]? = some R ∧ m.testBit i = true ∧ R.nx ≤ x ∧ x < R.r.nx)

def left (m : Nat) : Nat → Nat
  | 0 => 0
  | n + 1 => left m n + if m.testBit n then 0 else 1
theorem left_add {m i : Nat} (hm : m.testBit i = false) : ∀ n, i < n → left (addBit m i) n + 1 = left m n
  | 0, h => by omega
  | n + 1, h => by
    simp only [left, addBit_test]
    by_cases e : i = n
    · subst e
      have : ∀ k, k ≤ i → left (addBit m i) k = left m k := by
        intro k hk
        induction k with
        | zero => rfl
        | succ k ih =>
          simp only [left, addBit_test]
          rw [ih (by omega)]
          have : decide (i = k) = false := by simp; omega
          rw [this, Bool.or_false]
      rw [this i (Nat.le_refl _), hm]
      simp
    · have := left_add hm n (by omega)
      have hd : decide (i = n) = false := by simpa using e
      rw [hd, Bool.or_false]; omega
theorem left_zero {m : Nat} : ∀ n, left m n = 0 → ∀ i, i < n → m.testBit i = true
  | 0, _, i, h => by omega
  | n + 1, hl, i, h => by
    simp only [left] at hl
    by_cases e : i = n
    · subst e
      cases hb : m.testBit i with
      | true => rfl
      | false => rw [hb] at hl; simp at hl
    · exact left_zero n (by omega) i (by omega)
theorem left_full : ∀ n, left 0 n = n
  | 0 => rfl
  | n + 1 => by simp [left, left_full n]

theorem any_sound {E : Nat → Prop} {C0 : Ctx} {nt : Nat} {ops : Array Oper} {ds : List Deferred} {rows : List Row} {masks : List Nat} {Q : Exit → Act → World → Prop} (hT : TabOk P tab) (hcan : anSeq tab sigs ops nt ops.toList Γ nx no = some (rows, Γ', nx', no'))
    (hchk : anyChk tab sigs ops nt rows Γ masks = true) (hS : HoldsS (CallOk P tab sigs) ρ (sisOf rows)) (hE : ∀ o, E o → o < no)
    (hQ : ∀ a' w' kn', St tab nt E C0 Γ' ρ a' w' ds kn' Wr w0 → kn'.below nx' no' → Q .normal a' w') :
    ∀ (fuel : Nat) (listed : Array Bool) (m : Nat) (kn : Kn) (a : Act) (w : World), masks.contains m = true → (∀ i, listed.getD i false = m.testBit i) → listed.size = ops.size → left m ops.size = fuel →
      St tab nt E C0 (gamOf rows 0 m Γ) ρ a w ds kn Wr w0 → KnAt rows nx no m kn → wpAny P .any ops Q fuel listed a w := by
  obtain ⟨r1, r2, r3, r4, r5⟩ := anSeq_rows _ hcan
  have hlen : rows.length = ops.size := by simpa using r1
  have hsis : ∀ (l : List Row), HoldsS (CallOk P tab sigs) ρ (sisOf l) → ∀ (i : Nat) (R : Row), l[i]? = some R → HoldsS (CallOk P tab sigs) ρ R.r.sis := by
    intro l
    induction l with
    | nil => intro _ i R hi; simp at hi
    | cons R0 l ih =>
      intro h i R hi
      cases i with
      | zero => simp at hi; subst hi; exact h.left
      | succ i => exact ih h.right i R (by simpa using hi)
  have hdone : ∀ (m : Nat) (kn : Kn) (a : Act) (w : World), (∀ i, i < ops.size → m.testBit i = true) → St tab nt E C0 (gamOf rows 0 m Γ) ρ a w ds kn Wr w0 → KnAt rows nx no m kn → Q .normal a w := by
    intro m kn a w hm hst hkn
    rw [anSeq_gam _ 0 m hcan fun i _ h2 => hm i (by omega)] at hst
    refine hQ a w kn hst ⟨fun o ho => ?_, fun x hx => ?_⟩
    · rcases hkn.1 o ho with h | ⟨i, R, h1, _, _, h2⟩
      · omega
      · have := (r4 i R h1).2.2.2.1; omega
    · rcases hkn.2 x hx with h | ⟨i, R, h1, _, _, h2⟩
      · omega
      · have := (r4 i R h1).2.1; omega
  have hrd : ∀ (listed : Array Bool) (m : Nat), (∀ i, listed.getD i false = m.testBit i) → listed.size = ops.size → ∀ j, j ∈ Region.ready .any ops listed ↔ ∃ o : Oper, ops[j]? = some o ∧ m.testBit j = false ∧ rdy m (preOf o) = true := by
    intro listed m hl hsz j
    rw [mem_ready]
    constructor
    · rintro ⟨h1, o, h2, h3⟩
      have hj : j < listed.size := by have := (Array.getElem?_eq_some_iff.1 h2).1; omega
      refine ⟨o, h2, ?_, ?_⟩
      · rw [← hl j]
        rw [Array.getD_eq_getD_getElem?, Array.getElem?_eq_getElem hj] at h1 ⊢
        exact h1
      · simp only [rdy, preOf, List.all_eq_true, List.mem_map, List.mem_filter]
        rintro x ⟨e, ⟨he1, he2⟩, rfl⟩
        rw [← hl]; exact h3 e (by simpa using he1) he2
    · rintro ⟨o, h1, h2, h3⟩
      have hj : j < listed.size := by have := (Array.getElem?_eq_some_iff.1 h1).1; omega
      refine ⟨?_, o, h1, fun e he hb => ?_⟩
      · rw [← hl j] at h2
        rw [Array.getD_eq_getD_getElem?, Array.getElem?_eq_getElem hj] at h2 ⊢
        exact h2
      · simp only [rdy, preOf, List.all_eq_true, List.mem_map, List.mem_filter] at h3
        rw [hl]; exact h3 e.on ⟨e, ⟨by simpa using he, hb⟩, rfl⟩
  simp only [anyChk, Bool.and_eq_true, List.all_eq_true] at hchk
  obtain ⟨hc0, hcm⟩ := hchk
  intro fuel
  induction fuel with
  | zero =>
    intro listed m kn a w hmem hl hsz hleft hst hkn
    have hfull := left_zero _ hleft
    refine ⟨?_, hdone m kn a w hfull hst hkn⟩
    cases hrr : Region.ready .any ops listed with
    | nil => rfl
    | cons j js =>
      obtain ⟨o, h1, h2, _⟩ := (hrd listed m hl hsz j).1 (by rw [hrr]; simp)
      have hj : j < ops.size := (Array.getElem?_eq_some_iff.1 h1).1
      rw [hfull j hj] at h2; cases h2
  | succ fuel ih =>
    intro listed m kn a w hmem hl hsz hleft hst hkn
    have hm := hcm m (by simpa using hmem)
    simp only [anyMask, Bool.and_eq_true, Bool.or_eq_true] at hm
    obtain ⟨hm1, hm2⟩ := hm
    refine ⟨fun hnil => ?_, fun i hi => ?_⟩
    · rcases hm2 with h | h
      · have h := Nat.eq_of_beq_eq_true h
        refine hdone m kn a w (fun i hi => ?_) hst hkn
        rw [h, Nat.testBit_two_pow_sub_one]; simp; omega
      · obtain ⟨i, o, h1, h2, h3⟩ := someRdy_spec _ 0 h
        have := (hrd listed m hl hsz i).2 ⟨o, by simpa using h1, by simpa using h2, h3⟩
        rw [hnil] at this; cases this
    · obtain ⟨o, h1, h2, h3⟩ := (hrd listed m hl hsz i).1 hi
      have hi' : i < ops.size := (Array.getElem?_eq_some_iff.1 h1).1
      obtain ⟨R, hR⟩ : ∃ R, rows[i]? = some R := ⟨_, List.getElem?_eq_getElem (by omega)⟩
      obtain ⟨s1, s2, s3⟩ := anyRow_spec rows ops.toList 0 hm1 i R o hR (by simpa using h1) (by simpa using h2) h3
      rw [Nat.zero_add] at s2 s3
      obtain ⟨q1, q2, q3, q4, o', q5, q6⟩ := r4 i R hR
      have : o' = o := by rw [Array.getElem?_toList, h1] at q5; cases q5; rfl
      subst this
      have hapart : ∀ (j : Nat) (S : Row), rows[j]? = some S → m.testBit j = true → j ≠ i → (R.r.no ≤ S.no ∨ S.r.no ≤ R.no) ∧ (R.r.nx ≤ S.nx ∨ S.r.nx ≤ R.nx) := by
        intro j S hS' _ hne
        rcases Nat.lt_or_ge i j with hlt | hge
        · have := r5 i j R S hR hS' hlt; exact ⟨.inl this.2, .inl this.1⟩
        · have := r5 j i S R hS' hR (by omega); exact ⟨.inr this.2, .inr this.1⟩
      have hne : ∀ j, m.testBit j = true → j ≠ i := by rintro j hj rfl; rw [h2] at hj; cases hj
      have hstep := anStep_sound (Q := Q) (K := wpAny P .any ops Q fuel (listed.setIfInBounds i true)) hT hst (fun o ho => by have := hE o ho; omega) s1 (hsis rows hS i R hR)
        (fun x h4 h5 hk => by
          rcases hkn.1 x hk with h | ⟨j, S, a1, a2, a3, a4⟩
          · omega
          · have := (hapart j S a1 a2 (hne j a2)).1; omega)
        (fun x h4 h5 hk => by
          rcases hkn.2 x hk with h | ⟨j, S, a1, a2, a3, a4⟩
          · omega
          · have := (hapart j S a1 a2 (hne j a2)).2; omega)
        (fun a' w' kn' k1 k2 k3 k4 => by
          refine ih (listed.setIfInBounds i true) (addBit m i) kn' a' w' s2 (fun j => ?_) (by simpa using hsz) (by have := left_add h2 ops.size hi'; omega) ?_ ⟨fun x hx => ?_, fun x hx => ?_⟩
          · rw [addBit_test, Array.getD_eq_getD_getElem?, Array.getElem?_setIfInBounds]
            by_cases e : i = j
            · subst e
              simp [show i < listed.size by omega]
            · rw [if_neg e, ← Array.getD_eq_getD_getElem?, hl j]
              simp [e]
          · refine k1.congr ?_
            rw [← q6]
            exact gamOf_add rows 0 i m Γ (Nat.zero_le _) (by simpa using hR) h2 s3
          · rcases k3 x hx with h | h
            · rcases hkn.1 x h with h | ⟨j, S, a1, a2, a3, a4⟩
              · exact .inl h
              · exact .inr ⟨j, S, a1, by rw [addBit_test, a2]; rfl, a3, a4⟩
            · exact .inr ⟨i, R, hR, by rw [addBit_test]; simp, h.1, h.2⟩
          · rcases k4 x hx with h | h
            · rcases hkn.2 x h with h | ⟨j, S, a1, a2, a3, a4⟩
              · exact .inl h
              · exact .inr ⟨j, S, a1, by rw [addBit_test, a2]; rfl, a3, a4⟩
            · exact .inr ⟨i, R, hR, by rw [addBit_test]; simp, h.1, h.2⟩)
      unfold wpOp
      rw [h1]
      show if Region.wanted o' (yielded ops a.tmps) = true then _ else _
      split
      · rename_i hw; rw [if_pos hw] at hstep; exact .inl hstep
      · rename_i hw; rw [if_neg hw] at hstep; exact hstep
end
end Gp
