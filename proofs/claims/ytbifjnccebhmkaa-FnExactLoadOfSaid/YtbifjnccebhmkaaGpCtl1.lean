/- Gp, part 27: pure programs whose calls are told by a relation; what a run of a region's steps says; a region. -/
import Derived.Test.YtbifjnccebhmkaaGpReg4
set_option linter.unusedVariables false
set_option linter.unusedSimpArgs false
namespace Gp
open Go

/-- As 'Big', the calls told by a relation. -/
inductive BigC (J : Nat → List T → List T → Prop) : PI → Env → Ex → Env → Prop where
  | skip {ρ} : BigC J .skip ρ .normal ρ
  | nil {ρ} : BigC J (.sis []) ρ .normal ρ
  | off {g s l ρ e ρ'} : ¬ holdsG ρ g → BigC J (.sis l) ρ e ρ' → BigC J (.sis ((g, s) :: l)) ρ e ρ'
  | set {g x e l ρ ex ρ'} : holdsG ρ g → BigC J (.sis l) (upd ρ x (den ρ e)) ex ρ' → BigC J (.sis ((g, .set x e) :: l)) ρ ex ρ'
  | mov {g x es l ρ ex ρ'} : holdsG ρ g → BigC J (.sis l) (updL ρ x (es.map (den ρ))) ex ρ' → BigC J (.sis ((g, .mov x es) :: l)) ρ ex ρ'
  | chk {g e l ρ ex ρ'} : holdsG ρ g → den ρ e = .bool true → BigC J (.sis l) ρ ex ρ' → BigC J (.sis ((g, .chk e) :: l)) ρ ex ρ'
  | call {g i args x n l ρ ex ρ' outs} : holdsG ρ g → J i (args.map (den ρ)) outs → outs.length = n →
      BigC J (.sis l) (updL ρ x outs) ex ρ' → BigC J (.sis ((g, .call i args x n) :: l)) ρ ex ρ'
  | seq {a b ρ ρ₁ ex ρ₂} : BigC J a ρ .normal ρ₁ → BigC J b ρ₁ ex ρ₂ → BigC J (.seq a b) ρ ex ρ₂
  | seqOut {a b ρ ex ρ₁} : BigC J a ρ ex ρ₁ → ex ≠ .normal → BigC J (.seq a b) ρ ex ρ₁
  | yes {e a b ρ ex ρ₁} : den ρ e = .bool true → BigC J a ρ ex ρ₁ → BigC J (.cond e a b) ρ ex ρ₁
  | no {e a b ρ ex ρ₁} : den ρ e = .bool false → BigC J b ρ ex ρ₁ → BigC J (.cond e a b) ρ ex ρ₁
  | block {id a ρ ρ₁} : BigC J a ρ .normal ρ₁ → BigC J (.block id a) ρ .normal ρ₁
  | blockIn {id a ρ ρ₁} : BigC J a ρ (.exit id) ρ₁ → BigC J (.block id a) ρ .normal ρ₁
  | blockOut {id a ρ ex ρ₁} : BigC J a ρ ex ρ₁ → ex ≠ .normal → ex ≠ .exit id → BigC J (.block id a) ρ ex ρ₁
  | loop {a ρ ρ₁ ex ρ₂} : BigC J a ρ .normal ρ₁ → BigC J (.loop a) ρ₁ ex ρ₂ → BigC J (.loop a) ρ ex ρ₂
  | loopOut {a ρ ex ρ₁} : BigC J a ρ ex ρ₁ → ex ≠ .normal → BigC J (.loop a) ρ ex ρ₁
  | exit {id ρ} : BigC J (.exit id) ρ (.exit id) ρ
  | ret {es ρ} : BigC J (.ret es) ρ (.ret (es.map (den ρ))) ρ

theorem bigC_of_big {I : Nat → Option Body} {J : Nat → List T → List T → Prop} (hc : ∀ i p ds outs ρ₁, I i = some (.code p) → BigC J p (envOf ds) (.ret outs) ρ₁ → J i ds outs)
    (hp : ∀ i R ds outs, I i = some (.prim R) → R ds outs → J i ds outs) {p : PI} {ρ : Env} {ex : Ex} {ρ' : Env} (h : Big I p ρ ex ρ') : BigC J p ρ ex ρ' := by
  induction h with
  | skip => exact .skip
  | nil => exact .nil
  | off h _ ih => exact .off h ih
  | set h _ ih => exact .set h ih
  | mov h _ ih => exact .mov h ih
  | chk h h2 _ ih => exact .chk h h2 ih
  | call h hI _ hn _ ih1 ih2 => exact .call h (hc _ _ _ _ _ hI ih1) hn ih2
  | prim h hI hR hn _ ih => exact .call h (hp _ _ _ _ hI hR) hn ih
  | seq _ _ ih1 ih2 => exact .seq ih1 ih2
  | seqOut _ hne ih => exact .seqOut ih hne
  | yes h _ ih => exact .yes h ih
  | no h _ ih => exact .no h ih
  | block _ ih => exact .block ih
  | blockIn _ ih => exact .blockIn ih
  | blockOut _ h1 h2 ih => exact .blockOut ih h1 h2
  | loop _ _ ih1 ih2 => exact .loop ih1 ih2
  | loopOut _ h ih => exact .loopOut ih h
  | exit => exact .exit
  | ret => exact .ret

section
variable {J : Nat → List T → List T → Prop} {ρ ρ' : Env}

theorem Exp.bnd_mono {n m : Nat} (hm : n ≤ m) : ∀ {e : Exp}, e.bnd n = true → e.bnd m = true
  | .var x, h => by
    have : x < n := Nat.le_of_ble_eq_true h
    exact Nat.ble_eq_true_of_le (by omega)
  | .int _, _ | .bool _, _ | .str _, _ | .nil, _ => rfl
  | .un _ a, h => Exp.bnd_mono (e := a) hm h
  | .bin _ a b, h => by
    simp only [Exp.bnd, Bool.and_eq_true] at h ⊢
    exact ⟨Exp.bnd_mono hm h.1, Exp.bnd_mono hm h.2⟩
  | .tri _ a b c, h => by
    simp only [Exp.bnd, Bool.and_eq_true] at h ⊢
    exact ⟨Exp.bnd_mono hm h.1, Exp.bnd_mono hm h.2.1, Exp.bnd_mono hm h.2.2⟩

theorem map_den_agree {n : Nat} (ha : Agree n ρ ρ') {es : List Exp} (h : es.all (Exp.bnd n) = true) : es.map (den ρ') = es.map (den ρ) :=
  List.map_congr_left fun e he => den_agree ha e (by simp only [List.all_eq_true] at h; exact h e he)

/-- A run of steps, each variable set once: afterwards all that the steps say holds, and what was there stands. -/
theorem sis_run : ∀ (l : List (Grd × SI)) {n m : Nat} {ρ ρ' : Env} {ex : Ex}, ssaL n l = some m → BigC J (.sis l) ρ ex ρ' → ex = .normal ∧ n ≤ m ∧ Agree n ρ ρ' ∧ HoldsS J ρ' l
  | [], n, m, ρ, ρ', ex, hs, hb => by
    cases hs
    cases hb
    exact ⟨rfl, Nat.le_refl _, Agree.refl _ _, fun x hx => by simp at hx⟩
  | (g, s) :: l, n, m, ρ, ρ', ex, hs, hb => by
    simp only [ssaL] at hs
    split at hs
    case isFalse => cases hs
    rename_i hg
    split at hs
    case h_2 => cases hs
    rename_i n1 h1
    -- what the rest says, and that it tells nothing of what is below
    have key : ∀ ρ1 : Env, BigC J (.sis l) ρ1 ex ρ' → n ≤ n1 → Agree n ρ ρ1 → (holdsG ρ g → Agree n1 ρ1 ρ' → SIok J ρ' s) → ex = .normal ∧ n ≤ m ∧ Agree n ρ ρ' ∧ HoldsS J ρ' ((g, s) :: l) := by
      intro ρ1 hb1 hn ha hok
      obtain ⟨e1, e2, e3, e4⟩ := sis_run l hs hb1
      have ha' : Agree n ρ ρ' := ha.trans (e3.mono hn)
      refine ⟨e1, by omega, ha', fun x hx hgx => ?_⟩
      rcases List.mem_cons.1 hx with rfl | hx
      · exact hok ((gBnd_agree ha' hg).1 hgx) e3
      · exact e4 x hx hgx
    cases hb with
    | off hng hb => 
      have hn : n ≤ n1 := by
        cases s <;> simp only [SI.ssa] at h1 <;> split at h1 <;> cases h1 <;> omega
      exact key ρ hb hn (Agree.refl _ _) fun hg' => absurd hg' hng
    | set hgt hb =>
      rename_i x e
      simp only [SI.ssa] at h1
      split at h1
      case isFalse => cases h1
      rename_i hc
      simp only [Bool.and_eq_true] at hc
      cases h1
      have hx := Nat.eq_of_beq_eq_true hc.1
      subst hx
      refine key _ hb (by omega) (agree_upd (Nat.le_refl _)) fun _ ha => ?_
      show ρ' x = den ρ' e
      rw [ha x (by omega)]
      have hag : Agree x ρ ρ' := (agree_upd (Nat.le_refl _)).trans (ha.mono (by omega))
      rw [den_agree hag e hc.2]; simp [upd]
    | mov hgt hb =>
      rename_i x es
      simp only [SI.ssa] at h1
      split at h1
      case isFalse => cases h1
      rename_i hc
      simp only [Bool.and_eq_true] at hc
      cases h1
      have hx := Nat.eq_of_beq_eq_true hc.1
      subst hx
      refine key _ hb (by omega) (agree_updL _ _ _ (Nat.le_refl _)) fun _ ha => ?_
      intro j e hj
      have hlt := List.getD_some_lt hj
      have hag : Agree x ρ ρ' := (agree_updL _ _ _ (Nat.le_refl _)).trans (ha.mono (by omega))
      rw [ha (x + j) (by omega), updL_get _ _ _ j (den ρ e) (by rw [List.getElem?_map, hj]; rfl)]
      rw [den_agree hag e]
      have := hc.2
      simp only [List.all_eq_true] at this
      exact this e (List.mem_of_getElem? hj)
    | chk hgt he hb =>
      rename_i e
      simp only [SI.ssa] at h1
      split at h1
      case isFalse => cases h1
      rename_i hc
      cases h1
      refine key _ hb (Nat.le_refl _) (Agree.refl _ _) fun _ ha => ?_
      show den ρ' e = _
      rw [den_agree ha e hc]; exact he
    | call hgt hJ hl hb =>
      rename_i i args x k outs
      simp only [SI.ssa] at h1
      split at h1
      case isFalse => cases h1
      rename_i hc
      simp only [Bool.and_eq_true] at hc
      cases h1
      have hx := Nat.eq_of_beq_eq_true hc.1
      subst hx
      refine key _ hb (by omega) (agree_updL _ _ _ (Nat.le_refl _)) fun _ ha => ?_
      have hag : Agree x ρ ρ' := (agree_updL _ _ _ (Nat.le_refl _)).trans (ha.mono (by omega))
      refine ⟨outs, by rw [map_den_agree hag hc.2]; exact hJ, hl, fun j v hj => ?_⟩
      have hlt := List.getD_some_lt hj
      rw [ha (x + j) (by omega), updL_get _ _ _ j v hj]
end

section
variable {tab : Tab} {Γ Γ' : Gam} {ρ ρ' : Env} {tm : Array Value} {w w' : World} {C C1 Cx : Ctx} {kn kn' : Kn} {Wr : CS} {w0 : World} {P : Program} {G : Grd} {nx no nx' no' nb : Nat} {obs : Obs} {S : Sig} {sigs : List Sig}

def anReg (tab : Tab) (sigs : List Sig) (nt : Nat) (Γ : Gam) (nx no : Nat) (ops : Array Oper) (draw : Bool) (masks : List Nat) : Option (List (Grd × SI) × Gam × Nat × Nat) :=
  if Γ.bnd nx then match anSeq tab sigs ops nt ops.toList Γ nx no with
    | some (rows, Γ', nx', no') => if ssaL nx (sisOf rows) == some nx' && (!draw || anyChk tab sigs ops nt rows Γ masks) then some (sisOf rows, Γ', nx', no') else none
    | none => none
  else none

theorem anReg_sound {E : Nat → Prop} {C0 : Ctx} {nt : Nat} {ops : Array Oper} {ds : List Deferred} {Q : Exit → Act → World → Prop} {draw : Bool} {masks : List Nat} {sis : List (Grd × SI)} {id : Nat} {a : Act} {ex : Ex} (hT : TabOk P tab) (hm : P.follows .mixedOrders = true)
    (hr : anReg tab sigs nt Γ nx no ops draw masks = some (sis, Γ', nx', no')) (hst : St tab nt E C0 Γ ρ a w ds kn Wr w0) (hE : ∀ o, E o → o < no) (hkn : kn.below nx no)
    (hb : BigC (CallOk P tab sigs) (.sis sis) ρ ex ρ') (hQ : ∀ a' w' kn', St tab nt E C0 Γ' ρ' a' w' ds kn' Wr w0 → kn'.below nx' no' → Q .normal a' w') :
    ex = .normal ∧ nx ≤ nx' ∧ no ≤ no' ∧ (Code.region id ops draw).wp P Q a w := by
  unfold anReg at hr
  split at hr
  case isFalse => cases hr
  rename_i hbnd
  split at hr
  case h_2 => cases hr
  rename_i rows Γ2 nx2 no2 hcan
  split at hr
  case isFalse => cases hr
  rename_i hc
  cases hr
  simp only [Bool.and_eq_true, Bool.or_eq_true, beq_iff_eq, Bool.not_eq_true'] at hc
  obtain ⟨hssa, hany⟩ := hc
  obtain ⟨e1, e2, e3, e4⟩ := sis_run _ hssa hb
  obtain ⟨⟨C, hrel, hkeep⟩, s2, s3, s4⟩ := hst
  have hrel' := hrel.agree e3 hbnd
  obtain ⟨r1, r2, r3, r4, r5⟩ := anSeq_rows _ hcan
  refine ⟨e1, e2, r3, ?_⟩
  cases draw with
  | false =>
    refine wp_region ?_
    have := anSeq_sound (Q := Q) hT ops.toList 0 (fun j => by simp) hcan e4 ⟨⟨C, hrel', hkeep⟩, s2, s3, s4⟩ hE hkn hQ
    rw [List.range_eq_range']
    simpa using this
  | true =>
    have hany := hany.resolve_left (by simp)
    refine wp_region_any hm ?_
    have hc0 : masks.contains 0 = true := by
      simp only [anyChk, Bool.and_eq_true] at hany; exact hany.1
    refine any_sound (Q := Q) hT hcan hany e4 hE hQ ops.size _ 0 kn a _ hc0 (fun i => ?_) (by simp) (left_full _) ?_ ⟨fun o ho => .inl (hkn.1 o ho), fun x hx => .inl (hkn.2 x hx)⟩
    · simp only [Nat.zero_testBit, Array.getD_eq_getD_getElem?, Array.getElem?_replicate]
      split <;> rfl
    · rw [gamOf_zero]
      exact ⟨⟨C, hrel'.grows (Grows.drew w), hkeep⟩, s2, s3, s4⟩
end
end Gp
