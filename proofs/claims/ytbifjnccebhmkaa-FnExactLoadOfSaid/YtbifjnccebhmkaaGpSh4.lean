/- Gp, part 53: the typed reading of programs is right. -/
import Derived.Test.YtbifjnccebhmkaaGpSh3
set_option linter.unusedVariables false
set_option linter.unusedSimpArgs false
namespace Gp
open Go Sh

theorem gbnd_iff {g : Grd} {n : Nat} : gbnd g n = true ↔ ∀ q ∈ g, q.1.bnd n = true := by simp [gbnd]
theorem holdsG_agree {ρ ρ' : Env} {n : Nat} (h : Agree n ρ ρ') {g : Grd} (hg : ∀ q ∈ g, q.1.bnd n = true) : holdsG ρ' g ↔ holdsG ρ g := by
  rw [holdsG_all, holdsG_all]
  constructor
  · intro k p hp; rw [← den_agree h p.1 (hg p hp)]; exact k p hp
  · intro k p hp; rw [den_agree h p.1 (hg p hp)]; exact k p hp

theorem encs_length : ∀ (ts : List Ty) (a : Tup ts), (encs ts a).length = ts.length
  | [], _ => rfl
  | [t], _ => rfl
  | t :: u :: r, a => by simp only [encs, List.length_cons]; rw [encs_length (u :: r) a.2]; rfl
theorem unpG_length (g : Grd) : ∀ (ts : List Ty) (a : Tup ts), (unpG g ts a).length = ts.length
  | [], _ => rfl
  | [t], _ => rfl
  | t :: u :: r, a => by simp only [unpG, List.length_cons]; rw [unpG_length g (u :: r) a.2]; rfl
theorem unpG_get (g : Grd) : ∀ (ts : List Ty) (a : Tup ts) (j : Nat) (s : Slot), (unpG g ts a)[j]? = some s → s.g = g ∧ (encs ts a)[j]? = some s.x.enc
  | [], _, j, s, h => by simp [unpG] at h
  | [t], a, j, s, h => by
    cases j with
    | zero => simp [unpG] at h; subst h; exact ⟨rfl, rfl⟩
    | succ j => simp [unpG] at h
  | t :: u :: r, a, j, s, h => by
    cases j with
    | zero => simp [unpG] at h; subst h; exact ⟨rfl, rfl⟩
    | succ j =>
      simp only [unpG, List.getElem?_cons_succ] at h
      simpa only [encs, List.getElem?_cons_succ] using unpG_get g (u :: r) a.2 j s h

theorem Slot.as_eq {s : Slot} {t : Ty} {v : t.den} (h : s.as t = some v) : s = ⟨[], t, v⟩ := by
  unfold Slot.as at h
  split at h
  · rename_i hg
    have := TV.as_eq h
    cases s; simp_all
  · cases h
theorem packs_eq : ∀ {ts : List Ty} {l : List Slot} {a : Tup ts}, packs ts l = some a → l = unp ts a
  | [], [], a, h => rfl
  | [], _ :: _, a, h => by simp [packs] at h
  | [t], [], a, h => by simp [packs] at h
  | [t], [s], a, h => by
    have := Slot.as_eq (show s.as t = some a from h)
    rw [this]; rfl
  | [t], _ :: _ :: _, a, h => by simp [packs] at h
  | t :: u :: r, [], a, h => by simp [packs] at h
  | t :: u :: r, s :: ss, a, h => by
    simp only [packs] at h
    split at h
    case h_2 => cases h
    rename_i x hx
    split at h
    case h_2 => cases h
    rename_i y hy
    cases h
    rw [Slot.as_eq hx, packs_eq hy]; rfl

theorem xin_eq {R : Type} : ∀ {L : List (List Ty)} {k : Nat} {sl : List Slot} {x : XT L} (f : Nat → List Slot → Option R), xin L k sl = some x → xout L x f = f k sl ∧ (∃ t, L[k]? = some t ∧ ∃ a : Tup t, sl = unp t a)
  | [], k, sl, x, f, h => by cases k <;> simp [xin] at h
  | [t], 0, sl, x, f, h => by
    have e := packs_eq (show packs t sl = some x from h)
    exact ⟨by rw [e]; rfl, t, rfl, x, e⟩
  | [t], k + 1, sl, x, f, h => by simp [xin] at h
  | t :: u :: r, 0, sl, x, f, h => by
    simp only [xin] at h
    split at h
    case h_2 => cases h
    rename_i s hs
    cases h
    have e := packs_eq hs
    exact ⟨by rw [e]; rfl, t, rfl, s, e⟩
  | t :: u :: r, k + 1, sl, x, f, h => by
    simp only [xin] at h
    split at h
    case h_2 => cases h
    rename_i s hs
    cases h
    obtain ⟨h1, t', h2, h3⟩ := xin_eq (fun k => f (k + 1)) hs
    exact ⟨h1, t', by simpa using h2, h3⟩

theorem need_some {R : Type} {k : Option R} {r : R} : ∀ {l : List Bool}, need l k = some r → (∀ b ∈ l, b = true) ∧ k = some r
  | [], h => ⟨by simp, h⟩
  | b :: l, h => by
    unfold need at h
    split at h
    · rename_i hb
      obtain ⟨h1, h2⟩ := need_some h
      exact ⟨fun x hx => by
        rcases List.mem_cons.1 hx with rfl | hx
        · exact hb
        · exact h1 x hx, h2⟩
    · cases h

theorem factOk_agree {ρ ρ' : Env} {n : Nat} {e : Exp} (ha : Agree n ρ ρ') (he : e.bnd n = true) (h : factOk ρ e) : factOk ρ' e := by
  unfold factOk at h ⊢
  split
  · rename_i x d
    simp only [Exp.bnd, Bool.and_eq_true] at he
    rw [den_agree ha d he.2, ha x (Nat.le_of_ble_eq_true he.1)]
    exact h
  · rename_i hne
    rw [den_agree ha e he]
    split at h
    · rename_i x d; exact absurd rfl (hne x d)
    · exact h

/-! ### The relation, carried on -/
structure RelB (ρ : Env) (K : Kno) (l : List Slot) : Prop extends RelS ρ K l where
  kb : ∀ p ∈ K, p.2.bnd l.length = true ∧ ∀ q ∈ p.1, q.1.bnd l.length = true

variable {ρ ρ' : Env} {K : Kno} {l : List Slot}

theorem RelB.app (h : RelB ρ K l) {g : Grd} (hg : gbnd g l.length = true) {ts : List Ty} {a : Tup ts} (ha : Agree l.length ρ ρ')
    (hv : holdsG ρ g → ∀ j x, (encs ts a)[j]? = some x → ρ' (l.length + j) = x) : RelB ρ' K (l ++ unpG g ts a) where
  slot j s hs := by
    by_cases hj : j < l.length
    · rw [List.getElem?_append_left hj] at hs
      obtain ⟨h1, h2⟩ := h.slot j s hs
      refine ⟨h1, fun hh => ?_⟩
      rw [ha j hj]
      exact h2 ((holdsG_agree ha fun q hq => Exp.bnd_mono (by omega) (h1 q hq)).1 hh)
    · rw [List.getElem?_append_right (by omega)] at hs
      obtain ⟨h1, h2⟩ := unpG_get g ts a _ s hs
      rw [h1]
      refine ⟨fun q hq => Exp.bnd_mono (by omega) (gbnd_iff.1 hg q hq), fun hh => ?_⟩
      have := hv ((holdsG_agree ha (gbnd_iff.1 hg)).1 hh) _ _ h2
      rwa [show l.length + (j - l.length) = j by omega] at this
  kno p hp hh := by
    obtain ⟨h1, h2⟩ := h.kb p hp
    exact factOk_agree ha h1 (h.kno p hp ((holdsG_agree ha h2).1 hh))
  kb p hp := by
    obtain ⟨h1, h2⟩ := h.kb p hp
    have : l.length ≤ (l ++ unpG g ts a).length := by simp
    exact ⟨Exp.bnd_mono this h1, fun q hq => Exp.bnd_mono this (h2 q hq)⟩
theorem RelB.on (h : RelB ρ K l) {g : Grd} (hg : gbnd g l.length = true) {ts : List Ty} {a : Tup ts} : RelB (updL ρ l.length (encs ts a)) K (l ++ unpG g ts a) :=
  h.app hg (agree_updL _ _ _ (Nat.le_refl _)) fun _ j x hx => updL_get _ _ _ _ _ hx
theorem RelB.off (h : RelB ρ K l) {g : Grd} (hg : gbnd g l.length = true) (hn : ¬ holdsG ρ g) {ts : List Ty} {a : Tup ts} : RelB ρ K (l ++ unpG g ts a) :=
  h.app hg (Agree.refl _ _) fun hh => absurd hh hn
theorem RelB.know (h : RelB ρ K l) {g : Grd} {e : Exp} (he : e.bnd l.length = true) (hg : gbnd g l.length = true) (hv : holdsG ρ g → den ρ e = .bool true) : RelB ρ ((g, e) :: K) l where
  slot := h.slot
  kno p hp hh := by
    rcases List.mem_cons.1 hp with rfl | hp
    · exact factOk_of (hv hh)
    · exact h.kno p hp hh
  kb p hp := by
    rcases List.mem_cons.1 hp with rfl | hp
    · exact ⟨he, gbnd_iff.1 hg⟩
    · exact h.kb p hp
/-- What stands below a bound, and new values from there on. -/
theorem RelB.base (h : RelB ρ K l) {nb : Nat} (hnb : nb ≤ l.length) (ha : Agree nb ρ ρ') {ts : List Ty} {a : Tup ts}
    (hv : ∀ j x, (encs ts a)[j]? = some x → ρ' (nb + j) = x) : RelB ρ' (K.bnd nb) (l.take nb ++ unp ts a) where
  slot j s hs := by
    have hl : (l.take nb).length = nb := by simp; omega
    by_cases hj : j < nb
    · rw [List.getElem?_append_left (by omega), List.getElem?_take_of_lt hj] at hs
      obtain ⟨h1, h2⟩ := h.slot j s hs
      refine ⟨h1, fun hh => ?_⟩
      rw [ha j hj]
      exact h2 ((holdsG_agree ha fun q hq => Exp.bnd_mono (by omega) (h1 q hq)).1 hh)
    · rw [List.getElem?_append_right (by omega), hl] at hs
      obtain ⟨h1, h2⟩ := unpG_get [] ts a _ s hs
      rw [h1]
      refine ⟨by simp, fun _ => ?_⟩
      have := hv _ _ h2
      rwa [show nb + (j - nb) = j by omega] at this
  kno p hp hh := by
    simp only [Kno.bnd, List.mem_filter, Bool.and_eq_true, List.all_eq_true] at hp
    obtain ⟨h0, h1, h2⟩ := hp
    exact factOk_agree ha h1 (h.kno p h0 ((holdsG_agree ha h2).1 hh))
  kb p hp := by
    simp only [Kno.bnd, List.mem_filter, Bool.and_eq_true, List.all_eq_true] at hp
    obtain ⟨h0, h1, h2⟩ := hp
    have : nb ≤ (l.take nb ++ unp ts a).length := by simp; omega
    exact ⟨Exp.bnd_mono this h1, fun q hq => Exp.bnd_mono this (h2 q hq)⟩
theorem RelB.noK (h : RelB ρ K l) : RelB ρ [] l := ⟨⟨h.slot, fun p hp => by cases hp⟩, fun p hp => by cases hp⟩
/-- .. where the new values stand as the last slots of another state. -/
theorem RelB.base' (h : RelB ρ K l) {nb : Nat} (hnb : nb ≤ l.length) (ha : Agree nb ρ ρ') {K' : Kno} {l' : List Slot} (h' : RelB ρ' K' l') {ts : List Ty} {a : Tup ts}
    (hv : l'.drop nb = unp ts a) : RelB ρ' (K.bnd nb) (l.take nb ++ unp ts a) := by
  refine h.base hnb ha fun j x hx => ?_
  have hlt : j < (encs ts a).length := by rw [List.getElem?_eq_some_iff] at hx; exact hx.1
  have hlt' : j < (unp ts a).length := by rw [encs_length] at hlt; unfold unp; rw [unpG_length]; exact hlt
  have hs := List.getElem?_eq_getElem hlt'
  obtain ⟨h1, h2⟩ := unpG_get [] ts a j _ hs
  have h3 : l'[nb + j]? = some ((unp ts a)[j]) := by rw [← List.getElem?_drop, hv]; exact hs
  obtain ⟨_, h4⟩ := h'.slot _ _ h3
  have h5 := h4 (by rw [show ((unp ts a)[j]).g = [] from h1]; trivial)
  rw [h5]
  rw [hx] at h2
  exact (Option.some.inj h2).symm

/-! ### Steps -/
theorem big_agree {I : Nat → Option Body} {nb : Nat} {p : PI} {ex : Ex} (h : Big I p ρ ex ρ') : lowP nb p = true → Agree nb ρ ρ' := by
  induction h with
  | skip => intro _; exact Agree.refl _ _
  | nil => intro _; exact Agree.refl _ _
  | @off g s l ρ e ρ' hn hb ih =>
    intro hl
    refine ih ?_
    cases s <;> simp only [lowP, lowS, Bool.and_eq_true] at hl ⊢ <;> first | exact hl.2 | exact hl
  | set _ hb ih =>
    intro hl
    simp only [lowP, lowS, Bool.and_eq_true] at hl
    exact (agree_upd (Nat.le_of_ble_eq_true hl.1)).trans (ih hl.2)
  | mov _ hb ih =>
    intro hl
    simp only [lowP, lowS, Bool.and_eq_true] at hl
    exact (agree_updL _ _ _ (Nat.le_of_ble_eq_true hl.1)).trans (ih hl.2)
  | chk _ _ hb ih => intro hl; exact ih hl
  | call _ _ _ _ hb _ ih =>
    intro hl
    simp only [lowP, lowS, Bool.and_eq_true] at hl
    exact (agree_updL _ _ _ (Nat.le_of_ble_eq_true hl.1)).trans (ih hl.2)
  | prim _ _ _ _ hb ih =>
    intro hl
    simp only [lowP, lowS, Bool.and_eq_true] at hl
    exact (agree_updL _ _ _ (Nat.le_of_ble_eq_true hl.1)).trans (ih hl.2)
  | seq _ _ iha ihb => intro hl; simp only [lowP, Bool.and_eq_true] at hl; exact (iha hl.1).trans (ihb hl.2)
  | seqOut _ _ iha => intro hl; simp only [lowP, Bool.and_eq_true] at hl; exact iha hl.1
  | yes _ _ ih => intro hl; simp only [lowP, Bool.and_eq_true] at hl; exact ih hl.1
  | no _ _ ih => intro hl; simp only [lowP, Bool.and_eq_true] at hl; exact ih hl.2
  | block _ ih => intro hl; exact ih hl
  | blockIn _ ih => intro hl; exact ih hl
  | blockOut _ _ _ ih => intro hl; exact ih hl
  | loop _ _ iha ihb => intro hl; exact (iha hl).trans (ihb hl)
  | loopOut _ _ ih => intro hl; exact ih hl
  | exit => intro _; exact Agree.refl _ _
  | ret => intro _; exact Agree.refl _ _

theorem gB_sound (hR : RelS ρ K l) : ∀ {g : Grd} {c : Bool} {ob : List Bool}, gB K l g = some (c, ob) → (∀ b ∈ ob, b = true) → (holdsG ρ g ↔ c = true)
  | [], c, ob, h, hob => by cases h; simp [holdsG]
  | [(e, b)], c, ob, h, hob => by
    simp only [gB] at h
    split at h
    case h_2 => cases h
    rename_i x hx
    split at h
    case h_2 => cases h
    rename_i v hv
    cases h
    have h1 : den ρ e = x.x.enc := ev_sound hR e [] _ x hx trivial hob
    rw [EV.as_eq hv] at h1
    simp only [holdsG, and_true, h1, TV.enc, Ty.enc_bool, T.bool.injEq]
    cases b <;> cases v <;> simp
  | (e, b) :: q :: r, c, ob, h, hob => by
    simp only [gB] at h
    split at h
    case h_2 => cases h
    rename_i c' ob' hc'
    split at h
    case h_2 => cases h
    rename_i x hx
    split at h
    case h_2 => cases h
    rename_i v hv
    cases h
    obtain ⟨o1, o2⟩ := obs_app hob
    have h0 := gB_sound hR hc' o1
    rw [holdsG]
    cases c' with
    | false => 
      have : ¬ holdsG ρ (q :: r) := fun hh => by have := h0.1 hh; cases this
      simp only [Bool.false_and, Bool.false_eq_true, iff_false]
      exact fun hh => this hh.2
    | true =>
      have hq := h0.2 rfl
      have h1 : den ρ e = x.x.enc := ev_sound hR e _ _ x hx hq (map_or_true o2 rfl)
      rw [EV.as_eq hv] at h1
      simp only [hq, and_true, h1, TV.enc, Ty.enc_bool, T.bool.injEq, Bool.true_and]
      cases b <;> cases v <;> simp

theorem evs_sound (hR : RelS ρ K l) {G : Grd} (hG : holdsG ρ G) : ∀ {es : List Exp} {ts : List Ty} {a : Tup ts} {ob : List Bool}, evs K l G es ts = some (a, ob) → (∀ b ∈ ob, b = true) → es.map (den ρ) = encs ts a
  | [], [], a, ob, h, hob => rfl
  | [], [t], a, ob, h, hob => by simp [evs] at h
  | [], t :: u :: r, a, ob, h, hob => by simp [evs] at h
  | e :: es, [], a, ob, h, hob => by simp [evs] at h
  | e :: e' :: es, [t], a, ob, h, hob => by simp [evs] at h
  | [e], [t], a, ob, h, hob => by
    simp only [evs] at h
    split at h
    case h_2 => cases h
    rename_i x hx
    split at h
    case h_2 => cases h
    rename_i v hv
    cases h
    have h1 : den ρ e = x.x.enc := ev_sound hR e G _ x hx hG hob
    rw [EV.as_eq hv] at h1
    simp only [List.map_cons, List.map_nil, h1, encs]; rfl
  | e :: es, t :: u :: r, a, ob, h, hob => by
    simp only [evs] at h
    split at h
    case h_2 => cases h
    rename_i x hx
    split at h
    case h_2 => cases h
    rename_i v hv
    split at h
    case h_2 => cases h
    rename_i w ob' hw
    cases h
    obtain ⟨o1, o2⟩ := obs_app hob
    have h1 : den ρ e = x.x.enc := ev_sound hR e G _ x hx hG o1
    rw [EV.as_eq hv] at h1
    simp only [List.map_cons, h1, encs, evs_sound hR hG hw o2]; rfl

/-- A typed function tells an instance. -/
def TfOk (I : Nat → Option Body) (j : Nat) (F : Fn) : Prop := ∀ a r, F.f a = some r → CallI I j (encs F.ins a) (encs F.outs r)

theorem big_call {I : Nat → Option Body} {g : Grd} {j : Nat} {args : List Exp} {x n : Nat} {s : List (Grd × SI)} {ex : Ex} {outs : List T} (hg : holdsG ρ g) (hc : CallI I j (args.map (den ρ)) outs) (hn : outs.length = n)
    (hb : Big I (.sis s) (updL ρ x outs) ex ρ') : Big I (.sis ((g, .call j args x n) :: s)) ρ ex ρ' := by
  rcases hc with ⟨p, ρ1, h1, h2⟩ | ⟨R, h1, h2⟩
  · exact .call hg h1 h2 hn hb
  · exact .prim hg h1 h2 hn hb

variable {I : Nat → Option Body} {fs : List Fn} {i : Nat}

theorem obE_sound (hR : RelS ρ K l) : ∀ {os : List Exp} {ob : List Bool}, obE K l os = some ob → (∀ b ∈ ob, b = true) → ∀ e ∈ os, den ρ e = .bool true
  | [], ob, h, hob, e, he => by cases he
  | o :: r, ob, h, hob, e, he => by
    unfold obE at h
    split at h
    · rename_i heq; cases heq
    · rename_i a b r' heq
      cases heq
      split at h
      · rename_i hk
        rcases List.mem_cons.1 he with rfl | he
        · exact knows_rng hR.kno hk (G := []) trivial
        · exact obE_sound hR h hob e he
      · split at h
        case h_2 => cases h
        rename_i x hx
        split at h
        case h_2 => cases h
        rename_i v hv
        split at h
        case h_2 => cases h
        rename_i l' hl
        cases h
        obtain ⟨o1, o2⟩ := obs_app hob
        have hv1 := o2 v (by simp)
        rcases List.mem_cons.1 he with rfl | he
        · have h1 : den ρ (.bin .and a b) = x.x.enc := ev_sound hR _ [] _ x hx trivial o1
          rw [EV.as_eq hv] at h1
          rw [h1, hv1]; rfl
        · exact obE_sound hR hl (fun b hb => o2 b (List.mem_cons_of_mem _ hb)) e he
    · cases h
theorem rsL_sound {K : Kno} (hK : KnoOk ρ K) : ∀ {es : List Exp}, (∀ o ∈ (rsL K es).2, den ρ o = .bool true) → (rsL K es).1.map (den ρ) = es.map (den ρ)
  | [], _ => rfl
  | e :: es, h => by
    simp only [rsL] at h ⊢
    rw [List.map_cons, List.map_cons, rs_sound hK fun o ho => h o (List.mem_append_left _ ho), rsL_sound hK fun o ho => h o (List.mem_append_right _ ho)]
theorem dnS_sound (hfs : ∀ j F, j < i → fs[j]? = some F → TfOk I j F) {R : Type} {k : Kno → List Slot → Option R} {r : R} :
    ∀ (s : List (Grd × SI)) (ts : List Ty) (K : Kno) (l : List Slot) (ρ : Env), RelB ρ K l → dnS fs i k s ts K l = some r →
      ∃ ρ' K' l', Big I (.sis s) ρ .normal ρ' ∧ RelB ρ' K' l' ∧ k K' l' = some r
  | [], ts, K, l, ρ, hR, h => ⟨ρ, K, l, .nil, hR, h⟩
  | (g, .set x e) :: s, ts, K, l, ρ, hR, h => by
    simp only [dnS] at h
    split at h
    · cases h
    rename_i t ts
    split at h
    case isFalse => cases h
    rename_i hc
    simp only [Bool.and_eq_true] at hc
    obtain ⟨hx, hgb⟩ := hc
    have hx := Nat.eq_of_beq_eq_true hx
    subst hx
    split at h
    · split at h
      case h_2 => cases h
      rename_i ob0 hob0
      split at h
      · split at h
        case isFalse => cases h
        rename_i hbd
        obtain ⟨ho, h⟩ := need_some h
        have hden := rs_sound hR.kno (obE_sound hR.toRelS hob0 ho)
        have hR2 : RelB (upd ρ l.length (den ρ e)) (([], defE l.length (rs K e).1) :: K) (l ++ [⟨[(.bool false, true)], .unit, ()⟩]) := by
          have h1 : RelB (upd ρ l.length (den ρ e)) K (l ++ [⟨[(.bool false, true)], .unit, ()⟩]) :=
            hR.app (g := [(.bool false, true)]) (ts := [.unit]) (a := ()) rfl (agree_upd (Nat.le_refl _)) (fun hh => by have := hh.1; cases this)
          have hag : Agree l.length ρ (upd ρ l.length (den ρ e)) := agree_upd (Nat.le_refl _)
          exact {
            slot := h1.slot
            kno := fun p hp hh => by
              rcases List.mem_cons.1 hp with rfl | hp
              · show upd ρ l.length (den ρ e) l.length = den _ (rs K e).1
                rw [den_agree hag _ hbd, hden]
                simp [upd]
              · exact h1.kno p hp hh
            kb := fun p hp => by
              rcases List.mem_cons.1 hp with rfl | hp
              · refine ⟨?_, by simp⟩
                show (Exp.bnd _ (.var l.length) && Exp.bnd _ (rs K e).1) = true
                rw [Bool.and_eq_true]
                refine ⟨?_, Exp.bnd_mono (by simp) hbd⟩
                show Nat.blt l.length _ = true
                simp [Nat.blt]
              · exact h1.kb p hp }
        obtain ⟨ρ', K', l', h1, h2, h3⟩ := dnS_sound hfs s ts _ _ _ hR2 h
        exact ⟨ρ', K', l', .set trivial h1, h2, h3⟩
      · split at h
        case h_2 => cases h
        rename_i v hv
        split at h
        case h_2 => cases h
        rename_i w hw
        obtain ⟨ho0, hA⟩ := need_some h
        obtain ⟨ho, hB⟩ := need_some hA
        have hden := rs_sound hR.kno (obE_sound hR.toRelS hob0 ho0)
        have h1 : den ρ (rs K e).1 = v.x.enc := ev_sound hR.toRelS _ [] _ v hv trivial ho
        rw [EV.as_eq hw, hden] at h1
        have on : RelB (upd ρ l.length (den ρ e)) K (l ++ [⟨[], t, w⟩]) := by
          rw [h1]; exact hR.on (ts := [t]) (a := w) hgb
        obtain ⟨ρ', K', l', h1, h2, h3⟩ := dnS_sound hfs s ts K _ _ on hB
        exact ⟨ρ', K', l', .set trivial h1, h2, h3⟩
    · split at h
      case h_2 => cases h
      rename_i v hv
      split at h
      case h_2 => cases h
      rename_i w hw
      split at h
      case h_2 => cases h
      rename_i c ob hc
      have on : holdsG ρ g → (∀ b ∈ v.ob, b = true) → RelB (upd ρ l.length (den ρ e)) K (l ++ [⟨g, t, w⟩]) := by
        intro hg ho
        have h1 : den ρ e = v.x.enc := ev_sound hR.toRelS e g _ v hv hg ho
        rw [EV.as_eq hw] at h1
        rw [h1]
        exact hR.on (ts := [t]) (a := w) hgb
      obtain ⟨ho, hA⟩ := need_some h
      obtain ⟨ho2, hB⟩ := need_some hA
      clear h hA
      have h := hB
      clear hB
      have hgc := gB_sound hR.toRelS hc ho
      cases c with
      | true =>
        have hg := hgc.2 rfl
        obtain ⟨ρ', K', l', h1, h2, h3⟩ := dnS_sound hfs s ts K _ _ (on hg (map_or_true ho2 rfl)) h
        exact ⟨ρ', K', l', .set hg h1, h2, h3⟩
      | false =>
        have hg : ¬ holdsG ρ g := fun hh => by have := hgc.1 hh; cases this
        obtain ⟨ρ', K', l', h1, h2, h3⟩ := dnS_sound hfs s ts K _ _ (hR.off (ts := [t]) (a := w) hgb hg) h
        exact ⟨ρ', K', l', .off hg h1, h2, h3⟩
  | (g, .mov x es) :: s, ts, K, l, ρ, hR, h => by
    simp only [dnS] at h
    split at h
    case h_2 => cases h
    split at h
    case isFalse => cases h
    rename_i hx
    have hx := Nat.le_of_ble_eq_true hx
    split at h
    case h_2 => cases h
    rename_i ob0 hob0
    split at h
    case h_2 => cases h
    rename_i a ob ha
    obtain ⟨ho0, hA⟩ := need_some h
    obtain ⟨ho, hB⟩ := need_some hA
    have hv := evs_sound hR.toRelS (G := []) trivial ha ho
    rw [rsL_sound hR.kno (obE_sound hR.toRelS hob0 ho0)] at hv
    have := hR.base (ρ' := updL ρ x (es.map (den ρ))) hx (agree_updL _ _ _ (Nat.le_refl _)) (a := a) (fun j y hy => by rw [hv]; exact updL_get _ _ _ _ _ hy)
    obtain ⟨ρ', K', l', h1, h2, h3⟩ := dnS_sound hfs s _ _ _ _ this hB
    exact ⟨ρ', K', l', .mov trivial h1, h2, h3⟩
  | (g, .chk e) :: s, ts, K, l, ρ, hR, h => by
    simp only [dnS] at h
    split at h
    case isFalse => cases h
    rename_i hb
    simp only [Bool.and_eq_true] at hb
    obtain ⟨⟨heb, hgb⟩, hnd⟩ := hb
    split at h
    · split at h
      case h_2 => cases h
      rename_i ob0 hob0
      split at h
      case h_2 => cases h
      rename_i v hv
      split at h
      case h_2 => cases h
      rename_i w hw
      obtain ⟨ho0, hA⟩ := need_some h
      obtain ⟨ho, hB⟩ := need_some hA
      split at hB
      case isFalse => cases hB
      rename_i hc
      have h1 : den ρ (rs K e).1 = v.x.enc := ev_sound hR.toRelS _ [] _ v hv trivial ho
      rw [EV.as_eq hw, rs_sound hR.kno (obE_sound hR.toRelS hob0 ho0), hc] at h1
      obtain ⟨ρ', K', l', h2, h3, h4⟩ := dnS_sound hfs s _ _ _ _ (hR.know heb hgb fun _ => h1) hB
      exact ⟨ρ', K', l', .chk trivial h1 h2, h3, h4⟩
    · split at h
      case h_2 => cases h
      rename_i v hv
      split at h
      case h_2 => cases h
      rename_i w hw
      have val : holdsG ρ g → (∀ b ∈ v.ob, b = true) → den ρ e = .bool w := by
        intro hg ho
        have h1 : den ρ e = v.x.enc := ev_sound hR.toRelS e g _ v hv hg ho
        rw [EV.as_eq hw] at h1; exact h1
      split at h
      case h_2 => cases h
      rename_i gc ob hgc
      obtain ⟨ho, hA⟩ := need_some h
      obtain ⟨ho2, hB⟩ := need_some hA
      clear h hA
      have h := hB
      clear hB
      split at h
      case isFalse => cases h
      rename_i hc
      have hgg := gB_sound hR.toRelS hgc ho
      have kk : holdsG ρ g → den ρ e = .bool true := by
        intro hg
        have e1 := hgg.1 hg
        rw [e1] at hc
        have := val hg (map_or_true ho2 e1)
        simp only [Bool.not_true, Bool.false_or] at hc
        rw [hc] at this; exact this
      obtain ⟨ρ', K', l', h1, h2, h3⟩ := dnS_sound hfs s _ _ _ _ (hR.know heb hgb kk) h
      by_cases hg : holdsG ρ g
      · exact ⟨ρ', K', l', .chk hg (kk hg) h1, h2, h3⟩
      · exact ⟨ρ', K', l', .off hg h1, h2, h3⟩
  | (g, .call j args x n) :: s, ts, K, l, ρ, hR, h => by
    simp only [dnS] at h
    split at h
    case isFalse => cases h
    rename_i hb
    simp only [Bool.and_eq_true] at hb
    obtain ⟨⟨hx, hgb⟩, hji⟩ := hb
    have hx := Nat.eq_of_beq_eq_true hx
    subst hx
    have hji : j < i := Nat.le_of_ble_eq_true hji
    split at h
    case h_2 => cases h
    rename_i F hF
    split at h
    case isFalse => cases h
    rename_i hn
    have hn := Nat.eq_of_beq_eq_true hn
    split at h
    · split at h
      case h_2 => cases h
      rename_i ob0 hob0
      split at h
      case h_2 => cases h
      rename_i a ob ha
      obtain ⟨ho0, hA⟩ := need_some h
      obtain ⟨ho, hB⟩ := need_some hA
      cases hq : F.f a with
      | none => rw [hq] at hB; cases hB
      | some q =>
        rw [hq] at hB
        have hargs := evs_sound hR.toRelS (G := []) trivial ha ho
        rw [rsL_sound hR.kno (obE_sound hR.toRelS hob0 ho0)] at hargs
        obtain ⟨ρ', K', l', h1, h2, h3⟩ := dnS_sound hfs s _ _ _ _ (hR.on (g := []) (a := q) hgb) hB
        exact ⟨ρ', K', l', big_call trivial (by rw [hargs]; exact hfs j F hji hF a q hq) (by rw [encs_length, hn]) h1, h2, h3⟩
    · split at h
      case h_2 => cases h
      rename_i a ob ha
      have run : holdsG ρ g → (∀ b ∈ ob, b = true) → ∀ q, F.f a = some q → CallI I j (args.map (den ρ)) (encs F.outs q) := by
        intro hg ho q hq
        rw [evs_sound hR.toRelS hg ha ho]
        exact hfs j F hji hF a q hq
      split at h
      case h_2 => cases h
      rename_i c ob' hc
      obtain ⟨ho, hA⟩ := need_some h
      obtain ⟨ho2, hB⟩ := need_some hA
      clear h hA
      have h := hB
      clear hB
      have hgc := gB_sound hR.toRelS hc ho
      cases c with
      | true =>
        have hg := hgc.2 rfl
        rw [if_pos rfl] at h
        cases hq : F.f a with
        | none => rw [hq] at h; cases h
        | some q =>
          rw [hq] at h
          obtain ⟨ρ', K', l', h1, h2, h3⟩ := dnS_sound hfs s _ _ _ _ (hR.on (a := q) hgb) h
          exact ⟨ρ', K', l', big_call hg (run hg (map_or_true ho2 rfl) q hq) (by rw [encs_length, hn]) h1, h2, h3⟩
      | false =>
        have hg : ¬ holdsG ρ g := fun hh => by have := hgc.1 hh; cases this
        rw [if_neg (by simp)] at h
        obtain ⟨ρ', K', l', h1, h2, h3⟩ := dnS_sound hfs s _ _ _ _ (hR.off (a := tdflt F.outs) hgb hg) h
        exact ⟨ρ', K', l', .off hg h1, h2, h3⟩

theorem findE_get {id m : Nat} : ∀ {es : List (Nat × Nat)} {k : Nat}, findE id es = some (k, m) → es[k]? = some (id, m)
  | [], k, hf => by simp [findE] at hf
  | e :: es, k, hf => by
    simp only [findE] at hf
    split at hf
    · rename_i he
      have he := Nat.eq_of_beq_eq_true he
      cases hf; subst he; rfl
    · split at hf
      · rename_i k' m' hk'
        cases hf
        simpa using findE_get hk'
      · cases hf

/-- How a program may end, told to the continuations. -/
def EndsAs {R : Type} (to : List Ty) (kn : Kno → List Slot → Option R) (ke : Nat → List Slot → Option R) (kr : List Slot → Option R) (r : R) (ex : Ex) (ρ' : Env) : Prop :=
  match ex with
  | .normal => ∃ K' l', RelB ρ' K' l' ∧ kn K' l' = some r
  | .exit id => ∃ l', RelB ρ' [] l' ∧ ke id l' = some r
  | .ret outs => ∃ a : Tup to, outs = encs to a ∧ kr (unp to a) = some r

theorem dn_sound (to : List Ty) (hfs : ∀ j F, j < i → fs[j]? = some F → TfOk I j F) : ∀ (p : PI) {R : Type} (h : Ann) (K : Kno) (l : List Slot) (kn : Kno → List Slot → Option R) (ke : Nat → List Slot → Option R) (kr : List Slot → Option R) (r : R) (ρ : Env),
    RelB ρ K l → dn fs i to p h K l kn ke kr = some r → ∃ ex ρ', Big I p ρ ex ρ' ∧ EndsAs to kn ke kr r ex ρ' := by
  intro p
  induction p with
  | skip =>
    intro R h K l kn ke kr r ρ hR hd
    simp only [dn] at hd
    exact ⟨.normal, ρ, .skip, K, l, hR, hd⟩
  | sis s =>
    intro R h K l kn ke kr r ρ hR hd
    cases h with
    | sis ts =>
      simp only [dn] at hd
      obtain ⟨ρ', K', l', h1, h2, h3⟩ := dnS_sound hfs s ts K l ρ hR hd
      exact ⟨.normal, ρ', h1, K', l', h2, h3⟩
    | _ => simp only [dn] at hd; cases hd
  | seq a b iha ihb =>
    intro R h K l kn ke kr r ρ hR hd
    cases h with
    | seq ha hb =>
      simp only [dn] at hd
      obtain ⟨ex, ρ1, h1, h2⟩ := iha ha K l _ ke kr r ρ hR hd
      cases ex with
      | normal =>
        obtain ⟨K', l', h3, h4⟩ := h2
        obtain ⟨ex, ρ2, h5, h6⟩ := ihb hb K' l' kn ke kr r ρ1 h3 h4
        exact ⟨ex, ρ2, .seq h1 h5, h6⟩
      | exit id => exact ⟨_, ρ1, .seqOut h1 (by simp), h2⟩
      | ret o => exact ⟨_, ρ1, .seqOut h1 (by simp), h2⟩
    | _ => simp only [dn] at hd; cases hd
  | cond e a b iha ihb =>
    intro R h K l kn ke kr r ρ hR hd
    cases h with
    | cond J esc ha hb =>
      simp only [dn] at hd
      split at hd
      case h_2 => cases hd
      rename_i x hx
      split at hd
      case h_2 => cases hd
      rename_i c hc
      have val : (∀ b ∈ x.ob, b = true) → den ρ e = .bool c := by
        intro ho
        have h1 : den ρ e = x.x.enc := ev_sound hR.toRelS e [] _ x hx trivial ho
        rw [EV.as_eq hc] at h1; exact h1
      split at hd
      · obtain ⟨ho, hd⟩ := need_some hd
        have hv := val ho
        cases c with
        | true =>
          rw [if_pos rfl] at hd
          obtain ⟨ex, ρ1, h1, h2⟩ := iha ha K l kn ke kr r ρ hR hd
          exact ⟨ex, ρ1, .yes hv h1, h2⟩
        | false =>
          rw [if_neg (by simp)] at hd
          obtain ⟨ex, ρ1, h1, h2⟩ := ihb hb K l kn ke kr r ρ hR hd
          exact ⟨ex, ρ1, .no hv h1, h2⟩
      · rename_i nb ts
        split at hd
        case isFalse => cases hd
        rename_i hcond
        simp only [Bool.and_eq_true] at hcond
        obtain ⟨⟨hnb, la⟩, lb⟩ := hcond
        have hnb := Nat.le_of_ble_eq_true hnb
        have main : ∀ (p : PI) (hp : Ann) (lp : lowP nb p = true) (ih : ∀ {R : Type} (h : Ann) (K : Kno) (l : List Slot) (kn : Kno → List Slot → Option R) (ke : Nat → List Slot → Option R) (kr : List Slot → Option R) (r : R) (ρ : Env),
            RelB ρ K l → dn fs i to p h K l kn ke kr = some r → ∃ ex ρ', Big I p ρ ex ρ' ∧ EndsAs to kn ke kr r ex ρ'),
            (dn fs i to p hp K l (fun _ ρ' => match packs ts (ρ'.drop nb) with
              | some s => kn (K.bnd nb) (l.take nb ++ unp ts s)
              | none => none) ke kr = some r) → ∃ ex ρ', Big I p ρ ex ρ' ∧ EndsAs to kn ke kr r ex ρ' := by
          intro p hp lp ih hd
          obtain ⟨ex, ρ1, h1, h2⟩ := ih hp K l _ ke kr r ρ hR hd
          refine ⟨ex, ρ1, h1, ?_⟩
          cases ex with
          | normal =>
            obtain ⟨K', l', h3, h4⟩ := h2
            try dsimp only at h4
            split at h4
            case h_2 => cases h4
            rename_i s hs
            exact ⟨_, _, hR.base' hnb (big_agree h1 lp) h3 (packs_eq hs), h4⟩
          | exit id => exact h2
          | ret o => exact h2
        have main2 : ∀ (p : PI) (hp : Ann) (lp : lowP nb p = true) (ih : ∀ {R : Type} (h : Ann) (K : Kno) (l : List Slot) (kn : Kno → List Slot → Option R) (ke : Nat → List Slot → Option R) (kr : List Slot → Option R) (r : R) (ρ : Env),
            RelB ρ K l → dn fs i to p h K l kn ke kr = some r → ∃ ex ρ', Big I p ρ ex ρ' ∧ EndsAs to kn ke kr r ex ρ') (s : Tup ts),
            (dn fs i to p hp K l (fun _ ρ' => packs ts (ρ'.drop nb)) (fun _ _ => none) (fun _ => none) = some s) → kn (K.bnd nb) (l.take nb ++ unp ts s) = some r → ∃ ex ρ', Big I p ρ ex ρ' ∧ EndsAs to kn ke kr r ex ρ' := by
          intro p hp lp ih s hd hk
          obtain ⟨ex, ρ1, h1, h2⟩ := ih hp K l _ _ _ s ρ hR hd
          refine ⟨ex, ρ1, h1, ?_⟩
          cases ex with
          | normal =>
            obtain ⟨K', l', h3, h4⟩ := h2
            exact ⟨_, _, hR.base' hnb (big_agree h1 lp) h3 (packs_eq h4), hk⟩
          | exit id => obtain ⟨_, _, h4⟩ := h2; cases h4
          | ret o => obtain ⟨_, _, h4⟩ := h2; cases h4
        split at hd
        · obtain ⟨ho, hd⟩ := need_some hd
          have hv := val ho
          cases c with
          | true =>
            rw [if_pos rfl] at hd
            obtain ⟨ex, ρ1, h1, h2⟩ := main a ha la iha hd
            exact ⟨ex, ρ1, .yes hv h1, h2⟩
          | false =>
            rw [if_neg (by simp)] at hd
            obtain ⟨ex, ρ1, h1, h2⟩ := main b hb lb ihb hd
            exact ⟨ex, ρ1, .no hv h1, h2⟩
        · obtain ⟨ho, hd⟩ := need_some hd
          have hv := val ho
          cases c with
          | true =>
            rw [if_pos rfl] at hd
            rw [Option.bind_eq_some_iff] at hd
            obtain ⟨s, hs, hd⟩ := hd
            obtain ⟨ex, ρ1, h1, h2⟩ := main2 a ha la iha s hs hd
            exact ⟨ex, ρ1, .yes hv h1, h2⟩
          | false =>
            rw [if_neg (by simp)] at hd
            rw [Option.bind_eq_some_iff] at hd
            obtain ⟨s, hs, hd⟩ := hd
            obtain ⟨ex, ρ1, h1, h2⟩ := main2 b hb lb ihb s hs hd
            exact ⟨ex, ρ1, .no hv h1, h2⟩
    | _ => simp only [dn] at hd; cases hd
  | block id a ih =>
    intro R h K l kn ke kr r ρ hR hd
    cases h with
    | block J esc ha =>
      simp only [dn] at hd
      split at hd
      · obtain ⟨ex, ρ1, h1, h2⟩ := ih ha K l _ _ kr r ρ hR hd
        cases ex with
        | normal => obtain ⟨_, _, _, h4⟩ := h2; cases h4
        | exit id' =>
          obtain ⟨l', h3, h4⟩ := h2
          try dsimp only at h4
          split at h4
          · cases h4
          · rename_i hne
            exact ⟨_, ρ1, .blockOut h1 (by simp) (fun hh => by cases hh; simp at hne), l', h3, h4⟩
        | ret o => exact ⟨_, ρ1, .blockOut h1 (by simp) (by simp), h2⟩
      · rename_i nb ts
        split at hd
        case isFalse => cases hd
        rename_i hcond
        simp only [Bool.and_eq_true] at hcond
        obtain ⟨hnb, la⟩ := hcond
        have hnb := Nat.le_of_ble_eq_true hnb
        split at hd
        · obtain ⟨ex, ρ1, h1, h2⟩ := ih ha K l _ _ kr r ρ hR hd
          have fin : ∀ {K' : Kno} {l' : List Slot}, RelB ρ1 K' l' → (match packs ts (l'.drop nb) with
            | some s => kn (K.bnd nb) (l.take nb ++ unp ts s)
            | none => none) = some r → EndsAs to kn ke kr r .normal ρ1 := by
            intro K' l' h3 h4
            split at h4
            case h_2 => cases h4
            rename_i s hs
            exact ⟨_, _, hR.base' hnb (big_agree h1 la) h3 (packs_eq hs), h4⟩
          cases ex with
          | normal =>
            obtain ⟨K', l', h3, h4⟩ := h2
            exact ⟨.normal, ρ1, .block h1, fin h3 h4⟩
          | exit id' =>
            obtain ⟨l', h3, h4⟩ := h2
            try dsimp only at h4
            split at h4
            · rename_i he
              have he := Nat.eq_of_beq_eq_true he
              subst he
              exact ⟨.normal, ρ1, .blockIn h1, fin h3 h4⟩
            · rename_i hne
              exact ⟨_, ρ1, .blockOut h1 (by simp) (fun hh => by cases hh; simp at hne), l', h3, h4⟩
          | ret o => exact ⟨_, ρ1, .blockOut h1 (by simp) (by simp), h2⟩
        · rw [Option.bind_eq_some_iff] at hd
          obtain ⟨s, hs, hd⟩ := hd
          obtain ⟨ex, ρ1, h1, h2⟩ := ih ha K l _ _ _ s ρ hR hs
          have fin : ∀ {K' : Kno} {l' : List Slot}, RelB ρ1 K' l' → packs ts (l'.drop nb) = some s → EndsAs to kn ke kr r .normal ρ1 := by
            intro K' l' h3 h4
            exact ⟨_, _, hR.base' hnb (big_agree h1 la) h3 (packs_eq h4), hd⟩
          cases ex with
          | normal =>
            obtain ⟨K', l', h3, h4⟩ := h2
            exact ⟨.normal, ρ1, .block h1, fin h3 h4⟩
          | exit id' =>
            obtain ⟨l', h3, h4⟩ := h2
            try dsimp only at h4
            split at h4
            · rename_i he
              have he := Nat.eq_of_beq_eq_true he
              subst he
              exact ⟨.normal, ρ1, .blockIn h1, fin h3 h4⟩
            · cases h4
          | ret o => obtain ⟨_, _, h4⟩ := h2; cases h4
    | _ => simp only [dn] at hd; cases hd
  | loop a ih =>
    intro R h K l kn ke kr r ρ hR hd
    cases h with
    | loop nb ts es L ha =>
      simp only [dn] at hd
      split at hd
      case isFalse => cases hd
      rename_i hcond
      simp only [Bool.and_eq_true, List.all_eq_true] at hcond
      obtain ⟨⟨hnb, la⟩, hes⟩ := hcond
      have hnb := Nat.le_of_ble_eq_true hnb
      split at hd
      case h_2 => cases hd
      rename_i s0 hs0
      rw [Option.bind_eq_some_iff] at hd
      obtain ⟨x, hx, hd⟩ := hd
      obtain ⟨n, hn⟩ := loopM_iff.1 hx
      suffices key : ∀ ρ2, Agree nb ρ ρ2 → RelB ρ2 (K.bnd nb) (l.take nb ++ unp ts s0) → ∃ ex ρ', Big I (.loop a) ρ2 ex ρ' ∧ EndsAs to kn ke kr r ex ρ' from
        key ρ (Agree.refl _ _) (hR.base' hnb (Agree.refl _ _) hR (packs_eq hs0))
      clear hs0 hx
      induction n generalizing s0 with
        | zero => cases hn
        | succ n ihn =>
          intro ρ2 hag hR2
          simp only [loopN] at hn
          have outw : ∀ {ρ3 : Env} {l' : List Slot} (k m : Nat) (id : Nat), findE id es = some (k, m) → RelB ρ3 [] l' → Agree nb ρ ρ3 → xin L k (l'.drop m) = some x → EndsAs to kn ke kr r (.exit id) ρ3 := by
            intro ρ3 l' k m id hf h3 hag3 hxin
            obtain ⟨_, t, h6, a', h7⟩ := xin_eq (R := Unit) (fun _ _ => none) hxin
            rw [(xin_eq _ hxin).1] at hd
            have hk := findE_get hf
            rw [hk] at hd
            simp only at hd
            have hm : m ≤ nb := Nat.le_of_ble_eq_true (hes _ (List.mem_of_getElem? hk))
            refine ⟨_, (hR.base' (nb := m) (by omega) (hag3.mono hm) h3 h7).noK, ?_⟩
            rw [← h7]; exact hd
          split at hn
          · rename_i s' hf
            obtain ⟨ex, ρ3, h1, h2⟩ := ih _ _ _ _ _ _ _ ρ2 hR2 hf
            have hag3 := hag.trans (big_agree h1 la)
            cases ex with
            | normal =>
              obtain ⟨K', l', h3, h4⟩ := h2
              try dsimp only at h4
              split at h4
              case h_2 => cases h4
              rename_i s2 hs2
              cases h4
              obtain ⟨ex, ρ4, h5, h6⟩ := ihn _ hn ρ3 hag3 (hR.base' hnb hag3 h3 (packs_eq hs2))
              exact ⟨ex, ρ4, .loop h1 h5, h6⟩
            | exit id =>
              obtain ⟨l', h3, h4⟩ := h2
              try dsimp only at h4
              split at h4
              · split at h4
                · cases h4
                · cases h4
              · cases h4
            | ret o =>
              obtain ⟨_, _, h4⟩ := h2
              try dsimp only at h4
              split at h4
              · cases h4
              · cases h4
          · rename_i x' hf
            cases hn
            obtain ⟨ex, ρ3, h1, h2⟩ := ih _ _ _ _ _ _ _ ρ2 hR2 hf
            have hag3 := hag.trans (big_agree h1 la)
            cases ex with
            | normal =>
              obtain ⟨K', l', h3, h4⟩ := h2
              try dsimp only at h4
              split at h4
              · cases h4
              · cases h4
            | exit id =>
              obtain ⟨l', h3, h4⟩ := h2
              try dsimp only at h4
              split at h4
              · rename_i k m hkm
                split at h4
                · rename_i x2 hx2
                  cases h4
                  exact ⟨_, ρ3, .loopOut h1 (by simp), outw k m id hkm h3 hag3 hx2⟩
                · cases h4
              · cases h4
            | ret o =>
              obtain ⟨a', h3, h4⟩ := h2
              try dsimp only at h4
              split at h4
              · rename_i x2 hx2
                cases h4
                rw [(xin_eq _ hx2).1] at hd
                rw [List.getElem?_eq_none (Nat.le_refl _)] at hd
                exact ⟨_, ρ3, .loopOut h1 (by simp), a', h3, hd⟩
              · cases h4
          · cases hn
    | _ => simp only [dn] at hd; cases hd
  | exit id =>
    intro R h K l kn ke kr r ρ hR hd
    simp only [dn] at hd
    exact ⟨_, ρ, .exit, l, hR.noK, hd⟩
  | ret es =>
    intro R h K l kn ke kr r ρ hR hd
    simp only [dn] at hd
    split at hd
    case h_2 => cases hd
    rename_i a ob ha
    obtain ⟨ho, hd⟩ := need_some hd
    refine ⟨_, ρ, .ret, a, ?_, hd⟩
    exact evs_sound (G := []) hR.toRelS trivial ha ho

/-- A function whose typed reading is that of its pure program. -/
theorem tf_of {p : PI} {h : Ann} {F : Fn} (hfs : ∀ j F, j < i → fs[j]? = some F → TfOk I j F) (hp : I i = some (.code p)) (hF : ∀ a, F.f a = dnFn fs i p h F.ins F.outs a) : TfOk I i F := by
  intro a r hr
  rw [hF] at hr
  have hR : RelB (envOf (encs F.ins a)) [] (unp F.ins a) := by
    have h0 : RelB (fun _ => T.hole) [] [] := ⟨⟨fun j s hs => by simp at hs, fun p hp => by cases hp⟩, fun p hp => by cases hp⟩
    have := h0.base (nb := 0) (ρ' := envOf (encs F.ins a)) (Nat.le_refl _) (fun x hx => by omega) (ts := F.ins) (a := a) (fun j x hx => by
      simp only [envOf, List.getD_eq_getElem?_getD, Nat.zero_add, hx]; rfl)
    exact this
  obtain ⟨ex, ρ', h1, h2⟩ := dn_sound F.outs hfs p h [] _ _ _ _ r _ hR hr
  cases ex with
  | normal => obtain ⟨_, _, _, h4⟩ := h2; cases h4
  | exit id => obtain ⟨_, _, h4⟩ := h2; cases h4
  | ret outs =>
    obtain ⟨b, h3, h4⟩ := h2
    have e := packs_eq h4
    have hb : b = r := by
      have : ∀ (ts : List Ty) (x y : Tup ts), unp ts x = unp ts y → x = y := by
        intro ts
        induction ts with
        | nil => intro x y _; rfl
        | cons t ts ih =>
          cases ts with
          | nil =>
            intro x y hxy
            have : (⟨[], t, x⟩ : Slot) = ⟨[], t, y⟩ := by simpa [unp, unpG] using hxy
            cases this; rfl
          | cons u ts =>
            intro x y hxy
            obtain ⟨x1, x2⟩ := x
            obtain ⟨y1, y2⟩ := y
            have h := List.cons.inj (show (⟨[], t, x1⟩ : Slot) :: unp (u :: ts) x2 = ⟨[], t, y1⟩ :: unp (u :: ts) y2 from hxy)
            have h1 := h.1
            cases h1
            rw [ih x2 y2 h.2]
      exact this _ _ _ e
    subst hb
    rw [h3] at h1
    exact .inl ⟨p, ρ', hp, h1⟩

/-- All functions of a system. -/
def AllFn (fs : List Fn) : Nat → List Fn → List PI → List Ann → Prop
  | _, [], _, _ => True
  | k, F :: Fs, p :: ps, h :: hs => (∀ a, F.f a = dnFn fs k p h F.ins F.outs a) ∧ AllFn fs (k + 1) Fs ps hs
  | _, _ :: _, _, _ => False
theorem AllFn.get {fs : List Fn} : ∀ {Fs : List Fn} {k : Nat} {ps : List PI} {hs : List Ann}, AllFn fs k Fs ps hs → ∀ j F, Fs[j]? = some F → ∃ p h, ps[j]? = some p ∧ ∀ a, F.f a = dnFn fs (k + j) p h F.ins F.outs a
  | [], _, _, _, _, j, F, hj => by simp at hj
  | G :: Fs, k, [], hs, h, j, F, hj => h.elim
  | G :: Fs, k, p :: ps, [], h, j, F, hj => h.elim
  | G :: Fs, k, p :: ps, a :: hs, h, j, F, hj => by
    cases j with
    | zero => simp at hj; subst hj; exact ⟨p, a, rfl, h.1⟩
    | succ j =>
      obtain ⟨q, b, h1, h2⟩ := h.2.get j F (by simpa using hj)
      exact ⟨q, b, by simpa using h1, by rw [show k + (j + 1) = k + 1 + j by omega]; exact h2⟩
theorem all_tf {fs : List Fn} {ps : List PI} {hs : List Ann} (h : AllFn fs 0 fs ps hs) : ∀ j F, fs[j]? = some F → TfOk (sysOf ps) j F := by
  intro j
  induction j using Nat.strongRecOn with
  | _ j ih =>
    intro F hF
    obtain ⟨p, a, h1, h2⟩ := h.get j F hF
    rw [Nat.zero_add] at h2
    exact tf_of (fun k G hk hG => ih k hk G hG) (by simp only [sysOf, h1]; rfl) h2
end Gp
