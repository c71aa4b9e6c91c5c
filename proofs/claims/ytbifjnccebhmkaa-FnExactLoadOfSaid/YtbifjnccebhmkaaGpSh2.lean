/- Gp, part 51: the typed reading of expressions is right. -/
import Derived.Test.YtbifjnccebhmkaaGpSh
set_option linter.unusedVariables false
set_option linter.unusedSimpArgs false
namespace Gp
open Go

theorem cellV_sound : ∀ {j : Nat} {t : Ty} {v : t.den} {y : TV}, cellV j t v = some y → ∃ a b, t = .pair a b ∧ (t.encP v)[j]? = some y.enc := by
  intro j t
  induction t generalizing j with
  | pair a b iha ihb =>
    intro v y h
    refine ⟨a, b, rfl, ?_⟩
    cases j with
    | zero => simp only [cellV, Option.some.injEq] at h; subst h; rfl
    | succ j =>
      cases b with
      | pair b c =>
        simp only [cellV] at h
        obtain ⟨_, _, _, h2⟩ := ihb h
        simpa using h2
      | int => cases j with
        | zero => (have h : some (⟨_, v.2⟩ : TV) = some y := h); cases h; rfl
        | succ j => (have h : (none : Option TV) = some y := h); cases h
      | bool => cases j with
        | zero => (have h : some (⟨_, v.2⟩ : TV) = some y := h); cases h; rfl
        | succ j => (have h : (none : Option TV) = some y := h); cases h
      | str => cases j with
        | zero => (have h : some (⟨_, v.2⟩ : TV) = some y := h); cases h; rfl
        | succ j => (have h : (none : Option TV) = some y := h); cases h
      | list t => cases j with
        | zero => (have h : some (⟨_, v.2⟩ : TV) = some y := h); cases h; rfl
        | succ j => (have h : (none : Option TV) = some y := h); cases h
      | unit => cases j with
        | zero => (have h : some (⟨_, v.2⟩ : TV) = some y := h); cases h; rfl
        | succ j => (have h : (none : Option TV) = some y := h); cases h
  | int => intro v y h; rcases j with _ | _ | j <;> simp [cellV] at h
  | bool => intro v y h; rcases j with _ | _ | j <;> simp [cellV] at h
  | str => intro v y h; rcases j with _ | _ | j <;> simp [cellV] at h
  | list t _ => intro v y h; rcases j with _ | _ | j <;> simp [cellV] at h
  | unit => intro v y h; rcases j with _ | _ | j <;> simp [cellV] at h
theorem cell_enc {j : Nat} {t : Ty} {v : t.den} {y : TV} (h : cellV j t v = some y) : T.cell j (t.enc v) = y.enc := by
  obtain ⟨a, b, rfl, h2⟩ := cellV_sound h
  simp only [Ty.encP_pair] at h2
  simp only [Ty.enc_pair, T.cell, List.getD_eq_getElem?_getD, h2]; rfl

theorem setV_sound : ∀ {j : Nat} {t : Ty} {v w : t.den} {x : TV}, setV j t v x = some w → ∃ a b, t = .pair a b ∧ (t.encP v).set j x.enc = t.encP w := by
  intro j t
  induction t generalizing j with
  | pair a b iha ihb =>
    intro v w x h
    refine ⟨a, b, rfl, ?_⟩
    cases j with
    | zero =>
      simp only [setV] at h
      split at h
      · rename_i u hu
        have := TV.as_eq hu
        cases h; subst this; rfl
      · cases h
    | succ j =>
      have last : ∀ (hb : b.isPair = false) (h : (match x.as b with | some w => some (v.1, w) | none => none) = some w) (hj : j = 0), ((Ty.pair a b).encP v).set (j + 1) x.enc = (Ty.pair a b).encP w := by
        intro hb h' hj
        subst hj
        revert h'
        cases hu : x.as b with
        | none => intro h'; cases h'
        | some u =>
          intro h'
          have := TV.as_eq hu
          cases h'; subst this
          simp only [Ty.encP_pair, Ty.encP_one b _ hb, List.set_cons_succ, List.set_cons_zero]; rfl
      cases b with
      | pair b c =>
        simp only [setV] at h
        split at h
        · rename_i u hu
          cases h
          obtain ⟨_, _, _, h2⟩ := ihb hu
          simpa using h2
        · cases h
      | int => cases j with
        | zero => exact last rfl h rfl
        | succ j => (have h : (none : Option _) = some w := h); cases h
      | bool => cases j with
        | zero => exact last rfl h rfl
        | succ j => (have h : (none : Option _) = some w := h); cases h
      | str => cases j with
        | zero => exact last rfl h rfl
        | succ j => (have h : (none : Option _) = some w := h); cases h
      | list t => cases j with
        | zero => exact last rfl h rfl
        | succ j => (have h : (none : Option _) = some w := h); cases h
      | unit => cases j with
        | zero => exact last rfl h rfl
        | succ j => (have h : (none : Option _) = some w := h); cases h
  | int => intro v w x h; rcases j with _ | _ | j <;> simp [setV] at h
  | bool => intro v w x h; rcases j with _ | _ | j <;> simp [setV] at h
  | str => intro v w x h; rcases j with _ | _ | j <;> simp [setV] at h
  | list t _ => intro v w x h; rcases j with _ | _ | j <;> simp [setV] at h
  | unit => intro v w x h; rcases j with _ | _ | j <;> simp [setV] at h
theorem setC_enc {j : Nat} {t : Ty} {v w : t.den} {x : TV} (h : setV j t v x = some w) : T.setC j (t.enc v) x.enc = t.enc w := by
  obtain ⟨a, b, rfl, h2⟩ := setV_sound h
  simp only [Ty.encP_pair] at h2
  simp only [Ty.enc_pair, T.setC, h2]

theorem ba_toList (l : List UInt8) : (ByteArray.mk l.toArray).data.toList = l := by simp
theorem ba_loop (l : List UInt8) : ∀ (n i : Nat) (r : List UInt8), n = l.length - i → ByteArray.toList.loop ⟨l.toArray⟩ i r = r.reverse ++ l.drop i := by
  intro n
  induction n with
  | zero =>
    intro i r h
    unfold ByteArray.toList.loop
    have : ¬ i < (ByteArray.mk l.toArray).size := by simp [ByteArray.size]; omega
    rw [if_neg this, List.drop_eq_nil_of_le (by omega)]; simp
  | succ n ih =>
    intro i r h
    unfold ByteArray.toList.loop
    have hlt : i < l.length := by omega
    have : i < (ByteArray.mk l.toArray).size := by simp [ByteArray.size]; omega
    rw [if_pos this, ih (i + 1) _ (by omega), List.drop_eq_getElem_cons hlt]
    simp [ByteArray.get!, hlt]
theorem ba_list (l : List UInt8) : (ByteArray.mk l.toArray).toList = l := by
  unfold ByteArray.toList; rw [ba_loop l _ 0 [] rfl]; simp
theorem ba_append (a b : List UInt8) : (ByteArray.mk a.toArray) ++ (ByteArray.mk b.toArray) = ⟨(a ++ b).toArray⟩ := by
  apply ByteArray.ext; simp [ByteArray.data_append]
theorem ba_extract (l : List UInt8) (a b : Nat) : (ByteArray.mk l.toArray).extract a b = ⟨((l.take b).drop a).toArray⟩ := by
  apply ByteArray.ext
  simp [ByteArray.data_extract, List.extract_eq_take_drop, List.drop_take]

theorem infU_sound {o : U} {x y : TV} (h : infU o x = some y) : o.den x.enc = y.enc := by
  unfold infU at h
  split at h <;> try cases h
  all_goals first
    | rfl
    | (simp [U.den, TV.enc, T.len, T.slen, T.bytes, T.unbytes, T.isList, ByteArray.size]; done)
    | skip
  · exact cell_enc h
  · simp only [U.den, TV.enc, Ty.enc_list, T.unbytes, Ty.enc_str, List.map_map]
    congr 1

theorem infAr_sound {o : BinOp} {k : IntKind} {x y z : Int} (h : infAr o k x y = some z) : T.arI o k x y = .int z := by
  cases o <;> simp only [infAr] at h <;> first | (cases h; rfl) | (cases h; done)
theorem infCmp_sound {o : BinOp} {x y : Int} {z : Bool} (h : infCmp o x y = some z) : T.cmpI o x y = .bool z := by
  have hb : (x == y) = decide (x = y) := by
    rw [Bool.eq_iff_iff]; simp
  cases o <;> simp only [infCmp] at h <;> first | (cases h; simp only [T.cmpI, T.bool.injEq, bne, hb, gt_iff_lt, ge_iff_le]; done) | (cases h; done)
theorem infSc_sound {o : BinOp} {x y : List UInt8} {z : Bool} (h : infSc o x y = some z) : T.scmpS o ⟨x.toArray⟩ ⟨y.toArray⟩ = .bool z := by
  have hb : (x == y) = decide (x = y) := by
    rw [Bool.eq_iff_iff]; simp
  cases o <;> simp only [infSc] at h <;> first | (cases h; simp only [T.scmpS, ba_list, hb]; done) | (cases h; done)

theorem rng_spec {ρ : Env} {l : List T} {ea eb : Exp} {n : Int} (hl : den ρ ea = .list l) (hn : den ρ eb = .int n) (h : den ρ (rngE ea eb) = .bool true) : 0 ≤ n ∧ n < l.length := by
  simp only [rngE, den, hl, hn, B.den, U.den, T.cmp, T.cmpI, T.len, T.band, T.bool.injEq, Bool.and_eq_true, decide_eq_true_eq] at h
  exact h
theorem srng_spec {ρ : Env} {l : ByteArray} {ea eb : Exp} {n : Int} (hl : den ρ ea = .str l) (hn : den ρ eb = .int n) (h : den ρ (srngE ea eb) = .bool true) : 0 ≤ n ∧ n < l.size := by
  simp only [srngE, den, hl, hn, B.den, U.den, T.cmp, T.cmpI, T.slen, T.band, T.bool.injEq, Bool.and_eq_true, decide_eq_true_eq] at h
  exact h

/-- What is known holds. -/
def factOk (ρ : Env) (e : Exp) : Prop := match e with
  | .bin .cons (.var x) d => ρ x = den ρ d
  | e => den ρ e = .bool true
def KnoOk (ρ : Env) (K : Kno) : Prop := ∀ p ∈ K, holdsG ρ p.1 → factOk ρ p.2
theorem factOk_of {ρ : Env} {e : Exp} (h : den ρ e = .bool true) : factOk ρ e := by
  unfold factOk
  split
  · simp only [den, B.den] at h
    generalize ρ _ = a at h
    generalize den ρ _ = b at h
    cases b <;> simp [T.cons] at h
  · exact h
theorem factOk_and {ρ : Env} {a b : Exp} (h : factOk ρ (.bin .and a b)) : den ρ (.bin .and a b) = .bool true := h
theorem knows_rng {ρ : Env} {K : Kno} {G : Grd} {a b : Exp} (hK : KnoOk ρ K) (h : knows K G (.bin .and a b) = true) (hG : holdsG ρ G) : den ρ (.bin .and a b) = .bool true := by
  simp only [knows, List.any_eq_true, Bool.and_eq_true] at h
  obtain ⟨p, hp, h1, h2⟩ := h
  have := hK p hp (subG_holds h2 hG)
  rw [← Exp.eqb_eq h1] at this
  exact factOk_and this

theorem idx_enc {t : Ty} {l : List t.den} {n : Int} (h0 : 0 ≤ n) (h1 : n < l.length) : T.idx (.list (l.map t.enc)) (.int n) = t.enc (l.getD n.toNat t.dflt) := by
  simp only [T.idx, if_neg (show ¬ n < 0 by omega)]
  have : n.toNat < l.length := by omega
  simp [List.getD_eq_getElem?_getD, this]

theorem sidx_enc {l : List UInt8} {n : Int} (h0 : 0 ≤ n) (h1 : n < l.length) : T.sidx (.str ⟨l.toArray⟩) (.int n) = .int (((l.getD n.toNat 0).toNat : Nat) : Int) := by
  have hn : n.toNat < l.length := by omega
  simp only [T.sidx, if_neg (show ¬ n < 0 by omega)]
  simp [hn, List.getD_eq_getElem?_getD]
theorem setI_enc {t : Ty} {l : List t.den} {n : Int} {w : t.den} (h0 : 0 ≤ n) : T.setI (.list (l.map t.enc)) (.int n) (t.enc w) = .list ((l.set n.toNat w).map t.enc) := by
  simp only [T.setI, if_neg (show ¬ n < 0 by omega), List.map_set]
theorem infB_sound {K : Kno} {G : Grd} {ρ : Env} {ea eb : Exp} {o : B} {x y : TV} {z : EV} (hK : KnoOk ρ K) (hG : holdsG ρ G) (ha : den ρ ea = x.enc) (hb : den ρ eb = y.enc)
    (h : infB K G ea eb o x y = some z) (hob : ∀ b ∈ z.ob, b = true) : o.den x.enc y.enc = z.x.enc := by
  unfold infB at h
  split at h
  · split at h
    · rename_i w hw; cases h; exact infAr_sound hw
    · cases h
  · split at h
    · rename_i w hw; cases h; exact infCmp_sound hw
    · cases h
  · split at h
    · rename_i w hw; cases h; exact infSc_sound hw
    · cases h
  · cases h; rfl
  · cases h; rfl
  · cases h; rfl
  · cases h; rfl
  · cases h; rfl
  · cases h; rfl
  · cases h
    simp only [B.den, TV.enc, Ty.enc_int, T.imax]; congr 1; omega
  · cases h
    simp only [B.den, TV.enc, Ty.enc_int, T.imin]; congr 1; omega
  · cases h
    simp only [B.den, TV.enc, Ty.enc_str, T.scat, ba_append]
  · rename_i t l n
    cases h
    have hr : 0 ≤ n ∧ n < (l.map t.enc).length := by
      split at hob
      · rename_i hk
        exact rng_spec ha hb (knows_rng hK hk hG)
      · have := hob _ (List.mem_singleton.2 rfl)
        simpa using this
    exact idx_enc hr.1 (by simpa using hr.2)
  · rename_i l n
    cases h
    have hr : 0 ≤ n ∧ n < ((ByteArray.mk l.toArray).size : Int) := by
      split at hob
      · rename_i hk
        exact srng_spec ha hb (knows_rng hK hk hG)
      · have := hob _ (List.mem_singleton.2 rfl)
        simpa [ByteArray.size] using this
    exact sidx_enc hr.1 (by simpa [ByteArray.size] using hr.2)
  · split at h
    · rename_i w hw; cases h; exact setC_enc hw
    · cases h
  · cases h

/-- What a reading says. -/
def EvOk (ρ : Env) (m : Md) (e : Exp) (x : TV) : Prop := match m with
  | .tail _ => den ρ e = .list (x.t.encP x.v)
  | _ => den ρ e = x.enc
/-- The slots tell the environment. -/
structure RelS (ρ : Env) (K : Kno) (l : List Slot) : Prop where
  slot : ∀ (j : Nat) s, l[j]? = some s → (∀ q ∈ s.g, q.1.bnd j = true) ∧ (holdsG ρ s.g → ρ j = s.x.enc)
  kno : KnoOk ρ K

theorem EV.as_eq {x : EV} {t : Ty} {v : t.den} (h : x.as t = some v) : x.x = ⟨t, v⟩ := TV.as_eq h

theorem map_or_true {c : Bool} {l : List Bool} (h : ∀ b ∈ l.map (fun q => !c || q), b = true) (hc : c = true) : ∀ b ∈ l, b = true := by
  intro b hb
  have := h _ (List.mem_map.2 ⟨b, hb, rfl⟩)
  simpa [hc] using this
theorem map_or_false {c : Bool} {l : List Bool} (h : ∀ b ∈ l.map (fun q => c || q), b = true) (hc : c = false) : ∀ b ∈ l, b = true := by
  intro b hb
  have := h _ (List.mem_map.2 ⟨b, hb, rfl⟩)
  simpa [hc] using this
theorem obs_app {a b : List Bool} (h : ∀ x ∈ a ++ b, x = true) : (∀ x ∈ a, x = true) ∧ ∀ x ∈ b, x = true :=
  ⟨fun x hx => h x (List.mem_append_left _ hx), fun x hx => h x (List.mem_append_right _ hx)⟩

section
variable {K : Kno} {l : List Slot} {ρ : Env}

theorem ev_ty {m : Md} {e : Exp} {x : EV} (hm : ∀ t, m ≠ .tail t) (h : EvOk ρ m e x.x) : den ρ e = x.x.enc := by
  cases m with
  | any => exact h
  | ty t => exact h
  | tail t => exact absurd rfl (hm t)
theorem ev_mk {m : Md} {e : Exp} {x : TV} (hm : ∀ t, m ≠ .tail t) (h : den ρ e = x.enc) : EvOk ρ m e x := by
  cases m with
  | any => exact h
  | ty t => exact h
  | tail t => exact absurd rfl (hm t)

theorem ev_sound (hR : RelS ρ K l) : ∀ (e : Exp) (G : Grd) (m : Md) (x : EV), ev K l e G m = some x → holdsG ρ G → (∀ b ∈ x.ob, b = true) → EvOk ρ m e x.x := by
  intro e
  induction e with
  | var v =>
    intro G m x h hG hob
    simp only [ev] at h
    split at h
    · cases h
    · rename_i hm
      split at h
      · rename_i s hs
        split at h
        · rename_i hg
          cases h
          exact ev_mk hm ((hR.slot v s hs).2 (subG_holds hg hG))
        · cases h
      · cases h
  | int n =>
    intro G m x h hG hob
    simp only [ev] at h
    split at h
    · cases h
    · rename_i hm; cases h; exact ev_mk hm rfl
  | bool n =>
    intro G m x h hG hob
    simp only [ev] at h
    split at h
    · cases h
    · rename_i hm; cases h; exact ev_mk hm rfl
  | str n =>
    intro G m x h hG hob
    simp only [ev] at h
    split at h
    · cases h
    · rename_i hm; cases h; exact ev_mk hm rfl
  | nil =>
    intro G m x h hG hob
    simp only [ev] at h
    split at h
    · cases h; rfl
    · cases h; rfl
    · cases h
  | un o a ih =>
    intro G m x h hG hob
    simp only [ev] at h
    split at h
    · cases h
    · rename_i hm
      split at h
      case h_2 => cases h
      rename_i xa hxa
      split at h
      case h_2 => cases h
      rename_i y hy
      cases h
      have := ih G .any xa hxa hG hob
      refine ev_mk hm ?_
      show o.den (den ρ a) = _
      rw [show den ρ a = xa.x.enc from this]; exact infU_sound hy
  | bin o a b iha ihb =>
    have gen : ∀ (G : Grd) (m : Md) (x : EV), (match m with
      | .tail _ => none
      | _ => match ev K l a G .any with
        | some x => match ev K l b G .any with
          | some y => match infB K G a b o x.x y.x with
            | some z => some (⟨z.x, x.ob ++ (y.ob ++ z.ob)⟩ : EV)
            | none => none
          | none => none
        | none => none) = some x → holdsG ρ G → (∀ b ∈ x.ob, b = true) → EvOk ρ m (.bin o a b) x.x := by
      intro G m x h hG hob
      split at h
      · cases h
      rename_i hm
      split at h
      case h_2 => cases h
      rename_i xa hxa
      split at h
      case h_2 => cases h
      rename_i xb hxb
      split at h
      case h_2 => cases h
      rename_i z hz
      cases h
      obtain ⟨o1, o2⟩ := obs_app hob
      obtain ⟨o2, o3⟩ := obs_app o2
      have h1 : den ρ a = xa.x.enc := iha G .any xa hxa hG o1
      have h2 : den ρ b = xb.x.enc := ihb G .any xb hxb hG o2
      refine ev_mk hm ?_
      show o.den (den ρ a) (den ρ b) = _
      rw [h1, h2]
      have := infB_sound hR.kno hG h1 h2 hz o3
      exact this
    intro G m x h hG hob
    cases o with
    | cons =>
      simp only [ev] at h
      split at h
      · cases h
      · split at h
        case h_2 => cases h
        rename_i t xa hxa
        split at h
        case h_2 => cases h
        rename_i u hu
        split at h
        case h_2 => cases h
        rename_i xb hxb
        split at h
        case h_2 => cases h
        rename_i w hw
        cases h
        obtain ⟨o1, o2⟩ := obs_app hob
        have h1 : den ρ a = xa.x.enc := iha G _ xa hxa hG o1
        have h2 : den ρ b = xb.x.enc := ihb G _ xb hxb hG o2
        rw [EV.as_eq hu] at h1
        rw [EV.as_eq hw] at h2
        show T.cons (den ρ a) (den ρ b) = _
        rw [h1, h2]; rfl
      · split at h
        case h_2 => cases h
        rename_i t q xa hxa
        split at h
        case h_2 => cases h
        rename_i u hu
        split at h
        case h_2 => cases h
        rename_i xb hxb
        split at h
        case h_2 => cases h
        rename_i w hw
        cases h
        obtain ⟨o1, o2⟩ := obs_app hob
        have h1 : den ρ a = xa.x.enc := iha G _ xa hxa hG o1
        have h2 : den ρ b = .list (xb.x.t.encP xb.x.v) := ihb G _ xb hxb hG o2
        rw [EV.as_eq hu] at h1
        rw [EV.as_eq hw] at h2
        show T.cons (den ρ a) (den ρ b) = _
        rw [h1, h2]; rfl
      · split at h
        case h_2 => cases h
        rename_i t q xa hxa
        split at h
        case h_2 => cases h
        rename_i u hu
        split at h
        case h_2 => cases h
        rename_i xb hxb
        split at h
        case h_2 => cases h
        rename_i w hw
        cases h
        obtain ⟨o1, o2⟩ := obs_app hob
        have h1 : den ρ a = xa.x.enc := iha G _ xa hxa hG o1
        have h2 : den ρ b = .list (xb.x.t.encP xb.x.v) := ihb G _ xb hxb hG o2
        rw [EV.as_eq hu] at h1
        rw [EV.as_eq hw] at h2
        show T.cons (den ρ a) (den ρ b) = _
        rw [h1, h2]; rfl
      · rename_i t hnp
        split at h
        case h_2 => cases h
        split at h
        case h_2 => cases h
        rename_i xa hxa
        split at h
        case h_2 => cases h
        rename_i u hu
        cases h
        have h1 : den ρ a = xa.x.enc := iha G _ xa hxa hG hob
        rw [EV.as_eq hu] at h1
        show T.cons (den ρ a) (.list []) = .list (t.encP u)
        rw [h1, Ty.encP_one t u (by cases t <;> first | rfl | exact absurd rfl (hnp _ _))]; rfl
      · cases h
    | cat =>
      have go : ∀ (t : Ty) (x : EV), (match ev K l a G (.ty (.list t)) with
        | some x => match x.as (.list t) with
          | some u => match ev K l b G (.ty (.list t)) with
            | some y => match y.as (.list t) with
              | some w => some (⟨⟨.list t, u ++ w⟩, x.ob ++ y.ob⟩ : EV)
              | none => none
            | none => none
          | none => none
        | none => none) = some x → (∀ b ∈ x.ob, b = true) → den ρ (.bin .cat a b) = x.x.enc := by
        intro t x h hob
        split at h
        case h_2 => cases h
        rename_i xa hxa
        split at h
        case h_2 => cases h
        rename_i u hu
        split at h
        case h_2 => cases h
        rename_i xb hxb
        split at h
        case h_2 => cases h
        rename_i w hw
        cases h
        obtain ⟨o1, o2⟩ := obs_app hob
        have h1 : den ρ a = xa.x.enc := iha G _ xa hxa hG o1
        have h2 : den ρ b = xb.x.enc := ihb G _ xb hxb hG o2
        rw [EV.as_eq hu] at h1
        rw [EV.as_eq hw] at h2
        show T.cat (den ρ a) (den ρ b) = _
        rw [h1, h2]
        simp [TV.enc, T.cat]
      simp only [ev] at h
      split at h
      · exact go _ _ h hob
      · split at h
        · exact go _ _ h hob
        · split at h
          · exact go _ _ h hob
          · cases h
      · cases h
    | rep =>
      simp only [ev] at h
      split at h
      · cases h
      · split at h
        case h_2 => cases h
        rename_i xa hxa
        split at h
        case h_2 => cases h
        rename_i n hn
        split at h
        case h_2 => cases h
        rename_i y hy
        cases h
        obtain ⟨o1, o2⟩ := obs_app hob
        have h1 : den ρ a = xa.x.enc := iha G _ xa hxa hG o1
        have h2 : den ρ b = y.x.enc := ihb G _ y hy hG o2
        rw [EV.as_eq hn] at h1
        show T.rep (den ρ a) (den ρ b) = _
        rw [h1, h2]
        simp [TV.enc, T.rep]
      · split at h
        case h_2 => cases h
        rename_i xa hxa
        split at h
        case h_2 => cases h
        rename_i n hn
        split at h
        case h_2 => cases h
        rename_i y hy
        split at h
        case h_2 => cases h
        rename_i w hw
        cases h
        obtain ⟨o1, o2⟩ := obs_app hob
        have h1 : den ρ a = xa.x.enc := iha G _ xa hxa hG o1
        have h2 : den ρ b = y.x.enc := ihb G _ y hy hG o2
        rw [EV.as_eq hn] at h1
        rw [EV.as_eq hw] at h2
        show T.rep (den ρ a) (den ρ b) = _
        rw [h1, h2]
        simp [TV.enc, T.rep]
      · cases h
    | setC j =>
      simp only [ev] at h
      split at h
      · cases h
      rename_i hm
      split at h
      case h_2 => cases h
      rename_i xa hxa
      split at h
      case h_2 => cases h
      split at h
      case h_2 => cases h
      rename_i t _ xb hxb
      split at h
      case h_2 => cases h
      rename_i w hw
      cases h
      obtain ⟨o1, o2⟩ := obs_app hob
      have h1 : den ρ a = xa.x.enc := iha G _ xa hxa hG o1
      have h2 : den ρ b = xb.x.enc := ihb G _ xb hxb hG o2
      refine ev_mk hm ?_
      show T.setC j (den ρ a) (den ρ b) = _
      rw [h1, h2]; exact setC_enc hw
    | ar => exact gen G m x h hG hob
    | cmp => exact gen G m x h hG hob
    | scmp => exact gen G m x h hG hob
    | bcmp => exact gen G m x h hG hob
    | and => exact gen G m x h hG hob
    | or => exact gen G m x h hG hob
    | plus => exact gen G m x h hG hob
    | minus => exact gen G m x h hG hob
    | idx => exact gen G m x h hG hob
    | scat => exact gen G m x h hG hob
    | sidx => exact gen G m x h hG hob
    | max => exact gen G m x h hG hob
    | min => exact gen G m x h hG hob
  | tri o a b c iha ihb ihc =>
    intro G m x h hG hob
    cases o with
    | ite =>
      have go : ∀ (t : Ty) (x : EV), (match ev K l a G .any with
        | some x => match x.as .bool with
          | some cv => match ev K l b ((a, true) :: G) (.ty t) with
            | some y => match y.as t with
              | some u => match ev K l c ((a, false) :: G) (.ty t) with
                | some z => match z.as t with
                  | some w => some (⟨⟨t, if cv then u else w⟩, x.ob ++ (y.ob.map (fun q => !cv || q) ++ z.ob.map (fun q => cv || q))⟩ : EV)
                  | none => none
                | none => none
              | none => none
            | none => none
          | none => none
        | none => none) = some x → (∀ b ∈ x.ob, b = true) → den ρ (.tri .ite a b c) = x.x.enc := by
        intro t x h hob
        split at h
        case h_2 => cases h
        rename_i xa hxa
        split at h
        case h_2 => cases h
        rename_i cv hcv
        split at h
        case h_2 => cases h
        rename_i y hy
        split at h
        case h_2 => cases h
        rename_i u hu
        split at h
        case h_2 => cases h
        rename_i z hz
        split at h
        case h_2 => cases h
        rename_i w hw
        cases h
        obtain ⟨o1, o2⟩ := obs_app hob
        obtain ⟨o2, o3⟩ := obs_app o2
        have h1 : den ρ a = xa.x.enc := iha G _ xa hxa hG o1
        rw [EV.as_eq hcv] at h1
        show T.ite (den ρ a) (den ρ b) (den ρ c) = _
        rw [h1]
        cases cv with
        | true =>
          have h2 : den ρ b = y.x.enc := ihb _ _ y hy ⟨h1, hG⟩ (map_or_true o2 rfl)
          rw [EV.as_eq hu] at h2
          show den ρ b = _
          rw [h2]; rfl
        | false =>
          have h2 : den ρ c = z.x.enc := ihc _ _ z hz ⟨h1, hG⟩ (map_or_false o3 rfl)
          rw [EV.as_eq hw] at h2
          show den ρ c = _
          rw [h2]; rfl
      simp only [ev] at h
      split at h
      · cases h
      · exact go _ _ h hob
      · split at h
        · exact go _ _ h hob
        · split at h
          · exact go _ _ h hob
          · cases h
    | setI =>
      simp only [ev] at h
      split at h
      · cases h
      rename_i hm
      split at h
      case h_2 => cases h
      rename_i t q o1 hxa
      split at h
      case h_2 => cases h
      rename_i y hy
      split at h
      case h_2 => cases h
      rename_i n hn
      split at h
      case h_2 => cases h
      rename_i z hz
      split at h
      case h_2 => cases h
      rename_i w hw
      cases h
      obtain ⟨o1, o2⟩ := obs_app hob
      obtain ⟨o2, o3⟩ := obs_app o2
      obtain ⟨o3, o4⟩ := obs_app o3
      have h1 : den ρ a = T.list (q.map t.enc) := iha G _ _ hxa hG o1
      have h2 : den ρ b = y.x.enc := ihb G _ y hy hG o2
      have h3 : den ρ c = z.x.enc := ihc G _ z hz hG o3
      rw [EV.as_eq hn] at h2
      rw [EV.as_eq hw] at h3
      have h0 : 0 ≤ n := by
        split at o4
        · rename_i hk
          exact (rng_spec h1 h2 (knows_rng hR.kno hk hG)).1
        · have := o4 _ (List.mem_singleton.2 rfl)
          simpa using this
      refine ev_mk hm ?_
      show T.setI (den ρ a) (den ρ b) (den ρ c) = _
      rw [h1, h2, h3]
      exact setI_enc h0
    | ext =>
      simp only [ev] at h
      split at h
      · cases h
      rename_i hm
      split at h
      case h_2 => cases h
      rename_i t q o1 hxa
      split at h
      case h_2 => cases h
      rename_i y hy
      split at h
      case h_2 => cases h
      rename_i n hn
      split at h
      case h_2 => cases h
      rename_i z hz
      split at h
      case h_2 => cases h
      rename_i w hw
      cases h
      obtain ⟨o1, o2⟩ := obs_app hob
      obtain ⟨o2, o3⟩ := obs_app o2
      have h1 : den ρ a = T.list (q.map t.enc) := ev_ty hm (iha G _ _ hxa hG o1)
      have h2 : den ρ b = y.x.enc := ihb G _ y hy hG o2
      have h3 : den ρ c = z.x.enc := ihc G _ z hz hG o3
      rw [EV.as_eq hn] at h2
      rw [EV.as_eq hw] at h3
      refine ev_mk hm ?_
      show T.ext (den ρ a) (den ρ b) (den ρ c) = _
      rw [h1, h2, h3]
      simp [TV.enc, T.ext, List.map_drop, List.map_take]
    | sext =>
      simp only [ev] at h
      split at h
      · cases h
      rename_i hm
      split at h
      case h_2 => cases h
      rename_i q o1 hxa
      split at h
      case h_2 => cases h
      rename_i y hy
      split at h
      case h_2 => cases h
      rename_i n hn
      split at h
      case h_2 => cases h
      rename_i z hz
      split at h
      case h_2 => cases h
      rename_i w hw
      cases h
      obtain ⟨o1, o2⟩ := obs_app hob
      obtain ⟨o2, o3⟩ := obs_app o2
      have h1 : den ρ a = T.str ⟨q.toArray⟩ := iha G _ _ hxa hG o1
      have h2 : den ρ b = y.x.enc := ihb G _ y hy hG o2
      have h3 : den ρ c = z.x.enc := ihc G _ z hz hG o3
      rw [EV.as_eq hn] at h2
      rw [EV.as_eq hw] at h3
      refine ev_mk hm ?_
      show T.sext (den ρ a) (den ρ b) (den ρ c) = _
      rw [h1, h2, h3]
      simp only [TV.enc, T.sext, Ty.enc_int, Ty.enc_str, ba_extract]

theorem defOf_sound {x : Nat} {d : Exp} : ∀ {K : Kno}, KnoOk ρ K → defOf x K = some d → ρ x = den ρ d
  | [], _, h => by cases h
  | p :: r, hK, h => by
    have hr : KnoOk ρ r := fun q hq => hK q (List.mem_cons_of_mem _ hq)
    unfold defOf at h
    split at h
    · cases h
    · rename_i y d' r' heq
      cases heq
      split at h
      · rename_i hy
        cases h
        have := hK _ (List.mem_cons_self ..) trivial
        rw [← Nat.eq_of_beq_eq_true hy]
        exact this
      · exact defOf_sound hr h
    · rename_i heq
      cases heq
      exact defOf_sound hr h
theorem rngE_true {l i : Exp} (h : den ρ (rngE l i) = .bool true) : ∃ rows n, den ρ l = .list rows ∧ den ρ i = .int n ∧ 0 ≤ n ∧ n < rows.length := by
  simp only [rngE, den, B.den, U.den] at h
  generalize den ρ l = a at h ⊢
  generalize den ρ i = b at h ⊢
  cases b with
  | int n =>
    cases a with
    | list rows =>
      simp only [T.cmp, T.cmpI, T.len, T.band, T.bool.injEq, Bool.and_eq_true, decide_eq_true_eq] at h
      exact ⟨rows, n, rfl, rfl, h.1, h.2⟩
    | _ => simp [T.cmp, T.cmpI, T.len, T.band] at h
  | _ => simp [T.cmp, T.cmpI, T.len, T.band] at h
theorem setI_ok {l i v : Exp} {rows : List T} {n : Int} (h1 : den ρ l = .list rows) (h2 : den ρ i = .int n) (h3 : 0 ≤ n) : den ρ (.tri .setI l i v) = .list (rows.set n.toNat (den ρ v)) := by
  simp only [den, Tr.den, h1, h2, T.setI, if_neg (show ¬ n < 0 by omega)]
theorem mkLen_den {a : Exp} (h : ∀ e ∈ (mkLen a).2, den ρ e = .bool true) : den ρ (mkLen a).1 = T.len (den ρ a) := by
  unfold mkLen at h ⊢
  split
  · rename_i l i v
    obtain ⟨rows, n, h1, h2, h3, h4⟩ := rngE_true (h (rngE l i) (by simp))
    rw [setI_ok h1 h2 h3]
    simp only [den, U.den, h1, T.len, List.length_set]
  · rfl
theorem mkIdx_den {a i : Exp} (h : ∀ e ∈ (mkIdx a i).2, den ρ e = .bool true) : den ρ (mkIdx a i).1 = T.idx (den ρ a) (den ρ i) := by
  unfold mkIdx at h ⊢
  split
  · rename_i l k v
    split
    · rename_i hk
      have hk := Exp.eqb_eq hk
      subst hk
      simp only [Exp.eqb_refl, if_true] at h
      obtain ⟨rows, n, h1, h2, h3, h4⟩ := rngE_true (h (rngE l k) (by simp))
      rw [setI_ok h1 h2 h3, h2]
      simp only [T.idx, if_neg (show ¬ n < 0 by omega)]
      have : n.toNat < rows.length := by omega
      simp [List.getD_eq_getElem?_getD, this]
    · rfl
  · rfl
theorem mkSetI_den {a i v : Exp} : den ρ (mkSetI a i v) = T.setI (den ρ a) (den ρ i) (den ρ v) := by
  unfold mkSetI
  split
  · rename_i l k u
    split
    · rename_i hk
      have hk := Exp.eqb_eq hk
      subst hk
      simp only [den, Tr.den]
      generalize den ρ l = a
      generalize den ρ k = b
      cases a <;> cases b <;> simp [T.setI]
      split <;> simp [T.setI, *]
    · rfl
  · rfl
theorem mkSetC_den {j : Nat} {a v : Exp} : den ρ (mkSetC j a v) = T.setC j (den ρ a) (den ρ v) := by
  unfold mkSetC
  split
  · rename_i k r h
    split
    · rename_i hk
      have hk := Nat.eq_of_beq_eq_true hk
      subst hk
      simp only [den, B.den]
      generalize den ρ r = x
      cases x <;> simp [T.setC]
    · rename_i hk
      split
      · simp only [den, B.den]
        generalize den ρ r = x
        cases x with
        | list l =>
          simp only [T.setC]
          rw [List.set_comm]
          intro e
          subst e
          exact hk (by simp)
        | _ => rfl
      · rfl
  · rfl
theorem rsv_sound {K : Kno} (hK : KnoOk ρ K) : ∀ (e : Exp), (∀ o ∈ (rsv K e).2, den ρ o = .bool true) → den ρ (rsv K e).1 = den ρ e := by
  intro e
  induction e with
  | var x =>
    intro _
    simp only [rsv]
    split
    · rename_i d hd
      exact (defOf_sound hK hd).symm
    · rfl
  | int n => intro _; rfl
  | bool n => intro _; rfl
  | str n => intro _; rfl
  | nil => intro _; rfl
  | un o a ih =>
    intro h
    cases o with
    | len =>
      simp only [rsv] at h ⊢
      rw [mkLen_den (fun e he => h e (List.mem_append_right _ he)), ih fun e he => h e (List.mem_append_left _ he)]; rfl
    | _ =>
      simp only [rsv] at h ⊢
      simp only [den]
      rw [ih h]
  | bin o a b iha ihb =>
    intro h
    cases o with
    | idx =>
      simp only [rsv] at h ⊢
      rw [mkIdx_den (fun e he => h e (List.mem_append_right _ (List.mem_append_right _ he))), iha fun e he => h e (List.mem_append_left _ he), ihb fun e he => h e (List.mem_append_right _ (List.mem_append_left _ he))]; rfl
    | setC j =>
      simp only [rsv] at h ⊢
      rw [mkSetC_den, iha fun e he => h e (List.mem_append_left _ he), ihb fun e he => h e (List.mem_append_right _ he)]; rfl
    | _ =>
      simp only [rsv] at h ⊢
      simp only [den]
      rw [iha fun e he => h e (List.mem_append_left _ he), ihb fun e he => h e (List.mem_append_right _ he)]
  | tri o a b c iha ihb ihc =>
    intro h
    cases o with
    | setI =>
      simp only [rsv] at h ⊢
      rw [mkSetI_den, iha fun e he => h e (List.mem_append_left _ he), ihb fun e he => h e (List.mem_append_right _ (List.mem_append_left _ he)), ihc fun e he => h e (List.mem_append_right _ (List.mem_append_right _ he))]; rfl
    | _ =>
      simp only [rsv] at h ⊢
      simp only [den]
      rw [iha fun e he => h e (List.mem_append_left _ he), ihb fun e he => h e (List.mem_append_right _ (List.mem_append_left _ he)), ihc fun e he => h e (List.mem_append_right _ (List.mem_append_right _ he))]
theorem rs_sound {K : Kno} (hK : KnoOk ρ K) {e : Exp} (h : ∀ o ∈ (rs K e).2, den ρ o = .bool true) : den ρ (rs K e).1 = den ρ e := by
  unfold rs at h ⊢
  split
  · rename_i hu
    rw [if_pos hu] at h
    exact rsv_sound hK e h
  · rfl
end
end Gp
