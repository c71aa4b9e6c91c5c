/- Gp, part 24b: a step before which nested rows are taken out, and behind which they are put back. -/
import Derived.Test.YtbifjnccebhmkaaGpReg2
import Derived.Test.YtbifjnccebhmkaaGpTake
set_option linter.unusedVariables false
set_option linter.unusedSimpArgs false
namespace Gp
open Go

def take1 (tab : Tab) (Γ : Gam) (nx no o : Nat) : Option (List Upd × List (Grd × SI)) :=
  match Γ.obj o with
  | some ([], .view par pd i j et d) => match Γ.obj par with
    | some ([], .row true pet pd') => match tab.get pet with
      | some ti => if !isHoleE d && pd == pd' && decide (o ≠ par) && Nat.blt o no && Nat.blt j ti.size then
          some ([(par, some ([], .row true pet (.var nx))), (o, some ([], .row true et (.var (nx + 1)))), (no, some ([], .view par (.var nx) i j et (holeE o)))] ++ sibs Γ par pd i j nx [o, no] (Γ.ob.map (·.1)),
            [([], .set nx (cellPut ti.size j pd i (holeE o))), ([], .set (nx + 1) d)])
        else none
      | none => none
    | _ => none
  | _ => none
def put1 (tab : Tab) (Γ : Gam) (nx o q : Nat) : List Upd × List (Grd × SI) × Nat :=
  match Γ.obj q, Γ.obj o with
  | some ([], .view par pd i j et d), some ([], .row true et' d2) => match Γ.obj par with
    | some ([], .row true pet pd') => match tab.get pet with
      | some ti => if d == holeE o && pd == pd' && Nat.beq et et' && decide (o ≠ par) && decide (o ≠ q) && decide (q ≠ par) && Nat.blt j ti.size then
          ([(q, none), (o, none), (par, some ([], .row true pet (.var nx))), (o, some ([], .view par (.var nx) i j et d2))] ++ sibs Γ par pd i j nx [o, q] (Γ.ob.map (·.1)),
            [([], .set nx (cellPut ti.size j pd i d2))], nx + 1)
        else ([(q, none)], [], nx)
      | none => ([(q, none)], [], nx)
    | _ => ([(q, none)], [], nx)
  | _, _ => ([(q, none)], [], nx)
def takes (tab : Tab) : List Nat → Gam → Nat → Nat → Option (List Upd × List (Grd × SI) × List (Nat × Nat) × Nat × Nat)
  | [], Γ, nx, no => some ([], [], [], nx, no)
  | o :: os, Γ, nx, no => match take1 tab Γ nx no o with
    | some (up, si) => match takes tab os (Γ.appOb up) (nx + 2) (no + 1) with
      | some (up2, si2, ties, nx2, no2) => some (up ++ up2, si ++ si2, ties ++ [(o, no)], nx2, no2)
      | none => none
    | none => none
def puts (tab : Tab) : List (Nat × Nat) → Gam → Nat → List Upd × List (Grd × SI) × Nat
  | [], Γ, nx => ([], [], nx)
  | (o, q) :: r, Γ, nx =>
    let x := put1 tab Γ nx o q
    let y := puts tab r (Γ.appOb x.1) x.2.2
    (x.1 ++ y.1, x.2.1 ++ y.2.1, y.2.2)

def viewIn (Γ : Gam) : Leaf → List Nat
  | .sl o .. | .slw o _ | .pe o .. => match Γ.obj o with
    | some ([], .view ..) => [o]
    | _ => []
  | _ => []
def leaves1 : S1 → List Leaf
  | .one l => [l]
  | .agg ls => ls
def viewsOf (Γ : Gam) (x : Operand) : List Nat := match (opd Γ [] x).bind leavesOf with
  | some ls => ls.flatMap (viewIn Γ)
  | none => []
def ownedLeaf (obs : Obs) : Leaf → Bool
  | .sl o .. | .slw o _ => match look o obs with
    | some (.row true ..) => true
    | _ => false
  | _ => false
def zipTake (Γ : Gam) (obs : Obs) : List Leaf → List Leaf → List Nat
  | l' :: r', l :: r => (if ownedLeaf obs l' then viewIn Γ l else []) ++ zipTake Γ obs r' r
  | _, _ => []
def dedup : List Nat → List Nat
  | [] => []
  | x :: r => if (dedup r).contains x then dedup r else x :: dedup r
/-- Which nested rows an operation wants for itself. -/
def needTakes (sigs : List Sig) (Γ : Gam) : Op → List Nat
  | .store _ a v => match opd Γ [] a with
    | some (.s (.one (.pe o et i j))) => dedup (viewIn Γ (.pe o et i j) ++ viewsOf Γ v)
    | _ => []
  | .buildSlice _ _ ps => dedup (ps.toList.flatMap fun p => viewsOf Γ p.2)
  | .call c => match c.callee with
    | .builtin .append => match c.args.toList with
      | x :: _ => dedup (viewsOf Γ x)
      | _ => []
    | .builtin .clear => match c.args.toList with
      | x :: _ => dedup (viewsOf Γ x)
      | _ => []
    | .value f => match opd Γ [] f with
      | some (.s (.one (.fn fid _))) => match sigs.find? (fun S => Nat.beq S.f fid), c.args.toList.mapM (argS1 Γ []) with
        | some S, some xs => dedup (zipTake Γ S.obs (S.ins.flatMap leaves1) (xs.flatMap leaves1))
        | _, _ => []
      | _ => []
    | _ => []
  | _ => []

def anStep (tab : Tab) (sigs : List Sig) (ops : Array Oper) (nt : Nat) (Γ : Gam) (nx no : Nat) (o : Oper) : Option (Grd × Res) :=
  match needTakes sigs Γ o.op with
  | [] => anStep0 tab sigs ops nt Γ nx no o
  | os => match takes tab os Γ nx no with
    | some (up1, si1, ties, nx1, no1) => match anStep0 tab sigs ops nt (Γ.appOb up1) nx1 no1 o with
      | some (G, r) =>
        let y := puts tab ties ((Γ.appOb up1).appOb r.ob) r.nx
        some (G, { r with ob := up1 ++ (r.ob ++ y.1), sis := si1 ++ (r.sis ++ y.2.1), nx := y.2.2 })
      | none => none
    | none => anStep0 tab sigs ops nt Γ nx no o

section
variable {tab : Tab} {Γ : Gam} {ρ ρ' : Env} {tm : Array Value} {w w' : World} {C C1 Cx : Ctx} {kn kn' : Kn} {Wr : CS} {w0 : World} {P : Program} {G : Grd} {nx no nb : Nat} {sigs : List Sig}

theorem take1_sound {I : Nat → List T → List T → Prop} (h : Rel tab Γ ρ tm w C kn Wr w0) {o : Nat} {up : List Upd} {si : List (Grd × SI)} (ht : take1 tab Γ nx no o = some (up, si)) (hS : HoldsS I ρ si)
    (hfx1 : ¬ kn.v nx) (hfx2 : ¬ kn.v (nx + 1)) (hfo : ¬ kn.o no) :
    ∃ C', Rel tab (Γ.appOb up) ρ tm w C' (((kn.addV nx).addV (nx + 1)).addO no) Wr w0 ∧ (∀ o', kn.o o' → C'.A o' = C.A o' ∧ C'.N o' = C.N o' ∧ C'.K o' = C.K o') ∧ C'.A no = C'.A o ∧ C'.N no = C'.N o ∧ C'.K no = C'.K o ∧ kn.o o ∧ o < no := by
  unfold take1 at ht
  split at ht
  case h_2 => cases ht
  rename_i par pd i j et d ho
  split at ht
  case h_2 => cases ht
  rename_i pet pd' hp
  split at ht
  case h_2 => cases ht
  rename_i ti hti
  split at ht
  case isFalse => cases ht
  rename_i hc
  simp only [Bool.and_eq_true, Bool.not_eq_true', ne_eq, beq_iff_eq, decide_eq_true_eq] at hc
  obtain ⟨⟨⟨⟨c1, c2⟩, c3⟩, c4⟩, c5⟩ := hc
  subst c2
  have c4 : o < no := Nat.le_of_ble_eq_true c4
  have c5 : j < ti.size := Nat.le_of_ble_eq_true c5
  cases ht
  have hx1 := hS ([], .set nx (cellPut ti.size j pd i (holeE o))) (by simp) trivial
  have hx2 := hS ([], .set (nx + 1) d) (by simp) trivial
  have hko := (h.obs o [] _ ho).1
  have hkp := (h.obs par [] _ hp).1
  have hqo : no ≠ o := fun e => hfo (e ▸ hko)
  have hqp : no ≠ par := fun e => hfo (e ▸ hkp)
  obtain ⟨C1, q1, q2, q3, q4, q5⟩ := h.takeV ho c1 hp hti hx1 hx2 hfx1 hfx2 (by omega) hfo c3
  obtain ⟨C2, r1, r2⟩ := h.sibs (kn' := ((kn.addV nx).addV (nx + 1)).addO no) ⟨fun _ => .inl, fun _ hh => .inl (.inl hh)⟩ hp hti hx1 (.inl (.inr rfl)) c5 (not := [o, no]) (Γ.ob.map (·.1)) _ C1 q1 q2 (by
    rw [Gam.obj_setOb_ne _ _ hqp, Gam.obj_setOb_ne _ _ c3, Gam.obj_setOb_self])
  refine ⟨C2, ?_, fun o' ho' => ?_, ?_, ?_, ?_, hko, c4⟩
  · rw [Gam.appOb_append]; exact r1
  · obtain ⟨y1, y2, y3⟩ := r2 o'
    obtain ⟨z1, z2, z3⟩ := q2 o' ho'
    exact ⟨y1.trans z1, y2.trans z2, y3.trans z3⟩
  · rw [(r2 no).1, (r2 o).1, q3, (q2 o hko).1]
  · rw [(r2 no).2.1, (r2 o).2.1, q4, (q2 o hko).2.1]
  · rw [(r2 no).2.2, (r2 o).2.2, q5, (q2 o hko).2.2]

theorem put1_sound {I : Nat → List T → List T → Prop} (h : Rel tab Γ ρ tm w C kn Wr w0) {o q : Nat} (hS : HoldsS I ρ (put1 tab Γ nx o q).2.1) (hfx : ∀ x, nx ≤ x → x < (put1 tab Γ nx o q).2.2 → ¬ kn.v x) :
    ∃ C' kn', Rel tab (Γ.appOb (put1 tab Γ nx o q).1) ρ tm w C' kn' Wr w0 ∧ (∀ o', C'.A o' = C.A o' ∧ C'.N o' = C.N o' ∧ C'.K o' = C.K o') ∧ kn.le kn' ∧ (∀ o', kn'.o o' → kn.o o') ∧
      (∀ x, kn'.v x → kn.v x ∨ (nx ≤ x ∧ x < (put1 tab Γ nx o q).2.2)) ∧ nx ≤ (put1 tab Γ nx o q).2.2 := by
  have dflt : put1 tab Γ nx o q = ([(q, none)], [], nx) → ∃ C' kn', Rel tab (Γ.appOb (put1 tab Γ nx o q).1) ρ tm w C' kn' Wr w0 ∧ (∀ o', C'.A o' = C.A o' ∧ C'.N o' = C.N o' ∧ C'.K o' = C.K o') ∧ kn.le kn' ∧ (∀ o', kn'.o o' → kn.o o') ∧
      (∀ x, kn'.v x → kn.v x ∨ (nx ≤ x ∧ x < (put1 tab Γ nx o q).2.2)) ∧ nx ≤ (put1 tab Γ nx o q).2.2 := by
    intro e
    rw [e]
    exact ⟨C, kn, h.delOb q, fun _ => ⟨rfl, rfl, rfl⟩, Kn.le.refl _, fun _ => id, fun _ => .inl, Nat.le_refl _⟩
  cases hq : Γ.obj q with
  | none => exact dflt (by simp only [put1, hq])
  | some yq =>
    obtain ⟨gq, obq⟩ := yq
    cases ho : Γ.obj o with
    | none => exact dflt (by simp only [put1, hq, ho])
    | some yo =>
      obtain ⟨go, obo⟩ := yo
      cases gq with
      | cons => exact dflt (by simp only [put1, hq, ho])
      | nil =>
        cases obq with
        | row => exact dflt (by simp only [put1, hq, ho])
        | box => exact dflt (by simp only [put1, hq, ho])
        | view par pd i j et d =>
          cases go with
          | cons => exact dflt (by simp only [put1, hq, ho])
          | nil =>
            cases obo with
            | view => exact dflt (by simp only [put1, hq, ho])
            | box => exact dflt (by simp only [put1, hq, ho])
            | row dp et' d2 =>
              cases dp with
              | false => exact dflt (by simp only [put1, hq, ho])
              | true =>
                cases hp : Γ.obj par with
                | none => exact dflt (by simp only [put1, hq, ho, hp])
                | some yp =>
                  obtain ⟨gp, obp⟩ := yp
                  cases gp with
                  | cons => exact dflt (by simp only [put1, hq, ho, hp])
                  | nil =>
                    cases obp with
                    | view => exact dflt (by simp only [put1, hq, ho, hp])
                    | box => exact dflt (by simp only [put1, hq, ho, hp])
                    | row dpp pet pd' =>
                      cases dpp with
                      | false => exact dflt (by simp only [put1, hq, ho, hp])
                      | true =>
                        cases hti : tab.get pet with
                        | none => exact dflt (by simp only [put1, hq, ho, hp, hti])
                        | some ti =>
                          by_cases hc : (d == holeE o && pd == pd' && Nat.beq et et' && decide (o ≠ par) && decide (o ≠ q) && decide (q ≠ par) && Nat.blt j ti.size) = true
                          · have e : put1 tab Γ nx o q = ([(q, none), (o, none), (par, some ([], .row true pet (.var nx))), (o, some ([], .view par (.var nx) i j et d2))] ++ sibs Γ par pd i j nx [o, q] (Γ.ob.map (·.1)),
                              [([], .set nx (cellPut ti.size j pd i d2))], nx + 1) := by
                              simp only [put1, hq, ho, hp, hti, if_pos hc]
                            rw [e] at hS hfx ⊢
                            simp only [Bool.and_eq_true, beq_iff_eq, decide_eq_true_eq] at hc
                            obtain ⟨⟨⟨⟨⟨⟨c1, c2⟩, c3⟩, c4⟩, c5⟩, c6⟩, c7⟩ := hc
                            have c3 := Nat.eq_of_beq_eq_true c3
                            subst c1 c2 c3
                            have c7 : j < ti.size := Nat.le_of_ble_eq_true c7
                            have hx := hS ([], .set nx (cellPut ti.size j pd i d2)) (by simp) trivial
                            obtain ⟨C1, q1, q2⟩ := h.putV hq hp ho hti hx (hfx nx (Nat.le_refl _) (Nat.lt_succ_self _)) c4 c5 c6
                            obtain ⟨C2, r1, r2⟩ := h.sibs (kn' := kn.addV nx) ⟨fun _ => id, fun _ => .inl⟩ hp hti hx (.inr rfl) c7 (not := [o, q]) (Γ.ob.map (·.1)) _ C1 q1 (fun o' _ => q2 o') (by
                              rw [Gam.obj_setOb_ne _ _ c4, Gam.obj_setOb_self])
                            refine ⟨C2, kn.addV nx, ?_, fun o' => ?_, ⟨fun _ => id, fun _ => .inl⟩, fun _ => id, fun x hx => ?_, Nat.le_succ _⟩
                            · rw [Gam.appOb_append]; exact r1
                            · obtain ⟨y1, y2, y3⟩ := r2 o'
                              obtain ⟨z1, z2, z3⟩ := q2 o'
                              exact ⟨y1.trans z1, y2.trans z2, y3.trans z3⟩
                            · rcases hx with hx | hx
                              · exact .inl hx
                              · exact .inr (by dsimp only; omega)
                          · exact dflt (by simp only [put1, hq, ho, hp, hti, if_neg hc])

theorem takes_sound {I : Nat → List T → List T → Prop} : ∀ (os : List Nat) {Γ : Gam} {nx no : Nat} {C : Ctx} {kn : Kn} (h : Rel tab Γ ρ tm w C kn Wr w0) {up : List Upd} {si : List (Grd × SI)} {ties : List (Nat × Nat)} {nx2 no2 : Nat}
    (ht : takes tab os Γ nx no = some (up, si, ties, nx2, no2)) (hS : HoldsS I ρ si) (hfx : ∀ x, nx ≤ x → x < nx2 → ¬ kn.v x) (hfo : ∀ o, no ≤ o → o < no2 → ¬ kn.o o),
    nx ≤ nx2 ∧ no ≤ no2 ∧ ∃ C' kn', Rel tab (Γ.appOb up) ρ tm w C' kn' Wr w0 ∧ (∀ o', kn.o o' → C'.A o' = C.A o' ∧ C'.N o' = C.N o' ∧ C'.K o' = C.K o') ∧ kn.le kn' ∧
      (∀ o', kn'.o o' → kn.o o' ∨ (no ≤ o' ∧ o' < no2)) ∧ (∀ x, kn'.v x → kn.v x ∨ (nx ≤ x ∧ x < nx2)) ∧
      ∀ t ∈ ties, kn'.o t.1 ∧ kn'.o t.2 ∧ t.1 < no2 ∧ t.2 < no2 ∧ C'.A t.2 = C'.A t.1 ∧ C'.N t.2 = C'.N t.1 ∧ C'.K t.2 = C'.K t.1
  | [], Γ, nx, no, C, kn, h, up, si, ties, nx2, no2, ht, hS, hfx, hfo => by
    cases ht
    exact ⟨Nat.le_refl _, Nat.le_refl _, C, kn, h, fun _ _ => ⟨rfl, rfl, rfl⟩, Kn.le.refl _, fun _ => .inl, fun _ => .inl, fun t ht => by cases ht⟩
  | o :: os, Γ, nx, no, C, kn, h, up, si, ties, nx2, no2, ht, hS, hfx, hfo => by
    simp only [takes] at ht
    split at ht
    case h_2 => cases ht
    rename_i up1 si1 h1
    split at ht
    case h_2 => cases ht
    rename_i up2 si2 ties2 nx3 no3 h2
    cases ht
    have hS1 : HoldsS I ρ si1 := fun x hx => hS x (List.mem_append_left _ hx)
    have hS2 : HoldsS I ρ si2 := fun x hx => hS x (List.mem_append_right _ hx)
    -- how far the numbers go
    have hle : nx + 2 ≤ nx2 ∧ no + 1 ≤ no2 := by
      clear hS hfx hfo hS1 hS2 h h1
      revert Γ up1 h2
      have key : ∀ (os : List Nat) (Γ : Gam) (nx no : Nat) (x : List Upd × List (Grd × SI) × List (Nat × Nat) × Nat × Nat), takes tab os Γ nx no = some x → nx ≤ x.2.2.2.1 ∧ no ≤ x.2.2.2.2 := by
        intro os
        induction os with
        | nil => intro Γ nx no x hx; cases hx; exact ⟨Nat.le_refl _, Nat.le_refl _⟩
        | cons o os ih =>
          intro Γ nx no x hx
          simp only [takes] at hx
          split at hx
          case h_2 => cases hx
          split at hx
          case h_2 => cases hx
          rename_i hy
          cases hx
          have := ih _ _ _ _ hy
          dsimp only at this ⊢
          omega
      intro Γ up1 h2
      exact key _ _ _ _ _ h2
    obtain ⟨C1, q1, q2, q3, q4, q5, q6, q7⟩ := take1_sound h h1 hS1 (hfx nx (Nat.le_refl _) (by omega)) (hfx (nx + 1) (by omega) (by omega)) (hfo no (Nat.le_refl _) (by omega))
    obtain ⟨l1, l2, C2, kn2, r1, r2, r3, r4, r5, r6⟩ := takes_sound os q1 h2 hS2
      (fun x hx1 hx2 hk => by
        rcases hk with (hk | hk) | hk
        · exact hfx x (by omega) hx2 hk
        · omega
        · omega)
      (fun x hx1 hx2 hk => by
        rcases hk with hk | hk
        · exact hfo x (by omega) hx2 hk
        · omega)
    refine ⟨by omega, by omega, C2, kn2, by rw [Gam.appOb_append]; exact r1, fun o' ho' => ?_, ⟨fun x hx => r3.1 x (.inl hx), fun x hx => r3.2 x (.inl (.inl hx))⟩, fun x hx => ?_, fun x hx => ?_, fun t ht => ?_⟩
    · obtain ⟨y1, y2, y3⟩ := r2 o' (.inl ho')
      obtain ⟨z1, z2, z3⟩ := q2 o' ho'
      exact ⟨y1.trans z1, y2.trans z2, y3.trans z3⟩
    · rcases r4 x hx with (hk | hk) | hk
      · exact .inl hk
      · exact .inr (by omega)
      · exact .inr (by omega)
    · rcases r5 x hx with ((hk | hk) | hk) | hk
      · exact .inl hk
      · exact .inr (by omega)
      · exact .inr (by omega)
      · exact .inr (by omega)
    · rcases List.mem_append.1 ht with ht | ht
      · exact r6 t ht
      · simp only [List.mem_singleton] at ht
        subst ht
        obtain ⟨y1, y2, y3⟩ := r2 no (.inr rfl)
        obtain ⟨z1, z2, z3⟩ := r2 o (.inl q6)
        exact ⟨r3.1 o (.inl q6), r3.1 no (.inr rfl), by dsimp only; omega, by dsimp only; omega, by rw [y1, z1]; exact q3, by rw [y2, z2]; exact q4, by rw [y3, z3]; exact q5⟩

theorem puts_le : ∀ (ties : List (Nat × Nat)) (Γ : Gam) (nx : Nat), nx ≤ (puts tab ties Γ nx).2.2
  | [], Γ, nx => Nat.le_refl _
  | (o, q) :: r, Γ, nx => by
    simp only [puts]
    refine Nat.le_trans ?_ (puts_le r _ _)
    unfold put1
    repeat' split
    all_goals first | exact Nat.le_refl _ | exact Nat.le_succ _
theorem puts_sound {I : Nat → List T → List T → Prop} : ∀ (ties : List (Nat × Nat)) {Γ : Gam} {nx : Nat} {C : Ctx} {kn : Kn} (h : Rel tab Γ ρ tm w C kn Wr w0) (hS : HoldsS I ρ (puts tab ties Γ nx).2.1)
    (hfx : ∀ x, nx ≤ x → x < (puts tab ties Γ nx).2.2 → ¬ kn.v x),
    ∃ C' kn', Rel tab (Γ.appOb (puts tab ties Γ nx).1) ρ tm w C' kn' Wr w0 ∧ (∀ o', C'.A o' = C.A o' ∧ C'.N o' = C.N o' ∧ C'.K o' = C.K o') ∧ kn.le kn' ∧ (∀ o', kn'.o o' → kn.o o') ∧
      (∀ x, kn'.v x → kn.v x ∨ (nx ≤ x ∧ x < (puts tab ties Γ nx).2.2))
  | [], Γ, nx, C, kn, h, hS, hfx => ⟨C, kn, h, fun _ => ⟨rfl, rfl, rfl⟩, Kn.le.refl _, fun _ => id, fun _ => .inl⟩
  | (o, q) :: r, Γ, nx, C, kn, h, hS, hfx => by
    simp only [puts] at hS hfx ⊢
    have hl := puts_le (tab := tab) r (Γ.appOb (put1 tab Γ nx o q).1) (put1 tab Γ nx o q).2.2
    obtain ⟨C1, kn1, q1, q2, q3, q4, q5, q6⟩ := put1_sound (nx := nx) h (fun x hx => hS x (List.mem_append_left _ hx)) (fun x hx1 hx2 => hfx x hx1 (by omega))
    obtain ⟨C2, kn2, r1, r2, r3, r4, r5⟩ := puts_sound r q1 (fun x hx => hS x (List.mem_append_right _ hx)) (fun x hx1 hx2 hk => by
      rcases q5 x hk with hk | hk
      · exact hfx x (by omega) hx2 hk
      · omega)
    refine ⟨C2, kn2, by rw [Gam.appOb_append]; exact r1, fun o' => ?_, ⟨fun x hx => r3.1 x (q3.1 x hx), fun x hx => r3.2 x (q3.2 x hx)⟩, fun x hx => q4 x (r4 x hx), fun x hx => ?_⟩
    · obtain ⟨z1, z2, z3⟩ := q2 o'
      obtain ⟨u1, u2, u3⟩ := r2 o'
      exact ⟨u1.trans z1, u2.trans z2, u3.trans z3⟩
    · rcases r5 x hx with hk | hk
      · rcases q5 x hk with hk | hk
        · exact .inl hk
        · exact .inr (by omega)
      · exact .inr (by omega)

theorem put_appOb : ∀ (l : List Upd) (Γ : Gam) (t : Nat) (x : Grd × SV), (Γ.put t x).appOb l = (Γ.appOb l).put t x
  | [], Γ, t, x => rfl
  | (o, some y) :: r, Γ, t, x => by simp only [Gam.appOb]; exact put_appOb r (Γ.setOb o y) t x
  | (o, none) :: r, Γ, t, x => by simp only [Gam.appOb]; exact put_appOb r (Γ.delOb o) t x
theorem after_appOb (Γ : Gam) (G : Grd) (dst : Option Tmp) (r : Res) (l : List Upd) (r' : Res) (h1 : r'.ob = r.ob ++ l) (h2 : r'.sv = r.sv) : Γ.after G dst r' = (Γ.after G dst r).appOb l := by
  unfold Gam.after
  cases dst with
  | none => simp only [h1, Gam.appOb_append]
  | some t => simp only [h1, h2, Gam.appOb_append, put_appOb]
theorem after_pre (Γ : Gam) (G : Grd) (dst : Option Tmp) (r : Res) (l : List Upd) (r' : Res) (h1 : r'.ob = l ++ r.ob) (h2 : r'.sv = r.sv) : Γ.after G dst r' = (Γ.appOb l).after G dst r := by
  unfold Gam.after
  cases dst with
  | none => simp only [h1, Gam.appOb_append]
  | some t => simp only [h1, h2, Gam.appOb_append]

theorem anStep0_le {nt : Nat} {ops : Array Oper} {o : Oper} {r : Res} (hr : anStep0 tab sigs ops nt Γ nx no o = some (G, r)) : nx ≤ r.nx ∧ no ≤ r.no := by
  unfold anStep0 at hr
  split at hr
  case h_2 => cases hr
  split at hr
  case h_2 => cases hr
  simp only at hr
  split at hr
  case isFalse => cases hr
  rename_i hc
  simp only [Bool.and_eq_true] at hc
  have h1 := Nat.le_of_ble_eq_true hc.1.1
  have h2 := Nat.le_of_ble_eq_true hc.1.2
  split at hr
  · cases hr; exact ⟨h1, h2⟩
  · split at hr
    · rename_i r' hm
      cases hr
      unfold mergeR at hm
      split at hm
      case h_2 => cases hm
      rename_i ups sis nx' hups
      split at hm
      case isFalse => cases hm
      cases hm
      have : ∀ (os : List Nat) (nx nx' : Nat) (ups : List (Nat × Option (Grd × Obj))) (sis : List (Grd × SI)) (Γ Γ1 : Gam) (G : Grd), mergeUpds Γ Γ1 G nx os = some (ups, sis, nx') → nx ≤ nx' := by
        intro os
        induction os with
        | nil => intro nx nx' ups sis Γ Γ1 G h; cases h; exact Nat.le_refl _
        | cons o os ih =>
          intro nx nx' ups sis Γ Γ1 G h
          simp only [mergeUpds] at h
          split at h
          · split at h
            · exact ih _ _ _ _ _ _ _ h
            · split at h
              case h_2 => cases h
              rename_i ob sis1 nx1 hm
              split at h
              case h_2 => cases h
              rename_i l sis2 nx2 hrest
              cases h
              have h3 := ih _ _ _ _ _ _ _ hrest
              have h4 : nx ≤ nx1 := by
                unfold mergeOb at hm
                split at hm
                · cases hm; exact Nat.le_refl _
                · split at hm
                  · split at hm
                    · cases hm; omega
                    · cases hm
                  · split at hm
                    · rename_i ls sis' nx2 hml
                      cases hm
                      have : ∀ (ns os ls : List Leaf) (nx nx' : Nat) (sis : List (Grd × SI)), mergeLeaves G nx ns os = some (ls, sis, nx') → nx ≤ nx' := by
                        intro ns
                        induction ns with
                        | nil => intro os ls nx nx' sis h; cases os <;> simp [mergeLeaves] at h; omega
                        | cons n ns ih2 =>
                          intro os ls nx nx' sis h
                          cases os with
                          | nil => simp [mergeLeaves] at h
                          | cons o os =>
                            simp only [mergeLeaves] at h
                            split at h
                            · rename_i hr2
                              cases h
                              have := ih2 _ _ _ _ _ hr2
                              omega
                            · cases h
                      exact this _ _ _ _ _ _ hml
                    · cases hm
                  · cases hm
              omega
          · exact ih _ _ _ _ _ _ _ h
      exact ⟨Nat.le_trans h1 (this _ _ _ _ _ _ _ _ hups), h2⟩
    · cases hr
theorem takes_le : ∀ (os : List Nat) (Γ : Gam) (nx no : Nat) (x : List Upd × List (Grd × SI) × List (Nat × Nat) × Nat × Nat), takes tab os Γ nx no = some x → nx ≤ x.2.2.2.1 ∧ no ≤ x.2.2.2.2 := by
  intro os
  induction os with
  | nil => intro Γ nx no x hx; cases hx; exact ⟨Nat.le_refl _, Nat.le_refl _⟩
  | cons o os ih =>
    intro Γ nx no x hx
    simp only [takes] at hx
    split at hx
    case h_2 => cases hx
    split at hx
    case h_2 => cases hx
    rename_i hy
    cases hx
    have := ih _ _ _ _ hy
    dsimp only at this ⊢
    omega
theorem anStep_le {nt : Nat} {ops : Array Oper} {o : Oper} {r : Res} (hr : anStep tab sigs ops nt Γ nx no o = some (G, r)) : nx ≤ r.nx ∧ no ≤ r.no := by
  unfold anStep at hr
  split at hr
  · exact anStep0_le hr
  · split at hr
    · rename_i up1 si1 ties nx1 no1 ht
      split at hr
      · rename_i G' r0 h0
        have h1 := takes_le _ _ _ _ _ ht
        have h2 := anStep0_le h0
        have h3 := puts_le (tab := tab) ties ((Γ.appOb up1).appOb r0.ob) r0.nx
        cases hr
        dsimp only at h1 ⊢
        omega
      · cases hr
    · exact anStep0_le hr

theorem put1_put (Γ : Gam) (t : Nat) (x : Grd × SV) (nx o q : Nat) : put1 tab (Γ.put t x) nx o q = put1 tab Γ nx o q := by
  have hs : ∀ (par : Nat) (pd i : Exp) (j y : Nat) (nt : List Nat) (l : List Nat), sibs (Γ.put t x) par pd i j y nt l = sibs Γ par pd i j y nt l := by
    intro par pd i j y nt l
    induction l with
    | nil => rfl
    | cons a l ih => simp only [sibs, Gam.obj_put, ih]
  unfold put1
  simp only [Gam.obj_put, hs]
  rfl
theorem puts_put : ∀ (ties : List (Nat × Nat)) (Γ : Gam) (t : Nat) (x : Grd × SV) (nx : Nat), puts tab ties (Γ.put t x) nx = puts tab ties Γ nx
  | [], _, _, _, _ => rfl
  | (o, q) :: r, Γ, t, x, nx => by
    simp only [puts, put1_put, put_appOb]
    rw [puts_put r]
theorem anStep_sound {E : Nat → Prop} {C0 : Ctx} {nt : Nat} {ops : Array Oper} {o : Oper} {a : Act} {ds : List Deferred} {r : Res} {Q : Exit → Act → World → Prop} {K : Act → World → Prop} (hT : TabOk P tab) (h : St tab nt E C0 Γ ρ a w ds kn Wr w0) (hE : ∀ o, E o → o < no)
    (hr : anStep tab sigs ops nt Γ nx no o = some (G, r)) (hS : HoldsS (CallOk P tab sigs) ρ r.sis) (hfo : ∀ o, no ≤ o → o < r.no → ¬ kn.o o) (hfx : ∀ x, nx ≤ x → x < r.nx → ¬ kn.v x)
    (hK : ∀ a' w' kn', St tab nt E C0 (Γ.after G o.dst r) ρ a' w' ds kn' Wr w0 → kn.le kn' → (∀ o, kn'.o o → kn.o o ∨ (no ≤ o ∧ o < r.no)) → (∀ x, kn'.v x → kn.v x ∨ (nx ≤ x ∧ x < r.nx)) → K a' w') :
    if Region.wanted o (yielded ops a.tmps) then o.wp P a w K Q else K (a.put o.dst undef) w := by
  unfold anStep at hr
  split at hr
  · exact anStep0_sound hT h hE hr hS hfo hfx hK
  split at hr
  case h_2 => exact anStep0_sound hT h hE hr hS hfo hfx hK
  rename_i up1 si1 ties nx1 no1 ht
  split at hr
  case h_2 => cases hr
  rename_i G' r0 h0
  have hl0 := anStep0_le h0
  have hl1 := takes_le _ _ _ _ _ ht
  dsimp only at hl1
  have hl2 := puts_le (tab := tab) ties ((Γ.appOb up1).appOb r0.ob) r0.nx
  simp only [Option.some.injEq, Prod.mk.injEq] at hr
  obtain ⟨hGG, hr⟩ := hr
  subst hGG
  have e1 : r.sis = si1 ++ (r0.sis ++ (puts tab ties ((Γ.appOb up1).appOb r0.ob) r0.nx).2.1) := by rw [← hr]
  have e2 : r.nx = (puts tab ties ((Γ.appOb up1).appOb r0.ob) r0.nx).2.2 := by rw [← hr]
  have e3 : r.no = r0.no := by rw [← hr]
  have e4 : r.ob = up1 ++ (r0.ob ++ (puts tab ties ((Γ.appOb up1).appOb r0.ob) r0.nx).1) := by rw [← hr]
  have e5 : r.sv = r0.sv := by rw [← hr]
  rw [e1] at hS
  obtain ⟨⟨C, h1, hkeep⟩, h2, h3, h4⟩ := h
  obtain ⟨_, _, C1, kn1, q1, q2, q3, q4, q5, q6⟩ := takes_sound _ h1 ht (fun x hx => hS x (List.mem_append_left _ hx)) (fun x hx1 hx2 => hfx x hx1 (by omega)) (fun x hx1 hx2 => hfo x hx1 (by omega))
  have hst : St tab nt (fun x => E x ∨ ∃ t ∈ ties, x = t.1 ∨ x = t.2) C1 (Γ.appOb up1) ρ a w ds kn1 Wr w0 :=
    ⟨⟨C1, q1, fun _ _ _ => ⟨rfl, rfl, rfl⟩⟩, h2, fun t ht' => h3 t (by rw [← get_appOb up1 Γ t]; exact ht'), h4⟩
  refine anStep0_sound hT hst (fun x hx => ?_) h0 (fun x hx => hS x (List.mem_append_right _ (List.mem_append_left _ hx))) (fun x hx1 hx2 hk => ?_) (fun x hx1 hx2 hk => ?_) fun a' w' kn' hst' hk1 hk2 hk3 => ?_
  · rcases hx with hx | ⟨t, ht', rfl | rfl⟩
    · have := hE x hx; omega
    · exact (q6 t ht').2.2.1
    · exact (q6 t ht').2.2.2.1
  · rcases q4 x hk with hk | hk
    · exact hfo x (by omega) (by omega) hk
    · omega
  · rcases q5 x hk with hk | hk
    · exact hfx x (by omega) (by omega) hk
    · omega
  · obtain ⟨⟨C2, r1, r2⟩, s2, s3, s4⟩ := hst'
    have hobeq : (Γ.appOb up1).after G' o.dst r0 = (Γ.appOb up1).after G' o.dst r0 := rfl
    -- the puts look at objects alone
    have hputs : puts tab ties ((Γ.appOb up1).after G' o.dst r0) r0.nx = puts tab ties ((Γ.appOb up1).appOb r0.ob) r0.nx := by
      cases hd : o.dst with
      | none => rfl
      | some t => exact puts_put ties _ t _ _
    obtain ⟨C3, kn3, p1, p2, p3, p4, p5⟩ := puts_sound (I := CallOk P tab sigs) ties (nx := r0.nx) r1 (by rw [hputs]; exact fun x hx => hS x (List.mem_append_right _ (List.mem_append_right _ hx))) (fun x hx1 hx2 hk => by
      rw [hputs, ← e2] at hx2
      rcases hk3 x hk with hk | hk
      · rcases q5 x hk with hk | hk
        · exact hfx x (by omega) (by omega) hk
        · omega
      · omega)
    rw [hputs] at p1 p5
    have hΓ : Γ.after G' o.dst r = ((Γ.appOb up1).after G' o.dst r0).appOb (puts tab ties ((Γ.appOb up1).appOb r0.ob) r0.nx).1 := by
      rw [← after_appOb (Γ.appOb up1) G' o.dst r0 _ ⟨r0.sv, r0.ob ++ (puts tab ties ((Γ.appOb up1).appOb r0.ob) r0.nx).1, r0.sis, r0.nx, r0.no⟩ rfl rfl]
      exact after_pre Γ G' o.dst _ up1 r e4 e5
    refine hK a' w' kn3 ⟨⟨C3, by rw [hΓ]; exact p1, fun x hx hk => ?_⟩, s2, fun t ht' => ?_, s4⟩ ⟨fun x hx => p3.1 x (hk1.1 x (q3.1 x hx)), fun x hx => p3.2 x (hk1.2 x (q3.2 x hx))⟩ (fun x hx => ?_) (fun x hx => ?_)
    · obtain ⟨y1, y2, y3⟩ := p2 x
      have hkx : kn.o x := by
        rcases hk2 x (p4 x hk) with hk | hk
        · rcases q4 x hk with hk | hk
          · exact hk
          · have := hE x hx; omega
        · have := hE x hx; omega
      obtain ⟨z1, z2, z3⟩ := r2 x (.inl hx) (p4 x hk)
      obtain ⟨u1, u2, u3⟩ := q2 x hkx
      obtain ⟨v1, v2, v3⟩ := hkeep x hx hkx
      exact ⟨y1.trans (z1.trans (u1.trans v1)), y2.trans (z2.trans (u2.trans v2)), y3.trans (z3.trans (u3.trans v3))⟩
    · rw [hΓ, get_appOb] at ht'
      exact s3 t ht'
    · rcases hk2 x (p4 x hx) with hk | hk
      · rcases q4 x hk with hk | hk
        · exact .inl hk
        · exact .inr (by omega)
      · exact .inr (by omega)
    · rcases p5 x hx with hk | hk
      · rcases hk3 x hk with hk | hk
        · rcases q5 x hk with hk | hk
          · exact .inl hk
          · exact .inr (by omega)
        · exact .inr (by omega)
      · rw [← e2] at hk; exact .inr (by omega)
end
end Gp
