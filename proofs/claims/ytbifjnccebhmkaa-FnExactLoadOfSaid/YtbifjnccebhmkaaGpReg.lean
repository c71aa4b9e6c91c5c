/- Gp, part 23: one operation, whatever it is; a region's operations in their order. -/
import Derived.Test.YtbifjnccebhmkaaGpCall4
set_option linter.unusedVariables false
set_option linter.unusedSimpArgs false
namespace Gp
open Go

def argS1 (Γ : Gam) (G : Grd) (x : Operand) : Option S1 := match opd Γ G x with
  | some (.s x) => some x
  | _ => none
def trySigs (tab : Tab) (Γ : Gam) (G : Grd) (nx no : Nat) (f : FuncId) (xs : List S1) : List Sig → Nat → Option Res
  | [], _ => none
  | S :: r, i => if Nat.beq S.f f then match anCall tab S i Γ G nx no xs with
    | some x => some x
    | none => trySigs tab Γ G nx no f xs r (i + 1)
    else trySigs tab Γ G nx no f xs r (i + 1)
def anCallV (tab : Tab) (sigs : List Sig) (Γ : Gam) (G : Grd) (nx no : Nat) (f : Operand) (args : Array Operand) : Option Res :=
  match opd Γ G f, args.toList.mapM (argS1 Γ G) with
  | some (.s (.one (.fn fid caps))), some xs => trySigs tab Γ G nx no fid (xs ++ caps.map fun o => .one (.pb o 0)) sigs 0
  | _, _ => none

def anBuiltin (tab : Tab) (Γ : Gam) (G : Grd) (nx no : Nat) (b : Builtin) (args : List Operand) (ts : List TypeId) : Option Res :=
  match b, args, ts with
  | .len, [x], [t] => anLen tab Γ G nx no t x
  | .append, [x, y], [t, t2] => anAppend tab Γ G nx no t t2 x y
  | .max, [x, y], _ => anMax Γ G nx no true x y
  | .min, [x, y], _ => anMax Γ G nx no false x y
  | _, _, _ => none

def anOp (tab : Tab) (sigs : List Sig) (Γ : Gam) (G : Grd) (nx no : Nat) (op : Op) : Option Res :=
  match op with
  | .move x => anMove Γ G nx no x
  | .assign x => anMove Γ G nx no x
  | .pick c a b => anPick Γ G nx no c a b
  | .alloc t => anAlloc tab G nx no t
  | .box _ x => anBox Γ G nx no x
  | .build t ps => anBuild tab Γ G nx no t ps
  | .buildSlice t n ps => anBuildSlice tab Γ G nx no t n ps
  | .load t a => anLoad tab Γ G nx no t a
  | .store t a v => anStore tab Γ G nx no t a v
  | .nilCheck x => anNil Γ G nx no x
  | .binOp o xt x y _ => anBin tab Γ G nx no o xt x y
  | .unOp o _ x => anUn Γ G nx no o x
  | .convert s d x => anConv tab Γ G nx no s d x
  | .makeFunc f a b => anFunc Γ G nx no f a b
  | .makeSlice t l c => anMakeSlice tab Γ G nx no t l c
  | .slice t x lo hi mx => anSlice tab Γ G nx no t x lo hi mx
  | .fieldAddr s x f => anFieldAddr tab Γ G nx no s x f
  | .field t x f => anField tab Γ G nx no t x f
  | .indexAddr t x i => anIndexAddr tab Γ G nx no t x i
  | .extract x i => anExtract Γ G nx no x i
  | .call c => match c.callee with
    | .builtin b => anBuiltin tab Γ G nx no b c.args.toList c.argTypes.toList
    | .value f => anCallV tab sigs Γ G nx no f c.args
    | _ => none
  | _ => none

def FnOk (P : Program) (f : FuncId) : Prop := ∃ fn, P.funcs[f]? = some fn ∧ (fn.name == "runtime.NumGoroutine") = false ∧ fn.body.isNone = false
/-- What a call by number says: its signature's contract. -/
def CallOk (P : Program) (tab : Tab) (sigs : List Sig) (i : Nat) (ds outs : List T) : Prop :=
  ∃ S, sigs[i]? = some S ∧ FnOk P S.f ∧ Contract P tab S ds outs

section
variable {tab : Tab} {Γ : Gam} {ρ ρ' : Env} {tm : Array Value} {w w' : World} {C C1 Cx : Ctx} {kn kn' : Kn} {Wr : CS} {w0 : World} {P : Program} {G : Grd} {nx no nb : Nat} {obs : Obs} {S : Sig} {sigs : List Sig}

theorem Done.move {o : Oper} {a : Act} {v : Value} {Q : Value → World → Prop} (h1 : (execOp a.eval o).run P w = .ok (.value v) w) (h2 : Q v w) : Done P o a w Q :=
  Yield.done ⟨v, w, h1, h2⟩

theorem trySigs_sound (hT : TabOk P tab) (h : Rel tab Γ ρ tm w C kn Wr w0) (hG : holdsG ρ G) {f : FuncId} {xs : List S1} {args : Array Value}
    (hsz : args.size = xs.length) (harg : ∀ (j : Nat) x, xs[j]? = some x → ∃ v, args[j]? = some v ∧ S1Rel tab C kn.o ρ x v) :
    ∀ (l : List Sig) (i : Nat) {r : Res}, (∀ (j : Nat) S, l[j]? = some S → sigs[i + j]? = some S) → trySigs tab Γ G nx no f xs l i = some r → HoldsS (CallOk P tab sigs) ρ r.sis →
      (∀ o, no ≤ o → o < r.no → ¬ kn.o o) → (∀ x, nx ≤ x → x < r.nx → ¬ kn.v x) →
      FnOk P f ∧ Calls P f args w fun e w' => ∃ v, e = .returned v ∧ Post tab Γ ρ tm C kn Wr w0 nx no r v w'
  | [], i, r, _, hr, _, _, _ => by simp [trySigs] at hr
  | S :: l, i, r, hl, hr, hS, hfo, hfx => by
    simp only [trySigs] at hr
    have hrest : ∀ (j : Nat) S', l[j]? = some S' → sigs[i + 1 + j]? = some S' := fun j S' hj => by
      have := hl (j + 1) S' (by simpa using hj)
      rw [show i + 1 + j = i + (j + 1) by omega]; exact this
    split at hr
    · rename_i hf
      have hf := Nat.eq_of_beq_eq_true hf
      split at hr
      · rename_i x hx
        cases hr
        have hSi : sigs[i]? = some S := hl 0 S rfl
        subst hf
        have hI : ∀ ds outs, CallOk P tab sigs i ds outs → FnOk P S.f ∧ Contract P tab S ds outs := by
          rintro ds outs ⟨S', h1, h2, h3⟩
          rw [hSi] at h1; cases h1
          exact ⟨h2, h3⟩
        refine ⟨?_, anCall_sound hT h hG hx (fun ds outs hh => (hI ds outs hh).2) hS hfo hfx hsz harg⟩
        -- the call's step names the instance
        unfold anCall at hx
        split at hx
        · split at hx
          · split at hx
            · cases hx
              obtain ⟨outs, hIo, _⟩ := hS _ (List.mem_singleton.2 rfl) hG
              exact (hI _ _ hIo).1
            · cases hx
          · cases hx
        · cases hx
      · exact trySigs_sound hT h hG hsz harg l (i + 1) hrest hr hS hfo hfx
    · exact trySigs_sound hT h hG hsz harg l (i + 1) hrest hr hS hfo hfx

theorem anCallV_sound (hT : TabOk P tab) (h : Rel tab Γ ρ tm w C kn Wr w0) (hG : holdsG ρ G) {f : Operand} {args : Array Operand} {r : Res} (hr : anCallV tab sigs Γ G nx no f args = some r) (hS : HoldsS (CallOk P tab sigs) ρ r.sis)
    (hfo : ∀ o, no ≤ o → o < r.no → ¬ kn.o o) (hfx : ∀ x, nx ≤ x → x < r.nx → ¬ kn.v x) {ds : List Deferred} {ts : Array TypeId}
    {dst : Option Tmp} {ty : TypeId} {pos : String} {aft : Array Edge} {gd : Option (Nat × Bool)} :
    Done P ⟨dst, .call { callee := .value f, args := args, argTypes := ts }, ty, pos, aft, gd⟩ ⟨tm, ds⟩ w fun v w' => Post tab Γ ρ tm C kn Wr w0 nx no r v w' := by
  unfold anCallV at hr
  split at hr
  case h_2 => cases hr
  rename_i fid caps xs hf hxs
  obtain ⟨⟨vs, hv, hvs, hcap⟩, _⟩ := opd_sound h hG hf (ds := ds)
  obtain ⟨l1, l2⟩ := mapM_get hxs
  have hsz : (args.map (Act.eval ⟨tm, ds⟩) ++ vs).size = (xs ++ caps.map fun o => S1.one (.pb o 0)).length := by
    simp only [Array.size_append, Array.size_map, List.length_append, List.length_map, l1, Array.length_toList, hvs]
  obtain ⟨⟨fn, k1, k2, k3⟩, hc⟩ := trySigs_sound (sigs := sigs) (args := args.map (Act.eval ⟨tm, ds⟩) ++ vs) hT h hG hsz (fun j x hj => by
    by_cases hlt : j < xs.length
    · rw [List.getElem?_append_left hlt] at hj
      obtain ⟨y, h1, h2⟩ := l2 j x hj
      unfold argS1 at h2
      split at h2
      · rename_i x' hx'
        cases h2
        refine ⟨Act.eval ⟨tm, ds⟩ y, ?_, opd_sound h hG hx'⟩
        have : args[j]? = some y := by simpa using h1
        rw [Array.getElem?_append_left (by simp [l1] at hlt ⊢; exact hlt), Array.getElem?_map, this]; rfl
      · cases h2
    · rw [List.getElem?_append_right (by omega), List.getElem?_map] at hj
      cases hc : caps[j - xs.length]? with
      | none => rw [hc] at hj; cases hj
      | some o =>
        rw [hc] at hj; cases hj
        obtain ⟨q1, b, base, q2, q3⟩ := hcap _ o hc
        refine ⟨_, ?_, ⟨⟨q1, b, base, q2, rfl⟩, fun cs => by simp⟩⟩
        have hl : (args.map (Act.eval ⟨tm, ds⟩)).size = xs.length := by simp [l1]
        rw [Array.getElem?_append_right (by omega), hl, q3]; rfl) sigs 0 (fun j S hj => by rw [Nat.zero_add]; exact hj) hr hS hfo hfx
  intro next QQ hk
  unfold Oper.wp
  have : (execOp (Act.eval ⟨tm, ds⟩) ⟨dst, .call { callee := .value f, args := args, argTypes := ts }, ty, pos, aft, gd⟩).run P w = .ok (.enter fid (args.map (Act.eval ⟨tm, ds⟩) ++ vs)) w := by
    simp only [execOp, resolve, hv, Deferred.ofValue, Sem.run_bind, Sem.run_pure, Result.andThen_ok, invoke, callFunc, run_program, k1, k2, k3, Bool.false_eq_true, if_false, Array.empty_append]
  rw [this, Oper.upon_enter]
  refine Calls.mono hc ?_
  rintro e w' ⟨v, rfl, hp⟩
  exact hk v w' hp

theorem anOp_sound (hT : TabOk P tab) (h : Rel tab Γ ρ tm w C kn Wr w0) (hG : holdsG ρ G) {op : Op} {r : Res} (hr : anOp tab sigs Γ G nx no op = some r) (hS : HoldsS (CallOk P tab sigs) ρ r.sis)
    (hfo : ∀ o, no ≤ o → o < r.no → ¬ kn.o o) (hfx : ∀ x, nx ≤ x → x < r.nx → ¬ kn.v x) {ds : List Deferred}
    {dst : Option Tmp} {ty : TypeId} {pos : String} {aft : Array Edge} {gd : Option (Nat × Bool)} :
    Done P ⟨dst, op, ty, pos, aft, gd⟩ ⟨tm, ds⟩ w fun v w' => Post tab Γ ρ tm C kn Wr w0 nx no r v w' := by
  unfold anOp at hr
  split at hr
  · exact Done.move (by simp only [execOp, Sem.run_pure]; rfl) (anMove_sound h hG hr)
  · exact Done.move (by simp only [execOp, Sem.run_pure]; rfl) (anMove_sound h hG hr)
  · rename_i c a b
    obtain ⟨t, h1, h2⟩ := anPick_sound h hG hr hS (ds := ds)
    refine Done.move ?_ h2
    simp only [execOp, h1, asBool, Sem.run_bind, Sem.run_pure, Result.andThen_ok]
  · exact Yield.done (anAlloc_sound hT h hr hfo)
  · exact Yield.done (anBox_sound h hG hr hfo)
  · exact Yield.done (anBuild_sound hT h hG hr)
  · exact Yield.done (anBuildSlice_sound hT h hG hr hS hfo hfx)
  · exact Yield.done (anLoad_sound hT h hG hr hS hfo)
  · exact anStore_sound hT h hG hr hS hfx
  · exact Yield.done (anNil_sound h hG hr)
  · exact Yield.done (anBin_sound hT h hG hr hS)
  · exact Yield.done (anUn_sound h hG hr)
  · exact Yield.done (anConv_sound hT h hG hr)
  · exact Yield.done (anFunc_sound h hG hr)
  · exact Yield.done (anMakeSlice_sound hT h hG hr hS hfo hfx)
  · exact Yield.done (anSlice_sound hT h hG hr hS)
  · exact Yield.done (anFieldAddr_sound hT h hG hr)
  · exact Yield.done (anField_sound hT h hG hr)
  · exact Yield.done (anIndexAddr_sound hT h hG hr hS)
  · exact Yield.done (anExtract_sound h hG hr)
  · rename_i c
    obtain ⟨cal, args, ts⟩ := c
    simp only at hr
    split at hr
    · rename_i b
      unfold anBuiltin at hr
      split at hr
      · rename_i x t hx ht
        have hx : args = #[x] := by apply Array.ext'; simpa using hx
        have ht : ts = #[t] := by apply Array.ext'; simpa using ht
        subst hx; subst ht
        exact Yield.done (anLen_sound hT h hG hr)
      · rename_i x y t t2 hx ht
        have hx : args = #[x, y] := by apply Array.ext'; simpa using hx
        have ht : ts = #[t, t2] := by apply Array.ext'; simpa using ht
        subst hx; subst ht
        exact Yield.done (anAppend_sound hT h hG hr hS hfo hfx)
      · rename_i x y hx
        have hx : args = #[x, y] := by apply Array.ext'; simpa using hx
        subst hx
        exact Yield.done (anMax_sound (mx := true) h hG hr)
      · rename_i x y hx
        have hx : args = #[x, y] := by apply Array.ext'; simpa using hx
        subst hx
        exact Yield.done (anMax_sound (mx := false) h hG hr)
      · cases hr
    · exact anCallV_sound hT h hG hr hS hfo hfx
    · cases hr
  · cases hr
end
end Gp
