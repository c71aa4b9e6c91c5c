/- Gp, part 8: addresses, parts, lengths, slicing. -/
import Derived.Test.YtbifjnccebhmkaaGpOp2
set_option linter.unusedVariables false
set_option linter.unusedSimpArgs false
namespace Gp
open Go
section
variable {tab : Tab} {Γ : Gam} {ρ : Env} {tm : Array Value} {w : World} {C : Ctx} {kn : Kn} {Wr : CS} {w0 : World} {P : Program} {I : Nat → List T → List T → Prop} {G : Grd} {nx no : Nat}

theorem und_of (hT : TabOk P tab) {t : TypeId} {ti : TI} (h : tab.get t = some ti) : ∃ d, P.underlying t = some d ∧ tdChk ti.td d = true ∧ isAggD d = ti.agg := (hT t ti h).und
theorem und_slice (hT : TabOk P tab) {t e : TypeId} {ti : TI} (h : tab.get t = some ti) (hd : ti.td = .slice e) : P.underlying t = some (.slice e) := by
  obtain ⟨d, h1, h2, _⟩ := und_of hT h
  rw [hd] at h2
  cases d <;> simp [tdChk] at h2
  subst h2; exact h1
theorem und_str (hT : TabOk P tab) {t : TypeId} {ti : TI} (h : tab.get t = some ti) (hd : ti.td = .str) : P.underlying t = some .string := by
  obtain ⟨d, h1, h2, _⟩ := und_of hT h
  rw [hd] at h2
  cases d <;> simp [tdChk] at h2
  exact h1
theorem und_struct (hT : TabOk P tab) {t : TypeId} {ti : TI} {fs : List (Nat × TypeId)} (h : tab.get t = some ti) (hd : ti.td = .struct fs) :
    ∃ gs : Array Field, P.underlying t = some (.struct gs) ∧ gs.toList.map (fun f => (f.offset, f.type)) = fs := by
  obtain ⟨d, h1, h2, _⟩ := und_of hT h
  rw [hd] at h2
  cases d <;> simp [tdChk] at h2
  exact ⟨_, h1, by simpa using h2.symm⟩
theorem run_sizeOf (hT : TabOk P tab) {t : TypeId} {ti : TI} (h : tab.get t = some ti) : (Go.sizeOf t).run P w = .ok ti.size w := by
  obtain ⟨i, z, h1, h2, _⟩ := (hT t ti h).inf
  simp only [Go.sizeOf, typeInfo, Sem.run_bind, run_program, Result.andThen_ok, h1, Sem.run_pure, h2]
theorem run_isAgg (hT : TabOk P tab) {t : TypeId} {ti : TI} (h : tab.get t = some ti) : (isAgg t).run P w = .ok ti.agg w := by
  obtain ⟨d, h1, _, h3⟩ := und_of hT h
  rw [← h3]
  simp only [isAgg, underlying, Sem.run_bind, run_program, Result.andThen_ok, h1, Sem.run_pure]
  cases d <;> rfl
theorem struct_field (hT : TabOk P tab) {t ft : TypeId} {ti : TI} {fs : List (Nat × TypeId)} {f off : Nat} (h : tab.get t = some ti) (hd : ti.td = .struct fs) (hf : fs[f]? = some (off, ft)) :
    ∃ gs : Array Field, ∃ g tj, P.underlying t = some (.struct gs) ∧ gs[f]? = some g ∧ g.offset = off ∧ g.type = ft ∧ tab.get ft = some tj ∧ tj.size ≠ 0 ∧ off + tj.size ≤ ti.size ∧ (ti.cks.drop off).take tj.size = tj.cks := by
  obtain ⟨gs, h1, h2⟩ := und_struct hT h hd
  have hc := (hT t ti h).cks
  unfold cksOf at hc
  rw [hd] at hc
  simp only [List.all_eq_true] at hc
  have hm := hc _ (List.mem_of_getElem? hf)
  simp only at hm
  split at hm
  case h_2 => cases hm
  rename_i tj htj
  simp only [Bool.and_eq_true, beq_iff_eq, Nat.ble_eq] at hm
  obtain ⟨⟨hm1, hm2⟩, hm3⟩ := hm
  rw [← h2, List.getElem?_map] at hf
  cases hg : gs.toList[f]? with
  | none => rw [hg] at hf; cases hf
  | some g =>
    rw [hg] at hf
    simp only [Option.map_some, Option.some.injEq, Prod.mk.injEq] at hf
    exact ⟨gs, g, tj, h1, by simpa using hg, hf.1, hf.2, htj, (fun e => by rw [e] at hm3; cases hm3), hm2, hm1⟩

def Tab.field (tab : Tab) (s : TypeId) (f : Nat) : Option (Nat × TypeId × Nat × Bool) :=
  match tab.get s with
  | some ti => match ti.td with
    | .struct fs => match fs[f]? with
      | some (off, ft) => match tab.get ft with
        | some tj => some (off, ft, tj.size, tj.agg)
        | none => none
      | none => none
    | _ => none
  | none => none

theorem add_addr (b o n : Nat) : (⟨b, o, none⟩ : Addr).add n = ⟨b, o + n, none⟩ := by
  unfold Addr.add; split
  · rename_i h; subst h; rfl
  · rfl

def anFieldAddr (tab : Tab) (Γ : Gam) (G : Grd) (nx no : Nat) (s : TypeId) (x : Operand) (f : Nat) : Option Res :=
  match tab.field s f, opd Γ G x with
  | some (off, _, _, _), some (.s (.one (.pb o j))) => some ⟨.s (.one (.pb o (j + off))), [], [], nx, no⟩
  | some (off, _, _, _), some (.s (.one (.pe o et i j))) => some ⟨.s (.one (.pe o et i (j + off))), [], [], nx, no⟩
  | _, _ => none

theorem run_fieldAt (hT : TabOk P tab) {s ft : TypeId} {f off sz : Nat} {ag : Bool} (hf : tab.field s f = some (off, ft, sz, ag)) (b o : Nat) :
    (Instr.fieldAt s (.pointer (some ⟨b, o, none⟩)) f).run P w = .ok (.pointer (some ⟨b, o + off, none⟩)) w := by
  unfold Tab.field at hf
  split at hf
  case h_2 => cases hf
  rename_i ti hti
  split at hf
  case h_2 => cases hf
  rename_i fs hfs
  split at hf
  case h_2 => cases hf
  rename_i off' ft' hff
  split at hf
  case h_2 => cases hf
  rename_i tj htj
  cases hf
  obtain ⟨gs, g, tj', h1, h2, h3, h4, h5, h6, _⟩ := struct_field hT hti hfs hff
  rw [htj] at h5; cases h5
  have hsz := run_sizeOf (w := w) hT (by rw [← h4] at htj; exact htj : tab.get g.type = some tj)
  simp only [Instr.fieldAt, underlying, Sem.run_bind, run_program, Result.andThen_ok, h1, Sem.run_pure, h2, Instr.sureAddr, fieldPlace, hsz, if_neg h6, add_addr, h3]

theorem anFieldAddr_sound (hT : TabOk P tab) (h : Rel tab Γ ρ tm w C kn Wr w0) (hG : holdsG ρ G) {s : TypeId} {x : Operand} {f : Nat} {r : Res} (hr : anFieldAddr tab Γ G nx no s x f = some r) {ds : List Deferred}
    {dst : Option Tmp} {ty : TypeId} {pos : String} {aft : Array Edge} {gd : Option (Nat × Bool)} :
    Yield P (execOp (Act.eval ⟨tm, ds⟩) ⟨dst, .fieldAddr s x f, ty, pos, aft, gd⟩) w fun v w' => Post tab Γ ρ tm C kn Wr w0 nx no r v w' := by
  unfold anFieldAddr at hr
  unfold Yield
  split at hr
  · rename_i off ft sz ag o j hf hx
    cases hr
    obtain ⟨⟨hk, b, base, hA, hv⟩, _⟩ := opd_sound h hG hx (ds := ds)
    simp only [execOp, hv, Sem.run_bind, run_fieldAt hT hf, Result.andThen_ok, Sem.run_pure]
    exact ⟨_, _, rfl, Post.pure h rfl ⟨⟨hk, b, base, hA, by rw [Nat.add_assoc]⟩, fun cs => by simp⟩⟩
  · rename_i off ft sz ag o et i j hf hx
    cases hr
    obtain ⟨⟨hk, m, b, base, hi, hm, hA, hv⟩, _⟩ := opd_sound h hG hx (ds := ds)
    simp only [execOp, hv, Sem.run_bind, run_fieldAt hT hf, Result.andThen_ok, Sem.run_pure]
    exact ⟨_, _, rfl, Post.pure h rfl ⟨⟨hk, m, b, base, hi, hm, hA, by rw [Nat.add_assoc]⟩, fun cs => by simp⟩⟩
  · cases hr

/-- Inside the bounds: 0 ≤ i < n. -/
def inB (i n : Exp) : Exp := .bin .and (.bin (.cmp .leq) (.int 0) i) (.bin (.cmp .lss) i n)
theorem inB_sound {i n : Exp} (h : den ρ (inB i n) = .bool true) {a b : Int} (ha : den ρ i = .int a) (hb : den ρ n = .int b) : 0 ≤ a ∧ a < b := by
  simp only [inB, den, B.den, ha, hb, T.cmp, T.cmpI, T.band, T.bool.injEq, Bool.and_eq_true, decide_eq_true_eq] at h
  exact h
def plusE (a b : Exp) : Exp := match a with
  | .int 0 => b
  | a => .bin .plus a b
theorem plusE_den {a b : Exp} {m n : Int} (ha : den ρ a = .int m) (hb : den ρ b = .int n) : den ρ (plusE a b) = .int (m + n) := by
  unfold plusE; split
  · simp [den] at ha; subst ha; simpa using hb
  · simp [den, B.den, ha, hb, T.plus]
def minusE (a b : Exp) : Exp := match b with
  | .int 0 => a
  | b => .bin .minus a b
theorem minusE_den {a b : Exp} {m n : Int} (ha : den ρ a = .int m) (hb : den ρ b = .int n) : den ρ (minusE a b) = .int (m - n) := by
  unfold minusE; split
  · simp [den] at hb; subst hb; simpa using ha
  · simp [den, B.den, ha, hb, T.minus]

def anIndexAddr (tab : Tab) (Γ : Gam) (G : Grd) (nx no : Nat) (t : TypeId) (x i : Operand) : Option Res :=
  match opd Γ G x, opd Γ G i, tab.get t with
  | some (.s (.one (.sl o et off len))), some (.s (.one (.int _ ie))), some ti => match ti.td with
    | .slice e => if Nat.beq e et && (tab.get et).isSome then some ⟨.s (.one (.pe o et (plusE off ie) 0)), [], [(G, .chk (inB ie len))], nx, no⟩ else none
    | _ => none
  | _, _, _ => none
theorem anIndexAddr_sound (hT : TabOk P tab) (h : Rel tab Γ ρ tm w C kn Wr w0) (hG : holdsG ρ G) {t : TypeId} {x i : Operand} {r : Res} (hr : anIndexAddr tab Γ G nx no t x i = some r) (hS : HoldsS I ρ r.sis) {ds : List Deferred}
    {dst : Option Tmp} {ty : TypeId} {pos : String} {aft : Array Edge} {gd : Option (Nat × Bool)} :
    Yield P (execOp (Act.eval ⟨tm, ds⟩) ⟨dst, .indexAddr t x i, ty, pos, aft, gd⟩) w fun v w' => Post tab Γ ρ tm C kn Wr w0 nx no r v w' := by
  unfold anIndexAddr at hr
  split at hr
  case h_2 => cases hr
  rename_i o et off len k ie ti hx hi hti
  split at hr
  case h_2 => cases hr
  rename_i e hd
  split at hr
  case isFalse => cases hr
  rename_i hc
  simp only [Bool.and_eq_true, Option.isSome_iff_exists] at hc
  obtain ⟨he, te, hte⟩ := hc
  have he := Nat.eq_of_beq_eq_true he
  subst he
  cases hr
  obtain ⟨⟨hk, m, n, a, c, hm, hn, hv, h1, h2, h3, h4⟩, _⟩ := opd_sound h hG hx (ds := ds)
  obtain ⟨q, hq, hvq⟩ := one_int (opd_sound h hG hi (ds := ds))
  have hb := inB_sound (hS (G, .chk (inB ie len)) (by simp) hG) hq hn
  obtain ⟨p, rfl⟩ : ∃ p : Nat, q = p := ⟨q.toNat, by omega⟩
  rcases h4 with h4 | ⟨b, base, hA, ha⟩
  · omega
  have hsz : tab.sz e = te.size := by simp [Tab.sz, hte]
  unfold Yield
  simp only [execOp, hv, hvq, Instr.indexAt, asIntOf, underlying, Sem.run_bind, run_program, Result.andThen_ok, und_slice hT hti hd, Sem.run_pure, ha]
  rw [if_pos (by omega)]
  simp only [Sem.run_bind, run_sizeOf hT hte, Result.andThen_ok, Sem.run_pure, add_addr, Int.toNat_natCast]
  refine ⟨_, _, rfl, Post.pure h rfl ⟨⟨hk, m + p, b, base, ?_, by omega, hA, ?_⟩, fun cs => by simp⟩⟩
  · have := plusE_den hm hq; simpa using this
  · rw [hsz, Nat.add_mul]; simp; omega

def s1s : SV → Option S1
  | .s x => some x
  | _ => none
def anExtract (Γ : Gam) (G : Grd) (nx no : Nat) (x : Operand) (i : Nat) : Option Res :=
  match opd Γ G x with
  | some (.tup xs) => (xs[i]?).map fun y => ⟨.s y, [], [], nx, no⟩
  | _ => none
theorem anExtract_sound (h : Rel tab Γ ρ tm w C kn Wr w0) (hG : holdsG ρ G) {x : Operand} {i : Nat} {r : Res} (hr : anExtract Γ G nx no x i = some r) {ds : List Deferred}
    {dst : Option Tmp} {ty : TypeId} {pos : String} {aft : Array Edge} {gd : Option (Nat × Bool)} :
    Yield P (execOp (Act.eval ⟨tm, ds⟩) ⟨dst, .extract x i, ty, pos, aft, gd⟩) w fun v w' => Post tab Γ ρ tm C kn Wr w0 nx no r v w' := by
  unfold anExtract at hr
  split at hr
  case h_2 => cases hr
  rename_i xs hx
  cases hy : xs[i]? with
  | none => rw [hy] at hr; cases hr
  | some y =>
    rw [hy] at hr; cases hr
    obtain ⟨vs, hv, _, hc⟩ := opd_sound h hG hx (ds := ds)
    obtain ⟨u, hu, hr'⟩ := hc i y hy
    unfold Yield
    simp only [execOp, hv, Instr.extract, hu, Sem.run_bind, Sem.run_pure, Result.andThen_ok]
    exact ⟨_, _, rfl, Post.pure h rfl hr'⟩

theorem LeavesRel.sub {ls : List Leaf} {vs : Array Value} {k : Nat → Prop} (h : LeavesRel tab C k ρ ls vs) (off n : Nat) (hn : off + n ≤ ls.length) :
    LeavesRel tab C k ρ ((ls.drop off).take n) (vs.extract off (off + n)) := by
  obtain ⟨h1, h2⟩ := h
  refine ⟨by simp; omega, fun i l hl => ?_⟩
  have hi := List.getD_some_lt hl
  simp only [List.length_take, List.length_drop] at hi
  rw [List.getElem?_take_of_lt (by omega), List.getElem?_drop] at hl
  obtain ⟨u, hu, hr⟩ := h2 _ _ hl
  refine ⟨u, ?_, hr⟩
  rw [Array.getElem?_extract, if_pos (by omega)]; exact hu

def anField (tab : Tab) (Γ : Gam) (G : Grd) (nx no : Nat) (t : TypeId) (x : Operand) (f : Nat) : Option Res :=
  match tab.field t f, opd Γ G x with
  | some (off, _, sz, ag), some (.s (.agg ls)) =>
    if Nat.ble (off + sz) ls.length then
      if ag then some ⟨.s (.agg ((ls.drop off).take sz)), [], [], nx, no⟩
      else match ls[off]? with
        | some .dead => none
        | some l => some ⟨.s (.one l), [], [], nx, no⟩
        | none => none
    else none
  | _, _ => none

theorem LeafRel.notAgg {k : Nat → Prop} {l : Leaf} {v : Value} (h : LeafRel tab C k ρ l v) (hl : l ≠ .dead) : ∀ cs, v ≠ .agg cs := by
  intro cs e; subst e
  cases l with
  | dead => exact hl rfl
  | int => obtain ⟨_, _, h⟩ := h; cases h
  | bool => obtain ⟨_, _, h⟩ := h; cases h
  | str => obtain ⟨_, _, h⟩ := h; cases h
  | sl => obtain ⟨_, _, _, _, _, _, _, h, _⟩ := h; cases h
  | slw => obtain ⟨_, _, h, _⟩ := h; cases h
  | nil => cases h
  | pb => obtain ⟨_, _, _, _, h⟩ := h; cases h
  | pe => obtain ⟨_, _, _, _, _, _, _, h⟩ := h; cases h
  | fn => obtain ⟨_, h, _⟩ := h; cases h

theorem anField_sound (hT : TabOk P tab) (h : Rel tab Γ ρ tm w C kn Wr w0) (hG : holdsG ρ G) {t : TypeId} {x : Operand} {f : Nat} {r : Res} (hr : anField tab Γ G nx no t x f = some r) {ds : List Deferred}
    {dst : Option Tmp} {ty : TypeId} {pos : String} {aft : Array Edge} {gd : Option (Nat × Bool)} :
    Yield P (execOp (Act.eval ⟨tm, ds⟩) ⟨dst, .field t x f, ty, pos, aft, gd⟩) w fun v w' => Post tab Γ ρ tm C kn Wr w0 nx no r v w' := by
  unfold anField at hr
  split at hr
  case h_2 => cases hr
  rename_i off ft sz ag ls hf hx
  split at hr
  case isFalse => cases hr
  rename_i hle
  rw [Nat.ble_eq] at hle
  obtain ⟨vs, hv, hvs⟩ := opd_sound h hG hx (ds := ds)
  unfold Tab.field at hf
  split at hf
  case h_2 => cases hf
  rename_i ti hti
  split at hf
  case h_2 => cases hf
  rename_i fs hfs
  split at hf
  case h_2 => cases hf
  rename_i off' ft' hff
  split at hf
  case h_2 => cases hf
  rename_i tj htj
  cases hf
  obtain ⟨gs, g, tj', h1, h2, h3, h4, h5, h6, _⟩ := struct_field hT hti hfs hff
  rw [htj] at h5; cases h5
  rw [← h4] at htj
  unfold Yield
  simp only [execOp, hv, Instr.field, underlying, Sem.run_bind, run_program, Result.andThen_ok, h1, Sem.run_pure, h2, asAgg, part, run_isAgg hT htj, run_sizeOf hT htj, h3, Sem.run_ite]
  split at hr
  · rename_i hag
    cases hr
    rw [if_pos hag]
    simp only [Result.andThen_ok]
    exact ⟨_, _, rfl, Post.pure h rfl ⟨_, rfl, hvs.sub off tj.size hle⟩⟩
  · rename_i hag
    rw [if_neg hag]
    split at hr
    · cases hr
    · rename_i l hne hl
      cases hr
      obtain ⟨u, hu, hrl⟩ := hvs.2 off l hl
      rw [hu]
      simp only [Sem.run_pure, Result.andThen_ok]
      exact ⟨_, _, rfl, Post.pure h rfl ⟨hrl, hrl.notAgg (fun e => hne (by rw [e]))⟩⟩
    · cases hr

def anLen (tab : Tab) (Γ : Gam) (G : Grd) (nx no : Nat) (t : TypeId) (x : Operand) : Option Res :=
  match opd Γ G x, tab.get t with
  | some (.s (.one (.sl _ _ _ len))), some ti => match ti.td with
    | .slice _ => some ⟨.s (.one (.int .i64 len)), [], [], nx, no⟩
    | _ => none
  | some (.s (.one .nil)), some ti => match ti.td with
    | .slice _ => some ⟨.s (.one (.int .i64 (.int 0))), [], [], nx, no⟩
    | _ => none
  | some (.s (.one (.str e))), some ti => match ti.td with
    | .str => some ⟨.s (.one (.int .i64 (.un .slen e))), [], [], nx, no⟩
    | _ => none
  | _, _ => none
theorem anLen_sound (hT : TabOk P tab) (h : Rel tab Γ ρ tm w C kn Wr w0) (hG : holdsG ρ G) {t : TypeId} {x : Operand} {r : Res} (hr : anLen tab Γ G nx no t x = some r) {ds : List Deferred}
    {dst : Option Tmp} {ty : TypeId} {pos : String} {aft : Array Edge} {gd : Option (Nat × Bool)} :
    Yield P (execOp (Act.eval ⟨tm, ds⟩) ⟨dst, .call { callee := .builtin .len, args := #[x], argTypes := #[t] }, ty, pos, aft, gd⟩) w fun v w' => Post tab Γ ρ tm C kn Wr w0 nx no r v w' := by
  unfold anLen at hr
  unfold Yield
  split at hr
  · rename_i o et off len ti hx hti
    split at hr
    case h_2 => cases hr
    rename_i e hd
    cases hr
    obtain ⟨⟨hk, m, n, a, c, hm, hn, hv, _⟩, _⟩ := opd_sound h hG hx (ds := ds)
    simp only [execOp, resolve, invoke, builtin, Builtin.len_, Sem.run_bind, Sem.run_pure, Result.andThen_ok, underlying, run_program, List.map_toArray, List.map_cons, List.map_nil, hv]
    simp only [List.getElem?_toArray, List.getElem?_cons_zero, Sem.run_bind, underlying, run_program, Result.andThen_ok, und_slice hT hti hd, Sem.run_pure]
    exact ⟨_, _, rfl, Post.pure h rfl (mk_int hn)⟩
  · rename_i ti hx hti
    split at hr
    case h_2 => cases hr
    rename_i e hd
    cases hr
    obtain ⟨hv, _⟩ := opd_sound h hG hx (ds := ds)
    simp only [LeafRel] at hv
    simp only [execOp, resolve, invoke, builtin, Builtin.len_, Sem.run_bind, Sem.run_pure, Result.andThen_ok, underlying, run_program, List.map_toArray, List.map_cons, List.map_nil, hv]
    simp only [List.getElem?_toArray, List.getElem?_cons_zero, Sem.run_bind, underlying, run_program, Result.andThen_ok, und_slice hT hti hd, Sem.run_pure]
    exact ⟨_, _, rfl, Post.pure h rfl (mk_int rfl)⟩
  · rename_i e ti hx hti
    split at hr
    case h_2 => cases hr
    rename_i hd
    cases hr
    obtain ⟨s, hs, hv⟩ := one_str (opd_sound h hG hx (ds := ds))
    simp only [execOp, resolve, invoke, builtin, Builtin.len_, Sem.run_bind, Sem.run_pure, Result.andThen_ok, underlying, run_program, List.map_toArray, List.map_cons, List.map_nil, hv]
    simp only [List.getElem?_toArray, List.getElem?_cons_zero, Sem.run_bind, underlying, run_program, Result.andThen_ok, und_str hT hti hd, Sem.run_pure]
    exact ⟨_, _, rfl, Post.pure h rfl (mk_int (by simp [den, U.den, hs, T.slen]))⟩
  · cases hr
end
end Gp
