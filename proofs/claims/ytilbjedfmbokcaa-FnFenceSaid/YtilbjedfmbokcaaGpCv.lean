/- Gp: the bytes of a string as a new row; a variable without cells. -/
import Derived.Test.YtilbjedfmbokcaaGpEqs
import Derived.Lib.ConvBytes
set_option linter.unusedVariables false
set_option linter.unusedSimpArgs false
namespace Gp
open Go
section
variable {tab : Tab} {Γ : Gam} {ρ : Env} {tm : Array Value} {w w' : World} {C : Ctx} {kn : Kn} {Wr : CS} {w0 : World} {P : Program} {I : Nat → List T → List T → Prop} {G : Grd} {nx no : Nat}

def anConvS (tab : Tab) (Γ : Gam) (G : Grd) (nx no : Nat) (src dst : TypeId) (x : Operand) : Option Res :=
  match opd Γ G x, tab.get src, tab.get dst with
  | some (.s (.one (.str s))), some si, some ti => match si.td, ti.td with
    | .str, .slice e => match tab.get e with
      | some ei => match ei.td with
        | .int .u8 => some ⟨.s (.one (.sl no e (.int 0) (.un .slen s))), [(no, some (G, .row false e (.var nx)))], [(G, .set nx (.un .bytes s))], nx + 1, no + 1⟩
        | _ => none
      | none => none
    | _, _ => none
  | _, _, _ => none
theorem anConvS_sound (hT : TabOk P tab) (h : Rel tab Γ ρ tm w C kn Wr w0) (hG : holdsG ρ G) {src ds' : TypeId} {x : Operand} {r : Res} (hr : anConvS tab Γ G nx no src ds' x = some r) (hS : HoldsS I ρ r.sis)
    (hf : ∀ o, no ≤ o → o < r.no → ¬ kn.o o) {ds : List Deferred}
    {dst : Option Tmp} {ty : TypeId} {pos : String} {aft : Array Edge} {gd : Option (Nat × Bool)} :
    Yield P (execOp (Act.eval ⟨tm, ds⟩) ⟨dst, .convert src ds' x, ty, pos, aft, gd⟩) w fun v w' => Post tab Γ ρ tm C kn Wr w0 nx no r v w' := by
  unfold anConvS at hr
  split at hr
  case h_2 => cases hr
  rename_i s si ti hx hsi hti
  split at hr
  case h_2 => cases hr
  rename_i e hsd htd
  split at hr
  case h_2 => cases hr
  rename_i ei hei
  split at hr
  case h_2 => cases hr
  rename_i hed
  cases hr
  have us := und_str hT hsi hsd
  have ut := und_slice hT hti htd
  obtain ⟨d, u1, u2, _⟩ := und_of hT hei
  rw [hed] at u2
  cases d <;> simp [tdChk] at u2
  subst u2
  have hck : ei.cks = [.int .u8] := by
    have hc := (hT e ei hei).cks
    unfold cksOf at hc
    rw [hed] at hc
    simpa using hc
  have hsz : ei.size = 1 := by rw [(hT e ei hei).len, hck]; rfl
  obtain ⟨b, hb, hv⟩ := one_str (opd_sound h hG hx (ds := ds))
  have hset : ρ nx = T.bytes (.str b) := by
    have := hS (G, .set nx (.un .bytes s)) (by simp) hG
    have e2 : ρ nx = den ρ (.un .bytes s) := this
    rw [e2]; simp only [den, U.den, hb]
  have hno := hf no (Nat.le_refl _) (by simp)
  unfold Yield
  simp only [execOp, hv, Sem.run_bind, Lib.run_convert_string_bytes w src ds' e b us ut u1, Result.andThen_ok, Sem.run_pure]
  refine ⟨_, _, rfl, ?_⟩
  have hgr : Grows w (Lib.bytesWorld w e b) := ⟨by rw [Lib.bytesWorld_size]; omega, fun j hj => Lib.bytesWorld_at_old w e b j hj, by simp [Lib.bytesWorld, World.freeze, World.alloc, World.drew, -World.alloc_eq, -World.drew_eq],
    by simp [Lib.bytesWorld, World.freeze, World.alloc, World.drew, -World.alloc_eq, -World.drew_eq], by simp [Lib.bytesWorld, World.freeze, World.alloc, World.drew, -World.alloc_eq, -World.drew_eq]⟩
  have hlen : b.data.toList.length = b.size := Array.length_toList
  have hD : DRel tab (Lib.bytesWorld w e b) false (.sl e) (.slice (some ⟨w.heap.size, 0, none⟩) b.size (grownCap w b.size 0 e)) (.list (b.data.toList.map fun x : UInt8 => T.int (x.toNat : Int))) (rowF w.heap.size 0 b.size b.size 1 fun _ _ => Emp) := by
    refine .sl (vs := fun i _ => .int .u8 (b.data.toList.getD i 0).toNat) (Fs := fun _ _ => Emp) hei (hT e ei hei).len (by rw [List.length_map, hlen]) (appendCap_ge w b.size 0 e) (.inl rfl) ?_ ?_ ?_ (fun h => by cases h) (fun h => by cases h) (fun h => by cases h) (by rw [hsz]; rfl)
    · rw [hsz]
      unfold WfRows
      intro h1
      exact absurd rfl h1
    · intro i j hi hj
      rw [hsz] at hj
      have : j = 0 := by omega
      subst this
      unfold cellAt
      rw [hsz, Nat.mul_one, Nat.zero_add, Nat.add_zero]
      exact Lib.bytesWorld_cell w e b i hi
    · intro i j ck hi hj
      rw [hck] at hj
      cases j with
      | succ j => simp at hj
      | zero =>
        simp at hj; subst hj
        have : cellT ei.size (b.data.toList.map fun x : UInt8 => T.int (x.toNat : Int)) i 0 = .int (b.data.toList.getD i 0).toNat := by
          unfold cellT
          rw [if_pos hsz, List.getD_eq_getElem?_getD, List.getElem?_map, List.getD_eq_getElem?_getD, List.getElem?_eq_getElem (show i < b.data.toList.length by rw [hlen]; exact hi)]
          rfl
        rw [this]
        exact .int
  have hR := (h.grows hgr).addOb (o := no) hno (g := G) (ob := .row false e (.var nx)) (A := some ⟨w.heap.size, 0, none⟩) (N := b.size) (K := grownCap w b.size 0 e) (F := rowF w.heap.size 0 b.size b.size 1 fun _ _ => Emp)
    trivial (fun _ => ?_) (fun _ hw => by cases hw) (fun _ _ o' g' ob' ho' hg' hv' => ?_) (fun _ hw => by cases hw)
  · refine ⟨_, _, hR, ?_, Ext.set hno (Kn.le_addO _ _), fun o ho => ho.imp id fun e => by simp only at e ⊢; omega, fun x hx => .inl hx⟩
    refine ⟨⟨.inr rfl, 0, b.size, _, grownCap w b.size 0 e, rfl, ?_, rfl, ?_, appendCap_ge w b.size 0 e, ?_, ?_⟩, fun cs => by simp⟩
    · simp only [den, U.den, hb, T.slen]
    · rw [Ctx.set_self.2.1]; omega
    · rw [Ctx.set_self.2.2.1]; omega
    · exact .inr ⟨w.heap.size, 0, by rw [Ctx.set_self.1], by simp⟩
  · refine ⟨b.data.toList.map fun x : UInt8 => T.int (x.toNat : Int), hset, ?_⟩
    · rw [Ctx.set_self.1, Ctx.set_self.2.1, Ctx.set_self.2.2.1, Ctx.set_self.2.2.2]
      exact hD
  · intro b' x' hf' hf2
    have hvw : ob'.isView = false := by
      cases ob' with
      | view => cases hv'
      | _ => rfl
    have hlt := h.old ho' hg' hvw hf'
    rcases hf2 with ⟨rfl, _, _⟩ | ⟨i, j, _, _, q⟩
    · omega
    · exact q

/-- A variable of the program's without cells. -/
def anLoadZ (tab : Tab) (nx no : Nat) (t : TypeId) (a : Operand) : Option Res :=
  match a, tab.get t with
  | .global _, some ti => if ti.agg && Nat.beq ti.size 0 then some ⟨.s (.agg []), [], [], nx, no⟩ else none
  | _, _ => none
theorem anLoadZ_sound (hT : TabOk P tab) (h : Rel tab Γ ρ tm w C kn Wr w0) {t : TypeId} {x : Operand} {r : Res} (hr : anLoadZ tab nx no t x = some r) {ds : List Deferred}
    {dst : Option Tmp} {ty : TypeId} {pos : String} {aft : Array Edge} {gd : Option (Nat × Bool)} :
    Yield P (execOp (Act.eval ⟨tm, ds⟩) ⟨dst, .load t x, ty, pos, aft, gd⟩) w fun v w' => Post tab Γ ρ tm C kn Wr w0 nx no r v w' := by
  unfold anLoadZ at hr
  split at hr
  case h_2 => cases hr
  rename_i g ti hti
  split at hr
  case isFalse => cases hr
  rename_i hc
  simp only [Bool.and_eq_true] at hc
  have hz := Nat.eq_of_beq_eq_true hc.2
  cases hr
  unfold Yield
  have hev : ∃ ad, (Act.eval ⟨tm, ds⟩ (.global g)) = .pointer (some ad) := ⟨_, rfl⟩
  obtain ⟨ad, hev⟩ := hev
  simp only [execOp, hev, Instr.loadAt, Instr.sureAddr, Sem.run_bind, Sem.run_pure, Result.andThen_ok, loadVar, run_isAgg hT hti, hc.1, if_true, run_sizeOf hT hti, hz, loadCells, loadCellsFrom]
  exact ⟨_, _, rfl, Post.pure h rfl ⟨#[], rfl, rfl, fun i l hi => by simp at hi⟩⟩
end
end Gp

/- Gp: a string appended to a row of bytes. -/
set_option linter.unusedVariables false
set_option linter.unusedSimpArgs false
namespace Gp
open Go
section
variable {tab : Tab} {Γ : Gam} {ρ : Env} {tm : Array Value} {w w' : World} {C : Ctx} {kn : Kn} {Wr : CS} {w0 : World} {P : Program} {I : Nat → List T → List T → Prop} {G : Grd} {nx no : Nat}

def byteAt (b : ByteArray) (i : Nat) : Value := .int .u8 (b.data.toList.getD i 0).toNat
theorem firstCells_str (b : ByteArray) (w1 : World) : (Builtin.firstCells 1 b.size (.string b)).run P w1 = .ok (newsOf 1 b.size fun i _ => byteAt b i).toArray w1 := by
  simp only [Builtin.firstCells, Sem.run_pure]
  congr 1
  apply Array.ext'
  have hlen : b.data.toList.length = b.size := Array.length_toList
  apply List.ext_getElem?
  intro i
  simp only [ByteArray.extract_zero_size, Array.toList_map, List.getElem?_map, newsOf, Nat.mul_one, Nat.div_one, Nat.mod_one]
  by_cases hi : i < b.size
  · rw [List.getElem?_range hi, List.getElem?_eq_getElem (show i < b.data.toList.length by omega)]
    simp only [Option.map_some, byteAt, List.getD_eq_getElem?_getD, List.getElem?_eq_getElem (show i < b.data.toList.length by omega), Option.getD_some]
  · rw [List.getElem?_eq_none (show b.data.toList.length ≤ i by omega), List.getElem?_eq_none (show (List.range b.size).length ≤ i by simp; omega)]
    rfl

theorem run_appendS (hT : TabOk P tab) {t t2 ty et : TypeId} {ti ti2 te : TI} (hti : tab.get t = some ti) (htd : ti.td = .slice et) (hti2 : tab.get t2 = some ti2) (htd2 : ti2.td = .str) (hte : tab.get et = some te) (hcks : te.cks = [.int .u8]) (hb0 : 0 < te.bytes)
    {a : Option Addr} {n c : Nat} {rows : List T} {F : CS} (hD : DRel tab w true (.sl et) (.slice a n c) (.list rows) F)
    {b : ByteArray} (hlim : (n + b.size) * te.bytes ≤ 140737488355328) :
    ∃ a' c' w' F', (Builtin.append_ #[t, t2] ty #[.slice a n c, .string b]).run P w = .ok (.slice a' (n + b.size) c') w' ∧ Turned F w w' ∧
      DRel tab w' true (.sl et) (.slice a' (n + b.size) c') (.list (rows ++ b.data.toList.map fun x : UInt8 => T.int (x.toNat : Int))) F' ∧
      (∀ b' x, F' b' x → F b' x ∨ w.heap.size ≤ b') ∧ (¬ n + b.size ≤ c → Grows w w' ∧ a' = some ⟨w.heap.size, 0, none⟩) := by
  have hk1 : te.size = 1 := by rw [(hT et te hte).len, hcks]; rfl
  have hu1 := und_slice hT hti htd
  have hu2 := und_str hT hti2 htd2
  have hsize := run_sizeOf (P := P) (w := w) hT hte
  have hlen : b.data.toList.length = b.size := Array.length_toList
  have hsrc : Src0 tab w te (b.data.toList.map fun x : UInt8 => T.int (x.toNat : Int)) b.size (fun i _ => byteAt b i) (fun _ _ => Emp) := by
    refine ⟨by simp only [List.length_map, hlen], fun h1 => absurd hk1 h1, fun _ _ _ _ => rfl, fun i j ck hi hj => ?_, fun _ _ _ _ _ _ _ _ _ _ _ h => h.elim⟩
    rw [hcks] at hj
    cases j with
    | succ j => simp at hj
    | zero =>
      simp at hj; subst hj
      have : cellT te.size (b.data.toList.map fun x : UInt8 => T.int (x.toNat : Int)) i 0 = .int (b.data.toList.getD i 0).toNat := by
        unfold cellT
        rw [if_pos hk1, List.getD_eq_getElem?_getD, List.getElem?_map, List.getD_eq_getElem?_getD, List.getElem?_eq_getElem (show i < b.data.toList.length by rw [hlen]; exact hi)]
        rfl
      rw [this]
      exact .int
  have hfirst : ∀ w1 : World, (Builtin.firstCells te.size b.size (.string b)).run P w1 = .ok (newsOf te.size b.size fun i _ => byteAt b i).toArray w1 := by
    intro w1; rw [hk1]; exact firstCells_str b w1
  have key : ∃ a' c' w' F', (Builtin.append_ #[t, t2] ty #[.slice a n c, .string b]).run P w = .ok (.slice a' (n + b.size) c') w' ∧ Turned F w w' ∧
      DRel tab w' true (.sl et) (.slice a' (n + b.size) c') (.list (rows ++ b.data.toList.map fun x : UInt8 => T.int (x.toNat : Int))) F' ∧
      (∀ b' x, F' b' x → F b' x ∨ w.heap.size ≤ b' ∨ ∃ i j, i < b.size ∧ j < te.size ∧ (fun _ _ => Emp : Nat → Nat → CS) i j b' x) ∧ (¬ n + b.size ≤ c → Grows w w' ∧ a' = some ⟨w.heap.size, 0, none⟩) := by
    refine run_append_gen hT hte (by omega) hb0 hD hsrc (fun _ _ _ _ _ _ _ h => h) _ (fun w' hroom s1 => ?_) fun olds z inf hroom i1 i3 i4 i5 hfirst1 => ?_
    · simp only [Builtin.append_, List.getElem?_toArray, List.getElem?_cons_zero, List.getElem?_cons_succ, underlying, Sem.run_bind, run_program, Result.andThen_ok, hu1, hu2, Sem.run_pure, hsize, Bool.false_eq_true, if_false, Builtin.lenOf, Sem.run_ite, if_pos hroom, Bool.not_false, if_true, hfirst w]
      cases a with
      | none => simp only [Sem.run_pure] at s1 ⊢; cases s1; simp only [Result.andThen_ok, Sem.run_pure]
      | some y => simp only [Sem.run_bind, s1, Result.andThen_ok, Sem.run_pure]
    · have hfit := growslice_fits (need := n + b.size) (old := c) (bytes := te.bytes) (by omega) hlim
      have hb1 : ¬ ((((n + b.size : Nat) : Int) > IntKind.i64.max) ∧ ((false = true) ∨ te.bytes = 0)) := by
        rintro ⟨_, h | h⟩
        · cases h
        · omega
      have hb2 : ¬ (Builtin.nextslicecap (n + b.size) c * te.bytes > 2 ^ 48) := by
        have : (2 : Nat) ^ 48 = 281474976710656 := by decide
        omega
      have htinfo : ∀ w1 : World, (typeInfo et).run P w1 = .ok inf w1 := fun w1 => by
        simp only [typeInfo, Sem.run_bind, run_program, Result.andThen_ok, i1, Sem.run_pure]
      have hzv : ∀ w1 : World, (zeroValue et).run P w1 = .ok z w1 := fun w1 => by
        simp only [zeroValue, Sem.run_bind, htinfo, Result.andThen_ok, i4, Sem.run_pure]
      simp only [Builtin.append_, List.getElem?_toArray, List.getElem?_cons_zero, List.getElem?_cons_succ, underlying, Sem.run_bind, run_program, Result.andThen_ok, hu1, hu2, Sem.run_pure, hsize, Bool.false_eq_true, if_false, Builtin.lenOf, Sem.run_ite, if_neg hroom, htinfo, i3]
      rw [if_neg (by simpa using hb1)]
      rw [if_neg hb2]
      have hw : ({ w with drawn := w.drawn + 1 } : World) = w.drew := rfl
      simp only [Sem.run_bind, run_choose, Question.forced, Bool.false_eq_true, if_false, Result.andThen_ok, htinfo, run_askRoom, hw, hfirst1, Bool.not_false, if_true, hfirst w.drew, hzv, newRow, run_newObj, Sem.run_pure]
      rfl
  obtain ⟨a', c', w', F', r1, r2, r3, r4, r5⟩ := key
  exact ⟨a', c', w', F', r1, r2, r3, fun b' x hf => by
      rcases r4 b' x hf with h | h | ⟨_, _, _, _, h⟩
      · exact .inl h
      · exact .inr h
      · exact h.elim, r5⟩

/-- 'append(x, s...)' of a string. -/
def anAppendS (tab : Tab) (Γ : Gam) (G : Grd) (nx no : Nat) (t t2 : TypeId) (x y : Operand) : Option Res :=
  match tab.get t, tab.get t2, opd Γ G x, opd Γ G y with
  | some ti, some ti2, some sx, some (.s (.one (.str e))) => match ti.td, ti2.td with
    | .slice et, .str => match tab.get et with
      | some te => match te.cks with
        | [.int .u8] => if Nat.blt 0 te.bytes then
          match dstOf Γ G et sx with
          | some (de, ms) =>
              some ⟨.s (.one (.sl no et (.int 0) (.un .len (.var nx)))), dels ms ++ [(no, some (G, .row true et (.var nx)))],
                [(G, .set nx (.bin .cat de (.un .bytes e))), (G, .chk (.bin (.cmp .leq) (.un .len (.var nx)) (.int (limit te.bytes))))], nx + 1, no + 1⟩
          | none => none
          else none
        | _ => none
      | none => none
    | _, _ => none
  | _, _, _, _ => none

theorem anAppendS_sound (hT : TabOk P tab) (h : Rel tab Γ ρ tm w C kn Wr w0) (hG : holdsG ρ G) {t t2 : TypeId} {x y : Operand} {r : Res} (hr : anAppendS tab Γ G nx no t t2 x y = some r) (hS : HoldsS I ρ r.sis)
    (hf : ∀ o, no ≤ o → o < r.no → ¬ kn.o o) (hfx : ∀ x, nx ≤ x → x < r.nx → ¬ kn.v x) {ds : List Deferred}
    {dst : Option Tmp} {ty : TypeId} {pos : String} {aft : Array Edge} {gd : Option (Nat × Bool)} :
    Yield P (execOp (Act.eval ⟨tm, ds⟩) ⟨dst, .call { callee := .builtin .append, args := #[x, y], argTypes := #[t, t2] }, ty, pos, aft, gd⟩) w fun v w' => Post tab Γ ρ tm C kn Wr w0 nx no r v w' := by
  unfold anAppendS at hr
  split at hr
  case h_2 => cases hr
  rename_i ti ti2 sx e hti hti2 hx hy
  split at hr
  case h_2 => cases hr
  rename_i et htd htd2
  split at hr
  case h_2 => cases hr
  rename_i te hte
  split at hr
  case h_2 => cases hr
  rename_i hcks
  split at hr
  case isFalse => cases hr
  rename_i hb0
  have hb0 : 0 < te.bytes := Nat.le_of_ble_eq_true hb0
  split at hr
  case h_2 => cases hr
  rename_i de ms hdst
  cases hr
  obtain ⟨a, n, c, rows, F, e1, e2, e3, e4, e5⟩ := dstOf_sound hT h hG hte (opd_sound h hG hx (ds := ds)) hdst
  obtain ⟨b, hb, hvb⟩ := one_str (opd_sound h hG hy (ds := ds))
  have hset := hS (G, .set nx (.bin .cat de (.un .bytes e))) (by simp) hG
  have hchk := hS (G, .chk (.bin (.cmp .leq) (.un .len (.var nx)) (.int (limit te.bytes)))) (by simp) hG
  have hd : ρ nx = .list (rows ++ b.data.toList.map fun x : UInt8 => T.int (x.toNat : Int)) := by
    rw [show ρ nx = _ from hset]; simp only [den, B.den, U.den, e2, hb, T.bytes, T.cat]
  have hn := e3.header.1
  have hlen : b.data.toList.length = b.size := Array.length_toList
  have hlenE : den ρ (.un .len (.var nx)) = .int ((n + b.size : Nat) : Int) := by
    simp only [den, U.den, hd, T.len, List.length_append, List.length_map, hlen, hn]
  have hle := den_leq hchk hlenE rfl
  have hlim : (n + b.size) * te.bytes ≤ 140737488355328 := by
    have : n + b.size ≤ limit te.bytes := by omega
    unfold limit at this
    have h3 := Nat.mul_le_mul_right te.bytes this
    have h4 := Nat.div_mul_le_self 140737488355328 te.bytes
    omega
  obtain ⟨a', c', w', F', r1, r2, r3, r4, _⟩ := run_appendS (P := P) (ty := ty) hT hti htd hti2 htd2 hte hcks hb0 e3 hlim
  have h1 := h.turnedDel (fun o ho => by obtain ⟨g, et', d', q1, q2⟩ := e5 o ho; exact ⟨g, _, q1, q2, rfl⟩) r2 e4
  have hpost := Post.ofD2 (G := G) (nx := nx) (no := no) (sis := [(G, .set nx (.bin .cat de (.un .bytes e))), (G, .chk (.bin (.cmp .leq) (.un .len (.var nx)) (.int (limit te.bytes))))]) h e5 h1 hte r3 (fun b x hf => by
    rcases r4 b x hf with hf | hf
    · exact .inr (e4 b x hf)
    · exact .inl hf) (hf no (Nat.le_refl _) (Nat.lt_succ_self _)) (hfx nx (Nat.le_refl _) (Nat.lt_succ_self _)) hd hlenE
  unfold Yield
  simp only [execOp, resolve, invoke, builtin, Sem.run_bind, Sem.run_pure, Result.andThen_ok, List.map_toArray, List.map_cons, List.map_nil, e1, hvb]
  rw [r1]
  exact ⟨_, _, rfl, hpost⟩
end
end Gp
