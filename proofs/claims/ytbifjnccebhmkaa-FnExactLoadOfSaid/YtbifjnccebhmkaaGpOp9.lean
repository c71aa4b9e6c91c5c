/- Gp, part 14: slices made of zeros; slices of slices; append. -/
import Derived.Test.YtbifjnccebhmkaaGpOp8
import Derived.Laws.Append
set_option linter.unusedVariables false
set_option linter.unusedSimpArgs false
namespace Gp
open Go
section
variable {tab : Tab} {Γ : Gam} {ρ : Env} {tm : Array Value} {w w' : World} {C : Ctx} {kn : Kn} {Wr : CS} {w0 : World} {P : Program} {I : Nat → List T → List T → Prop} {G : Grd} {nx no : Nat}

def zeroE (tab : Tab) : CK → Option Exp
  | .int _ => some (.int 0)
  | .bool => some (.bool false)
  | .str => some (.str [])
  | .sl e => if (tab.get e).isSome then some .nil else none
  | _ => none

/-- A new owned row, out of its relation. -/
theorem Post.ofD (h : Rel tab Γ ρ tm w C kn Wr w0) {ms : List Nat} (hms : ∀ o ∈ ms, ∃ g et d, Γ.obj o = some (g, .row true et d) ∧ holdsG ρ g) {w2 : World} (hgr : Grows w w2)
    {et : TypeId} {te : TI} (hte : tab.get et = some te) {rows : List T} {a : Option Addr} {n c : Nat} {F : CS} (hD : DRel tab w2 true (.sl et) (.slice a n c) (.list rows) F)
    (hF : ∀ b x, F b x → w.heap.size ≤ b ∨ ∃ o ∈ ms, C.F o b x) (hno : ¬ kn.o no) (hnx : ¬ kn.v nx) (hd : ρ nx = .list rows) {lenE : Exp} (hlenE : den ρ lenE = .int n) {sis : List (Grd × SI)} :
    Post tab Γ ρ tm C kn Wr w0 nx no ⟨.s (.one (.sl no et (.int 0) lenE)), dels ms ++ [(no, some (G, .row true et (.var nx)))], sis, nx + 1, no + 1⟩ (.slice a n c) w2 := by
  have hrel := h.newRow (G := G) hgr hms hD hF hno hnx hd
  have hE : Γ.appOb (dels ms ++ [(no, some (G, Obj.row true et (.var nx)))]) = (Γ.appOb (dels ms)).setOb no (G, Obj.row true et (.var nx)) := by rw [Gam.appOb_append]; rfl
  rw [← hE] at hrel
  obtain ⟨x1, x2, x3⟩ := hD.header
  refine ⟨_, _, hrel, ?_, Ext.set hno ⟨fun o ho => .inl ho, fun y hy => .inl hy⟩, ?_, ?_⟩
  · refine ⟨⟨.inr rfl, 0, n, _, c, rfl, hlenE, rfl, ?_, x2, ?_, ?_⟩, fun cs => by simp⟩
    · rw [Ctx.set_self.2.1]; omega
    · rw [Ctx.set_self.2.2.1]; omega
    · rcases x3 with h0 | ⟨b, off, h0⟩
      · exact .inl h0
      · exact .inr ⟨b, off, by rw [Ctx.set_self.1]; exact h0, by rw [h0]; simp⟩
  · intro o ho
    rcases ho with ho | ho
    · exact .inl ho
    · exact .inr ⟨by omega, by simp only; omega⟩
  · intro y hy
    rcases hy with hy | hy
    · exact .inl hy
    · exact .inr ⟨by omega, by simp only; omega⟩
/-- How many elements of so many bytes fit. -/
def limit (bytes : Nat) : Nat := 140737488355328 / bytes

theorem den_bool_and {a b : Exp} (h : den ρ (.bin .and a b) = .bool true) : den ρ a = .bool true ∧ den ρ b = .bool true := by
  simp only [den, B.den] at h
  cases ha : den ρ a <;> cases hb : den ρ b <;> rw [ha, hb] at h <;> simp [T.band] at h
  obtain ⟨rfl, rfl⟩ := h
  exact ⟨rfl, rfl⟩
theorem den_leq {a b : Exp} {m n : Int} (h : den ρ (.bin (.cmp .leq) a b) = .bool true) (ha : den ρ a = .int m) (hb : den ρ b = .int n) : m ≤ n := by
  simpa only [den, B.den, ha, hb, T.cmp, T.cmpI, T.bool.injEq, decide_eq_true_eq] using h

def anMakeSlice (tab : Tab) (Γ : Gam) (G : Grd) (nx no : Nat) (t : TypeId) (l c : Operand) : Option Res :=
  match tab.get t, opd Γ G l, opd Γ G c with
  | some ti, some (.s (.one (.int .i64 le))), some (.s (.one (.int .i64 ce))) => match ti.td with
    | .slice et => match tab.get et with
      | some te => match te.cks.mapM (zeroE tab) with
        | some zs => if le == ce && Nat.blt 0 te.size && Nat.blt 0 te.bytes then
            some ⟨.s (.one (.sl no et (.int 0) (.un .len (.var nx)))), [(no, some (G, .row true et (.var nx)))], [(G, .chk (.bin .and (.bin (.cmp .leq) (.int 0) le) (.bin (.cmp .leq) le (.int (limit te.bytes))))), (G, .set nx (.bin .rep le (rowE te.size zs)))], nx + 1, no + 1⟩
          else none
        | none => none
      | none => none
    | _ => none
  | _, _, _ => none

theorem mapM_len {α β : Type} {f : α → Option β} {l : List α} {r : List β} (h : l.mapM f = some r) : r.length = l.length := (mapM_get h).1

theorem anMakeSlice_sound (hT : TabOk P tab) (h : Rel tab Γ ρ tm w C kn Wr w0) (hG : holdsG ρ G) {t : TypeId} {l c : Operand} {r : Res} (hr : anMakeSlice tab Γ G nx no t l c = some r) (hS : HoldsS I ρ r.sis)
    (hf : ∀ o, no ≤ o → o < r.no → ¬ kn.o o) (hfx : ∀ x, nx ≤ x → x < r.nx → ¬ kn.v x) {ds : List Deferred}
    {dst : Option Tmp} {ty : TypeId} {pos : String} {aft : Array Edge} {gd : Option (Nat × Bool)} :
    Yield P (execOp (Act.eval ⟨tm, ds⟩) ⟨dst, .makeSlice t l c, ty, pos, aft, gd⟩) w fun v w' => Post tab Γ ρ tm C kn Wr w0 nx no r v w' := by
  unfold anMakeSlice at hr
  split at hr
  case h_2 => cases hr
  rename_i ti le ce hti hl hc
  split at hr
  case h_2 => cases hr
  rename_i et htd
  split at hr
  case h_2 => cases hr
  rename_i te hte
  split at hr
  case h_2 => cases hr
  rename_i zs hzs
  split at hr
  case isFalse => cases hr
  rename_i hcond
  simp only [Bool.and_eq_true, beq_iff_eq] at hcond
  obtain ⟨⟨rfl, hk0⟩, hb0⟩ := hcond
  have hk0 : 0 < te.size := Nat.le_of_ble_eq_true hk0
  have hb0 : 0 < te.bytes := Nat.le_of_ble_eq_true hb0
  cases hr
  obtain ⟨q, hq, hvq⟩ := one_int (opd_sound h hG hl (ds := ds))
  obtain ⟨q', hq', hvq'⟩ := one_int (opd_sound h hG hc (ds := ds))
  rw [hq] at hq'; cases hq'
  have h1 := hS (G, .chk (.bin .and (.bin (.cmp .leq) (.int 0) le) (.bin (.cmp .leq) le (.int (limit te.bytes))))) (by simp) hG
  have h2 := hS (G, .set nx (.bin .rep le (rowE te.size zs))) (by simp) hG
  obtain ⟨c1, c2⟩ := den_bool_and h1
  have c1 := den_leq c1 rfl hq
  have c2 := den_leq c2 hq rfl
  obtain ⟨n, rfl⟩ : ∃ n : Nat, q = n := ⟨q.toNat, by omega⟩
  obtain ⟨i, z, i1, i2, i3, i4, i5, i6⟩ := (hT et te hte).inf
  have hsz : te.size = te.cks.length := (hT et te hte).len
  have hlim : te.bytes * n ≤ 140737488355328 := by
    have : n ≤ limit te.bytes := by omega
    unfold limit at this
    have h3 := Nat.mul_le_mul_left te.bytes this
    have h4 := Nat.mul_div_le 140737488355328 te.bytes
    omega
  have hn63 : n ≤ 140737488355328 := Nat.le_trans (Nat.le_mul_of_pos_left n hb0) hlim
  obtain ⟨z1, z2⟩ := zerosAre_get i5
  obtain ⟨e1, e2⟩ := mapM_get hzs
  have hzc : z.cells.size = te.size := by rw [← Array.length_toList, z1, hsz]
  -- a zero row's cells
  have hzero : ∀ (j : Nat) ck, te.cks[j]? = some ck → ∃ v e, z.cells[j]? = some v ∧ zs[j]? = some e ∧ ∀ w2 : World, DRel tab w2 true ck v (den ρ e) Emp := by
    intro j ck hj
    obtain ⟨v, hv, hzi⟩ := z2 j ck hj
    have hjl := List.getD_some_lt hj
    obtain ⟨e, he⟩ : ∃ e, zs[j]? = some e := ⟨_, List.getElem?_eq_getElem (by omega)⟩
    obtain ⟨ck', hck', hze⟩ := e2 j e he
    rw [hj] at hck'; cases hck'
    refine ⟨v, e, by simpa using hv, he, fun w2 => ?_⟩
    cases ck with
    | int k =>
      cases hze
      cases v <;> simp [zeroIs] at hzi
      obtain ⟨rfl, rfl⟩ := hzi
      exact .int
    | bool =>
      cases hze
      cases v <;> simp [zeroIs] at hzi
      subst hzi; exact .bool
    | str =>
      cases hze
      cases v with
      | string s =>
        have hs : s.data.size = 0 := by simpa only [zeroIs, beq_iff_eq] using hzi
        have hd : s.data = #[] := Array.eq_empty_of_size_eq_zero hs
        cases s with
        | mk d => simp only at hd; subst hd; exact .str
      | _ => simp [zeroIs] at hzi
    | sl e2 =>
      simp only [zeroE] at hze
      split at hze
      case isFalse => cases hze
      rename_i hs2
      obtain ⟨te2, hte2⟩ := Option.isSome_iff_exists.1 hs2
      cases hze
      cases v with
      | slice a n c =>
        cases a <;> cases n <;> cases c <;> simp [zeroIs] at hzi
        exact DRel.nil hT hte2
      | _ => simp [zeroIs] at hzi
    | _ => cases hze
  have hrow : ∀ (j : Nat) e, j < te.size → zs[j]? = some e → (if te.size = 1 then den ρ (rowE te.size zs) else (den ρ (rowE te.size zs)).cell j) = den ρ e := by
    intro j e hj he
    by_cases hk : te.size = 1
    · rw [if_pos hk]
      have : j = 0 := by omega
      subst this
      unfold rowE
      rw [hk, if_pos (show Nat.beq 1 1 = true from rfl)]
      cases zs with
      | nil => simp at he
      | cons y ys => simp at he; subst he; rfl
    · rw [if_neg hk]
      unfold rowE
      rw [if_neg (fun e => hk (Nat.eq_of_beq_eq_true e)), listE_den]
      simp only [T.cell]
      rw [List.getD_eq_getElem?_getD, List.getElem?_map, he]; rfl
  have hrep : ∀ i, i < n → (List.replicate n (den ρ (rowE te.size zs))).getD i T.hole = den ρ (rowE te.size zs) := by
    intro i hi
    rw [List.getD_eq_getElem?_getD, List.getElem?_replicate, if_pos hi]; rfl
  have hd : ρ nx = .list (List.replicate n (den ρ (rowE te.size zs))) := by
    rw [show ρ nx = _ from h2]
    simp only [den, B.den, hq, T.rep, Int.toNat_natCast]
  have hD : DRel tab (w.alloc (.cells (madeCells z.cells (n * i.size)) et)) true (.sl et) (.slice (some ⟨w.heap.size, 0, none⟩) n n) (.list (List.replicate n (den ρ (rowE te.size zs)))) (rowF w.heap.size 0 n n te.size fun _ _ => Emp) := by
    rw [i2]
    have hmc : ∀ q, q < n * te.size → (madeCells z.cells (n * te.size))[q]? = z.cells[q % te.size]? := by
      intro q hq
      have hm := Nat.mod_lt q hk0
      unfold madeCells
      rw [Array.getElem?_map, Array.getElem?_range, if_pos hq]
      simp only [Option.map_some, hzc]
      rw [getElem!_def, Array.getElem?_eq_getElem (by omega)]
    refine .sl (b := w.heap.size) (off := 0) (vs := fun _ j => (z.cells[j]?).getD undef) (Fs := fun _ _ => Emp) hte hsz (by simp) (Nat.le_refl _) (.inl rfl) ?_ ?_ ?_ ?_ (fun _ _ _ _ _ _ _ _ _ _ _ _ h => h.elim) (fun _ _ _ _ _ _ _ _ h => h.elim) rfl
    · intro hk i hi
      simp only [List.length_replicate] at hi
      refine ⟨zs.map (den ρ), ?_, by simp [e1, hsz]⟩
      rw [List.getElem?_replicate, if_pos hi]
      unfold rowE
      rw [if_neg (fun e => hk (Nat.eq_of_beq_eq_true e)), listE_den]
    · intro i j hi hj
      have hlt := place_lt hi hj
      rw [cellAt_new, Nat.zero_add, hmc _ hlt, Nat.add_comm, Nat.add_mul_mod_self_right, Nat.mod_eq_of_lt hj, Array.getElem?_eq_getElem (by omega)]; rfl
    · intro i j ck hi hck
      obtain ⟨v, e, y1, y2, y3⟩ := hzero j ck hck
      have hj := List.getD_some_lt hck
      rw [← hsz] at hj
      show DRel tab _ true ck ((z.cells[j]?).getD undef) (cellT te.size _ i j) Emp
      have hce : cellT te.size (List.replicate n (den ρ (rowE te.size zs))) i j = den ρ e := by
        unfold cellT
        rw [hrep i hi]
        exact hrow j e hj y2
      rw [y1, hce]
      exact y3 _
    · intro _ x hx
      refine ⟨(z.cells[x % te.size]?).getD undef, ?_, frozenAt_new ..⟩
      rw [cellAt_new, Nat.zero_add, hmc x hx, Array.getElem?_eq_getElem (by have := Nat.mod_lt x hk0; omega)]; rfl
  have hpost := Post.ofD (G := G) (sis := [(G, .chk (.bin .and (.bin (.cmp .leq) (.int 0) le) (.bin (.cmp .leq) le (.int (limit te.bytes))))), (G, .set nx (.bin .rep le (rowE te.size zs)))]) (ms := []) h (fun o ho => by simp at ho) (Grows.push w _) hte hD (fun b x hf => by
    rcases hf with ⟨rfl, _, _⟩ | ⟨_, _, _, _, hf⟩
    · exact .inl (Nat.le_refl _)
    · exact hf.elim) (hf no (Nat.le_refl _) (Nat.lt_succ_self _)) (hfx nx (Nat.le_refl _) (Nat.lt_succ_self _)) hd (lenE := .un .len (.var nx)) (by simp only [den, U.den, hd, T.len, List.length_replicate])
  have hbb : (i.bytes : Int) * (n : Int) ≤ 281474976710656 := by
    rw [i3, ← Int.natCast_mul]
    generalize te.bytes * n = q at hlim
    omega
  have hrun := run_make (P := P) w t et i z (und_slice hT hti htd) i1 i4 .i64 .i64 n n (by omega) (Int.le_refl _) hbb (by omega)
  unfold Yield
  simp only [execOp, hvq, hvq', Sem.run_bind, hrun, Result.andThen_ok, Sem.run_pure, Int.toNat_natCast]
  exact ⟨_, _, rfl, hpost⟩

def anSlice (tab : Tab) (Γ : Gam) (G : Grd) (nx no : Nat) (t : TypeId) (x : Operand) (lo hi mx : Option Operand) : Option Res :=
  let bound (o : Option Operand) (d : Exp) : Option Exp := match o with
    | none => some d
    | some y => match opd Γ G y with
      | some (.s (.one (.int _ e))) => some e
      | _ => none
  match tab.get t, opd Γ G x, mx with
  | some ti, some (.s (.one (.sl o et off len))), none => match ti.td, bound lo (.int 0), bound hi len with
    | .slice e, some l, some h => if Nat.beq e et && (tab.get et).isSome then
        some ⟨.s (.one (.sl o et (plusE off l) (minusE h l))), [], [(G, .chk (.bin .and (.bin (.cmp .leq) (.int 0) l) (.bin .and (.bin (.cmp .leq) l h) (.bin (.cmp .leq) h len))))], nx, no⟩
      else none
    | _, _, _ => none
  | some ti, some (.s (.one (.str s))), none => match ti.td, bound lo (.int 0), bound hi (.un .slen s) with
    | .str, some l, some h =>
        some ⟨.s (.one (.str (.tri .sext s l h))), [], [(G, .chk (.bin .and (.bin (.cmp .leq) (.int 0) l) (.bin .and (.bin (.cmp .leq) l h) (.bin (.cmp .leq) h (.un .slen s)))))], nx, no⟩
    | _, _, _ => none
  | _, _, _ => none

def boundE (Γ : Gam) (G : Grd) (o : Option Operand) (d : Exp) : Option Exp := match o with
    | none => some d
    | some y => match opd Γ G y with
      | some (.s (.one (.int _ e))) => some e
      | _ => none

/-- The bounds' run. -/
theorem run_sliceBounds (h : Rel tab Γ ρ tm w C kn Wr w0) (hG : holdsG ρ G) {lo hi : Option Operand} {le he dl : Exp} {n cap : Nat} {isS : Bool} (hlo : boundE Γ G lo (.int 0) = some le) (hhi : boundE Γ G hi dl = some he) (hdl : den ρ dl = .int n) (hnc : n ≤ cap)
    (hchk : den ρ (.bin .and (.bin (.cmp .leq) (.int 0) le) (.bin .and (.bin (.cmp .leq) le he) (.bin (.cmp .leq) he dl))) = .bool true) {ds : List Deferred} :
    ∃ l q : Nat, l ≤ q ∧ q ≤ n ∧ den ρ le = .int l ∧ den ρ he = .int q ∧ (Instr.sliceBounds isS n cap (lo.map (Act.eval ⟨tm, ds⟩)) (hi.map (Act.eval ⟨tm, ds⟩)) none).run P w = .ok (l, q, cap) w := by
  have hle : ∃ k a, den ρ le = .int a ∧ (lo = none ∧ a = 0 ∨ ∃ y, lo = some y ∧ Act.eval ⟨tm, ds⟩ y = .int k a) := by
    unfold boundE at hlo
    split at hlo
    · cases hlo; exact ⟨.i64, 0, rfl, .inl ⟨rfl, rfl⟩⟩
    · rename_i y
      split at hlo
      · rename_i k e hy
        cases hlo
        obtain ⟨a, ha, hv⟩ := one_int (opd_sound h hG hy (ds := ds))
        exact ⟨k, a, ha, .inr ⟨y, rfl, hv⟩⟩
      · cases hlo
  have hhe : ∃ k b, den ρ he = .int b ∧ (hi = none ∧ b = n ∨ ∃ y, hi = some y ∧ Act.eval ⟨tm, ds⟩ y = .int k b) := by
    unfold boundE at hhi
    split at hhi
    · cases hhi; exact ⟨.i64, n, hdl, .inl ⟨rfl, rfl⟩⟩
    · rename_i y
      split at hhi
      · rename_i k e hy
        cases hhi
        obtain ⟨a, ha, hv⟩ := one_int (opd_sound h hG hy (ds := ds))
        exact ⟨k, a, ha, .inr ⟨y, rfl, hv⟩⟩
      · cases hhi
  obtain ⟨k1, a, ha, hlo'⟩ := hle
  obtain ⟨k2, b, hb, hhi'⟩ := hhe
  obtain ⟨c1, c2⟩ := den_bool_and hchk
  obtain ⟨c2, c3⟩ := den_bool_and c2
  have c1 := den_leq c1 rfl ha
  have c2 := den_leq c2 ha hb
  have c3 := den_leq c3 hb hdl
  obtain ⟨l, rfl⟩ : ∃ l : Nat, a = l := ⟨a.toNat, by omega⟩
  obtain ⟨q, rfl⟩ : ∃ q : Nat, b = q := ⟨b.toNat, by omega⟩
  refine ⟨l, q, by omega, by omega, ha, hb, ?_⟩
  have hB : ∀ (k : IntKind) (z y : Nat) (code : BoundsCode), z ≤ y → (Instr.sliceBound (.int k z) y code).run P w = .ok z w := by
    intro k z y code hz
    simp only [Instr.sliceBound, asIntOf, Sem.run_bind, Sem.run_pure, Result.andThen_ok, Sem.run_ite]
    rw [if_pos (by omega), Int.toNat_natCast]
  rcases hlo' with ⟨rfl, h0⟩ | ⟨y, rfl, hy⟩
  · have h0 : l = 0 := by omega
    subst h0
    rcases hhi' with ⟨rfl, h1⟩ | ⟨y', rfl, hy'⟩
    · have h1 : q = n := by omega
      subst h1
      simp [Instr.sliceBounds]
    · simp only [Instr.sliceBounds, Option.map_none, Option.map_some, hy', Sem.run_bind, Sem.run_pure, Result.andThen_ok, hB k2 q cap _ (by omega)]
  · rcases hhi' with ⟨rfl, h1⟩ | ⟨y', rfl, hy'⟩
    · have h1 : q = n := by omega
      subst h1
      simp only [Instr.sliceBounds, Option.map_none, Option.map_some, hy, Sem.run_bind, Sem.run_pure, Result.andThen_ok, hB k1 l q _ (by omega)]
    · simp only [Instr.sliceBounds, Option.map_none, Option.map_some, hy, hy', Sem.run_bind, Sem.run_pure, Result.andThen_ok, hB k2 q cap _ (by omega), hB k1 l q _ (by omega)]

theorem anSlice_sound (hT : TabOk P tab) (h : Rel tab Γ ρ tm w C kn Wr w0) (hG : holdsG ρ G) {t : TypeId} {x : Operand} {lo hi mx : Option Operand} {r : Res} (hr : anSlice tab Γ G nx no t x lo hi mx = some r) (hS : HoldsS I ρ r.sis) {ds : List Deferred}
    {dst : Option Tmp} {ty : TypeId} {pos : String} {aft : Array Edge} {gd : Option (Nat × Bool)} :
    Yield P (execOp (Act.eval ⟨tm, ds⟩) ⟨dst, .slice t x lo hi mx, ty, pos, aft, gd⟩) w fun v w' => Post tab Γ ρ tm C kn Wr w0 nx no r v w' := by
  unfold anSlice at hr
  simp only at hr
  split at hr
  · rename_i ti o et off len hti hx
    split at hr
    case h_2 => cases hr
    rename_i e l hh htd hlo hhi
    split at hr
    case isFalse => cases hr
    rename_i hc
    simp only [Bool.and_eq_true] at hc
    obtain ⟨he, hte⟩ := hc
    have he := Nat.eq_of_beq_eq_true he
    subst he
    obtain ⟨te, hte⟩ := Option.isSome_iff_exists.1 hte
    cases hr
    obtain ⟨⟨hk, m, n, a, c, hm, hn, hv, h1, h2, h3, h4⟩, _⟩ := opd_sound h hG hx (ds := ds)
    have hchk := hS (G, .chk (.bin .and (.bin (.cmp .leq) (.int 0) l) (.bin .and (.bin (.cmp .leq) l hh) (.bin (.cmp .leq) hh len)))) (by simp) hG
    obtain ⟨p, q, b1, b2, b3, b4, b5⟩ := run_sliceBounds (P := P) (isS := true) (cap := c) h hG (lo := lo) (hi := hi) hlo hhi hn h2 hchk (ds := ds)
    have hsz : tab.sz e = te.size := by simp [Tab.sz, hte]
    unfold Yield
    simp only [execOp, hv, Instr.sliceAt, Instr.slice, underlying, Sem.run_bind, run_program, Result.andThen_ok, und_slice hT hti htd, Sem.run_pure, Option.map_none, b5, run_sizeOf hT hte]
    refine ⟨_, _, rfl, Post.pure h rfl ⟨⟨hk, m + p, q - p, _, c - p, ?_, ?_, rfl, by omega, by omega, by omega, ?_⟩, fun cs => by simp⟩⟩
    · simpa using plusE_den hm b3
    · have := minusE_den b4 b3
      rw [this]; congr 1; omega
    · rcases h4 with h4 | ⟨b, base, hA, ha⟩
      · exact .inl (by omega)
      · by_cases hcp : c = p
        · exact .inl (by omega)
        · refine .inr ⟨b, base, hA, ?_⟩
          rw [if_neg hcp, ha]
          simp only [Option.map_some, add_addr, hsz, Nat.add_mul, Nat.add_assoc]
  · rename_i ti s hti hx
    split at hr
    case h_2 => cases hr
    rename_i l hh htd hlo hhi
    cases hr
    obtain ⟨sb, hs, hv⟩ := one_str (opd_sound h hG hx (ds := ds))
    have hchk := hS (G, .chk (.bin .and (.bin (.cmp .leq) (.int 0) l) (.bin .and (.bin (.cmp .leq) l hh) (.bin (.cmp .leq) hh (.un .slen s))))) (by simp) hG
    have hn : den ρ (.un .slen s) = .int (sb.size : Nat) := by simp [den, U.den, hs, T.slen]
    obtain ⟨p, q, b1, b2, b3, b4, b5⟩ := run_sliceBounds (P := P) (isS := false) (cap := sb.size) h hG (lo := lo) (hi := hi) hlo hhi hn (Nat.le_refl _) hchk (ds := ds)
    unfold Yield
    simp only [execOp, hv, Instr.sliceAt, Instr.slice, underlying, Sem.run_bind, run_program, Result.andThen_ok, und_str hT hti htd, Sem.run_pure, Option.map_none, Option.isSome_none, Bool.false_eq_true, if_false, b5]
    refine ⟨_, _, rfl, Post.pure h rfl (mk_str ?_)⟩
    simp [den, Tr.den, hs, b3, b4, T.sext]
  · cases hr
end
end Gp
