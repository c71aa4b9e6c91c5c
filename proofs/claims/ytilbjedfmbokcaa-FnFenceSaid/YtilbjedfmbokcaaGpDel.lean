import Derived.Test.YtilbjedfmbokcaaGpIns6
/- Gp, part 39: slices.Delete, walked by hand, at cells that hold no slices. -/
set_option linter.unusedVariables false
set_option linter.unusedSimpArgs false
namespace Gp
open Go Go.Shelf Go.RowKit Go.Lib Go.Proofs
section
variable {tab : Tab} {w : World} {C : Ctx} {P : Program} {ρ : Ren}

theorem step_append_runI {ops : Array Oper} {o : Oper} {a : Act} {w : World} {K : Act → World → Prop} {Q : Exit → Act → World → Prop} {E : Prop}
    (hg : o.guard = none) (d x : Operand) (dT sT : TypeId) (hop : o.op = Op.call { callee := Callee.builtin Builtin.append, args := #[d, x], argTypes := #[dT, sT] })
    (v u : Value) (hd : a.eval d = v) (hx : a.eval x = u) {v' : Value} {w' : World} (hr : (Builtin.append_ #[dT, sT] o.type #[v, u]).run P w = .ok v' w') (hK : K (a.put o.dst v') w') :
    if Region.wanted o (yielded ops a.tmps) = true then Oper.wp P o a w K Q else E := by
  have hw : Region.wanted o (yielded ops a.tmps) = true := by simp [Region.wanted, hg]
  rw [if_pos hw]
  unfold Oper.wp
  simp [execOp, hop, resolve, invoke, builtin, hd, hx, hr, Result.andThen]
  exact hK
theorem wp_clr {o : Oper} {a : Act} {w : World} {K : Act → World → Prop} {Q : Exit → Act → World → Prop} (s : Operand) (t : TypeId)
    (ho : o.op = .call { callee := .builtin .clear, args := #[s], argTypes := #[t] }) {u : Value} (hs : a.eval s = u) {v' : Value} {w' : World}
    (hr : (Builtin.clear_ #[t] o.type #[u]).run P w = .ok v' w') (h : K (a.put o.dst v') w') : o.wp P a w K Q := by
  unfold Oper.wp execOp
  simp only [ho, resolve, invoke, builtin, Sem.run_bind, Sem.run_pure, Result.andThen_ok, List.map_toArray, List.map_cons, List.map_nil, hs, hr]
  exact h
theorem wpList_clr {ops : Array Oper} {rest : List Oper} {o : Oper} {a : Act} {w : World} {Q : Exit → Act → World → Prop} (hgd : o.guard = none) (s : Operand) (t : TypeId)
    (ho : o.op = .call { callee := .builtin .clear, args := #[s], argTypes := #[t] }) {u : Value} (hs : a.eval s = u) {v' : Value} {w' : World}
    (hr : (Builtin.clear_ #[t] o.type #[u]).run P w = .ok v' w') (h : wpList P ops Q rest (a.put o.dst v') w') : wpList P ops Q (o :: rest) a w :=
  wpList_plain hgd fun _ hK => wp_clr s t ho hs hr (hK _ _ h)

set_option maxHeartbeats 4000000 in
set_option maxRecDepth 100000 in
theorem del_same (mixed : P.follows .mixedOrders = true) {f : FuncId} {nm : String} {ta pa : Array TypeId} (hf : P.funcs[f]? = some { Body2.n23 ρ with name := nm, targs := ta, params := pa })
    (t3 : P.underlying (ρ.t 3) = some (.int .i64)) (t4 : P.underlying (ρ.t 4) = some .bool) {E : TypeId} (t22 : P.underlying (ρ.t 22) = some (.slice E))
    (a3 : ∀ w, Sem.run P (isAgg (ρ.t 3)) w = .ok false w) (a4 : ∀ w, Sem.run P (isAgg (ρ.t 4)) w = .ok false w) (a22 : ∀ w, Sem.run P (isAgg (ρ.t 22)) w = .ok false w)
    (z3 : ∀ w, Sem.run P (Go.sizeOf (ρ.t 3)) w = .ok 1 w) (z22 : ∀ w, Sem.run P (Go.sizeOf (ρ.t 22)) w = .ok 1 w) {K : Nat} (zE : ∀ w, Sem.run P (Go.sizeOf E) w = .ok K w)
    (a : Option Addr) (n c i : Nat) (w : World) (hin : i ≤ n) (hnc : n ≤ c) (hc63 : n ≤ 9000000000000000000) :
    Calls P f #[.slice a n c, .int .i64 i, .int .i64 i] w fun e w' => e = .returned (.slice a n c) ∧ w' = w := by
  have u3 := run_underlying t3; have u4 := run_underlying t4; have u22 := run_underlying t22
  have h1 : i ≤ c := by omega
  have h2 : (i : Int) ≤ (n : Int) := by omega
  go_enter hf, Body2.n23_ntmps ρ
  go_wp2
  all_goals (go_ret; exact ⟨rfl, rfl⟩)
set_option maxHeartbeats 4000000 in
set_option maxRecDepth 100000 in
theorem del_shift (mixed : P.follows .mixedOrders = true) {f : FuncId} {nm : String} {ta pa : Array TypeId} (hf : P.funcs[f]? = some { Body2.n23 ρ with name := nm, targs := ta, params := pa })
    (t3 : P.underlying (ρ.t 3) = some (.int .i64)) (t4 : P.underlying (ρ.t 4) = some .bool) {E : TypeId} (t22 : P.underlying (ρ.t 22) = some (.slice E))
    (a3 : ∀ w, Sem.run P (isAgg (ρ.t 3)) w = .ok false w) (a4 : ∀ w, Sem.run P (isAgg (ρ.t 4)) w = .ok false w) (a22 : ∀ w, Sem.run P (isAgg (ρ.t 22)) w = .ok false w)
    (z3 : ∀ w, Sem.run P (Go.sizeOf (ρ.t 3)) w = .ok 1 w) (z22 : ∀ w, Sem.run P (Go.sizeOf (ρ.t 22)) w = .ok 1 w) {K : Nat} (zE : ∀ w, Sem.run P (Go.sizeOf E) w = .ok K w)
    (b off n c i j m : Nat) (w W1 W2 : World) (hij : i < j) (hj : j ≤ n) (hnc : n ≤ c) (hm : m = i + (n - j)) (hc63 : n ≤ 9000000000000000000) (A : Addr)
    (hA : (if c = j then some (⟨b, off, none⟩ : Addr) else some ⟨b, off + j * K, none⟩) = some A)
    (hap : ∀ ty, (Builtin.append_ #[ρ.t 22, ρ.t 22] ty #[.slice (some ⟨b, off, none⟩) i c, .slice (some A) (n - j) (c - j)]).run P w.drew = .ok (.slice (some ⟨b, off, none⟩) m c) W1)
    (hcl : ∀ ty, (Builtin.clear_ #[ρ.t 22] ty #[.slice (some ⟨b, off + m * K, none⟩) (n - m) (c - m)]).run P W1 = .ok (.tuple #[]) W2) :
    Calls P f #[.slice (some ⟨b, off, none⟩) n c, .int .i64 i, .int .i64 j] w fun e w' => e = .returned (.slice (some ⟨b, off, none⟩) m c) ∧ w' = W2 := by
  have u3 := run_underlying t3; have u4 := run_underlying t4; have u22 := run_underlying t22
  have hic : i ≤ c := by omega
  have hjc : j ≤ c := by omega
  have hmn : m ≤ n := by omega
  have hmc : ¬ (c = m) := by omega
  have hne : ¬ ((i : Int) = (j : Int)) := by omega
  have hij' : (i : Int) ≤ (j : Int) := by omega
  have hij2 : i ≤ j := by omega
  have hjn : (j : Int) ≤ (n : Int) := by omega
  have hmn' : (m : Int) ≤ (n : Int) := by omega
  clear hm
  go_enter hf, Body2.n23_ntmps ρ
  go_wp2_with fail
  go_region_law_o (refine step_append_runI rfl (.tmp 22) (.tmp 25) (ρ.t 22) (ρ.t 22) rfl _ _ (by simp [Act.eval, Act.put]) (by simp [Act.eval, Act.put]) (hap _) ?_)
  go_wp2_with (at_builtin; refine wpList_clr rfl _ (ρ.t 22) rfl rfl (hcl _) ?_)
  go_ret
  exact ⟨rfl, rfl⟩

/-- What the walk needs of the types. -/
structure DelT (P : Program) (tab : Tab) (ρ : Ren) (E : TypeId) (ti te : TI) : Prop where
  hT : TabOk P tab
  mixed : P.follows .mixedOrders = true
  t3 : P.underlying (ρ.t 3) = some (.int .i64)
  t4 : P.underlying (ρ.t 4) = some .bool
  h22 : tab.get (ρ.t 22) = some ti
  d22 : ti.td = .slice E
  hE : tab.get E = some te
  a3 : ∀ w, Sem.run P (isAgg (ρ.t 3)) w = .ok false w
  a4 : ∀ w, Sem.run P (isAgg (ρ.t 4)) w = .ok false w
  a22 : ∀ w, Sem.run P (isAgg (ρ.t 22)) w = .ok false w
  z3 : ∀ w, Sem.run P (Go.sizeOf (ρ.t 3)) w = .ok 1 w
  z22 : ∀ w, Sem.run P (Go.sizeOf (ρ.t 22)) w = .ok 1 w
  k0 : 0 < te.size
  hz : ∃ zs, te.cks.mapM (zeroE tab) = some zs

theorem del_cell {k i j n : Nat} {rows : List T} (hn : rows.length = n) (hij : i ≤ j) (hj : j ≤ n) {q jj : Nat} (hq : q < i + (n - j)) :
    cellT k (rows.take i ++ rows.drop j) q jj = if q < i then cellT k rows q jj else cellT k rows (q + (j - i)) jj := by
  have ht : (rows.take i).length = i := by rw [List.length_take]; omega
  by_cases c1 : q < i
  · rw [if_pos c1, cellT_append_left (by omega)]
    have := cellT_ext (k := k) (l := 0) (h := i) (rows := rows) (i := q) (j := jj) (by omega)
    simpa using this
  · rw [if_neg c1]
    obtain ⟨r, rfl⟩ : ∃ r, q = i + r := ⟨q - i, by omega⟩
    have := cellT_append_right (k := k) (a := rows.take i) (b := rows.drop j) (i := r) (j := jj)
    rw [ht] at this
    rw [this]
    have h3 := cellT_ext (k := k) (l := j) (h := n) (rows := rows) (i := r) (j := jj) (by omega)
    rw [← hn, List.take_length] at h3
    rw [h3]; congr 1; omega
theorem del_wf {k i j n : Nat} {rows : List T} (h0 : WfRows k rows) (hn : rows.length = n) (hi : i ≤ n) : WfRows k (rows.take i ++ rows.drop j) := by
  refine wf_append ?_ ?_
  · have := ext_wf (l := 0) (h := i) (by omega) h0
    simpa using this
  · have := ext_wf (l := j) (h := n) (by omega) h0
    rwa [← hn, List.take_length] at this

theorem del_world {E : TypeId} {ti te : TI} (H : DelT P tab ρ E ti te) {f : FuncId} {nm : String} {ta pa : Array TypeId} (hf : P.funcs[f]? = some { Body2.n23 ρ with name := nm, targs := ta, params := pa })
    {a0 : Option Addr} {n c i j : Nat} {rows : List T} {F0 : CS} (D0 : DRel tab w true (.sl E) (.slice a0 n c) (.list rows) F0) (hij : i ≤ j) (hj : j ≤ n) (hlim : n ≤ 9000000000000000000) :
    ∃ w' F', (Calls P f #[.slice a0 n c, .int .i64 i, .int .i64 j] w fun e w2 => e = .returned (.slice a0 (i + (n - j)) c) ∧ w2 = w') ∧ Turned F0 w w' ∧
      DRel tab w' true (.sl E) (.slice a0 (i + (n - j)) c) (.list (rows.take i ++ rows.drop j)) F' ∧ (∀ b x, F' b x → F0 b x) := by
  have t22 := und_slice H.hT H.h22 H.d22
  have zE : ∀ w, Sem.run P (Go.sizeOf E) w = .ok te.size w := fun w => run_sizeOf H.hT H.hE
  have hsz : te.size = te.cks.length := (H.hT _ te H.hE).len
  have hk0 := H.k0
  obtain ⟨hr0, hnc, _⟩ := D0.header
  by_cases hlt : i < j
  case neg =>
    have : i = j := by omega
    subst this
    refine ⟨w, F0, ?_, (Grows.refl w).turned _, ?_, fun _ _ h => h⟩
    · rw [show i + (n - i) = n by omega]
      exact del_same H.mixed hf H.t3 H.t4 t22 H.a3 H.a4 H.a22 H.z3 H.z22 zE a0 n c i w hj hnc hlim
    · rw [List.take_append_drop, show i + (n - i) = n by omega]; exact D0
  cases D0 with
  | @sl et0 te0 rows _ n c b off vs Fs F0 hte0 hsz0 hn hc ha hwf hcell hrel hown hdis hdr hF =>
  have e0 : te0 = te := by rw [H.hE] at hte0; exact (Option.some.inj hte0).symm
  subst e0
  have ha0 : a0 = some ⟨b, off, none⟩ := ha.resolve_right (by omega)
  subst ha0
  simp only [if_true] at hF
  have hown := hown rfl
  obtain ⟨K, hK⟩ : ∃ K, te0.size = K := ⟨_, rfl⟩
  have one0 : ∀ q jj, q < n → jj < K → (vs q jj).oneCell' = true := fun q jj hq hj => by
    obtain ⟨ck, hck⟩ : ∃ ck, te0.cks[jj]? = some ck := ⟨_, List.getElem?_eq_getElem (by omega)⟩
    exact (hrel q jj ck hq hck).ownCell
  have in0 : ∀ x, x < c * K → F0 b (off + x) := fun x hx => by rw [hF]; exact .inl ⟨rfl, by omega, by rw [hK]; omega⟩
  have hK0 : 0 < K := by omega
  obtain ⟨m, hm⟩ : ∃ m, m = i + (n - j) := ⟨_, rfl⟩
  have hmn : m ≤ n := by omega
  have hlenr : (rows.take i ++ rows.drop j).length = m := by
    rw [List.length_append, List.length_take, List.length_drop, Nat.min_eq_left (by omega)]; omega
  have hmK : m * K = i * K + (n - j) * K := by rw [hm, Nat.add_mul]
  have hnmK : m * K + (n - m) * K = n * K := by rw [← Nat.add_mul]; congr 1; omega
  have hjK : j * K + (n - j) * K = n * K := by rw [← Nat.add_mul]; congr 1; omega
  have hcK : n * K ≤ c * K := Nat.mul_le_mul_right _ hc
  have hijK : i * K ≤ j * K := Nat.mul_le_mul_right _ hij
  -- what is moved to the left
  let news : List Value := (List.range ((n - j) * K)).map fun q => vs (j + q / K) (q % K)
  have hlen : news.length = (n - j) * K := by simp [news]
  have hget : ∀ q, q < (n - j) * K → news[q]? = some (vs (j + q / K) (q % K)) := fun q hq => by simp [news, hq]
  obtain ⟨W1, s1, s2, s3, s4, s5, s6⟩ := run_storeCells_cells (P := P) (b := b) (o := off + i * K) news 0 w.drew (by
      intro v hv
      obtain ⟨q, hq, rfl⟩ := List.mem_map.1 hv
      obtain ⟨g1, g2, _⟩ := cell_split hK0 (List.mem_range.1 hq)
      exact one0 _ _ (by omega) g2) (fun x hx => by
      rw [hlen] at hx
      have := hown (i * K + x) (by rw [hK]; omega)
      rw [Nat.add_zero, Nat.add_assoc]; exact this)
  simp only [Nat.add_zero] at s2 s3 s4
  rw [hlen] at s2 s4
  obtain ⟨A, hA⟩ : ∃ A, (if c = j then some (⟨b, off, none⟩ : Addr) else some ⟨b, off + j * K, none⟩) = some A := by
    by_cases h : c = j
    · exact ⟨_, if_pos h⟩
    · exact ⟨_, if_neg h⟩
  have hap : ∀ ty, (Builtin.append_ #[ρ.t 22, ρ.t 22] ty #[.slice (some ⟨b, off, none⟩) i c, .slice (some A) (n - j) (c - j)]).run P w.drew = .ok (.slice (some ⟨b, off, none⟩) m c) W1 := by
    intro ty
    have hfirst : (Builtin.firstCells K (n - j) (.slice (some A) (n - j) (c - j))).run P w.drew = .ok news.toArray w.drew := by
      by_cases h : c = j
      · have h0 : n - j = 0 := by omega
        have : news = [] := by
          apply List.eq_nil_of_length_eq_zero; rw [hlen, h0, Nat.zero_mul]
        rw [this, h0]
        simp [Builtin.firstCells, loadCells, loadCellsFrom]
      · rw [if_neg h] at hA
        cases hA
        refine run_firstCells_cells fun q hq => ?_
        obtain ⟨g1, g2, g3⟩ := cell_split hK0 hq
        have := hcell (j + q / K) (q % K) (by omega) (by omega)
        rw [hK] at this
        show cellAt w b _ = _
        rw [← this]; congr 1
        rw [Nat.add_mul]; omega
    have hun : (underlying (ρ.t 22)).run P w.drew = .ok (.slice E) w.drew := by simp only [underlying, Sem.run_bind, run_program, Result.andThen_ok, t22, Sem.run_pure]
    have hroom : m ≤ c := by omega
    have s1' : (storeCells ((⟨b, off, none⟩ : Addr).add (i * K)) news 0).run P w.drew = .ok () W1 := by rw [add_addr]; exact s1
    have zE' := zE w.drew
    rw [hK] at zE'
    simp only [Builtin.append_, List.getElem?_toArray, List.getElem?_cons_zero, List.getElem?_cons_succ, Sem.run_bind, hun, Result.andThen_ok, Sem.run_pure, zE', Bool.false_eq_true, if_false, Builtin.lenOf, Sem.run_ite, if_pos hroom, Bool.not_false, if_true, hfirst, s1', ← hm]
  -- what is cleared
  obtain ⟨zs, hzs⟩ := H.hz
  obtain ⟨inf, z, i1, i2, i3, i4, i5, i6⟩ := (H.hT _ te0 H.hE).inf
  obtain ⟨zc, zl⟩ := zeroRow_cells (ρ := fun _ => .hole) H.hT hzs hsz i5
  have hzc : z.cells.size = K := by rw [← Array.length_toList, (zerosAre_get i5).1, ← hsz, hK]
  obtain ⟨p, hp⟩ : ∃ p, n - m = p + 1 := ⟨n - m - 1, by omega⟩
  let cl : List Value := (Builtin.zeroCells z.cells (n - m)).toList
  have hcl_len : cl.length = (n - m) * K := by simp [cl, Builtin.zeroCells, hzc]
  obtain ⟨W2, u1, u2, u3, u4, u5, u6⟩ := run_storeCells_cells (P := P) (b := b) (o := off + m * K) cl 0 W1 (by
      intro v hv
      obtain ⟨q, hq⟩ := List.mem_iff_getElem?.1 hv
      have hql := List.getD_some_lt hq
      rw [hcl_len] at hql
      have hmod := Nat.mod_lt q hK0
      obtain ⟨ck, hck⟩ : ∃ ck, te0.cks[q % K]? = some ck := ⟨_, List.getElem?_eq_getElem (by omega)⟩
      obtain ⟨v', v1, v2, _⟩ := zc _ ck hck
      have : cl[q]? = z.cells[q % K]? := by
        show ((Builtin.zeroCells z.cells (n - m)).toList)[q]? = _
        unfold Builtin.zeroCells
        rw [Array.getElem?_toList, Array.getElem?_map, Array.getElem?_range, hzc, if_pos hql]
        simp only [Option.map_some]
        rw [getElem!_def, Array.getElem?_eq_getElem (by omega)]
      rw [this, v1] at hq
      cases hq; exact v2) (fun x hx => by
      rw [hcl_len] at hx
      obtain ⟨v, v1, v2⟩ := hown (m * K + x) (by rw [hK]; omega)
      refine ⟨v, ?_, ?_⟩
      · rw [Nat.add_zero, Nat.add_assoc, s4 b _ (by omega)]; exact v1
      · rw [Nat.add_zero, Nat.add_assoc, s5]; exact v2)
  simp only [Nat.add_zero] at u2 u3 u4
  rw [hcl_len] at u2 u4
  have hclr : ∀ ty, (Builtin.clear_ #[ρ.t 22] ty #[.slice (some ⟨b, off + m * K, none⟩) (n - m) (c - m)]).run P W1 = .ok (.tuple #[]) W2 := by
    intro ty
    have hun : (underlying (ρ.t 22)).run P W1 = .ok (.slice E) W1 := by simp only [underlying, Sem.run_bind, run_program, Result.andThen_ok, t22, Sem.run_pure]
    have u1' : (storeCells ⟨b, off + m * K, none⟩ (Builtin.zeroCells z.cells (p + 1)).toList).run P W1 = .ok () W2 := by rw [← hp]; exact u1
    rw [hp]
    simp [Builtin.clear_, run_underlying t22, i1, i4, u1', zeroValue, typeInfo]
  have hsub1 : Sub (Rng b (off + i * K) ((n - j) * K)) F0 := by
    rintro b' x ⟨rfl, x1, x2⟩
    obtain ⟨y, rfl⟩ : ∃ y, x = off + y := ⟨x - off, by omega⟩
    exact in0 y (by omega)
  have hsub2 : Sub (Rng b (off + m * K) ((n - m) * K)) F0 := by
    rintro b' x ⟨rfl, x1, x2⟩
    obtain ⟨y, rfl⟩ : ∃ y, x = off + y := ⟨x - off, by omega⟩
    exact in0 y (by omega)
  have zE' : ∀ w, Sem.run P (Go.sizeOf E) w = .ok K w := fun w => by rw [← hK]; exact zE w
  have hcallS := del_shift H.mixed hf H.t3 H.t4 t22 H.a3 H.a4 H.a22 H.z3 H.z22 zE' b off n c i j m w W1 W2 hlt hj hc hm hlim A hA hap hclr
  rw [← hm]
  have hdr := hdr rfl
  have hdis := hdis rfl
  let sh : Nat → Nat := fun q => if q < i then q else q + (j - i)
  have hsh : ∀ q, q < m → sh q < n := fun q hq => by simp only [sh]; split <;> omega
  have hinj : ∀ q q', sh q = sh q' → q = q' := fun q q' h => by simp only [sh] at h; split at h <;> split at h <;> omega
  have hfr : ∀ q jj, q < n → jj < te0.size → SameOn w W2 (Fs q jj) := fun q jj hq hjj b' x hx => by
    have hno := hdr q jj hq hjj b' x
    have h1 : ¬ (b' = b ∧ off + i * K ≤ x ∧ x < off + i * K + (n - j) * K) := fun hh => hno ⟨hh.1, by omega, by rw [hK]; omega⟩ hx
    have h2 : ¬ (b' = b ∧ off + m * K ≤ x ∧ x < off + m * K + (n - m) * K) := fun hh => hno ⟨hh.1, by omega, by rw [hK]; omega⟩ hx
    refine ⟨?_, ?_⟩
    · rw [u4 b' x h2, s4 b' x h1]; rfl
    · rw [u5, s5]; rfl
  refine ⟨W2, rowF b off c m te0.size fun q jj => Fs (sh q) jj, hcallS, (((Grows.drew w).turned F0).trans (s2.sub' hsub1)).trans (u2.sub' hsub2), ?_, ?_⟩
  · refine .sl (b := b) (off := off) (vs := fun q jj => if q < i then vs q jj else vs (q + (j - i)) jj) (Fs := fun q jj => Fs (sh q) jj) H.hE hsz hlenr (by omega) (.inl rfl) (del_wf hwf hn (by omega)) (fun q jj hq hjj => ?_) (fun q jj ck hq hck => ?_) (fun _ x hx => ?_) (fun _ q jj q' jj' hq hjj hq' hjj' hne => ?_) (fun _ q jj hq hjj => ?_) rfl
    · rw [hK] at hjj ⊢
      have hqK : q * K + K ≤ m * K := by
        have := Nat.mul_le_mul_right K (show q + 1 ≤ m by omega)
        rwa [Nat.add_mul, Nat.one_mul] at this
      rw [u4 b _ (by omega)]
      by_cases c1 : q < i
      · rw [if_pos c1]
        have hle : q * K + K ≤ i * K := by
          have := Nat.mul_le_mul_right K (show q + 1 ≤ i by omega)
          rwa [Nat.add_mul, Nat.one_mul] at this
        rw [s4 b _ (by omega)]
        have := hcell q jj (by omega) (by omega)
        rwa [hK] at this
      · rw [if_neg c1]
        obtain ⟨r, rfl⟩ : ∃ r, q = i + r := ⟨q - i, by omega⟩
        have e1 : (i + r) * K = i * K + r * K := Nat.add_mul ..
        have hrK : r * K + K ≤ (n - j) * K := by
          have := Nat.mul_le_mul_right K (show r + 1 ≤ n - j by omega)
          rwa [Nat.add_mul, Nat.one_mul] at this
        have := s3 (r * K + jj) _ (hget (r * K + jj) (by omega))
        rw [e1, show off + (i * K + r * K) + jj = off + i * K + (r * K + jj) by omega, this]
        have d1 : (r * K + jj) / K = r := by
          rw [Nat.mul_comm, Nat.mul_add_div (by omega), Nat.div_eq_of_lt hjj, Nat.add_zero]
        have d2 : (r * K + jj) % K = jj := by
          rw [Nat.mul_comm, Nat.mul_add_mod, Nat.mod_eq_of_lt hjj]
        rw [d1, d2, show i + r + (j - i) = j + r by omega]
    · rw [del_cell hn (by omega) hj (by omega)]
      have hjj := (List.getElem?_eq_some_iff.1 hck).1
      by_cases c1 : q < i
      · have e1 : sh q = q := if_pos c1
        rw [if_pos c1, if_pos c1, e1]; exact (hrel q jj ck (by omega) hck).frame (hfr q jj (by omega) (by omega))
      · have e1 : sh q = q + (j - i) := if_neg c1
        rw [if_neg c1, if_neg c1, e1]; exact (hrel (q + (j - i)) jj ck (by omega) hck).frame (hfr _ jj (by omega) (by omega))
    · rw [hK] at hx
      obtain ⟨v, v1, v2⟩ := hown x (by rw [hK]; exact hx)
      obtain ⟨u, hu⟩ : ∃ v, cellAt W2 b (off + x) = some v := by
        by_cases c1 : off + m * K ≤ off + x ∧ off + x < off + m * K + (n - m) * K
        · have hlt' : x - m * K < cl.length := by rw [hcl_len]; omega
          have := u3 (x - m * K) _ (List.getElem?_eq_getElem hlt')
          rw [show off + m * K + (x - m * K) = off + x by omega] at this
          exact ⟨_, this⟩
        · rw [u4 b _ (by omega)]
          by_cases c2 : off + i * K ≤ off + x ∧ off + x < off + i * K + (n - j) * K
          · have := s3 (x - i * K) _ (hget (x - i * K) (by omega))
            rw [show off + i * K + (x - i * K) = off + x by omega] at this
            exact ⟨_, this⟩
          · rw [s4 b _ (by omega)]; exact ⟨v, v1⟩
      exact ⟨u, hu, by rw [u5, s5]; exact v2⟩
    · exact hdis (sh q) jj (sh q') jj' (hsh q hq) hjj (hsh q' hq') hjj' fun e => hne (by
        simp only [Prod.mk.injEq] at e ⊢
        exact ⟨hinj _ _ e.1, e.2⟩)
    · exact hdr (sh q) jj (hsh q hq) hjj
  · rintro b' x (hx | ⟨q, jj, hq, hjj, hx⟩)
    · obtain ⟨rfl, x1, x2⟩ := hx
      obtain ⟨y, rfl⟩ : ∃ y, x = off + y := ⟨x - off, by omega⟩
      exact in0 y (by rw [← hK]; omega)
    · rw [hF]; exact .inr ⟨sh q, jj, hsh q hq, hjj, hx⟩
end
end Gp

/- Gp, part 40: slices.Delete's contract, its premises checked by one look. -/
set_option linter.unusedVariables false
set_option linter.unusedSimpArgs false
namespace Gp
open Go Go.Shelf Go.Proofs
section
variable {tab : Tab} {w : World} {C : Ctx} {P : Program} {ρ : Ren}

def delSig (f : FuncId) (et : TypeId) : Sig :=
  { f, ins := [.one (.slw 0 et), .one (.int .i64 (.var 1)), .one (.int .i64 (.var 2))], obs := [(0, .row true et (.var 0))], nin := 3,
    outs := [.one (.slw 1 et)], oobs := [(1, .row true et (.var 0))], nout := 1 }
def delP (lim : Nat) : PI :=
  .seq (.sis [([], .chk (.bin (.cmp .leq) (.int 0) (.var 1))), ([], .chk (.bin (.cmp .leq) (.var 1) (.var 2))), ([], .chk (.bin (.cmp .leq) (.var 2) (.un .len (.var 0)))), ([], .chk (.bin (.cmp .leq) (.un .len (.var 0)) (.int lim)))])
    (.ret [.bin .cat (.tri .ext (.var 0) (.int 0) (.var 1)) (.tri .ext (.var 0) (.var 2) (.un .len (.var 0)))])

theorem del_run {J : Nat → List T → List T → Prop} {lim : Nat} {ρ ρ' : Env} {ex : Ex} (h : BigC J (delP lim) ρ ex ρ') :
    den ρ (.bin (.cmp .leq) (.int 0) (.var 1)) = .bool true ∧ den ρ (.bin (.cmp .leq) (.var 1) (.var 2)) = .bool true ∧ den ρ (.bin (.cmp .leq) (.var 2) (.un .len (.var 0))) = .bool true ∧
      den ρ (.bin (.cmp .leq) (.un .len (.var 0)) (.int lim)) = .bool true ∧ ex = .ret [den ρ (.bin .cat (.tri .ext (.var 0) (.int 0) (.var 1)) (.tri .ext (.var 0) (.var 2) (.un .len (.var 0))))] := by
  have chk : ∀ {e : Exp} {l : List (Grd × SI)} {ρ ρ' : Env} {ex : Ex}, BigC J (.sis (([], .chk e) :: l)) ρ ex ρ' → den ρ e = .bool true ∧ BigC J (.sis l) ρ ex ρ' := by
    intro e l ρ ρ' ex h
    cases h with
    | off hg _ => exact absurd trivial hg
    | chk _ hd hb => exact ⟨hd, hb⟩
  have fin : ∀ {ρ ρ' : Env} {ex : Ex}, BigC J (.sis []) ρ ex ρ' → ex = .normal ∧ ρ' = ρ := by
    intro ρ ρ' ex h
    cases h; exact ⟨rfl, rfl⟩
  unfold delP at h
  cases h with
  | seq h1 h2 =>
    obtain ⟨c1, h1⟩ := chk h1
    obtain ⟨c2, h1⟩ := chk h1
    obtain ⟨c3, h1⟩ := chk h1
    obtain ⟨c4, h1⟩ := chk h1
    obtain ⟨_, rfl⟩ := fin h1
    cases h2
    exact ⟨c1, c2, c3, c4, rfl⟩
  | seqOut h1 hne =>
    obtain ⟨c1, h1⟩ := chk h1
    obtain ⟨c2, h1⟩ := chk h1
    obtain ⟨c3, h1⟩ := chk h1
    obtain ⟨c4, h1⟩ := chk h1
    exact absurd (fin h1).1 hne
theorem del_inst {E : TypeId} {ti te : TI} (H : DelT P tab ρ E ti te) {f : FuncId} {nm : String} {ta pa : Array TypeId} (hf : P.funcs[f]? = some { Body2.n23 ρ with name := nm, targs := ta, params := pa }) (hnm : (nm == "runtime.NumGoroutine") = false)
    {sigs : List Sig} {idx : Nat} (hs : sigs[idx]? = some (delSig f E)) {lim : Nat} (hlim : lim ≤ 9000000000000000000) : Inst P tab sigs idx (delP lim) := by
  intro ds outs ρ1 hb
  obtain ⟨c1, c2, c3, c4, hex⟩ := del_run hb
  refine ⟨_, hs, ⟨_, hf, hnm, rfl⟩, ?_⟩
  intro args w C he
  have hA0 := he.arg 0 _ rfl
  have hA1 := he.arg 1 _ rfl
  have hA2 := he.arg 2 _ rfl
  have hO0 := he.ob 0 _ rfl
  have hsz := he.size
  obtain ⟨v0, hv0, ⟨⟨_, a0, rfl, ha0⟩, _⟩⟩ := hA0
  obtain ⟨v1, hv1, ⟨⟨p, hp, rfl⟩, _⟩⟩ := hA1
  obtain ⟨v2, hv2, ⟨⟨q, hq, rfl⟩, _⟩⟩ := hA2
  obtain ⟨_, rows, hd0, D0⟩ := hO0
  have hr0 := D0.header.1
  have hargs : args = #[.slice a0 (C.N 0) (C.K 0), .int .i64 p, .int .i64 q] := by
    apply Array.ext_getElem?
    intro i
    match i with
    | 0 => rw [hv0]; rfl
    | 1 => rw [hv1]; rfl
    | 2 => rw [hv2]; rfl
    | i + 3 => rw [Array.getElem?_eq_none (by rw [hsz]; show 3 ≤ i + 3; omega), Array.getElem?_eq_none (by simp)]
  have hd0' : envOf ds 0 = .list rows := hd0
  have hp' : envOf ds 1 = .int p := hp
  have hq' : envOf ds 2 = .int q := hq
  have m0 : 0 ≤ p := by simpa [den, B.den, T.cmp, T.cmpI, hp'] using c1
  have m1 : p ≤ q := by simpa [den, B.den, T.cmp, T.cmpI, hp', hq'] using c2
  have m2 : q ≤ rows.length := by simpa [den, B.den, U.den, T.cmp, T.cmpI, T.len, hq', hd0'] using c3
  have m3 : rows.length ≤ lim := by
    have : (rows.length : Int) ≤ lim := by simpa [den, B.den, U.den, T.cmp, T.cmpI, T.len, hd0'] using c4
    omega
  obtain ⟨i, rfl⟩ : ∃ i : Nat, p = i := ⟨p.toNat, by omega⟩
  obtain ⟨j, rfl⟩ : ∃ j : Nat, q = j := ⟨q.toNat, by omega⟩
  have E0 : DRel tab w true (.sl E) (.slice a0 (C.N 0) (C.K 0)) (.list rows) (C.F 0) := by
    rcases ha0 with h | ⟨b, base, h1, h2⟩
    · rw [h] at D0 ⊢; exact D0.anyAddr
    · rw [h2, ← h1]; exact D0
  obtain ⟨w', F', k1, k2, k3, k4⟩ := del_world H hf E0 (show i ≤ j by omega) (show j ≤ C.N 0 by omega) (by omega)
  rw [hargs]
  refine k1.mono ?_
  rintro e w2 ⟨rfl, rfl⟩
  have hout : envOf outs 0 = .list (rows.take i ++ rows.drop j) := by
    cases hex
    show den (envOf ds) _ = _
    simp only [den, B.den, Tr.den, U.den, hd0', hp', hq', T.ext, T.cat, T.len, Int.toNat_natCast, Int.toNat_zero, List.drop_zero, List.take_length]
  have hW : Sub (C.F 0) (WrOf (delSig f E).obs C) := fun b x h => ⟨0, _, rfl, rfl, h⟩
  refine ⟨_, C.set 1 a0 (i + (C.N 0 - j)) (C.K 0) F', rfl, ?_⟩
  have hh := k3.header
  exact {
    res := by
      refine ⟨⟨.inr ⟨_, rfl⟩, a0, ?_, ?_⟩, fun cs => by simp⟩
      · rw [Ctx.set_self.2.1, Ctx.set_self.2.2.1]
      · rw [Ctx.set_self.2.2.1, Ctx.set_self.1]
        rcases hh.2.2 with h | ⟨b, off, h⟩
        · exact .inl h
        · exact .inr ⟨b, off, h, h⟩
    ob := fun o ob ho => by
      have : o = 1 ∧ ob = .row true E (.var 0) := by
        simp only [delSig, look] at ho
        split at ho
        · rename_i h2
          exact ⟨(Nat.eq_of_beq_eq_true h2).symm, (Option.some.inj ho).symm⟩
        · cases ho
      obtain ⟨rfl, rfl⟩ := this
      refine ⟨rfl, _, hout, ?_⟩
      rw [Ctx.set_self.1, Ctx.set_self.2.1, Ctx.set_self.2.2.1, Ctx.set_self.2.2.2]
      exact k3
    dis := fun o1 o2 ob1 ob2 h1 h2 hne _ => by
      have : ∀ o ob, look o (delSig f E).oobs = some ob → o = 1 := by
        intro o ob ho
        simp only [delSig, look] at ho
        split at ho
        · rename_i h2
          exact (Nat.eq_of_beq_eq_true h2).symm
        · cases ho
      exact absurd ((this _ _ h1).trans (this _ _ h2).symm) hne
    own := fun o ob ho b x hx => by
      have : o = 1 := by
        simp only [delSig, look] at ho
        split at ho
        · rename_i h2
          exact (Nat.eq_of_beq_eq_true h2).symm
        · cases ho
      subst this
      rw [Ctx.set_self.2.2.2] at hx
      exact .inl (hW b x (k4 b x hx))
    same := fun o ho => by
      have : o ≠ 1 := by
        rintro rfl
        obtain ⟨ob, ho⟩ := ho
        simp [delSig, look] at ho
      exact ⟨(Ctx.set_ne this).1, (Ctx.set_ne this).2.1, (Ctx.set_ne this).2.2.1⟩
    trn := k2.sub' hW }

def delRen (t0 t3 t4 t22 : Nat) : Ren :=
  ⟨fun n => n, fun n => if Nat.beq n 22 then t22 else if Nat.beq n 3 then t3 else if Nat.beq n 4 then t4 else t0, fun n => n⟩
def delChk (tab : Tab) (ρ : Ren) (E : TypeId) (lim : Nat) : Bool :=
  match tab.get (ρ.t 22), tab.get E, tab.get (ρ.t 3), tab.get (ρ.t 4) with
  | some ti, some te, some i3, some i4 =>
    (match ti.td with | .slice e => Nat.beq e E | _ => false) && (match i3.td with | .int .i64 => true | _ => false) && (match i4.td with | .bool => true | _ => false) &&
    !ti.agg && Nat.beq ti.size 1 && !i3.agg && Nat.beq i3.size 1 && !i4.agg && Nat.blt 0 te.size && (te.cks.mapM (zeroE tab)).isSome && Nat.ble lim 9000000000000000000
  | _, _, _, _ => false
theorem del_inst_of (hT : TabOk P tab) (hm : P.follows .mixedOrders = true) {lim : Nat} {E : TypeId} (hc : delChk tab ρ E lim = true) {f : FuncId} {nm : String} {ta pa : Array TypeId}
    (hf : P.funcs[f]? = some { Body2.n23 ρ with name := nm, targs := ta, params := pa }) (hnm : (nm == "runtime.NumGoroutine") = false)
    {sigs : List Sig} {idx : Nat} (hs : sigs[idx]? = some (delSig f E)) : Inst P tab sigs idx (delP lim) := by
  unfold delChk at hc
  split at hc
  case h_2 => cases hc
  rename_i ti te i3 i4 h22 hE h3 h4
  simp only [Bool.and_eq_true, Bool.not_eq_true'] at hc
  obtain ⟨⟨⟨⟨⟨⟨⟨⟨⟨⟨c1, c2⟩, c3⟩, c4⟩, c5⟩, c6⟩, c7⟩, c8⟩, c10⟩, c12⟩, c13⟩ := hc
  have d22 : ti.td = .slice E := by
    split at c1
    · rename_i e he; rw [he, Nat.eq_of_beq_eq_true c1]
    · cases c1
  have d3 : i3.td = .int .i64 := by
    split at c2
    · assumption
    · cases c2
  have d4 : i4.td = .bool := by
    split at c3
    · assumption
    · cases c3
  have H : DelT P tab ρ E ti te :=
    { hT := hT, mixed := hm, t3 := und_int hT h3 d3, t4 := und_bool hT h4 d4, h22 := h22, d22 := d22, hE := hE
      a3 := fun w => by rw [run_isAgg hT h3, c6]
      a4 := fun w => by rw [run_isAgg hT h4, c8]
      a22 := fun w => by rw [run_isAgg hT h22, c4]
      z3 := fun w => by rw [run_sizeOf hT h3, Nat.eq_of_beq_eq_true c7]
      z22 := fun w => by rw [run_sizeOf hT h22, Nat.eq_of_beq_eq_true c5]
      k0 := Nat.lt_of_lt_of_le Nat.zero_lt_one (Nat.le_of_ble_eq_true c10)
      hz := by cases hh : te.cks.mapM (zeroE tab) with
        | none => rw [hh] at c12; cases c12
        | some zs => exact ⟨zs, rfl⟩ }
  exact del_inst H hf hnm hs (Nat.le_of_ble_eq_true c13)
end
end Gp
