/- Gp, part 15: append. -/
import Derived.Test.YtbifjnccebhmkaaGpOp9
set_option linter.unusedVariables false
set_option linter.unusedSimpArgs false
namespace Gp
open Go
section
variable {tab : Tab} {Γ : Gam} {ρ : Env} {tm : Array Value} {w w' : World} {C : Ctx} {kn : Kn} {Wr : CS} {w0 : World} {P : Program} {I : Nat → List T → List T → Prop} {G : Grd} {nx no : Nat}

theorem run_firstCells_cells {k n : Nat} {b off len cap : Nat} {f : Nat → Value} (h : ∀ q, q < n * k → cellAt w b (off + q) = some (f q)) :
    (Builtin.firstCells k n (.slice (some ⟨b, off, none⟩) len cap)).run P w = .ok ((List.range (n * k)).map f).toArray w := by
  simp only [Builtin.firstCells]
  exact run_loadCells_at h

theorem appendCap_ge (w : World) (need old : Nat) (e : TypeId) : need ≤ grownCap w need old e := by
  simp only [grownCap, Question.cut]; omega

/-- Where a row's q-th cell stands. -/
theorem cell_split {k n q : Nat} (hk : 0 < k) (hq : q < n * k) : q / k < n ∧ q % k < k ∧ q / k * k + q % k = q := by
  refine ⟨(Nat.div_lt_iff_lt_mul hk).2 hq, Nat.mod_lt q hk, ?_⟩
  have := Nat.div_add_mod q k
  rw [Nat.mul_comm] at this; exact this

theorem cellT_append_left {k : Nat} {a b : List T} {i j : Nat} (hi : i < a.length) : cellT k (a ++ b) i j = cellT k a i j := by
  have : (a ++ b).getD i .hole = a.getD i .hole := by
    rw [List.getD_eq_getElem?_getD, List.getElem?_append_left hi, List.getD_eq_getElem?_getD]
  unfold cellT; rw [this]
theorem cellT_append_right {k : Nat} {a b : List T} {i j : Nat} : cellT k (a ++ b) (a.length + i) j = cellT k b i j := by
  have : (a ++ b).getD (a.length + i) .hole = b.getD i .hole := by
    rw [List.getD_eq_getElem?_getD, List.getElem?_append_right (by omega), List.getD_eq_getElem?_getD]
    congr 2; omega
  unfold cellT; rw [this]
theorem wf_append {k : Nat} {a b : List T} (ha : WfRows k a) (hb : WfRows k b) : WfRows k (a ++ b) := by
  intro hk i hi
  simp only [List.length_append] at hi
  by_cases h : i < a.length
  · obtain ⟨l, h1, h2⟩ := ha hk i h
    exact ⟨l, by rw [List.getElem?_append_left h]; exact h1, h2⟩
  · obtain ⟨l, h1, h2⟩ := hb hk (i - a.length) (by omega)
    exact ⟨l, by rw [List.getElem?_append_right (by omega)]; exact h1, h2⟩

/-- What is appended: cells that can be read, what they lead to being owned (or nothing). -/
structure Src (tab : Tab) (w : World) (te : TI) (rows : List T) (b off n : Nat) (us : Nat → Nat → Value) (Fs : Nat → Nat → CS) : Prop where
  len : rows.length = n
  wf : WfRows te.size rows
  cell : ∀ i j, i < n → j < te.size → cellAt w b (off + i * te.size + j) = some (us i j)
  one : ∀ i j, i < n → j < te.size → (us i j).oneCell' = true
  rel : ∀ i j ck, i < n → te.cks[j]? = some ck → DRel tab w true ck (us i j) (cellT te.size rows i j) (Fs i j)
  dis : ∀ i j i' j', i < n → j < te.size → i' < n → j' < te.size → (i, j) ≠ (i', j') → Disj (Fs i j) (Fs i' j')

theorem DRel.ownCell {dp : Bool} {ck : CK} {v : Value} {t : T} {F : CS} (h : DRel tab w dp ck v t F) : v.oneCell' = true := by cases h <;> rfl

theorem run_append (hT : TabOk P tab) {t t2 ty et : TypeId} {ti ti2 te : TI} (hti : tab.get t = some ti) (htd : ti.td = .slice et) (hti2 : tab.get t2 = some ti2) (htd2 : ti2.td = .slice et) (hte : tab.get et = some te) (hk0 : 0 < te.size) (hb0 : 0 < te.bytes)
    {a : Option Addr} {n c : Nat} {rows : List T} {F : CS} (hD : DRel tab w true (.sl et) (.slice a n c) (.list rows) F)
    {a2 : Option Addr} {n2 c2 : Nat} {rows2 : List T} {b2 off2 : Nat} {us : Nat → Nat → Value} {Fs2 : Nat → Nat → CS} (ha2 : a2 = some ⟨b2, off2, none⟩ ∨ n2 = 0) (hsrc : Src tab w te rows2 b2 off2 n2 us Fs2)
    (hdj : ∀ i j, i < n2 → j < te.size → Disj F (Fs2 i j)) (hlim : (n + n2) * te.bytes ≤ 140737488355328) :
    ∃ a' c' w' F', (Builtin.append_ #[t, t2] ty #[.slice a n c, .slice a2 n2 c2]).run P w = .ok (.slice a' (n + n2) c') w' ∧ Turned F w w' ∧
      DRel tab w' true (.sl et) (.slice a' (n + n2) c') (.list (rows ++ rows2)) F' ∧
      (∀ b x, F' b x → F b x ∨ w.heap.size ≤ b ∨ ∃ i j, i < n2 ∧ j < te.size ∧ Fs2 i j b x) := by
  have hsz : te.size = te.cks.length := (hT et te hte).len
  obtain ⟨inf, z, i1, i2, i3, i4, i5, i6⟩ := (hT et te hte).inf
  have hu1 := und_slice hT hti htd
  have hu2 := und_slice hT hti2 htd2
  have hsize := run_sizeOf (P := P) (w := w) hT hte
  -- the cells to append, one behind the other
  let news : List Value := (List.range (n2 * te.size)).map fun q => us (q / te.size) (q % te.size)
  have hnews_len : news.length = n2 * te.size := by simp [news]
  have hnews : ∀ q, q < n2 * te.size → news[q]? = some (us (q / te.size) (q % te.size)) := fun q hq => by simp [news, hq]
  have hfirst2 : (Builtin.firstCells te.size n2 (.slice a2 n2 c2)).run P w = .ok news.toArray w := by
    rcases ha2 with ha2 | ha2
    · rw [ha2]
      refine run_firstCells_cells fun q hq => ?_
      obtain ⟨q1, q2, q3⟩ := cell_split hk0 hq
      have := hsrc.cell _ _ q1 q2
      rw [← this]; congr 1; omega
    · subst ha2
      cases a2 with
      | none => simp [Builtin.firstCells, news]
      | some y => simp only [Builtin.firstCells, Nat.zero_mul]; simp [loadCells, loadCellsFrom, news]
  have hnews1 : ∀ v ∈ news, v.oneCell' = true := by
    intro v hv
    obtain ⟨q, hq, rfl⟩ := List.mem_map.1 hv
    obtain ⟨q1, q2, _⟩ := cell_split hk0 (List.mem_range.1 hq)
    exact hsrc.one _ _ q1 q2
  have hold2 : ∀ i j, i < n2 → j < te.size → ∀ b x, Fs2 i j b x → b < w.heap.size := by
    intro i j hi hj b x hf
    obtain ⟨ck, hck⟩ : ∃ ck, te.cks[j]? = some ck := ⟨_, List.getElem?_eq_getElem (by omega)⟩
    obtain ⟨u, hu⟩ := (hsrc.rel i j ck hi hck).there b x hf
    exact cellAt_lt hu
  have hzeros : ∀ y : Nat, (match ((#[t, t2] : Array TypeId)[1]? : Option TypeId) with
      | some xType => (do pure ((← underlying xType) matches .int _) : Sem Bool)
      | none => pure false).run P w = .ok false w := by
    intro _
    simp only [List.getElem?_toArray, List.getElem?_cons_succ, List.getElem?_cons_zero, underlying, Sem.run_bind, run_program, Result.andThen_ok, hu2, Sem.run_pure]
  cases hD with
  | @sl et ti' rows _ n c b off vs Fs F hti' hsz' hn hc ha hwf hcell hrel hown hdis hdr hF =>
    rw [hte] at hti'; cases hti'
    simp only [if_true] at hF
    have hown := hown rfl
    have hdis := hdis rfl
    have hdr := hdr rfl
    have hold1 : ∀ i j, i < n → j < te.size → ∀ b x, Fs i j b x → b < w.heap.size := by
      intro i j hi hj b x hf
      obtain ⟨ck, hck⟩ : ∃ ck, te.cks[j]? = some ck := ⟨_, List.getElem?_eq_getElem (by omega)⟩
      obtain ⟨u, hu⟩ := (hrel i j ck hi hck).there b x hf
      exact cellAt_lt hu
    have hsplit : ∀ {i : Nat}, ¬ i < n → i < n + n2 → ∃ q, q < n2 ∧ i = rows.length + q := fun {i} h1 h2 => ⟨i - n, by omega, by omega⟩
    have hcellT1 : ∀ i j, i < n → cellT te.size (rows ++ rows2) i j = cellT te.size rows i j := fun i j hi => cellT_append_left (by omega)
    have hncm : n * te.size ≤ c * te.size := Nat.mul_le_mul_right _ hc
    have hadd : (n + n2) * te.size = n * te.size + n2 * te.size := Nat.add_mul ..
    by_cases hroom : n + n2 ≤ c
    · -- in place
      have hroomk : (n + n2) * te.size ≤ c * te.size := Nat.mul_le_mul_right _ hroom
      have hst : ∃ w', (match a with
          | some y => storeCells (y.add (n * te.size)) news.toArray.toList
          | none => pure ()).run P w = .ok () w' ∧ Turned (Rng b (off + n * te.size) (n2 * te.size)) w w' ∧ (∀ (x : Nat) v, x < n2 * te.size → news[x]? = some v → cellAt w' b (off + n * te.size + x) = some v) ∧
          (∀ b' o', ¬ (b' = b ∧ off + n * te.size ≤ o' ∧ o' < off + n * te.size + n2 * te.size) → cellAt w' b' o' = cellAt w b' o') ∧ (∀ b' o', frozenAt w' b' o' = frozenAt w b' o') := by
        rcases ha with ha | ha
        · subst ha
          obtain ⟨w', s1, s2, s3, s4, s5, s6⟩ := run_storeCells_cells (P := P) (b := b) (o := off + n * te.size) news 0 w hnews1 (fun x hx => by
            rw [hnews_len] at hx
            obtain ⟨v, h1, h2⟩ := hown (n * te.size + x) (by omega)
            exact ⟨v, by rw [← h1]; congr 1; omega, by rw [← h2]; congr 1; omega⟩)
          refine ⟨w', ?_, ?_, ?_, ?_, s5⟩
          · simp only [add_addr]; exact s1
          · rw [hnews_len] at s2; exact s2
          · intro x v _ hx; exact s3 x v hx
          · intro b' o' hn'; rw [hnews_len] at s4; exact s4 b' o' hn'
        · have h0 : n = 0 := by omega
          have h02 : n2 = 0 := by omega
          subst h02
          refine ⟨w, ?_, (Grows.refl w).turned _, fun x v hx => by omega, fun _ _ _ => rfl, fun _ _ => rfl⟩
          cases a <;> simp [news, storeCells]
      obtain ⟨w', s1, s2, s3, s4, s5⟩ := hst
      have hsame : ∀ G : CS, Disj (Rng b off (c * te.size)) G → SameOn w w' G := fun G hd b' o' hg => ⟨s4 b' o' fun e => hd b' o' ⟨e.1, by omega, by omega⟩ hg, s5 b' o'⟩
      have hdj2 : ∀ i j, i < n2 → j < te.size → Disj (Rng b off (c * te.size)) (Fs2 i j) := fun i j hi hj => (hdj i j hi hj).sub (fun b' o' hf => by rw [hF]; exact .inl hf) (Sub.refl _)
      refine ⟨a, c, w', rowF b off c (n + n2) te.size (fun i j => if i < n then Fs i j else Fs2 (i - n) j), ?_, ?_, ?_, ?_⟩
      · simp only [Builtin.append_, List.getElem?_toArray, List.getElem?_cons_zero, List.getElem?_cons_succ, underlying, Sem.run_bind, run_program, Result.andThen_ok, hu1, hu2, Sem.run_pure, hsize, Bool.false_eq_true, if_false, Builtin.lenOf, Sem.run_ite, if_pos hroom, Bool.not_false, if_true, hfirst2]
        cases a with
        | none => simp only [Sem.run_pure] at s1 ⊢; cases s1; simp only [Result.andThen_ok, Sem.run_pure]
        | some y => simp only [Sem.run_bind, s1, Result.andThen_ok, Sem.run_pure]
      · refine ⟨s2.size, fun b' hb hn' => s2.blk b' hb fun x hx => hn' x ?_, fun b' x hb hn' => s2.cel b' x hb fun hx => hn' ?_, s2.os, s2.tape, s2.output⟩
        · rw [hF]; obtain ⟨rfl, y1, y2⟩ := hx; exact .inl ⟨rfl, by omega, by omega⟩
        · rw [hF]; obtain ⟨rfl, y1, y2⟩ := hx; exact .inl ⟨rfl, by omega, by omega⟩
      · refine .sl (b := b) (off := off) (vs := fun i j => if i < n then vs i j else us (i - n) j) (Fs := fun i j => if i < n then Fs i j else Fs2 (i - n) j) hte hsz (by simp [hn, hsrc.len]) hroom ha (wf_append hwf hsrc.wf) ?_ ?_ ?_ ?_ ?_ (by simp)
        · intro i j hi hj
          by_cases h1 : i < n
          · simp only [if_pos h1]
            have hp := place_lt h1 hj
            rw [s4 b _ (by omega)]; exact hcell i j h1 hj
          · simp only [if_neg h1]
            have hp := place_lt (show i - n < n2 by omega) hj
            have hd := place_inj hj hj (i := i - n) (i' := ((i - n) * te.size + j) / te.size)
            have e : ((i - n) * te.size + j) / te.size = i - n := by rw [Nat.add_comm, Nat.add_mul_div_right _ _ hk0, Nat.div_eq_of_lt hj]; omega
            have e2 : ((i - n) * te.size + j) % te.size = j := by rw [Nat.add_comm, Nat.add_mul_mod_self_right, Nat.mod_eq_of_lt hj]
            have := s3 ((i - n) * te.size + j) _ hp (hnews _ hp)
            rw [e, e2] at this
            rw [← this]; congr 1
            have : i * te.size = n * te.size + (i - n) * te.size := by rw [← Nat.add_mul]; congr 1; omega
            omega
        · intro i j ck hi hck
          have hj := List.getD_some_lt hck
          rw [← hsz] at hj
          by_cases h1 : i < n
          · simp only [if_pos h1]
            rw [hcellT1 i j h1]
            exact (hrel i j ck h1 hck).frame (hsame _ (hdr i j h1 hj))
          · simp only [if_neg h1]
            obtain ⟨q, hq1, hq2⟩ := hsplit h1 hi
            rw [hq2, cellT_append_right, show rows.length + q - n = q by omega]
            exact (hsrc.rel q j ck hq1 hck).frame (hsame _ (hdj2 q j hq1 hj))
        · intro _ x hx
          obtain ⟨v, h1, h2⟩ := hown x hx
          by_cases hin : off + n * te.size ≤ off + x ∧ off + x < off + n * te.size + n2 * te.size
          · have := s3 (x - n * te.size) _ (by omega) (hnews _ (by omega))
            exact ⟨_, by rw [← this]; congr 1; omega, by rw [s5]; exact h2⟩
          · exact ⟨v, by rw [s4 b _ (by omega)]; exact h1, by rw [s5]; exact h2⟩
        · intro _ i j i' j' hi hj hi' hj' hne
          by_cases h1 : i < n
          · simp only [if_pos h1]
            by_cases h2 : i' < n
            · simp only [if_pos h2]; exact hdis i j i' j' h1 hj h2 hj' hne
            · simp only [if_neg h2]
              exact (hdj (i' - n) j' (by omega) hj').sub (fun b' o' hf => by rw [hF]; exact .inr ⟨i, j, h1, hj, hf⟩) (Sub.refl _)
          · simp only [if_neg h1]
            by_cases h2 : i' < n
            · simp only [if_pos h2]
              exact ((hdj (i - n) j (by omega) hj).sub (fun b' o' hf => by rw [hF]; exact .inr ⟨i', j', h2, hj', hf⟩) (Sub.refl _)).symm
            · simp only [if_neg h2]
              exact hsrc.dis _ _ _ _ (by omega) hj (by omega) hj' (fun e => hne (by simp at e ⊢; omega))
        · intro _ i j hi hj
          by_cases h1 : i < n
          · simp only [if_pos h1]; exact hdr i j h1 hj
          · simp only [if_neg h1]; exact hdj2 _ _ (by omega) hj
      · rintro b' x (⟨rfl, h1, h2⟩ | ⟨i, j, hi, hj, hf⟩)
        · exact .inl (by rw [hF]; exact .inl ⟨rfl, h1, h2⟩)
        · by_cases h1 : i < n
          · simp only [if_pos h1] at hf; exact .inl (by rw [hF]; exact .inr ⟨i, j, h1, hj, hf⟩)
          · simp only [if_neg h1] at hf; exact .inr (.inr ⟨i - n, j, by omega, hj, hf⟩)
    · -- a new block
      let olds : List Value := (List.range (n * te.size)).map fun q => vs (q / te.size) (q % te.size)
      have holds_len : olds.length = n * te.size := by simp [olds]
      have holds : ∀ q, q < n * te.size → olds[q]? = some (vs (q / te.size) (q % te.size)) := fun q hq => by simp [olds, hq]
      have hfirst1 : (Builtin.firstCells te.size n (.slice a n c)).run P w.drew = .ok olds.toArray w.drew := by
        rcases ha with ha | ha
        · rw [ha]
          refine run_firstCells_cells fun q hq => ?_
          obtain ⟨q1, q2, q3⟩ := cell_split hk0 hq
          have := hcell _ _ q1 q2
          show cellAt w b (off + q) = _
          rw [← this]; congr 1; omega
        · have h0 : n = 0 := by omega
          subst h0
          cases a with
          | none => simp [Builtin.firstCells, olds]
          | some y => simp only [Builtin.firstCells, Nat.zero_mul]; simp [loadCells, loadCellsFrom, olds]
      have hfirst2' : (Builtin.firstCells te.size n2 (.slice a2 n2 c2)).run P w.drew = .ok news.toArray w.drew := by
        rcases ha2 with ha2 | ha2
        · rw [ha2]
          refine run_firstCells_cells fun q hq => ?_
          obtain ⟨q1, q2, q3⟩ := cell_split hk0 hq
          have := hsrc.cell _ _ q1 q2
          show cellAt w b2 (off2 + q) = _
          rw [← this]; congr 1; omega
        · subst ha2
          cases a2 with
          | none => simp [Builtin.firstCells, news]
          | some y => simp only [Builtin.firstCells, Nat.zero_mul]; simp [loadCells, loadCellsFrom, news]
      have hcap := appendCap_ge w (n + n2) c et
      let cells : Array Value := olds.toArray ++ news.toArray ++ Builtin.zeroCells z.cells (grownCap w (n + n2) c et - (n + n2))
      have hzc : z.cells.size = te.size := by
        obtain ⟨z1, _⟩ := zerosAre_get i5
        rw [← Array.length_toList, z1, hsz]
      have hcells_size : cells.size = grownCap w (n + n2) c et * te.size := by
        simp only [cells, Array.size_append, List.size_toArray, holds_len, hnews_len, Builtin.zeroCells, Array.size_map, Array.size_range, hzc]
        rw [← hadd, ← Nat.add_mul]; congr 1; omega
      have hc1 : ∀ q, q < n * te.size → cells[q]? = some (vs (q / te.size) (q % te.size)) := by
        intro q hq
        simp only [cells]
        rw [Array.getElem?_append_left (by simp [holds_len]; omega), Array.getElem?_append_left (by simp [holds_len]; omega)]
        simpa using holds q hq
      have hc2 : ∀ q, q < n2 * te.size → cells[n * te.size + q]? = some (us (q / te.size) (q % te.size)) := by
        intro q hq
        simp only [cells]
        rw [Array.getElem?_append_left (by simp [holds_len, hnews_len]; omega), Array.getElem?_append_right (by simp [holds_len])]
        simp only [List.size_toArray, holds_len]
        rw [show n * te.size + q - n * te.size = q by omega]
        simpa using hnews q hq
      have hgrow : Grows w (w.drew.alloc (.cells cells et)) := (Grows.drew w).trans (Grows.push w.drew _)
      have hnew : w.drew.heap.size = w.heap.size := rfl
      have hfit := growslice_fits (need := n + n2) (old := c) (bytes := te.bytes) (by omega) hlim
      refine ⟨some ⟨w.heap.size, 0, none⟩, grownCap w (n + n2) c et, w.drew.alloc (.cells cells et), rowF w.heap.size 0 (grownCap w (n + n2) c et) (n + n2) te.size (fun i j => if i < n then Fs i j else Fs2 (i - n) j), ?_, hgrow.turned _, ?_, ?_⟩
      · have hb1 : ¬ ((((n + n2 : Nat) : Int) > IntKind.i64.max) ∧ ((false = true) ∨ te.bytes = 0)) := by
          rintro ⟨_, h | h⟩
          · cases h
          · omega
        have hb2 : ¬ (Builtin.nextslicecap (n + n2) c * te.bytes > 2 ^ 48) := by
          have : (2 : Nat) ^ 48 = 281474976710656 := by decide
          omega
        have htinfo : ∀ w1 : World, (typeInfo et).run P w1 = .ok inf w1 := fun w1 => by
          simp only [typeInfo, Sem.run_bind, run_program, Result.andThen_ok, i1, Sem.run_pure]
        have hzv : ∀ w1 : World, (zeroValue et).run P w1 = .ok z w1 := fun w1 => by
          simp only [zeroValue, Sem.run_bind, htinfo, Result.andThen_ok, i4, Sem.run_pure]
        simp only [Builtin.append_, List.getElem?_toArray, List.getElem?_cons_zero, List.getElem?_cons_succ, underlying, Sem.run_bind, run_program, Result.andThen_ok, hu1, hu2, Sem.run_pure, hsize, Bool.false_eq_true, if_false, Builtin.lenOf, Sem.run_ite, if_neg hroom, htinfo, i3]
        rw [if_neg (by simpa using hb1)]
        rw [if_neg hb2]
        have hw : ({ w with drawn := w.drawn + 1 } : World) = w.drew := rfl
        simp only [Sem.run_bind, run_choose, Question.forced, Bool.false_eq_true, if_false, Result.andThen_ok, htinfo, run_askRoom, hw, hfirst1, Bool.not_false, if_true, hfirst2', hzv, newRow, run_newObj, Sem.run_pure]
        rfl
      · refine .sl (b := w.heap.size) (off := 0) (vs := fun i j => if i < n then vs i j else us (i - n) j) (Fs := fun i j => if i < n then Fs i j else Fs2 (i - n) j) hte hsz (by simp [hn, hsrc.len]) hcap (.inl rfl) (wf_append hwf hsrc.wf) ?_ ?_ ?_ ?_ ?_ (by simp)
        · intro i j hi hj
          rw [← hnew, cellAt_new]
          by_cases h1 : i < n
          · simp only [if_pos h1]
            have hp := place_lt h1 hj
            have e : (i * te.size + j) / te.size = i := by rw [Nat.add_comm, Nat.add_mul_div_right _ _ hk0, Nat.div_eq_of_lt hj]; omega
            have e2 : (i * te.size + j) % te.size = j := by rw [Nat.add_comm, Nat.add_mul_mod_self_right, Nat.mod_eq_of_lt hj]
            rw [Nat.zero_add, hc1 _ hp, e, e2]
          · simp only [if_neg h1]
            have hp := place_lt (show i - n < n2 by omega) hj
            have e : ((i - n) * te.size + j) / te.size = i - n := by rw [Nat.add_comm, Nat.add_mul_div_right _ _ hk0, Nat.div_eq_of_lt hj]; omega
            have e2 : ((i - n) * te.size + j) % te.size = j := by rw [Nat.add_comm, Nat.add_mul_mod_self_right, Nat.mod_eq_of_lt hj]
            have e3 : 0 + i * te.size + j = n * te.size + ((i - n) * te.size + j) := by
              have : i * te.size = n * te.size + (i - n) * te.size := by rw [← Nat.add_mul]; congr 1; omega
              omega
            rw [e3, hc2 _ hp, e, e2]
        · intro i j ck hi hck
          have hj := List.getD_some_lt hck
          rw [← hsz] at hj
          by_cases h1 : i < n
          · simp only [if_pos h1]
            rw [hcellT1 i j h1]
            exact (hrel i j ck h1 hck).frame (hgrow.same (hold1 i j h1 hj))
          · simp only [if_neg h1]
            obtain ⟨q, hq1, hq2⟩ := hsplit h1 hi
            rw [hq2, cellT_append_right, show rows.length + q - n = q by omega]
            exact (hsrc.rel q j ck hq1 hck).frame (hgrow.same (hold2 q j hq1 hj))
        · intro _ x hx
          refine ⟨cells[x]'(by omega), ?_, by rw [← hnew]; exact frozenAt_new ..⟩
          rw [← hnew, cellAt_new, Nat.zero_add, Array.getElem?_eq_getElem (by omega)]
        · intro _ i j i' j' hi hj hi' hj' hne
          by_cases h1 : i < n
          · simp only [if_pos h1]
            by_cases h2 : i' < n
            · simp only [if_pos h2]; exact hdis i j i' j' h1 hj h2 hj' hne
            · simp only [if_neg h2]
              exact (hdj (i' - n) j' (by omega) hj').sub (fun b' o' hf => by rw [hF]; exact .inr ⟨i, j, h1, hj, hf⟩) (Sub.refl _)
          · simp only [if_neg h1]
            by_cases h2 : i' < n
            · simp only [if_pos h2]
              exact ((hdj (i - n) j (by omega) hj).sub (fun b' o' hf => by rw [hF]; exact .inr ⟨i', j', h2, hj', hf⟩) (Sub.refl _)).symm
            · simp only [if_neg h2]
              exact hsrc.dis _ _ _ _ (by omega) hj (by omega) hj' (fun e => hne (by simp at e ⊢; omega))
        · rintro _ i j hi hj b' x ⟨rfl, _, _⟩ hf
          by_cases h1 : i < n
          · simp only [if_pos h1] at hf; exact absurd (hold1 i j h1 hj _ _ hf) (by omega)
          · simp only [if_neg h1] at hf; exact absurd (hold2 _ j (by omega) hj _ _ hf) (by omega)
      · rintro b' x (⟨rfl, h1, h2⟩ | ⟨i, j, hi, hj, hf⟩)
        · exact .inr (.inl (Nat.le_refl _))
        · by_cases h1 : i < n
          · simp only [if_pos h1] at hf; exact .inl (by rw [hF]; exact .inr ⟨i, j, h1, hj, hf⟩)
          · simp only [if_neg h1] at hf; exact .inr (.inr ⟨i - n, j, by omega, hj, hf⟩)
end
end Gp
