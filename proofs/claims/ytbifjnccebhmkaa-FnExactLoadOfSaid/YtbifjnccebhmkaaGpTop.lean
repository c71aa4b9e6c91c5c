/- Gp, part 32: what comes in at a law's entry, as data. -/
import Derived.Test.YtbifjnccebhmkaaGpCtl5
import Derived.ChangeSlices
set_option linter.unusedVariables false
set_option linter.unusedSimpArgs false
namespace Gp
open Go

/-- Data as they come in: numbers in their ranges, rows of such. -/
inductive WfD (tab : Tab) : CK → T → Prop where
  | int {k n} : (Lit.int k n).wf = true → WfD tab (.int k) (.int n)
  | bool {b} : WfD tab .bool (.bool b)
  | str {s : ByteArray} : s.size ≤ Go.maxLen → WfD tab .str (.str s)
  | sl {et : TypeId} {ti : TI} {rows : List T} : tab.get et = some ti → rows.length ≤ Go.maxLen → WfRows ti.size rows → (∀ i j ck, i < rows.length → ti.cks[j]? = some ck → WfD tab ck (cellT ti.size rows i j)) → WfD tab (.sl et) (.list rows)

def fieldsTile (tab : Tab) : Nat → List (Nat × TypeId) → Option Nat
  | n, [] => some n
  | n, (off, t) :: fs => match tab.get t with
    | some ti => if Nat.beq off n then fieldsTile tab (n + ti.size) fs else none
    | none => none
/-- Types whose data can be told: numbers, bools, strings, slices and structs of such. -/
def goodT (tab : Tab) : Nat → TypeId → Bool
  | 0, _ => false
  | n + 1, t => match tab.get t with
    | some ti => match ti.td with
      | .int _ | .bool | .str => true
      | .slice e => goodT tab n e && (match tab.get e with | some te => Nat.blt 0 te.size | none => false)
      | .struct fs => fs.all (fun f => goodT tab n f.2) && fieldsTile tab 0 fs == some ti.size
      | _ => false
    | none => false

section
variable {H : Type} {enc : TypeId × Value → H} {P : Program} {tab : Tab} {w : World} {base : Nat} {spare : Nat → Bool} {held : Bool}

theorem cellsOf_tab (hT : TabOk P tab) {t : TypeId} {ti : TI} (h : tab.get t = some ti) : P.cellsOf t = ti.size := by
  obtain ⟨i, z, h1, h2, _⟩ := (hT t ti h).inf
  simp [Program.cellsOf, h1, h2]

theorem tile_find : ∀ {fs : List (Nat × TypeId)} {n m : Nat}, fieldsTile tab n fs = some m → n ≤ m ∧ ∀ j, n ≤ j → j < m → ∃ (i : Nat) (off : Nat) (t : TypeId) (ti : TI), fs[i]? = some (off, t) ∧ tab.get t = some ti ∧ off ≤ j ∧ j < off + ti.size
  | [], n, m, h => by cases h; exact ⟨Nat.le_refl _, fun j h1 h2 => by omega⟩
  | (off, t) :: fs, n, m, h => by
    simp only [fieldsTile] at h
    split at h
    case h_2 => cases h
    rename_i ti hti
    split at h
    case isFalse => cases h
    rename_i he
    have he := Nat.eq_of_beq_eq_true he
    subst he
    obtain ⟨h1, h2⟩ := tile_find h
    refine ⟨by omega, fun j h3 h4 => ?_⟩
    by_cases hlt : j < off + ti.size
    · exact ⟨0, off, t, ti, rfl, hti, h3, hlt⟩
    · obtain ⟨i, off', t', ti', q1, q2⟩ := h2 j (by omega) h4
      exact ⟨i + 1, off', t', ti', by simpa using q1, q2⟩

theorem trod_drel (hT : TabOk P tab) (hsp : ∀ b, spare b = true) : ∀ (n m : Nat) {t : TypeId} {ti : TI} {cs : List Value} {x : DataW H × List MemPlace}, goodT tab m t = true → tab.get t = some ti → DataW.trod enc P w base spare held n t cs = some x →
    cs.length = ti.size ∧ ∀ (j : Nat) ck, ti.cks[j]? = some ck → ∃ v d F, cs[j]? = some v ∧ DRel tab w false ck v d F ∧ WfD tab ck d := by
  intro n
  induction n with
  | zero => intro m t ti cs x _ _ h; simp [DataW.trod] at h
  | succ n ih =>
    intro m t ti cs x hg hti h
    cases m with
    | zero => cases hg
    | succ m =>
      obtain ⟨d, hd1, hd2, hd3⟩ := (hT t ti hti).und
      have hck := (hT t ti hti).cks
      have hlen := (hT t ti hti).len
      simp only [goodT, hti] at hg
      cases htd : ti.td with
      | int k =>
        rw [htd] at hd2; cases d <;> simp [tdChk] at hd2
        subst hd2
        obtain ⟨i, rfl, rfl, hw⟩ := DataW.trod_int hd1 h
        simp only [cksOf, htd, beq_iff_eq] at hck
        rw [hlen, hck]
        refine ⟨rfl, fun j ck hj => ?_⟩
        cases j with
        | zero => simp at hj; subst hj; exact ⟨_, _, _, rfl, .int, .int hw⟩
        | succ j => simp at hj
      | bool =>
        rw [htd] at hd2; cases d <;> simp [tdChk] at hd2
        obtain ⟨i, rfl, rfl⟩ := DataW.trod_bool hd1 h
        simp only [cksOf, htd, beq_iff_eq] at hck
        rw [hlen, hck]
        refine ⟨rfl, fun j ck hj => ?_⟩
        cases j with
        | zero => simp at hj; subst hj; exact ⟨_, _, _, rfl, .bool, .bool⟩
        | succ j => simp at hj
      | str =>
        rw [htd] at hd2; cases d <;> simp [tdChk] at hd2
        obtain ⟨i, rfl, rfl, hw⟩ := DataW.trod_string hd1 h
        simp only [cksOf, htd, beq_iff_eq] at hck
        rw [hlen, hck]
        refine ⟨rfl, fun j ck hj => ?_⟩
        cases j with
        | zero => simp at hj; subst hj; exact ⟨_, _, _, rfl, .str, .str hw⟩
        | succ j => simp at hj
      | slice e =>
        rw [htd] at hd2 hg; cases d <;> simp [tdChk] at hd2
        subst hd2
        simp only [Bool.and_eq_true] at hg
        obtain ⟨hg1, hg2⟩ := hg
        cases hte : tab.get e with
        | none => rw [hte] at hg2; cases hg2
        | some te =>
          rw [hte] at hg2
          have hk0 : 0 < te.size := Nat.le_of_ble_eq_true hg2
          have htsz := (hT e te hte).len
          simp only [cksOf, htd, beq_iff_eq] at hck
          rw [hlen, hck]
          have hce := cellsOf_tab hT hte
          rcases DataW.trod_slice hd1 h with ⟨rfl, _⟩ | ⟨a, len, cap, elems, rest, n', hn, rfl, rfl, hb, hl, hm, hel, hc, hs, hns⟩
          · refine ⟨rfl, fun j ck hj => ?_⟩
            cases j with
            | zero => simp at hj; subst hj; exact ⟨_, _, _, rfl, DRel.nil hT hte, .sl hte (by simp [Go.maxLen]) (fun _ i hi => by simp at hi) fun i j ck hi => by simp at hi⟩
            | succ j => simp at hj
          · have hn' : n' = n := by omega
            subst hn'
            refine ⟨rfl, fun j ck hj => ?_⟩
            cases j with
            | succ j => simp at hj
            | zero =>
              simp at hj; subst hj
              -- one element
              have each : ∀ i, i < len → ∃ csi xi, w.cells? base (a.add (i * te.size)) te.size = some csi ∧ DataW.trod enc P w base spare held n' e csi = some xi := by
                intro i hi
                have := hc i hi
                rw [hce] at this
                obtain ⟨y, hy⟩ : ∃ y, elems[i]? = some y := ⟨_, List.getElem?_eq_getElem (by omega)⟩
                rw [hy] at this
                cases hq : w.cells? base (a.add (i * te.size)) te.size with
                | none => rw [hq] at this; cases this
                | some csi => rw [hq] at this; exact ⟨csi, y, rfl, this⟩
              have hcell0 : ∀ y, w.cells? base y te.size ≠ none → w.cell? y ≠ none := by
                intro y hy
                cases hq : w.cells? base y te.size with
                | none => exact absurd hq hy
                | some csi =>
                  obtain ⟨_, q2, q3⟩ := World.cells?_some hq
                  have := q3 0 hk0
                  rw [show y.add 0 = y from by simp [Addr.add]] at this
                  rw [this, List.getElem?_eq_getElem (by omega)]; simp
              have hspot : cap = 0 ∨ a.spot = none := by
                by_cases h0 : cap = 0
                · exact .inl h0
                · right
                  have hc0 : w.cell? a ≠ none := by
                    by_cases hl0 : 0 < len
                    · obtain ⟨csi, xi, q1, _⟩ := each 0 hl0
                      rw [Nat.zero_mul, show a.add 0 = a from by simp [Addr.add]] at q1
                      exact hcell0 a (by rw [q1]; simp)
                    · have h00 : len = 0 := by omega
                      subst h00
                      obtain ⟨q1, q2⟩ := hs (hsp _)
                      have := q2 0 (by omega)
                      rw [hce] at this
                      rw [show (0 + 0) * te.size = 0 by simp, show a.add 0 = a from by simp [Addr.add]] at this
                      refine hcell0 a fun hnone => ?_
                      rw [hnone] at this
                      rw [List.getElem?_eq_getElem (by omega)] at this
                      cases this
                  cases hq : w.cell? a with
                  | none => exact absurd hq hc0
                  | some v => exact World.cell?_spot hq
              -- the elements' cells and data
              have hdat : ∀ i j, ∃ v d F, i < len → j < te.size → cellAt w a.block (a.off + i * te.size + j) = some v ∧ ∀ ck, te.cks[j]? = some ck → DRel tab w false ck v d F ∧ WfD tab ck d := by
                intro i j
                by_cases hij : i < len ∧ j < te.size
                · obtain ⟨hi, hj⟩ := hij
                  obtain ⟨csi, xi, q1, q2⟩ := each i hi
                  obtain ⟨r1, r2⟩ := ih m hg1 hte q2
                  obtain ⟨ck, hck2⟩ : ∃ ck, te.cks[j]? = some ck := ⟨_, List.getElem?_eq_getElem (by omega)⟩
                  obtain ⟨v, d, F, s1, s2, s3⟩ := r2 j ck hck2
                  obtain ⟨_, q4, q5⟩ := World.cells?_some q1
                  have hsa : a.spot = none := by
                    rcases hspot with h0 | h0
                    · omega
                    · exact h0
                  refine ⟨v, d, F, fun _ _ => ⟨?_, fun ck' hck' => by rw [hck2] at hck'; cases hck'; exact ⟨s2, s3⟩⟩⟩
                  have := q5 j hj
                  rw [s1] at this
                  rw [← this]
                  unfold cellAt
                  congr 1
                  obtain ⟨b, off, sp⟩ := a
                  simp only at hsa; subst hsa
                  unfold Addr.add
                  split <;> split <;> simp_all <;> omega
                · exact ⟨undef, .hole, Emp, fun hi hj => absurd ⟨hi, hj⟩ hij⟩
              let vs : Nat → Nat → Value := fun i j => Classical.choose (hdat i j)
              let ds : Nat → Nat → T := fun i j => Classical.choose (Classical.choose_spec (hdat i j))
              let Fs : Nat → Nat → CS := fun i j => Classical.choose (Classical.choose_spec (Classical.choose_spec (hdat i j)))
              have hall : ∀ i j, i < len → j < te.size → cellAt w a.block (a.off + i * te.size + j) = some (vs i j) ∧ ∀ ck, te.cks[j]? = some ck → DRel tab w false ck (vs i j) (ds i j) (Fs i j) ∧ WfD tab ck (ds i j) :=
                fun i j => Classical.choose_spec (Classical.choose_spec (Classical.choose_spec (hdat i j)))
              let rows : List T := (List.range len).map fun i => if te.size = 1 then ds i 0 else .list ((List.range te.size).map (ds i))
              have hrl : rows.length = len := by simp [rows]
              have hrow : ∀ i, i < len → rows.getD i .hole = if te.size = 1 then ds i 0 else .list ((List.range te.size).map (ds i)) := by
                intro i hi
                simp [rows, List.getD_eq_getElem?_getD, hi]
              have hct : ∀ i j, i < len → j < te.size → cellT te.size rows i j = ds i j := by
                intro i j hi hj
                unfold cellT
                by_cases hk1 : te.size = 1
                · rw [if_pos hk1, hrow i hi, if_pos hk1]
                  have : j = 0 := by omega
                  rw [this]
                · rw [if_neg hk1, hrow i hi, if_neg hk1]
                  simp [T.cell, List.getD_eq_getElem?_getD, hj]
              have hwf : WfRows te.size rows := by
                intro hk1 i hi
                rw [hrl] at hi
                refine ⟨(List.range te.size).map (ds i), ?_, by simp⟩
                simp [rows, hi, hk1]
              refine ⟨.slice (some a) len cap, .list rows, _, rfl, .sl (b := a.block) (off := a.off) (vs := vs) (Fs := Fs) hte htsz hrl hl ?_ hwf (fun i j hi hj => (hall i j hi hj).1) (fun i j ck hi hck2 => ?_) (fun hh => by cases hh) (fun hh => by cases hh) (fun hh => by cases hh) rfl, .sl hte (by omega) hwf fun i j ck hi hck2 => ?_⟩
              · rcases hspot with h0 | h0
                · exact .inr h0
                · left
                  obtain ⟨b, off, sp⟩ := a
                  simp only at h0; subst h0; rfl
              · have hj := List.getD_some_lt hck2
                rw [← htsz] at hj
                rw [hct i j hi hj]
                exact ((hall i j hi hj).2 ck hck2).1
              · rw [hrl] at hi
                have hj := List.getD_some_lt hck2
                rw [← htsz] at hj
                rw [hct i j hi hj]
                exact ((hall i j hi hj).2 ck hck2).2
      | struct fs =>
        rw [htd] at hd2 hg; cases d <;> simp [tdChk] at hd2
        rename_i gs
        simp only [Bool.and_eq_true, List.all_eq_true, beq_iff_eq] at hg
        obtain ⟨hg1, hg2⟩ := hg
        obtain ⟨xs, n', hn, rfl, hcl, hxl, hx⟩ := DataW.trod_struct hd1 h
        have hn' : n' = n := by omega
        subst hn'
        rw [cellsOf_tab hT hti] at hcl
        refine ⟨hcl, fun j ck hj => ?_⟩
        have hjl := List.getD_some_lt hj
        rw [← hlen] at hjl
        obtain ⟨i, off, t', tj, f1, f2, f3, f4⟩ := (tile_find hg2).2 j (Nat.zero_le _) hjl
        simp only [cksOf, htd, List.all_eq_true] at hck
        have hcj := hck (off, t') (List.mem_of_getElem? f1)
        simp only [f2, Bool.and_eq_true, beq_iff_eq] at hcj
        obtain ⟨⟨c1, c2⟩, c3⟩ := hcj
        have c2 := Nat.le_of_ble_eq_true c2
        have hgf := hg1 (off, t') (List.mem_of_getElem? f1)
        rw [hd2, List.getElem?_map] at f1
        cases hq : gs.toList[i]? with
        | none => rw [hq] at f1; cases f1
        | some f =>
          rw [hq] at f1
          simp only [Option.map_some, Option.some.injEq, Prod.mk.injEq] at f1
          obtain ⟨rfl, rfl⟩ := f1
          have hxf := hx i f (by simpa using hq)
          rw [cellsOf_tab hT f2] at hxf
          obtain ⟨y, hy⟩ : ∃ y, xs[i]? = some y := by
            refine ⟨_, List.getElem?_eq_getElem ?_⟩
            have := List.getD_some_lt hq
            simp at this
            omega
          rw [hy] at hxf
          obtain ⟨r1, r2⟩ := ih m hgf f2 hxf
          have hck3 : tj.cks[j - f.offset]? = some ck := by
            rw [← c1, List.getElem?_take_of_lt (by omega), List.getElem?_drop, show f.offset + (j - f.offset) = j by omega]; exact hj
          obtain ⟨v, d, F, s1, s2, s3⟩ := r2 _ ck hck3
          refine ⟨v, d, F, ?_, s2, s3⟩
          rw [List.getElem?_take_of_lt (by omega), List.getElem?_drop, show f.offset + (j - f.offset) = j by omega] at s1
          exact s1
      | array => rw [htd] at hg; cases hg
      | ptr => rw [htd] at hg; cases hg
      | mp => rw [htd] at hg; cases hg
      | other => rw [htd] at hg; cases hg
end
end Gp
