/- Gp, part 2: how data lie in the Go model's memory: headers of slices, rows of cells, what is owned. -/
import Derived.Test.YtbifjnccebhmkaaGpData
import Derived.Laws.World
import Derived.Laws.Rows
set_option linter.unusedVariables false
set_option linter.unusedSimpArgs false
namespace Gp
open Go

/-- The kind of one cell. -/
inductive CK where
  | int (k : IntKind) | bool | str | sl (et : TypeId) | ptr | fnc | mp | other
  deriving DecidableEq, Repr, Inhabited

/-- A type's make. -/
inductive TD where
  | int (k : IntKind) | bool | str | slice (e : TypeId) | array (n : Nat) (e : TypeId) | struct (fs : List (Nat × TypeId)) | ptr (e : TypeId) | mp (k v : TypeId) | other
  deriving Repr, Inhabited

structure TI where
  td : TD
  size : Nat
  bytes : Nat
  agg : Bool
  cks : List CK
  deriving Repr, Inhabited

abbrev Tab := List (Option TI)
def Tab.get (tab : Tab) (t : TypeId) : Option TI := (tab[t]?).join

/-- Sets of cells. -/
abbrev CS := Nat → Nat → Prop
def Emp : CS := fun _ _ => False
def Disj (F G : CS) : Prop := ∀ b o, F b o → G b o → False
def Sub (F G : CS) : Prop := ∀ b o, F b o → G b o
theorem Disj.symm {F G : CS} (h : Disj F G) : Disj G F := fun b o x y => h b o y x
theorem Disj.sub {F G F' G' : CS} (h : Disj F G) (hF : Sub F' F) (hG : Sub G' G) : Disj F' G' := fun b o x y => h b o (hF b o x) (hG b o y)
theorem Sub.refl (F : CS) : Sub F F := fun _ _ h => h
theorem Sub.trans {F G H : CS} (h : Sub F G) (k : Sub G H) : Sub F H := fun b o x => k b o (h b o x)
def Rng (b off n : Nat) : CS := fun b' o' => b' = b ∧ off ≤ o' ∧ o' < off + n

def cellAt (w : World) (b o : Nat) : Option Value := w.cell? ⟨b, o, none⟩
def frozenAt (w : World) (b o : Nat) : Bool := w.frozen? ⟨b, o, none⟩
def SameAt (w w' : World) (b o : Nat) : Prop := cellAt w' b o = cellAt w b o ∧ frozenAt w' b o = frozenAt w b o
def SameOn (w w' : World) (F : CS) : Prop := ∀ b o, F b o → SameAt w w' b o
theorem SameOn.refl (w : World) (F : CS) : SameOn w w F := fun _ _ _ => ⟨rfl, rfl⟩
theorem SameOn.sub {w w' : World} {F G : CS} (h : SameOn w w' G) (s : Sub F G) : SameOn w w' F := fun b o x => h b o (s b o x)
theorem SameOn.trans {w w' w'' : World} {F : CS} (h : SameOn w w' F) (k : SameOn w' w'' F) : SameOn w w'' F :=
  fun b o x => ⟨(k b o x).1.trans (h b o x).1, (k b o x).2.trans (h b o x).2⟩

def cellT (k : Nat) (rows : List T) (i j : Nat) : T := if k = 1 then rows.getD i .hole else (rows.getD i .hole).cell j
def WfRows (k : Nat) (rows : List T) : Prop := k ≠ 1 → ∀ i, i < rows.length → ∃ l, rows[i]? = some (.list l) ∧ l.length = k

/-- What a row's cells take in all: its own range, and what its nested rows take. -/
def rowF (b off m n k : Nat) (Fs : Nat → Nat → CS) : CS := fun b' o' => Rng b off (m * k) b' o' ∨ ∃ i j, i < n ∧ j < k ∧ Fs i j b' o'

/-- A cell's value tells a datum. 'dp': whatever it leads to is owned, each cell by one owner; else it is read alone. 'F': the cells that it leads to. -/
inductive DRel (tab : Tab) (w : World) : Bool → CK → Value → T → CS → Prop where
  | int {dp k n} : DRel tab w dp (.int k) (.int k n) (.int n) Emp
  | bool {dp b} : DRel tab w dp .bool (.bool b) (.bool b) Emp
  | str {dp s} : DRel tab w dp .str (.string s) (.str s) Emp
  | hole {dp et a n c} : DRel tab w dp (.sl et) (.slice a n c) .hole Emp
  | sl {dp : Bool} {et : TypeId} {ti : TI} {rows : List T} {a : Option Addr} {n c b off : Nat} {vs : Nat → Nat → Value} {Fs : Nat → Nat → CS} {F : CS}
      (hti : tab.get et = some ti) (hsz : ti.size = ti.cks.length) (hn : rows.length = n) (hc : n ≤ c) (ha : a = some ⟨b, off, none⟩ ∨ c = 0)
      (hwf : WfRows ti.size rows)
      (hcell : ∀ i j, i < n → j < ti.size → cellAt w b (off + i * ti.size + j) = some (vs i j))
      (hrel : ∀ i j ck, i < n → ti.cks[j]? = some ck → DRel tab w dp ck (vs i j) (cellT ti.size rows i j) (Fs i j))
      (hown : dp = true → ∀ x, x < c * ti.size → ∃ v, cellAt w b (off + x) = some v ∧ frozenAt w b (off + x) = false)
      (hdis : dp = true → ∀ i j i' j', i < n → j < ti.size → i' < n → j' < ti.size → (i, j) ≠ (i', j') → Disj (Fs i j) (Fs i' j'))
      (hdr : dp = true → ∀ i j, i < n → j < ti.size → Disj (Rng b off (c * ti.size)) (Fs i j))
      (hF : F = rowF b off (if dp then c else n) n ti.size Fs) :
      DRel tab w dp (.sl et) (.slice a n c) (.list rows) F

/-- Two cells of one row lie at one place only if they are one. -/
theorem place_inj {k i j i' j' : Nat} (hj : j < k) (hj' : j' < k) (h : i * k + j = i' * k + j') : i = i' ∧ j = j' := by
  have h1 : i = i' := by
    rcases Nat.lt_trichotomy i i' with hlt | heq | hgt
    · have : (i + 1) * k ≤ i' * k := Nat.mul_le_mul_right k hlt
      rw [Nat.add_mul] at this; omega
    · exact heq
    · have : (i' + 1) * k ≤ i * k := Nat.mul_le_mul_right k hgt
      rw [Nat.add_mul] at this; omega
  subst h1
  exact ⟨rfl, by omega⟩
theorem place_lt {k i j n : Nat} (hi : i < n) (hj : j < k) : i * k + j < n * k := by
  have : (i + 1) * k ≤ n * k := Nat.mul_le_mul_right k hi
  rw [Nat.add_mul] at this; omega

variable {tab : Tab}

/-- What is told stands as long as the cells that it leads to stand. -/
theorem DRel.frame {w w' : World} {dp : Bool} {ck : CK} {v : Value} {t : T} {F : CS} (h : DRel tab w dp ck v t F) (s : SameOn w w' F) : DRel tab w' dp ck v t F := by
  induction h with
  | int => exact .int
  | bool => exact .bool
  | str => exact .str
  | hole => exact .hole
  | @sl et ti rows a n c b off vs Fs F hti hsz hn hc ha hwf hcell hrel hown hdis hdr hF ih =>
    subst hF
    have hle : n * ti.size ≤ (if dp then c else n) * ti.size := Nat.mul_le_mul_right _ (by split <;> omega)
    refine .sl (vs := vs) (Fs := Fs) hti hsz hn hc ha hwf ?_ ?_ ?_ hdis hdr rfl
    · intro i j hi hj
      have hp := place_lt hi hj
      rw [(s b _ (.inl ⟨rfl, by omega, by omega⟩)).1]; exact hcell i j hi hj
    · intro i j ck hi hck
      have hj : j < ti.size := by
        have := (List.getElem?_eq_some_iff.1 hck).1
        omega
      exact ih i j ck hi hck (s.sub fun b' o' hf => .inr ⟨i, j, hi, hj, hf⟩)
    · intro hd x hx
      obtain ⟨v, h1, h3⟩ := hown hd x hx
      have hs := s b (off + x) (.inl ⟨rfl, by omega, by rw [hd]; simpa using hx⟩)
      exact ⟨v, hs.1.trans h1, hs.2.trans h3⟩

/-- The cells that a datum leads to are there. -/
theorem DRel.there {w : World} {dp : Bool} {ck : CK} {v : Value} {t : T} {F : CS} (h : DRel tab w dp ck v t F) : ∀ b o, F b o → ∃ u, cellAt w b o = some u := by
  induction h with
  | int => exact fun _ _ h => h.elim
  | bool => exact fun _ _ h => h.elim
  | str => exact fun _ _ h => h.elim
  | hole => exact fun _ _ h => h.elim
  | @sl et ti rows a n c b off vs Fs F hti hsz hn hc ha hwf hcell hrel hown hdis hdr hF ih =>
    subst hF
    rintro b' o' (⟨rfl, h1, h2⟩ | ⟨i, j, hi, hj, hf⟩)
    · cases dp with
      | true =>
        obtain ⟨v, hv, _⟩ := hown rfl (o' - off) (by simp at h2; omega)
        exact ⟨v, by rw [← hv]; congr 1; omega⟩
      | false =>
        simp at h2
        have hk : 0 < ti.size := by
          rcases Nat.eq_zero_or_pos ti.size with h | h
          · rw [h] at h2; omega
          · exact h
        refine ⟨vs ((o' - off) / ti.size) ((o' - off) % ti.size), ?_⟩
        have h3 := hcell ((o' - off) / ti.size) ((o' - off) % ti.size) ((Nat.div_lt_iff_lt_mul hk).2 (by omega)) (Nat.mod_lt _ hk)
        rw [← h3]; congr 1
        have := Nat.div_add_mod (o' - off) ti.size
        rw [Nat.mul_comm] at this; omega
    · obtain ⟨ck, hck⟩ : ∃ ck, ti.cks[j]? = some ck := ⟨_, List.getElem?_eq_getElem (by omega)⟩
      exact ih i j ck hi hck b' o' hf

theorem cellAt_lt {w : World} {b o : Nat} {v : Value} (h : cellAt w b o = some v) : b < w.heap.size := block_lt_of_cell h

/-- Owned memory may be taken for memory that is read alone. -/
theorem DRel.share {w : World} {dp : Bool} {ck : CK} {v : Value} {t : T} {F : CS} (h : DRel tab w dp ck v t F) : ∃ F', Sub F' F ∧ DRel tab w false ck v t F' := by
  induction h with
  | int => exact ⟨_, Sub.refl _, .int⟩
  | bool => exact ⟨_, Sub.refl _, .bool⟩
  | str => exact ⟨_, Sub.refl _, .str⟩
  | hole => exact ⟨_, Sub.refl _, .hole⟩
  | @sl et ti rows a n c b off vs Fs F hti hsz hn hc ha hwf hcell hrel hown hdis hdr hF ih =>
    subst hF
    have hle : n * ti.size ≤ (if dp then c else n) * ti.size := Nat.mul_le_mul_right _ (by split <;> omega)
    have hch : ∀ i j, ∃ F', i < n → j < ti.size → Sub F' (Fs i j) ∧ ∀ ck, ti.cks[j]? = some ck → DRel tab w false ck (vs i j) (cellT ti.size rows i j) F' := by
      intro i j
      by_cases hij : i < n ∧ j < ti.size
      · obtain ⟨hi, hj⟩ := hij
        obtain ⟨ck, hck⟩ : ∃ ck, ti.cks[j]? = some ck := ⟨_, List.getElem?_eq_getElem (by omega)⟩
        obtain ⟨F', h1, h2⟩ := ih i j ck hi hck
        refine ⟨F', fun _ _ => ⟨h1, fun ck' hck' => ?_⟩⟩
        rw [hck] at hck'; cases hck'; exact h2
      · exact ⟨Emp, fun hi hj => absurd ⟨hi, hj⟩ hij⟩
    let G : Nat → Nat → CS := fun i j => Classical.choose (hch i j)
    have hG : ∀ i j, i < n → j < ti.size → Sub (G i j) (Fs i j) ∧ ∀ ck, ti.cks[j]? = some ck → DRel tab w false ck (vs i j) (cellT ti.size rows i j) (G i j) :=
      fun i j => Classical.choose_spec (hch i j)
    refine ⟨rowF b off n n ti.size G, ?_, .sl (Fs := G) hti hsz hn hc ha hwf hcell ?_ (fun h => by cases h) (fun h => by cases h) (fun h => by cases h) rfl⟩
    · rintro b' o' (⟨rfl, h1, h2⟩ | ⟨i, j, hi, hj, hf⟩)
      · exact .inl ⟨rfl, h1, by omega⟩
      · exact .inr ⟨i, j, hi, hj, (hG i j hi hj).1 _ _ hf⟩
    · intro i j ck hi hck
      have hj : j < ti.size := by
        have := (List.getElem?_eq_some_iff.1 hck).1
        omega
      exact (hG i j hi hj).2 ck hck

def setT (k : Nat) (rows : List T) (i j : Nat) (t : T) : List T := if k = 1 then rows.set i t else rows.set i ((rows.getD i .hole).setC j t)
theorem setT_length {k : Nat} {rows : List T} {i j : Nat} {t : T} : (setT k rows i j t).length = rows.length := by unfold setT; split <;> simp
theorem setT_wf {k : Nat} {rows : List T} {i j : Nat} {t : T} (h : WfRows k rows) : WfRows k (setT k rows i j t) := by
  intro hk i' hi'
  rw [setT_length] at hi'
  unfold setT
  rw [if_neg hk]
  obtain ⟨l, h1, h2⟩ := h hk i' hi'
  by_cases e : i = i'
  · subst e
    refine ⟨l.set j t, ?_, by simpa using h2⟩
    rw [List.getElem?_set_self hi', List.getD_eq_getElem?_getD, h1]; rfl
  · exact ⟨l, by rw [List.getElem?_set_ne e]; exact h1, h2⟩
theorem cellT_set_self {k : Nat} {rows : List T} {i j : Nat} {t : T} (hi : i < rows.length) (hj : j < k) (h : WfRows k rows) : cellT k (setT k rows i j t) i j = t := by
  unfold cellT setT
  by_cases hk : k = 1
  · rw [if_pos hk, if_pos hk, List.getD_eq_getElem?_getD, List.getElem?_set_self hi]; rfl
  · rw [if_neg hk, if_neg hk]
    obtain ⟨l, h1, h2⟩ := h hk i hi
    rw [List.getD_eq_getElem?_getD, List.getElem?_set_self hi, List.getD_eq_getElem?_getD, h1]
    simp only [Option.getD_some, T.setC, T.cell]
    rw [List.getD_eq_getElem?_getD, List.getElem?_set_self (by omega)]; rfl
theorem cellT_set_ne {k : Nat} {rows : List T} {i j i' j' : Nat} {t : T} (hi : i < rows.length) (hj : j < k) (hj' : j' < k) (h : WfRows k rows) (hne : (i, j) ≠ (i', j')) : cellT k (setT k rows i j t) i' j' = cellT k rows i' j' := by
  unfold cellT setT
  by_cases hk : k = 1
  · have : i ≠ i' := fun e => hne (by rw [e, show j = j' by omega])
    rw [if_pos hk, if_pos hk, if_pos hk, List.getD_eq_getElem?_getD, List.getElem?_set_ne this, List.getD_eq_getElem?_getD]
  · rw [if_neg hk, if_neg hk, if_neg hk]
    by_cases e : i = i'
    · subst e
      have hjj : j ≠ j' := fun e => hne (by rw [e])
      obtain ⟨l, h1, h2⟩ := h hk i hi
      rw [List.getD_eq_getElem?_getD, List.getElem?_set_self hi, List.getD_eq_getElem?_getD, h1]
      simp only [Option.getD_some, T.setC, T.cell]
      rw [List.getD_eq_getElem?_getD, List.getElem?_set_ne hjj, List.getD_eq_getElem?_getD]
    · rw [List.getD_eq_getElem?_getD, List.getElem?_set_ne e, List.getD_eq_getElem?_getD]

theorem List.getD_some_lt {α : Type} {l : List α} {j : Nat} {x : α} (h : l[j]? = some x) : j < l.length := (List.getElem?_eq_some_iff.1 h).1

theorem DRel.isSlice {w : World} {dp : Bool} {et : TypeId} {v : Value} {t : T} {F : CS} (h : DRel tab w dp (.sl et) v t F) : ∃ a n c, v = .slice a n c := by
  cases h with
  | hole => exact ⟨_, _, _, rfl⟩
  | sl => exact ⟨_, _, _, rfl⟩

/-- Reading a cell of a row. -/
theorem DRel.get {w : World} {dp : Bool} {et : TypeId} {ti : TI} {rows : List T} {b off n c : Nat} {F : CS}
    (h : DRel tab w dp (.sl et) (.slice (some ⟨b, off, none⟩) n c) (.list rows) F) (hti : tab.get et = some ti) {i j : Nat} {ck : CK} (hi : i < n) (hck : ti.cks[j]? = some ck) :
    ∃ v F', cellAt w b (off + i * ti.size + j) = some v ∧ DRel tab w dp ck v (cellT ti.size rows i j) F' ∧ Sub F' F := by
  cases h with
  | @sl et ti' rows _ n c b' off' vs Fs F hti' hsz hn hc ha hwf hcell hrel hown hdis hdr hF =>
    rw [hti] at hti'; cases hti'
    rcases ha with ha | ha
    · cases ha
      have hj := List.getD_some_lt hck
      rw [← hsz] at hj
      refine ⟨_, _, hcell i j hi hj, hrel i j ck hi hck, ?_⟩
      subst hF
      exact fun b o hf => .inr ⟨i, j, hi, hj, hf⟩
    · omega

/-- Every cell of a row but one stands; in that one a new value lies. -/
theorem DRel.put {w w' : World} {et : TypeId} {ti : TI} {rows : List T} {b off n c : Nat} {F F' : CS}
    (h : DRel tab w true (.sl et) (.slice (some ⟨b, off, none⟩) n c) (.list rows) F) (hti : tab.get et = some ti) {i j : Nat} {ck : CK} {v' : Value} {t' : T} (hi : i < n) (hck : ti.cks[j]? = some ck)
    (hv : cellAt w' b (off + i * ti.size + j) = some v') (hfz : frozenAt w' b (off + i * ti.size + j) = frozenAt w b (off + i * ti.size + j))
    (hs : ∀ b' o', F b' o' → ¬ (b' = b ∧ o' = off + i * ti.size + j) → SameAt w w' b' o')
    (rel : DRel tab w' true ck v' t' F') (dj : Disj F F') :
    ∃ F'', Sub F'' (fun b o => F b o ∨ F' b o) ∧ DRel tab w' true (.sl et) (.slice (some ⟨b, off, none⟩) n c) (.list (setT ti.size rows i j t')) F'' := by
  cases h with
  | @sl et ti' rows _ n c b' off' vs Fs F hti' hsz hn hc ha hwf hcell hrel hown hdis hdr hF =>
    rw [hti] at hti'; cases hti'
    rcases ha with ha | ha
    case inr => omega
    cases ha
    have hj := List.getD_some_lt hck
    rw [← hsz] at hj
    have hpl := place_lt hi hj
    have hcn : n * ti.size ≤ c * ti.size := Nat.mul_le_mul_right _ hc
    have hself : F b (off + i * ti.size + j) := by subst hF; exact .inl ⟨rfl, by omega, by simp; omega⟩
    refine ⟨rowF b off c n ti.size (fun i' j' => if (i, j) = (i', j') then F' else Fs i' j'), ?_, ?_⟩
    · rintro b' o' (⟨rfl, h1, h2⟩ | ⟨i', j', hi', hj', hf⟩)
      · exact .inl (by subst hF; exact .inl ⟨rfl, h1, by simpa using h2⟩)
      · by_cases e : (i, j) = (i', j')
        · rw [if_pos e] at hf; exact .inr hf
        · rw [if_neg e] at hf; exact .inl (by subst hF; exact .inr ⟨i', j', hi', hj', hf⟩)
    · refine .sl (vs := fun i' j' => if (i, j) = (i', j') then v' else vs i' j') (Fs := fun i' j' => if (i, j) = (i', j') then F' else Fs i' j') hti hsz (by rw [setT_length]; exact hn) hc (.inl rfl) (setT_wf hwf) ?_ ?_ ?_ ?_ ?_ rfl
      · intro i' j' hi' hj'
        by_cases e : (i, j) = (i', j')
        · rw [if_pos e]; cases e; exact hv
        · rw [if_neg e, ← hcell i' j' hi' hj']
          have hp' := place_lt hi' hj'
          exact (hs b _ (by subst hF; exact .inl ⟨rfl, by omega, by simp; omega⟩) fun hh => e (by
            obtain ⟨e1, e2⟩ := place_inj hj hj' (show i * ti.size + j = i' * ti.size + j' by omega)
            rw [e1, e2])).1
      · intro i' j' ck' hi' hck'
        have hj' := List.getD_some_lt hck'
        rw [← hsz] at hj'
        by_cases e : (i, j) = (i', j')
        · simp only [if_pos e]; cases e; rw [hck] at hck'; cases hck'
          rw [cellT_set_self (by omega) hj hwf]; exact rel
        · simp only [if_neg e]
          rw [cellT_set_ne (by omega) hj hj' hwf e]
          refine (hrel i' j' ck' hi' hck').frame fun b' o' hf => hs b' o' (by subst hF; exact .inr ⟨i', j', hi', hj', hf⟩) ?_
          rintro ⟨rfl, rfl⟩
          exact hdr rfl i' j' hi' hj' _ _ ⟨rfl, by omega, by omega⟩ hf
      · intro _ x hx
        obtain ⟨u, h1, h2⟩ := hown rfl x hx
        by_cases e : off + x = off + i * ti.size + j
        · rw [e]; exact ⟨v', hv, by rw [hfz, ← e]; exact h2⟩
        · have := hs b (off + x) (by subst hF; exact .inl ⟨rfl, by omega, by simp; omega⟩) fun hh => e hh.2
          exact ⟨u, this.1.trans h1, this.2.trans h2⟩
      · intro _ i1 j1 i2 j2 a1 b1 a2 b2 hne
        by_cases e1 : (i, j) = (i1, j1)
        · rw [if_pos e1, if_neg (by rw [e1]; exact hne)]
          exact (dj.symm).sub (Sub.refl _) (by subst hF; exact fun b o hf => .inr ⟨i2, j2, a2, b2, hf⟩)
        · rw [if_neg e1]
          by_cases e2 : (i, j) = (i2, j2)
          · rw [if_pos e2]
            exact dj.sub (by subst hF; exact fun b o hf => .inr ⟨i1, j1, a1, b1, hf⟩) (Sub.refl _)
          · rw [if_neg e2]; exact hdis rfl i1 j1 i2 j2 a1 b1 a2 b2 hne
      · intro _ i1 j1 a1 b1
        by_cases e1 : (i, j) = (i1, j1)
        · rw [if_pos e1]
          exact dj.sub (by subst hF; exact fun b o hf => .inl (by simpa using hf)) (Sub.refl _)
        · rw [if_neg e1]; exact hdr rfl i1 j1 a1 b1

/-- A nested row taken out of an owned row: a hole is left. -/
theorem DRel.take {w : World} {et et' : TypeId} {ti : TI} {rows : List T} {b off n c : Nat} {F : CS}
    (h : DRel tab w true (.sl et) (.slice (some ⟨b, off, none⟩) n c) (.list rows) F) (hti : tab.get et = some ti) {i j : Nat} (hi : i < n) (hck : ti.cks[j]? = some (.sl et')) :
    ∃ v Fn Fr, cellAt w b (off + i * ti.size + j) = some v ∧ DRel tab w true (.sl et') v (cellT ti.size rows i j) Fn ∧ Disj Fn Fr ∧ Sub Fn F ∧ Sub Fr F ∧
      DRel tab w true (.sl et) (.slice (some ⟨b, off, none⟩) n c) (.list (setT ti.size rows i j .hole)) Fr := by
  cases h with
  | @sl et ti' rows _ n c b' off' vs Fs F hti' hsz hn hc ha hwf hcell hrel hown hdis hdr hF =>
    rw [hti] at hti'; cases hti'
    rcases ha with ha | ha
    case inr => omega
    cases ha
    have hj := List.getD_some_lt hck
    rw [← hsz] at hj
    have hcn : n * ti.size ≤ c * ti.size := Nat.mul_le_mul_right _ hc
    have hrel0 := hrel i j _ hi hck
    obtain ⟨va, vn, vc, hva⟩ := hrel0.isSlice
    refine ⟨vs i j, Fs i j, rowF b off c n ti.size (fun i' j' => if (i, j) = (i', j') then Emp else Fs i' j'), hcell i j hi hj, hrel0, ?_, ?_, ?_, ?_⟩
    · rintro b' o' hf (⟨rfl, h1, h2⟩ | ⟨i', j', hi', hj', hf'⟩)
      · exact hdr rfl i j hi hj _ _ ⟨rfl, h1, h2⟩ hf
      · by_cases e : (i, j) = (i', j')
        · rw [if_pos e] at hf'; exact hf'
        · rw [if_neg e] at hf'; exact hdis rfl i j i' j' hi hj hi' hj' e _ _ hf hf'
    · subst hF; exact fun b o hf => .inr ⟨i, j, hi, hj, hf⟩
    · subst hF
      rintro b' o' (⟨rfl, h1, h2⟩ | ⟨i', j', hi', hj', hf'⟩)
      · exact .inl ⟨rfl, h1, by simpa using h2⟩
      · by_cases e : (i, j) = (i', j')
        · rw [if_pos e] at hf'; exact hf'.elim
        · rw [if_neg e] at hf'; exact .inr ⟨i', j', hi', hj', hf'⟩
    · refine .sl (vs := vs) (Fs := fun i' j' => if (i, j) = (i', j') then Emp else Fs i' j') hti hsz (by rw [setT_length]; exact hn) hc (.inl rfl) (setT_wf hwf) hcell ?_ hown ?_ ?_ rfl
      · intro i' j' ck' hi' hck'
        have hj' := List.getD_some_lt hck'
        rw [← hsz] at hj'
        by_cases e : (i, j) = (i', j')
        · simp only [if_pos e]; cases e; rw [hck] at hck'; cases hck'
          rw [cellT_set_self (by omega) hj hwf, hva]; exact .hole
        · simp only [if_neg e]
          rw [cellT_set_ne (by omega) hj hj' hwf e]
          exact hrel i' j' ck' hi' hck'
      · intro _ i1 j1 i2 j2 a1 b1 a2 b2 hne
        by_cases e1 : (i, j) = (i1, j1)
        · rw [if_pos e1]; exact fun _ _ h => h.elim
        · rw [if_neg e1]
          by_cases e2 : (i, j) = (i2, j2)
          · rw [if_pos e2]; exact fun _ _ _ h => h.elim
          · rw [if_neg e2]; exact hdis rfl i1 j1 i2 j2 a1 b1 a2 b2 hne
      · intro _ i1 j1 a1 b1
        by_cases e1 : (i, j) = (i1, j1)
        · rw [if_pos e1]; exact fun _ _ _ h => h.elim
        · rw [if_neg e1]; exact hdr rfl i1 j1 a1 b1

theorem cellT_ext {k l h : Nat} {rows : List T} {i j : Nat} (hi : i < h - l) : cellT k ((rows.take h).drop l) i j = cellT k rows (l + i) j := by
  have : ((rows.take h).drop l).getD i .hole = rows.getD (l + i) .hole := by
    rw [List.getD_eq_getElem?_getD, List.getElem?_drop, List.getElem?_take_of_lt (by omega), List.getD_eq_getElem?_getD]
  unfold cellT; rw [this]
theorem ext_wf {k l h : Nat} {rows : List T} (hh : h ≤ rows.length) (hw : WfRows k rows) : WfRows k ((rows.take h).drop l) := by
  intro hk i hi
  simp at hi
  obtain ⟨x, h1, h2⟩ := hw hk (l + i) (by omega)
  exact ⟨x, by rw [List.getElem?_drop, List.getElem?_take_of_lt (by omega)]; exact h1, h2⟩

/-- A part of a slice. 'm': the new capacity's end. -/
theorem DRel.part {w : World} {dp : Bool} {et : TypeId} {ti : TI} {rows : List T} {a : Option Addr} {n c l h m : Nat} {F : CS}
    (hr : DRel tab w dp (.sl et) (.slice a n c) (.list rows) F) (hti : tab.get et = some ti) (hl : l ≤ h) (hh : h ≤ n) (hm : h ≤ m) (hmc : m ≤ c) :
    ∃ F', Sub F' F ∧ DRel tab w dp (.sl et) (.slice (if m = l then a else a.map (·.add (l * ti.size))) (h - l) (m - l)) (.list ((rows.take h).drop l)) F' := by
  cases hr with
  | @sl et ti' rows _ n c b off vs Fs F hti' hsz hn hc ha hwf hcell hrel hown hdis hdr hF =>
    rw [hti] at hti'; cases hti'
    have hmul : ∀ x, (x + l) * ti.size = x * ti.size + l * ti.size := fun x => Nat.add_mul ..
    have hln : ((rows.take h).drop l).length = h - l := by simp; omega
    have hhn : h * ti.size ≤ n * ti.size := Nat.mul_le_mul_right _ hh
    have hmc' : m * ti.size ≤ c * ti.size := Nat.mul_le_mul_right _ hmc
    have hsub1 : (h - l) * ti.size + l * ti.size = h * ti.size := by rw [← hmul]; congr 1; omega
    have hsub2 : (m - l) * ti.size + l * ti.size = m * ti.size := by rw [← hmul]; congr 1; omega
    refine ⟨rowF b (off + l * ti.size) (if dp then m - l else h - l) (h - l) ti.size (fun i j => Fs (l + i) j), ?_, .sl (b := b) (off := off + l * ti.size) (vs := fun i j => vs (l + i) j) (Fs := fun i j => Fs (l + i) j) hti hsz hln (by omega) ?_ (ext_wf (by omega) hwf) ?_ ?_ ?_ ?_ ?_ rfl⟩
    · subst hF
      rintro b' o' (⟨rfl, h1, h2⟩ | ⟨i', j', hi', hj', hf'⟩)
      · refine .inl ⟨rfl, by omega, ?_⟩
        cases dp <;> simp at h2 ⊢ <;> omega
      · exact .inr ⟨l + i', j', by omega, hj', hf'⟩
    · by_cases e : m = l
      · exact .inr (by omega)
      · rw [if_neg e]
        rcases ha with ha | ha
        · left; rw [ha]
          simp only [Option.map_some, Addr.add]
          split
          · rename_i h0; rw [h0]; simp
          · rfl
        · exact .inr (by omega)
    · intro i j hi hj
      have := hcell (l + i) j (by omega) hj
      rw [← this]; congr 1; rw [show l + i = i + l by omega, hmul]; omega
    · intro i j ck hi hck
      rw [cellT_ext hi]
      exact hrel (l + i) j ck (by omega) hck
    · intro hd x hx
      obtain ⟨v, h1, h2⟩ := hown hd (l * ti.size + x) (by omega)
      exact ⟨v, by rw [← h1]; congr 1; omega, by rw [← h2]; congr 1; omega⟩
    · intro hd i j i' j' hi hj hi' hj' hne
      exact hdis hd _ _ _ _ (by omega) hj (by omega) hj' (fun e => hne (by simp at e ⊢; omega))
    · intro hd i j hi hj
      refine (hdr hd (l + i) j (by omega) hj).sub ?_ (Sub.refl _)
      rintro b' o' ⟨rfl, h1, h2⟩
      exact ⟨rfl, by omega, by omega⟩

end Gp
