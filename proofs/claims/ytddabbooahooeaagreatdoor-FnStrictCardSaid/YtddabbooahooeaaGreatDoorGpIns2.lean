import Derived.Test.YtddabbooahooeaaGreatDoorGpIns
set_option linter.unusedVariables false
set_option linter.unusedSimpArgs false
namespace Gp
open Go
section
variable {tab : Tab} {w : World} {C : Ctx} {P : Program}
theorem DRel.ofCells {et : TypeId} {te : TI} (hte : tab.get et = some te) (hsz : te.size = te.cks.length) {b off n c : Nat} {rows : List T} {us : Nat -> Nat -> Value} (hn : rows.length = n) (hc : n <= c) (hwf : WfRows te.size rows)
 (hcell : ∀ i j, i < n -> j < te.size -> cellAt w b (off + i * te.size + j) = some (us i j))
 (hrel : ∀ i j ck, i < n -> te.cks[j]? = some ck -> DRel tab w true ck (us i j) (cellT te.size rows i j) Emp)
 (hown : ∀ x, x < c * te.size -> ∃ v, cellAt w b (off + x) = some v /\ frozenAt w b (off + x) = false) :
 DRel tab w true (.sl et) (.slice (some ⟨b, off, none⟩) n c) (.list rows) (rowF b off c n te.size fun _ _ => Emp) :=
 .sl (Fs := fun _ _ => Emp) hte hsz hn hc (.inl rfl) hwf hcell hrel (fun _ => hown) (fun _ _ _ _ _ _ _ _ _ _ _ _ h => h.elim) (fun _ _ _ _ _ _ _ _ h => h.elim) (by simp)
theorem ziD {b off m n k : Nat} {b' x : Nat} : rowF b off m n k (fun _ _ => Emp) b' x ↔ Rng b off (m * k) b' x := by
 unfold rowF
 constructor
 · rintro (h | ⟨_, _, _, _, h⟩)
   · exact h
   · exact h.elim
 · exact .inl
end
end Gp
