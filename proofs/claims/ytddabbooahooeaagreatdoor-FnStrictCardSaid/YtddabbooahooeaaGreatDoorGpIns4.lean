import Derived.Test.YtddabbooahooeaaGreatDoorGpIns3
set_option linter.unusedVariables false
set_option linter.unusedSimpArgs false
namespace Gp
open Go Go.Shelf
section
variable {tab : Tab} {w : World} {C : Ctx} {P : Program} {ρ : Ren}
theorem Turned.sub' {F G : CS} {w w' : World} (h : Turned F w w') (hs : Sub F G) : Turned G w w' :=
 ⟨h.size, fun b hb hn => h.blk b hb fun x hx => hn x (hs b x hx), fun b x hb hn => h.cel b x hb fun hx => hn (hs b x hx), h.os, h.tape, h.output⟩
theorem Turned.after {F G : CS} {w w1 w2 : World} (h : Turned F w w1) (k : Turned G w1 w2) (hG : ∀ b x, G b x -> F b x \/ w.heap.size <= b) : Turned F w w2 where
 size := Nat.le_trans h.size k.size
 blk b hb hn := (k.blk b (Nat.lt_of_lt_of_le hb h.size) fun x hx => (hG b x hx).elim (hn x) fun h' => by omega).trans (h.blk b hb hn)
 cel b x hb hn := by
  have h1 := h.cel b x hb hn
  have h2 := k.cel b x (Nat.lt_of_lt_of_le hb h.size) fun hx => (hG b x hx).elim hn fun h' => by omega
  exact ⟨h2.1.trans h1.1, h2.2.trans h1.2⟩
 os := k.os.trans h.os
 tape := k.tape.trans h.tape
 output := k.output.trans h.output
end
end Gp
