/- Gp, part 29b: between parts of code, nested rows are taken out and put back. -/
import Derived.Test.YtbifjnccebhmkaaGpCtl3
set_option linter.unusedVariables false
set_option linter.unusedSimpArgs false
namespace Gp
open Go

abbrev Pt := Gam × Nat × Nat
/-- Rows to be taken out, and rows to be put back. -/
abbrev PP := List Nat × List (Nat × Nat)
def ppRun (tab : Tab) (x : PP) (pt : Pt) : Option (List (Grd × SI) × Pt) :=
  if pt.1.bnd pt.2.1 then match takes tab x.1 pt.1 pt.2.1 pt.2.2 with
    | some (up, si, _, nx, no) =>
      let y := puts tab x.2 (pt.1.appOb up) nx
      if ssaL pt.2.1 (si ++ y.2.1) == some y.2.2 then some (si ++ y.2.1, ((pt.1.appOb up).appOb y.1, y.2.2, no)) else none
    | none => none
  else none

section
variable {tab : Tab} {Γ : Gam} {ρ ρ' : Env} {w : World} {C0 : Ctx} {kn : Kn} {Wr : CS} {w0 : World} {P : Program} {nx no : Nat} {sigs : List Sig}

theorem ppRun_sound {E : Nat → Prop} {nt : Nat} {a : Act} {ds : List Deferred} {x : PP} {pt pt' : Pt} {sis : List (Grd × SI)} {ex : Ex} (hr : ppRun tab x pt = some (sis, pt')) (hst : St tab nt E C0 pt.1 ρ a w ds kn Wr w0)
    (hE : ∀ o, E o → o < pt.2.2) (hkn : kn.below pt.2.1 pt.2.2) (hb : BigC (CallOk P tab sigs) (.sis sis) ρ ex ρ') :
    ex = .normal ∧ pt.2.2 ≤ pt'.2.2 ∧ ∃ kn', St tab nt E C0 pt'.1 ρ' a w ds kn' Wr w0 ∧ kn'.below pt'.2.1 pt'.2.2 := by
  unfold ppRun at hr
  split at hr
  case isFalse => cases hr
  rename_i hbnd
  split at hr
  case h_2 => cases hr
  rename_i up si ties nx1 no1 ht
  simp only at hr
  split at hr
  case isFalse => cases hr
  rename_i hssa
  simp only [beq_iff_eq] at hssa
  cases hr
  obtain ⟨e1, e2, e3, e4⟩ := sis_run _ hssa hb
  obtain ⟨⟨C, hrel, hkeep⟩, s2, s3, s4⟩ := hst
  have hrel' := hrel.agree e3 hbnd
  have hpl := puts_le (tab := tab) x.2 (pt.1.appOb up) nx1
  obtain ⟨l1, l2, C1, kn1, q1, q2, q3, q4, q5, q6⟩ := takes_sound _ hrel' ht e4.left (fun y h1 h2 hk => by have := hkn.2 y hk; omega) (fun y h1 h2 hk => by have := hkn.1 y hk; omega)
  obtain ⟨C2, kn2, p1, p2, p3, p4, p5⟩ := puts_sound x.2 q1 e4.right (fun y h1 h2 hk => by
    rcases q5 y hk with hk | hk
    · have := hkn.2 y hk; omega
    · omega)
  refine ⟨e1, l2, kn2, ⟨⟨C2, p1, fun o ho hk => ?_⟩, s2, fun t ht' => ?_, s4⟩, fun o ho => ?_, fun y hy => ?_⟩
  · obtain ⟨y1, y2, y3⟩ := p2 o
    have hko : kn.o o := by
      rcases q4 o (p4 o hk) with hk | hk
      · exact hk
      · have := hE o ho; omega
    obtain ⟨u1, u2, u3⟩ := q2 o hko
    obtain ⟨v1, v2, v3⟩ := hkeep o ho hko
    exact ⟨y1.trans (u1.trans v1), y2.trans (u2.trans v2), y3.trans (u3.trans v3)⟩
  · dsimp only at ht'
    rw [get_appOb, get_appOb] at ht'
    exact s3 t ht'
  · dsimp only
    rcases q4 o (p4 o ho) with hk | hk
    · have := hkn.1 o hk; omega
    · omega
  · dsimp only
    rcases p5 y hy with hk | hk
    · rcases q5 y hk with hk | hk
      · have := hkn.2 y hk; omega
      · omega
    · omega
end
end Gp
