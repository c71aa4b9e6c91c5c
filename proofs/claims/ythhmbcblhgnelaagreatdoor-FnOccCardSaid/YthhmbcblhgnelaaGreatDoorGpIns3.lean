import Derived.Test.YthhmbcblhgnelaaGreatDoorGpIns2
set_option linter.unusedVariables false
set_option linter.unusedSimpArgs false
namespace Gp
open Go
section
variable {tab:Tab}{w:World}{C:Ctx}{P:Program}
theorem zd7 {tS tR e:TypeId}(ht:P.underlying tS=some (.slice e)){size:Nat}(hz:∀w,(Go.sizeOf e).run P w = .ok size w)
 {b o1 o2 la ca lb cb:Nat} (hno:¬(o1<o2+lb*size/\o2<o1+la*size)) :
 (Extern.SlicesOverlaps.overlaps #[tS,tS] #[tR] #[.slice (some ⟨b,o1,none⟩) la ca,.slice (some ⟨b,o2,none⟩) lb cb]).run P w = .ok (.bool false) w:=by
 have hun:(underlying tS).run P w = .ok (.slice e) w:=by simp only[underlying,Sem.run_bind,run_program,Result.andThen_ok,ht,Sem.run_pure]
 have hb:(decide (o1<o2+lb*size)&&decide (o2<o1+la*size))=false:=by
  rw[Bool.and_eq_false_iff,decide_eq_false_iff_not,decide_eq_false_iff_not];omega
 change Sem.run P (Bind.bind (underlying tS) _) w=_
 rw[Sem.run_bind,hun]
 simp only[Result.andThen_ok]
 change Sem.run P (Bind.bind (Go.sizeOf e) _) w=_
 rw[Sem.run_bind,hz]
 simp only[Result.andThen_ok]
 by_cases h0:la=0\/lb=0\/size=0
 ·rw[if_pos h0,Sem.run_pure]
 · rw[if_neg h0]
   simp[hb,Bool.and_assoc]
theorem zf6 {b o:Nat}{v:Value}(h:cellAt w b o=some v):∃t k,w.shape? b=some (t,k)/\o<k:=by
 unfold cellAt World.cell? at h
 dsimp only at h
 split at h
 · rename_i cs e fz hb
   rw[if_neg (by simp)]at h
   refine⟨e,cs.size,?_,(Array.getElem?_eq_some_iff.1 h).1⟩
   unfold World.shape?
   rw[hb]
 ·cases h
end
end Gp
