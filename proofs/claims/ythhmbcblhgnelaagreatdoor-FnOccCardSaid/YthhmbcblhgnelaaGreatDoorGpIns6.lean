import Derived.Test.YthhmbcblhgnelaaGreatDoorGpIns5
set_option linter.unusedVariables false
set_option linter.unusedSimpArgs false
namespace Gp
open Go Go.Shelf
section
variable {tab:Tab}{P:Program}{ρ:Ren}
def insRen (f29 f30 t0 t3 t4 t9 t24:Nat):Ren :=
 ⟨fun n=>if Nat.beq n 29 then f29 else f30,fun n=>if Nat.beq n 24 then t24 else if Nat.beq n 9 then t9 else if Nat.beq n 3 then t3 else if Nat.beq n 4 then t4 else t0,fun n=>n⟩
def insChk (tab:Tab)(ρ:Ren)(lim:Nat):Bool :=
 match tab.get (ρ.t 24),tab.get (ρ.t 9),tab.get (ρ.t 3),tab.get (ρ.t 4) with
 | some ti, some te, some i3, some i4 =>
   (match ti.td with|.slice e=>Nat.beq e (ρ.t 9)|_=>false)&&(match i3.td with|.int .i64=>true|_=>false)&&(match i4.td with|.bool=>true|_=>false) &&
   !ti.agg&&Nat.beq ti.size 1 && !i3.agg&&Nat.beq i3.size 1 && !i4.agg&&flatCks te.cks&&Nat.blt 0 te.size&&Nat.blt 0 te.bytes&&(te.cks.mapM (zeroE tab)).isSome&&Nat.ble ((lim+1)*te.bytes) 140737488355328
 |_,_,_,_=>false
theorem zlg (hT:TabOk P tab){t:TypeId}{ti:TI}{k:IntKind}(h:tab.get t=some ti)(hd:ti.td = .int k):P.underlying t=some (.int k):=by
 obtain⟨d,h1,h2,_⟩:=zbW hT h
 rw[hd]at h2
 cases d<;>simp[tdChk]at h2
 rw[h1,h2]
theorem zkr (hT:TabOk P tab){t:TypeId}{ti:TI}(h:tab.get t=some ti)(hd:ti.td = .bool):P.underlying t=some .bool:=by
 obtain⟨d,h1,h2,_⟩:=zbW hT h
 rw[hd]at h2
 cases d<;>simp[tdChk]at h2
 rw[h1]
theorem zeS (hT:TabOk P tab)(hm:P.follows .mixedOrders=true){lim:Nat}(hc:insChk tab ρ lim=true){f:FuncId}{nm:String}
 (hf:P.funcs[f]? = some { Go.Proofs.Body2.n22 ρ with name:=nm }) (hnm:(nm == "runtime.NumGoroutine")=false)
 {fo:Func} (ho:P.funcs[ρ.f 29]? = some fo) (ho1:(fo.name == "runtime.NumGoroutine")=false) (ho2:fo.body.isNone=true) (ho3:Extern.findNext fo=none)
 (ho4:Extern.find fo=some (Extern.SlicesOverlaps.overlaps #[ρ.t 24,ρ.t 24] #[ρ.t 4]))
 {sigs:List Sig} {idx:Nat} (hs:sigs[idx]? = some (insSig f (ρ.t 9))):Inst P tab sigs idx (insP lim):=by
 unfold insChk at hc
 split at hc
 case h_2=>cases hc
 rename_i ti te i3 i4 h24 h9 h3 h4
 simp only[Bool.and_eq_true,Bool.not_eq_true']at hc
 obtain⟨⟨⟨⟨⟨⟨⟨⟨⟨⟨⟨⟨c1,c2⟩,c3⟩,c4⟩,c5⟩,c6⟩,c7⟩,c8⟩,c9⟩,c10⟩,c11⟩,c12⟩,c13⟩:=hc
 have d24:ti.td = .slice (ρ.t 9):=by
  split at c1
  ·rename_i e he;rw[he,Nat.eq_of_beq_eq_true c1]
  ·cases c1
 have d3:i3.td = .int .i64:=by
  split at c2
  ·assumption
  ·cases c2
 have d4:i4.td = .bool:=by
  split at c3
  ·assumption
  ·cases c3
 have H:InsT P tab ρ ti te :=
  { hT := hT, mixed := hm, t3 := zlg hT h3 d3, t4 := zkr hT h4 d4, h24 := h24, d24 := d24, h9 := h9
    a3:=fun w=>by rw[zbC hT h3,c6]
    a4:=fun w=>by rw[zbC hT h4,c8]
    a24:=fun w=>by rw[zbC hT h24,c4]
    z3:=fun w=>by rw[zas hT h3,Nat.eq_of_beq_eq_true c7]
    z24:=fun w=>by rw[zas hT h24,Nat.eq_of_beq_eq_true c5]
    h3:=⟨i3,h3,d3⟩
    flat:=c9
    k0:=Nat.lt_of_lt_of_le Nat.zero_lt_one (Nat.le_of_ble_eq_true c10)
    b0:=Nat.lt_of_lt_of_le Nat.zero_lt_one (Nat.le_of_ble_eq_true c11)
    hz:=by cases hh:te.cks.mapM (zeroE tab) with
     |none=>rw[hh]at c12;cases c12
     |some zs=>exact⟨zs,rfl⟩
    ov:=⟨fo,ho,ho1,ho2,ho3,ho4⟩ }
 exact zkz H hf hnm hs (Nat.le_of_ble_eq_true c13)
end
end Gp
