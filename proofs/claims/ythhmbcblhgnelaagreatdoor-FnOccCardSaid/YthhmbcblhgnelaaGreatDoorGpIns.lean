import Derived.Test.YthhmbcblhgnelaaGreatDoorGpCtl5
import Derived.Shelf.Spec.SlicesInsert
set_option linter.unusedVariables false
set_option linter.unusedSimpArgs false
namespace Gp
open Go Go.Shelf Go.RowKit Go.Lib Go.Proofs
section
variable {P:Program}{ρ:Ren}
theorem zlq {o:Oper}{a:Act}{w:World}{K:Act->World->Prop}{Q:Exit->Act->World->Prop}(d s:Operand)(t t':TypeId)
 (ho:o.op = .call { callee:=.builtin .append,args:=#[d,s],argTypes:=#[t,t'] }) {v u:Value} (hd:a.eval d=v) (hs:a.eval s=u) {v':Value} {w':World}
 (hr:(Builtin.append_ #[t,t'] o.type #[v,u]).run P w = .ok v' w') (h:K (a.put o.dst v') w'):o.wp P a w K Q:=by
 unfold Oper.wp execOp
 simp only[ho,resolve,invoke,builtin,Sem.run_bind,Sem.run_pure,Result.andThen_ok,List.map_toArray,List.map_cons,List.map_nil,hd,hs,hr]
 exact h
theorem zfn {ops:Array Oper}{rest:List Oper}{o:Oper}{a:Act}{w:World}{Q:Exit->Act->World->Prop}(hgd:o.guard=none)(d s:Operand)(t t':TypeId)
 (ho:o.op = .call { callee:=.builtin .append,args:=#[d,s],argTypes:=#[t,t'] }) {v u:Value} (hd:a.eval d=v) (hs:a.eval s=u) {v':Value} {w':World}
 (hr:(Builtin.append_ #[t,t'] o.type #[v,u]).run P w = .ok v' w') (h:wpList P ops Q rest (a.put o.dst v') w'):wpList P ops Q (o::rest) a w :=
 wpList_plain hgd fun _ hK=>zlq d s t t' ho hd hs hr (hK _ _ h)
set_option maxHeartbeats 4000000 in
set_option maxRecDepth 100000 in
theorem ziQ (mixed:P.follows .mixedOrders=true){f:FuncId}{nm:String}(hf:P.funcs[f]? = some { Body2.n22 ρ with name:=nm })
 (t3:P.underlying (ρ.t 3)=some (.int .i64)) (t4:P.underlying (ρ.t 4)=some .bool) (t24:P.underlying (ρ.t 24)=some (.slice (ρ.t 9)))
 (a3:∀w,Sem.run P (isAgg (ρ.t 3)) w = .ok false w) (a4:∀w,Sem.run P (isAgg (ρ.t 4)) w = .ok false w) (a24:∀w,Sem.run P (isAgg (ρ.t 24)) w = .ok false w)
 (z3:∀w,Sem.run P (Go.sizeOf (ρ.t 3)) w = .ok 1 w) (z24:∀w,Sem.run P (Go.sizeOf (ρ.t 24)) w = .ok 1 w) {K:Nat} (z9:∀w,Sem.run P (Go.sizeOf (ρ.t 9)) w = .ok K w)
 (b off n c i vb voff vc:Nat) (w W1 W2:World) (hi:i<n) (hroom:n+1<=c) (hc63:n<=9000000000000000000)
 (hov:∀cb,(callFunc (ρ.f 29) #[.slice (some ⟨vb,voff,none⟩) 1 vc,.slice (some ⟨b,off+(i+1)*K,none⟩) (n-i) cb]).run P w = .ok (.value (.bool false)) w)
 (hcp1:∀ty dc sc,(Builtin.copy_ #[(ρ.t 24),(ρ.t 24)] ty #[.slice (some ⟨b,off+(i+1)*K,none⟩) (n-i) dc,.slice (some ⟨b,off+i*K,none⟩) (n+1-i) sc]).run P w.drew = .ok (goInt (n-i)) W1)
 (hcp2:∀ty dc,(Builtin.copy_ #[(ρ.t 24),(ρ.t 24)] ty #[.slice (some ⟨b,off+i*K,none⟩) (n+1-i) dc,.slice (some ⟨vb,voff,none⟩) 1 vc]).run P W1 = .ok (goInt 1) W2) :
 Calls P f #[.slice (some ⟨b,off,none⟩) n c,.int .i64 i,.slice (some ⟨vb,voff,none⟩) 1 vc] w fun e w' =>
  e = .returned (.slice (some ⟨b,off,none⟩) (n+1) c)/\w'=W2:=by
 have u3:=run_underlying t3;have u4:=run_underlying t4;have u24:=run_underlying t24
 have hz2:¬((i:Int)=(n:Int)):=by omega
 have hw1:IntKind.i64.wrap ((i:Int)+1)=(i:Int)+1:=by rw[IntKind.wrap_i64];omega
 have hw2:IntKind.i64.wrap ((n:Int)+1)=(n:Int)+1:=by rw[IntKind.wrap_i64];omega
 have hb1:(0:Int)<=(i:Int)+1:=by omega
 have hin:i<=n:=by omega
 have htn:((i:Int)+1).toNat=i+1:=by omega
 have hb2:¬(c=i+1):=by omega
 have hb3:(i:Int)<=(n:Int)+1:=by omega
 have hb4:¬(c=i):=by omega
 go_enter hf,Body2.n22_ntmps ρ
 go_wp2_with (simp only[hov])
 go_region_law_o (refine step_copy_runI rfl _ _ (ρ.t 24) (ρ.t 24) rfl _ _ (by simp[Act.eval,Act.put]) (by simp[Act.eval,Act.put]) (hcp1 _ _ _) ?_)
 go_wp2_with (at_builtin;refine wpList_copy_runI _ rfl _ _ (ρ.t 24) (ρ.t 24) rfl _ _ rfl rfl (hcp2 _ _) ?_)
 go_ret
 exact⟨rfl,rfl⟩
set_option maxHeartbeats 4000000 in
set_option maxRecDepth 100000 in
theorem zkJ (mixed:P.follows .mixedOrders=true){f:FuncId}{nm:String}(hf:P.funcs[f]? = some { Body2.n22 ρ with name:=nm })
 (t3:P.underlying (ρ.t 3)=some (.int .i64)) (t4:P.underlying (ρ.t 4)=some .bool) (t24:P.underlying (ρ.t 24)=some (.slice (ρ.t 9)))
 (a3:∀w,Sem.run P (isAgg (ρ.t 3)) w = .ok false w) (a4:∀w,Sem.run P (isAgg (ρ.t 4)) w = .ok false w) (a24:∀w,Sem.run P (isAgg (ρ.t 24)) w = .ok false w)
 (z3:∀w,Sem.run P (Go.sizeOf (ρ.t 3)) w = .ok 1 w) (z24:∀w,Sem.run P (Go.sizeOf (ρ.t 24)) w = .ok 1 w) {K:Nat} (z9:∀w,Sem.run P (Go.sizeOf (ρ.t 9)) w = .ok K w)
 (a:Option Addr) (n c vb voff vc:Nat) (w w':World) (hnc:n<=c) (a':Option Addr) (c':Nat)
 (hap:∀ty,(Builtin.append_ #[(ρ.t 24),(ρ.t 24)] ty #[.slice a n c,.slice (some ⟨vb,voff,none⟩) 1 vc]).run P w = .ok (.slice a' (n+1) c') w') :
 Calls P f #[.slice a n c,.int .i64 n,.slice (some ⟨vb,voff,none⟩) 1 vc] w fun e w2=>e = .returned (.slice a' (n+1) c')/\w2=w':=by
 have u3:=run_underlying t3;have u4:=run_underlying t4;have u24:=run_underlying t24
 have hnn:(n:Int)<=(n:Int):=by omega
 go_enter hf,Body2.n22_ntmps ρ
 go_wp2_with (at_builtin;refine zfn rfl _ _ (ρ.t 24) (ρ.t 24) rfl rfl rfl (hap _) ?_)
 all_goals (go_ret;exact⟨rfl,rfl⟩)
set_option maxHeartbeats 4000000 in
set_option maxRecDepth 100000 in
theorem zkf (mixed:P.follows .mixedOrders=true){f:FuncId}{nm:String}(hf:P.funcs[f]? = some { Body2.n22 ρ with name:=nm })
 (t3:P.underlying (ρ.t 3)=some (.int .i64)) (t4:P.underlying (ρ.t 4)=some .bool) (t24:P.underlying (ρ.t 24)=some (.slice (ρ.t 9)))
 (a3:∀w,Sem.run P (isAgg (ρ.t 3)) w = .ok false w) (a4:∀w,Sem.run P (isAgg (ρ.t 4)) w = .ok false w) (a24:∀w,Sem.run P (isAgg (ρ.t 24)) w = .ok false w)
 (z3:∀w,Sem.run P (Go.sizeOf (ρ.t 3)) w = .ok 1 w) (z24:∀w,Sem.run P (Go.sizeOf (ρ.t 24)) w = .ok 1 w) {K:Nat} (z9:∀w,Sem.run P (Go.sizeOf (ρ.t 9)) w = .ok K w)
 (b off n c i vb voff vc B c2:Nat) (w W1 W2 W3:World) (hi:i<n) (hnc:n<=c) (hroom:c<n+1) (hc63:n<=9000000000000000000) (hc2:n+1<=c2)
 (hap:∀ty,(Builtin.append_ #[(ρ.t 24),(ρ.t 3)] ty #[.slice (some ⟨b,off,none⟩) i c,.int .i64 ((n:Int)+1-(i:Int))]).run P w = .ok (.slice (some ⟨B,0,none⟩) (n+1) c2) W1)
 (hcp1:∀ty dc,(Builtin.copy_ #[(ρ.t 24),(ρ.t 24)] ty #[.slice (some ⟨B,i*K,none⟩) (n+1-i) dc,.slice (some ⟨vb,voff,none⟩) 1 vc]).run P W1 = .ok (goInt 1) W2)
 (hcp2:∀ty dc sc,(Builtin.copy_ #[(ρ.t 24),(ρ.t 24)] ty #[.slice (some ⟨B,(i+1)*K,none⟩) (n-i) dc,.slice (some ⟨b,off+i*K,none⟩) (n-i) sc]).run P W2.drew = .ok (goInt (n-i)) W3) :
 Calls P f #[.slice (some ⟨b,off,none⟩) n c,.int .i64 i,.slice (some ⟨vb,voff,none⟩) 1 vc] w fun e w' =>
  e = .returned (.slice (some ⟨B,0,none⟩) (n+1) c2)/\w'=W3:=by
 have u3:=run_underlying t3;have u4:=run_underlying t4;have u24:=run_underlying t24
 have hcn:c=n:=by omega
 subst hcn
 have hz2:¬((i:Int)=(c:Int)):=by omega
 have hw1:IntKind.i64.wrap ((i:Int)+1)=(i:Int)+1:=by rw[IntKind.wrap_i64];omega
 have hw2:IntKind.i64.wrap ((c:Int)+1)=(c:Int)+1:=by rw[IntKind.wrap_i64];omega
 have hw3:IntKind.i64.wrap ((c:Int)+1-(i:Int))=(c:Int)+1-(i:Int):=by rw[IntKind.wrap_i64];omega
 have hb1:(0:Int)<=(i:Int)+1:=by omega
 have hin:i<=c:=by omega
 have htn:((i:Int)+1).toNat=i+1:=by omega
 have hb2:¬(c2=i+1):=by omega
 have hb3:(i:Int)<=(c:Int)+1:=by omega
 have hb4:¬(c2=i):=by omega
 have hb5:¬(c=i):=by omega
 have hb6:i<=c+1:=by omega
 go_enter hf,Body2.n22_ntmps ρ
 go_wp2_with (at_builtin;first|refine zfn rfl _ _ (ρ.t 24) (ρ.t 3) rfl rfl rfl (hap _) ?_|refine wpList_copy_runI _ rfl _ _ (ρ.t 24) (ρ.t 24) rfl _ _ rfl rfl (hcp1 _ _) ?_)
 go_region_law_o (refine step_copy_runI rfl _ _ (ρ.t 24) (ρ.t 24) rfl _ _ (by simp[Act.eval,Act.put]) (by simp[Act.eval,Act.put]) (hcp2 _ _ _) ?_)
 go_wp2
 go_ret
 exact⟨rfl,rfl⟩
end
end Gp
