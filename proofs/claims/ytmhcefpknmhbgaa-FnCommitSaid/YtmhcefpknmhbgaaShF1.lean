/- Sh: typed functions of Go functions, part 1 (written by a program; each is checked against the seat's code). -/
import Derived.Test.YtmhcefpknmhbgaaShBase
set_option linter.unusedVariables false
namespace Sh
open Go
/-- (*spec.l1Cur).next -/
noncomputable def spec_l1Cur_next (a0 : List (Int)) (a1 : Int) (a2 : Int) : Option (Int × Int × Int) :=
 (if (decide (a1 < ((a0.length : Nat) : Int))) then
 (chk ((decide ((0 : Int) ≤ a1)) && (decide (a1 < ((a0.length : Nat) : Int)))) <|
 some (i64 (a0.getD (Int.toNat a1) 0)) : Option (Int))
 else
 (some (0 : Int))).bind fun s0 =>
 if (decide ((i64 (a1 + (1 : Int))) ≤ ((a0.length : Nat) : Int))) then
 (some ((i64 (a1 + (1 : Int))), (u64 ((u64 ((u64 (a2 * (6364136223846793005 : Int))) + (u64 s0))) + (1442695040888963407 : Int))), s0))
 else
 some ((i64 (a1 + (1 : Int))), (u64 ((u64 ((u64 (a2 * (6364136223846793005 : Int))) + (u64 s0))) + (1442695040888963407 : Int))), (i64 (ands .u64 (shrs .u64 (u64 ((u64 ((u64 (a2 * (6364136223846793005 : Int))) + (u64 s0))) + (1442695040888963407 : Int))) (40 : Int)) (255 : Int))))
/-- (*spec.l1Cur).pick -/
noncomputable def spec_l1Cur_pick (a0 : List (Int)) (a1 : Int) (a2 : Int) (a3 : Int) : Option (Int × Int × Int) :=
 if (decide (a3 ≤ (1 : Int))) then
 (some (a1, a2, (0 : Int)))
 else
 (spec_l1Cur_next a0 a1 a2).bind fun r0 =>
 (if (decide ((200 : Int) < a3)) then
 ((spec_l1Cur_next a0 r0.1 r0.2.1).bind fun r1 =>
 some (r1.1, r1.2.1, (i64 ((i64 (r0.2.2 * (256 : Int))) + r1.2.2))) : Option (Int × Int × Int))
 else
 (some (r0.1, r0.2.1, r0.2.2))).bind fun s2 =>
 chk (!decide (a3 = (0 : Int))) <|
 some (s2.1, s2.2.1, (Int.tmod s2.2.2 a3))
/-- (*spec.l1Cur).one -/
noncomputable def spec_l1Cur_one (a0 : List (Int)) (a1 : Int) (a2 : Int) (a3 : Int) : Option (Int × Int × Bool) :=
 (spec_l1Cur_pick a0 a1 a2 a3).bind fun r0 =>
 some (r0.1, r0.2.1, (decide (r0.2.2 = (0 : Int))))
/-- (*spec.l1Cur).among -/
noncomputable def spec_l1Cur_among (a0 : List (Int)) (a1 : Int) (a2 : Int) (a3 : List (Int)) : Option (Int × Int × Int) :=
 (spec_l1Cur_pick a0 a1 a2 ((a3.length : Nat) : Int)).bind fun r0 =>
 chk ((decide ((0 : Int) ≤ r0.2.2)) && (decide (r0.2.2 < ((a3.length : Nat) : Int)))) <|
 some (r0.1, r0.2.1, (a3.getD (Int.toNat r0.2.2) 0))
/-- (*spec.l1Cur).leaseSteps -/
noncomputable def spec_l1Cur_leaseSteps (a0 : List (Int)) (a1 : Int) (a2 : Int) : Option (Int × Int × List ((Int) × (Int) × Int)) :=
 (spec_l1Cur_pick a0 a1 a2 (30 : Int)).bind fun r0 =>
 (spec_l1Cur_one a0 r0.1 r0.2.1 (8 : Int)).bind fun r1 =>
 (if r1.2.2 then
 ((spec_l1Cur_pick a0 r1.1 r1.2.1 (22 : Int)).bind fun r2 =>
 some (r2.1, r2.2.1, (i64 ((80 : Int) + r2.2.2))) : Option (Int × Int × Int))
 else
 (some (r1.1, r1.2.1, r0.2.2))).bind fun s3 =>
 ((loopM (σ := Int × Int × (List ((Int) × (Int) × Int)) × Int) (X := Int × Int × List ((Int) × (Int) × Int)) (fun s4 =>
 (if (decide ((0 : Int) < s4.2.2.2)) then
 ((let v5 : List (Int) := ((1 : Int) :: ((1 : Int) :: ((2 : Int) :: ((2 : Int) :: ((3 : Int) :: ((4 : Int) :: ((4 : Int) :: ((4 : Int) :: ([] : List (Int))))))))))
 (spec_l1Cur_among a0 s4.1 s4.2.1 v5).bind fun r6 =>
 (spec_l1Cur_pick a0 r6.1 r6.2.1 (4 : Int)).bind fun r7 =>
 (spec_l1Cur_pick a0 r7.1 r7.2.1 (12 : Int)).bind fun r8 =>
 (if (decide (r6.2.2 = (4 : Int))) then spec_l1Cur_one a0 r8.1 r8.2.1 (3 : Int) else some (0, 0, false)).bind fun r9 =>
 let v10 : Int := (if (decide (r6.2.2 = (4 : Int))) then r9.1 else r8.1)
 let v11 : Int := (if (decide (r6.2.2 = (4 : Int))) then r9.2.1 else r8.2.1)
 let v12 : Bool := (if (decide (r6.2.2 = (4 : Int))) then r9.2.2 else false)
 (if v12 then
 (some (i64 (0 - (i64 ((1 : Int) + r8.2.2)))) : Option (Int))
 else
 (some (i64 ((1 : Int) + r8.2.2)))).bind fun s13 =>
 (spec_l1Cur_one a0 v10 v11 (60 : Int)).bind fun r14 =>
 (if r14.2.2 then
 ((spec_l1Cur_pick a0 r14.1 r14.2.1 (6 : Int)).bind fun r15 =>
 (spec_l1Cur_pick a0 r15.1 r15.2.1 (8 : Int)).bind fun r16 =>
 let v17 : List (Int) := ((0 : Int) :: ((1000000 : Int) :: ((1000001 : Int) :: ([] : List (Int)))))
 (spec_l1Cur_among a0 r16.1 r16.2.1 v17).bind fun r18 =>
 some (r18.1, r18.2.1, r15.2.2, (i64 (r16.2.2 - (1 : Int))), r18.2.2) : Option (Int × Int × Int × Int × Int))
 else
 (some (r14.1, r14.2.1, r6.2.2, r7.2.2, s13))).bind fun s19 =>
 let v20 : List ((Int) × (Int) × Int) := ((s19.2.2.1, (s19.2.2.2.1, s19.2.2.2.2)) :: ([] : List ((Int) × (Int) × Int)))
 let v21 : List ((Int) × (Int) × Int) := (s4.2.2.1 ++ v20)
 chk (decide (((v21.length : Nat) : Int) ≤ (5864062014805 : Int))) <|
 some (s19.1, s19.2.1, v21) : Option (Int × Int × List ((Int) × (Int) × Int))).bind fun s22 =>
 some (.inl (s22.1, s22.2.1, s22.2.2, (i64 (s4.2.2.2 - (1 : Int))))))
 else
 some (.inr (s4.1, s4.2.1, s4.2.2.1)))) (s3.1, s3.2.1, ([] : List ((Int) × (Int) × Int)), s3.2.2)).bind fun x23 =>
 some (x23.1, x23.2.1, x23.2.2) : Option (Int × Int × List ((Int) × (Int) × Int))).bind fun s24 =>
 some (s24.1, s24.2.1, s24.2.2)
/-- spec.DrawPlayLeases -/
noncomputable def spec_DrawPlayLeases (a0 : List (Int)) : Option (Int × Int × List ((Int) × (Int) × Int)) :=
 (spec_l1Cur_pick a0 (0 : Int) (0 : Int) (4 : Int)).bind fun r0 =>
 (spec_l1Cur_pick a0 r0.1 r0.2.1 (20 : Int)).bind fun r1 =>
 (spec_l1Cur_leaseSteps a0 r1.1 r1.2.1).bind fun r2 =>
 some ((i64 ((1 : Int) + r0.2.2)), r1.2.2, r2.2.2)
/-- impl.in -/
noncomputable def impl_in (a0 : Int) (a1 : Int) (a2 : Int) : Option (Bool) :=
 let v0 : Bool := (if (decide (a1 ≤ a0)) then (decide (a0 ≤ a2)) else false)
 some v0
/-- impl.newLeases -/
noncomputable def impl_newLeases (a0 : Int) (a1 : Int) : Option (Int × Int × (List (Int)) × Int × (List (Int)) × Bool) :=
 (impl_in a0 (1 : Int) (12 : Int)).bind fun r0 =>
 (if (!(!r0)) then impl_in a1 (0 : Int) (1000 : Int) else some false).bind fun r1 =>
 let v2 : Bool := (if (!r0) then true else (!r1))
 if v2 then
 (some ((0 : Int), (0 : Int), ([] : List (Int)), (0 : Int), ([] : List (Int)), false))
 else
 chk ((decide ((0 : Int) ≤ a0)) && (decide (a0 ≤ (17592186044416 : Int)))) <|
 let v3 : List (Int) := (List.replicate (Int.toNat a0) (0 : Int))
 chk ((decide ((0 : Int) ≤ a0)) && (decide (a0 ≤ (17592186044416 : Int)))) <|
 let v4 : List (Int) := (List.replicate (Int.toNat a0) (0 : Int))
 some (a1, (0 : Int), v3, (-1 : Int), v4, true)
/-- impl.areLeases -/
noncomputable def impl_areLeases (a0 : Int) (a1 : Int) (a2 : List (Int)) (a3 : Int) (a4 : Int) (a5 : List (Int)) : Option (Bool) :=
 (impl_in a0 (0 : Int) (1000 : Int)).bind fun r0 =>
 (if (!(!r0)) then impl_in a1 (0 : Int) (1000000 : Int) else some false).bind fun r1 =>
 let v2 : Bool := (if (!r0) then true else (!r1))
 (if (!v2) then impl_in ((a2.length : Nat) : Int) (1 : Int) (12 : Int) else some false).bind fun r3 =>
 let v4 : Bool := (if v2 then true else (!r3))
 (if (!v4) then impl_in a3 (-1 : Int) (i64 (((a2.length : Nat) : Int) - (1 : Int))) else some false).bind fun r5 =>
 let v6 : Bool := (if v4 then true else (!r5))
 (if (!v6) then impl_in a4 (0 : Int) (2000000 : Int) else some false).bind fun r7 =>
 let v8 : Bool := (if v6 then true else (!r7))
 let v9 : Bool := (if v8 then true else (!decide (((a5.length : Nat) : Int) = ((a2.length : Nat) : Int))))
 if v9 then
 (some false)
 else
 let j10 : Unit → Option _ := fun s11 =>
 (some true)
 (loopM (σ := Int) (X := (Unit) ⊕ (Bool)) (fun s12 =>
 (if (decide (s12 < ((a2.length : Nat) : Int))) then
 (let j13 : Unit → Option _ := fun s14 =>
 (some (.inl (i64 (s12 + (1 : Int)))))
 chk ((decide ((0 : Int) ≤ s12)) && (decide (s12 < ((a2.length : Nat) : Int)))) <|
 (impl_in (a2.getD (Int.toNat s12) 0) (max (i64 (a1 - a0)) (0 : Int)) (i64 (a1 + a0))).bind fun r15 =>
 chk (!(!(!r15)) || ((decide ((0 : Int) ≤ s12)) && (decide (s12 < ((a5.length : Nat) : Int))))) <|
 (if (!(!r15)) then impl_in (a5.getD (Int.toNat s12) 0) (0 : Int) a4 else some false).bind fun r16 =>
 let v17 : Bool := (if (!r15) then true else (!r16))
 chk (!((!v17) && (!decide (s12 = a3))) || ((decide ((0 : Int) ≤ s12)) && (decide (s12 < ((a5.length : Nat) : Int))))) <|
 let v18 : Bool := (if (!decide (s12 = a3)) then (decide (a1 < (a5.getD (Int.toNat s12) 0))) else false)
 let v19 : Bool := (if v17 then true else v18)
 if v19 then
 (some (.inr (.inr false)))
 else
 j13 ())
 else
 some (.inr (.inl ())))) (0 : Int)).bind fun x20 =>
 sumE x20 (fun y21 =>
 j10 ()) (fun z22 =>
 some z22)
/-- (impl.Leases).step -/
noncomputable def impl_Leases_step (a0 : Int) (a1 : Int) (a2 : List (Int)) (a3 : Int) (a4 : Int) (a5 : List (Int)) (a6 : Int) (a7 : Int) (a8 : Int) : Option (Int × Int × (List (Int)) × Int × Int × (List (Int)) × Bool) :=
 let v0 : List (Int) := (([] : List (Int)) ++ a2)
 chk (decide (((v0.length : Nat) : Int) ≤ (17592186044416 : Int))) <|
 let v1 : List (Int) := (([] : List (Int)) ++ a5)
 chk (decide (((v1.length : Nat) : Int) ≤ (17592186044416 : Int))) <|
 (impl_in a7 (0 : Int) (i64 (((v0.length : Nat) : Int) - (1 : Int)))).bind fun r2 =>
 ((if (decide (a6 = (1 : Int))) then
 ((if r2 then impl_in a8 (1 : Int) (1000000 : Int) else some false).bind fun r3 =>
 let v4 : Bool := (if r2 then r3 else false)
 let v5 : Bool := (if (decide (a7 = a3)) then true else (decide (a4 ≤ a1)))
 let v6 : Bool := (if v4 then v5 else false)
 (if v6 then
 ((if (decide (a7 = a3)) then
 (some (max (i64 (a1 + a8)) a4) : Option (Int))
 else
 (some (i64 (a1 + a8)))).bind fun s7 =>
 some (a7, s7) : Option (Int × Int))
 else
 (some (a3, a4))).bind fun s8 =>
 some (a1, v0, s8.1, s8.2, v1, v6) : Option (Int × (List (Int)) × Int × Int × (List (Int)) × Bool))
 else
 ((if (decide (a6 = (2 : Int))) then
 (let v9 : Bool := (if r2 then (decide (a7 = a3)) else false)
 (if v9 then
 (chk ((decide ((0 : Int) ≤ a7)) && (decide (a7 < ((v1.length : Nat) : Int)))) <|
 let v10 : List (Int) := (v1.set (Int.toNat a7) a4)
 some v10 : Option (List (Int)))
 else
 (some v1)).bind fun s11 =>
 some (a1, v0, s11, v9) : Option (Int × (List (Int)) × (List (Int)) × Bool))
 else
 ((if (decide (a6 = (3 : Int))) then
 ((impl_in a8 (1 : Int) (1000000 : Int)).bind fun r12 =>
 (if r12 then
 (some (i64 (a1 + a8)) : Option (Int))
 else
 (some a1)).bind fun s13 =>
 some (s13, v0, r12) : Option (Int × (List (Int)) × Bool))
 else
 ((if (decide (a6 = (4 : Int))) then
 ((if r2 then impl_in a8 (-1000 : Int) (1000000 : Int) else some false).bind fun r14 =>
 let v15 : Bool := (if r2 then r14 else false)
 (if v15 then
 (chk ((decide ((0 : Int) ≤ a7)) && (decide (a7 < ((v0.length : Nat) : Int)))) <|
 chk ((decide ((0 : Int) ≤ a7)) && (decide (a7 < ((v0.length : Nat) : Int)))) <|
 let v16 : List (Int) := (v0.set (Int.toNat a7) (i64 ((v0.getD (Int.toNat a7) 0) + a8)))
 some v16 : Option (List (Int)))
 else
 (some v0)).bind fun s17 =>
 some (s17, v15) : Option ((List (Int)) × Bool))
 else
 (some (v0, false))).bind fun s18 =>
 some (a1, s18.1, s18.2))).bind fun s19 =>
 some (s19.1, s19.2.1, v1, s19.2.2))).bind fun s20 =>
 some (s20.1, s20.2.1, a3, a4, s20.2.2.1, s20.2.2.2))).bind fun s21 =>
 some (s21.1, s21.2.1, s21.2.2.1, s21.2.2.2.1, s21.2.2.2.2.1, s21.2.2.2.2.2) : Option (Int × (List (Int)) × Int × Int × (List (Int)) × Bool)).bind fun s22 =>
 (if (!(!s22.2.2.2.2.2)) then impl_areLeases a0 s22.1 s22.2.1 s22.2.2.1 s22.2.2.2.1 s22.2.2.2.2.1 else some false).bind fun r23 =>
 let v24 : Bool := (if (!s22.2.2.2.2.2) then true else (!r23))
 if v24 then
 (some ((0 : Int), (0 : Int), ([] : List (Int)), (0 : Int), (0 : Int), ([] : List (Int)), false))
 else
 some (a0, s22.1, s22.2.1, s22.2.2.1, s22.2.2.2.1, s22.2.2.2.2.1, true)
/-- (impl.Leases).believers -/
noncomputable def impl_Leases_believers (a0 : Int) (a1 : Int) (a2 : List (Int)) (a3 : Int) (a4 : Int) (a5 : List (Int)) : Option (List (Int)) :=
 ((loopM (σ := (List (Int)) × Int) (X := List (Int)) (fun s0 =>
 (if (decide (s0.2 < ((a2.length : Nat) : Int))) then
 ((chk ((decide ((0 : Int) ≤ s0.2)) && (decide (s0.2 < ((a2.length : Nat) : Int)))) <|
 chk ((decide ((0 : Int) ≤ s0.2)) && (decide (s0.2 < ((a5.length : Nat) : Int)))) <|
 (if (decide ((i64 ((a2.getD (Int.toNat s0.2) 0) + a0)) < (a5.getD (Int.toNat s0.2) 0))) then
 (let v1 : List (Int) := (s0.2 :: ([] : List (Int)))
 let v2 : List (Int) := (s0.1 ++ v1)
 chk (decide (((v2.length : Nat) : Int) ≤ (17592186044416 : Int))) <|
 some v2 : Option (List (Int)))
 else
 (some s0.1)).bind fun s3 =>
 some s3 : Option (List (Int))).bind fun s4 =>
 some (.inl (s4, (i64 (s0.2 + (1 : Int))))))
 else
 some (.inr s0.1))) (([] : List (Int)), (0 : Int))).bind fun x5 =>
 some x5 : Option (List (Int))).bind fun s6 =>
 some s6
/-- impl.PlayLeases -/
noncomputable def impl_PlayLeases (a0 : Int) (a1 : Int) (a2 : List ((Int) × (Int) × Int)) : Option (Int × Int × (List (Int)) × Int × Int × (List (Int)) × (List (Int)) × Bool) :=
 (impl_newLeases a0 a1).bind fun r0 =>
 let v1 : Bool := (if (!r0.2.2.2.2.2) then true else (decide ((100 : Int) < ((a2.length : Nat) : Int))))
 if v1 then
 (some ((0 : Int), (0 : Int), ([] : List (Int)), (0 : Int), (0 : Int), ([] : List (Int)), ([] : List (Int)), false))
 else
 ((loopM (σ := Int × Int × (List (Int)) × Int × Int × (List (Int)) × (List (Int)) × Int) (X := Int × Int × (List (Int)) × Int × Int × (List (Int)) × List (Int)) (fun s2 =>
 (if (decide (s2.2.2.2.2.2.2.2 < ((a2.length : Nat) : Int))) then
 ((chk ((decide ((0 : Int) ≤ s2.2.2.2.2.2.2.2)) && (decide (s2.2.2.2.2.2.2.2 < ((a2.length : Nat) : Int)))) <|
 let v3 : (Int) × (Int) × Int := (a2.getD (Int.toNat s2.2.2.2.2.2.2.2) (0, (0, 0)))
 (impl_Leases_step s2.1 s2.2.1 s2.2.2.1 s2.2.2.2.1 s2.2.2.2.2.1 s2.2.2.2.2.2.1 v3.1 v3.2.1 v3.2.2).bind fun r4 =>
 (if r4.2.2.2.2.2.2 then
 (some (r4.1, r4.2.1, r4.2.2.1, r4.2.2.2.1, r4.2.2.2.2.1, r4.2.2.2.2.2.1) : Option (Int × Int × (List (Int)) × Int × Int × List (Int)))
 else
 (some (s2.1, s2.2.1, s2.2.2.1, s2.2.2.2.1, s2.2.2.2.2.1, s2.2.2.2.2.2.1))).bind fun s5 =>
 (impl_Leases_believers s5.1 s5.2.1 s5.2.2.1 s5.2.2.2.1 s5.2.2.2.2.1 s5.2.2.2.2.2).bind fun r6 =>
 let v7 : List (Int) := (((r6.length : Nat) : Int) :: ([] : List (Int)))
 let v8 : List (Int) := (s2.2.2.2.2.2.2.1 ++ v7)
 chk (decide (((v8.length : Nat) : Int) ≤ (17592186044416 : Int))) <|
 some (s5.1, s5.2.1, s5.2.2.1, s5.2.2.2.1, s5.2.2.2.2.1, s5.2.2.2.2.2, v8) : Option (Int × Int × (List (Int)) × Int × Int × (List (Int)) × List (Int))).bind fun s9 =>
 some (.inl (s9.1, s9.2.1, s9.2.2.1, s9.2.2.2.1, s9.2.2.2.2.1, s9.2.2.2.2.2.1, s9.2.2.2.2.2.2, (i64 (s2.2.2.2.2.2.2.2 + (1 : Int))))))
 else
 some (.inr (s2.1, s2.2.1, s2.2.2.1, s2.2.2.2.1, s2.2.2.2.2.1, s2.2.2.2.2.2.1, s2.2.2.2.2.2.2.1)))) (r0.1, r0.2.1, r0.2.2.1, r0.2.2.2.1, r0.2.1, r0.2.2.2.2.1, ([] : List (Int)), (0 : Int))).bind fun x10 =>
 some (x10.1, x10.2.1, x10.2.2.1, x10.2.2.2.1, x10.2.2.2.2.1, x10.2.2.2.2.2.1, x10.2.2.2.2.2.2) : Option (Int × Int × (List (Int)) × Int × Int × (List (Int)) × List (Int))).bind fun s11 =>
 some (s11.1, s11.2.1, s11.2.2.1, s11.2.2.2.1, s11.2.2.2.2.1, s11.2.2.2.2.2.1, s11.2.2.2.2.2.2, true)
/-- spec.l1In -/
noncomputable def spec_l1In (a0 : Int) (a1 : Int) (a2 : Int) : Option (Bool) :=
 let v0 : Bool := (if (decide (a1 ≤ a0)) then (decide (a0 ≤ a2)) else false)
 some v0
/-- spec.l8Nodes -/
noncomputable def spec_l8Nodes (a0 : Int) : Option (Bool) :=
 (spec_l1In a0 (1 : Int) (12 : Int)).bind fun r0 =>
 some r0
/-- spec.NewLeases -/
noncomputable def spec_NewLeases (a0 : Int) (a1 : Int) : Option (Int × Int × (List (Int)) × Int × (List (Int)) × Bool) :=
 (spec_l8Nodes a0).bind fun r0 =>
 (if (!(!r0)) then spec_l1In a1 (0 : Int) (1000 : Int) else some false).bind fun r1 =>
 let v2 : Bool := (if (!r0) then true else (!r1))
 if v2 then
 (some ((0 : Int), (0 : Int), ([] : List (Int)), (0 : Int), ([] : List (Int)), false))
 else
 chk ((decide ((0 : Int) ≤ a0)) && (decide (a0 ≤ (17592186044416 : Int)))) <|
 let v3 : List (Int) := (List.replicate (Int.toNat a0) (0 : Int))
 chk ((decide ((0 : Int) ≤ a0)) && (decide (a0 ≤ (17592186044416 : Int)))) <|
 let v4 : List (Int) := (List.replicate (Int.toNat a0) (0 : Int))
 some (a1, (0 : Int), v3, (-1 : Int), v4, true)
/-- spec.l11Own -/
noncomputable def spec_l11Own (a0 : Int) (a1 : Int) (a2 : List (Int)) (a3 : Int) (a4 : Int) (a5 : List (Int)) : Option (Int × Int × (List (Int)) × Int × Int × List (Int)) :=
 let v0 : List (Int) := (([] : List (Int)) ++ a2)
 chk (decide (((v0.length : Nat) : Int) ≤ (17592186044416 : Int))) <|
 let v1 : List (Int) := (([] : List (Int)) ++ a5)
 chk (decide (((v1.length : Nat) : Int) ≤ (17592186044416 : Int))) <|
 some (a0, a1, v0, a3, a4, v1)
/-- spec.GoodLeases -/
noncomputable def spec_GoodLeases (a0 : Int) (a1 : Int) (a2 : List (Int)) (a3 : Int) (a4 : Int) (a5 : List (Int)) : Option (Bool) :=
 (spec_l1In a0 (0 : Int) (1000 : Int)).bind fun r0 =>
 (if (!(!r0)) then spec_l1In a1 (0 : Int) (1000000 : Int) else some false).bind fun r1 =>
 let v2 : Bool := (if (!r0) then true else (!r1))
 (if (!v2) then spec_l8Nodes ((a2.length : Nat) : Int) else some false).bind fun r3 =>
 let v4 : Bool := (if v2 then true else (!r3))
 let v5 : Bool := (if v4 then true else (!decide (((a5.length : Nat) : Int) = ((a2.length : Nat) : Int))))
 (if (!v5) then spec_l1In a3 (-1 : Int) (i64 (((a2.length : Nat) : Int) - (1 : Int))) else some false).bind fun r6 =>
 let v7 : Bool := (if v5 then true else (!r6))
 (if (!v7) then spec_l1In a4 (0 : Int) (2000000 : Int) else some false).bind fun r8 =>
 let v9 : Bool := (if v7 then true else (!r8))
 if v9 then
 (some false)
 else
 let j10 : Unit → Option _ := fun s11 =>
 (some true)
 (loopM (σ := Int) (X := (Unit) ⊕ (Bool)) (fun s12 =>
 (if (decide (s12 < ((a2.length : Nat) : Int))) then
 (let j13 : Unit → Option _ := fun s14 =>
 (some (.inl (i64 (s12 + (1 : Int)))))
 chk ((decide ((0 : Int) ≤ s12)) && (decide (s12 < ((a2.length : Nat) : Int)))) <|
 (if (!(decide ((a2.getD (Int.toNat s12) 0) < (0 : Int)))) then spec_l1In (a2.getD (Int.toNat s12) 0) (i64 (a1 - a0)) (i64 (a1 + a0)) else some false).bind fun r15 =>
 let v16 : Bool := (if (decide ((a2.getD (Int.toNat s12) 0) < (0 : Int))) then true else (!r15))
 chk (!(!v16) || ((decide ((0 : Int) ≤ s12)) && (decide (s12 < ((a5.length : Nat) : Int))))) <|
 (if (!v16) then spec_l1In (a5.getD (Int.toNat s12) 0) (0 : Int) a4 else some false).bind fun r17 =>
 let v18 : Bool := (if v16 then true else (!r17))
 chk (!((!v18) && (!decide (s12 = a3))) || ((decide ((0 : Int) ≤ s12)) && (decide (s12 < ((a5.length : Nat) : Int))))) <|
 let v19 : Bool := (if (!decide (s12 = a3)) then (decide (a1 < (a5.getD (Int.toNat s12) 0))) else false)
 let v20 : Bool := (if v18 then true else v19)
 if v20 then
 (some (.inr (.inr false)))
 else
 j13 ())
 else
 some (.inr (.inl ())))) (0 : Int)).bind fun x21 =>
 sumE x21 (fun y22 =>
 j10 ()) (fun z23 =>
 some z23)
/-- spec.l11Step -/
noncomputable def spec_l11Step (a0 : Int) (a1 : Int) (a2 : List (Int)) (a3 : Int) (a4 : Int) (a5 : List (Int)) (a6 : Int) (a7 : Int) (a8 : Int) : Option ((List (Int)) × (List (Int)) × Int × Int × Int × Int × Bool) :=
 if (decide (a6 = (3 : Int))) then
 ((spec_l1In a8 (1 : Int) (1000000 : Int)).bind fun r0 =>
 if (!r0) then
 (some (a2, a5, a0, a1, a3, a4, false))
 else
 (spec_GoodLeases a0 (i64 (a1 + a8)) a2 a3 a4 a5).bind fun r1 =>
 some (a2, a5, a0, (i64 (a1 + a8)), a3, a4, r1))
 else
 (spec_l1In a7 (0 : Int) (i64 (((a2.length : Nat) : Int) - (1 : Int)))).bind fun r2 =>
 if (!r2) then
 (some (a2, a5, a0, a1, a3, a4, false))
 else
 let j3 : (List (Int)) × (List (Int)) × Int × Int → Option _ := fun s4 =>
 ((spec_GoodLeases a0 a1 s4.1 s4.2.2.1 s4.2.2.2 s4.2.1).bind fun r5 =>
 some (s4.1, s4.2.1, a0, a1, s4.2.2.1, s4.2.2.2, r5))
 let j6 : (List (Int)) × (List (Int)) × Int × Int → Option _ := fun s7 =>
 (j3 (s7.1, s7.2.1, s7.2.2.1, s7.2.2.2))
 if (decide (a6 = (1 : Int))) then
 ((spec_l1In a8 (1 : Int) (1000000 : Int)).bind fun r8 =>
 let v9 : Bool := (if (!decide (a3 = a7)) then (decide (a1 < a4)) else false)
 let v10 : Bool := (if (!r8) then true else v9)
 if v10 then
 (some (a2, a5, a0, a1, a3, a4, false))
 else
 let v11 : Bool := (if (decide (a3 = a7)) then (decide ((i64 (a1 + a8)) < a4)) else false)
 (if v11 then
 (some a4 : Option (Int))
 else
 (some (i64 (a1 + a8)))).bind fun s12 =>
 j6 (a2, a5, a7, s12))
 else
 let j13 : (List (Int)) × List (Int) → Option _ := fun s14 =>
 (j6 (s14.1, s14.2, a3, a4))
 if (decide (a6 = (2 : Int))) then
 (if (!decide (a3 = a7)) then
 (some (a2, a5, a0, a1, a3, a4, false))
 else
 chk ((decide ((0 : Int) ≤ a7)) && (decide (a7 < ((a5.length : Nat) : Int)))) <|
 let v15 : List (Int) := (a5.set (Int.toNat a7) a4)
 j13 (a2, v15))
 else
 if (decide (a6 = (4 : Int))) then
 ((spec_l1In a8 (-1000 : Int) (1000000 : Int)).bind fun r16 =>
 if (!r16) then
 (some (a2, a5, a0, a1, a3, a4, false))
 else
 chk ((decide ((0 : Int) ≤ a7)) && (decide (a7 < ((a2.length : Nat) : Int)))) <|
 chk ((decide ((0 : Int) ≤ a7)) && (decide (a7 < ((a2.length : Nat) : Int)))) <|
 let v17 : List (Int) := (a2.set (Int.toNat a7) (i64 ((a2.getD (Int.toNat a7) 0) + a8)))
 j13 (v17, a5))
 else
 some (a2, a5, a0, a1, a3, a4, false)
/-- spec.l11Believers -/
noncomputable def spec_l11Believers (a0 : Int) (a1 : Int) (a2 : List (Int)) (a3 : Int) (a4 : Int) (a5 : List (Int)) : Option (List (Int)) :=
 ((loopM (σ := (List (Int)) × Int) (X := List (Int)) (fun s0 =>
 (if (decide (s0.2 < ((a2.length : Nat) : Int))) then
 ((chk ((decide ((0 : Int) ≤ s0.2)) && (decide (s0.2 < ((a2.length : Nat) : Int)))) <|
 chk ((decide ((0 : Int) ≤ s0.2)) && (decide (s0.2 < ((a5.length : Nat) : Int)))) <|
 (if (decide ((i64 ((a2.getD (Int.toNat s0.2) 0) + a0)) < (a5.getD (Int.toNat s0.2) 0))) then
 (let v1 : List (Int) := (s0.2 :: ([] : List (Int)))
 let v2 : List (Int) := (s0.1 ++ v1)
 chk (decide (((v2.length : Nat) : Int) ≤ (17592186044416 : Int))) <|
 some v2 : Option (List (Int)))
 else
 (some s0.1)).bind fun s3 =>
 some s3 : Option (List (Int))).bind fun s4 =>
 some (.inl (s4, (i64 (s0.2 + (1 : Int))))))
 else
 some (.inr s0.1))) (([] : List (Int)), (0 : Int))).bind fun x5 =>
 some x5 : Option (List (Int))).bind fun s6 =>
 some s6
/-- spec.PlayLeases -/
noncomputable def spec_PlayLeases (a0 : Int) (a1 : Int) (a2 : List ((Int) × (Int) × Int)) : Option (Int × Int × (List (Int)) × Int × Int × (List (Int)) × (List (Int)) × Bool) :=
 (spec_NewLeases a0 a1).bind fun r0 =>
 let v1 : Bool := (if (!r0.2.2.2.2.2) then true else (decide ((100 : Int) < ((a2.length : Nat) : Int))))
 if v1 then
 (some ((0 : Int), (0 : Int), ([] : List (Int)), (0 : Int), (0 : Int), ([] : List (Int)), ([] : List (Int)), false))
 else
 ((loopM (σ := Int × Int × (List (Int)) × Int × Int × (List (Int)) × (List (Int)) × Int) (X := Int × Int × (List (Int)) × Int × Int × (List (Int)) × List (Int)) (fun s2 =>
 (if (decide (s2.2.2.2.2.2.2.2 < ((a2.length : Nat) : Int))) then
 ((chk ((decide ((0 : Int) ≤ s2.2.2.2.2.2.2.2)) && (decide (s2.2.2.2.2.2.2.2 < ((a2.length : Nat) : Int)))) <|
 let v3 : (Int) × (Int) × Int := (a2.getD (Int.toNat s2.2.2.2.2.2.2.2) (0, (0, 0)))
 (spec_l11Own s2.1 s2.2.1 s2.2.2.1 s2.2.2.2.1 s2.2.2.2.2.1 s2.2.2.2.2.2.1).bind fun r4 =>
 (spec_l11Step r4.1 r4.2.1 r4.2.2.1 r4.2.2.2.1 r4.2.2.2.2.1 r4.2.2.2.2.2 v3.1 v3.2.1 v3.2.2).bind fun r5 =>
 (if r5.2.2.2.2.2.2 then
 (some (r5.2.2.1, r5.2.2.2.1, ((r5.1.take (Int.toNat ((r4.2.2.1.length : Nat) : Int))).drop (Int.toNat (0 : Int))), r5.2.2.2.2.1, r5.2.2.2.2.2.1, ((r5.2.1.take (Int.toNat ((r4.2.2.2.2.2.length : Nat) : Int))).drop (Int.toNat (0 : Int)))) : Option (Int × Int × (List (Int)) × Int × Int × List (Int)))
 else
 (some (s2.1, s2.2.1, s2.2.2.1, s2.2.2.2.1, s2.2.2.2.2.1, s2.2.2.2.2.2.1))).bind fun s6 =>
 (spec_l11Believers s6.1 s6.2.1 s6.2.2.1 s6.2.2.2.1 s6.2.2.2.2.1 s6.2.2.2.2.2).bind fun r7 =>
 let v8 : List (Int) := (((r7.length : Nat) : Int) :: ([] : List (Int)))
 let v9 : List (Int) := (s2.2.2.2.2.2.2.1 ++ v8)
 chk (decide (((v9.length : Nat) : Int) ≤ (17592186044416 : Int))) <|
 some (s6.1, s6.2.1, s6.2.2.1, s6.2.2.2.1, s6.2.2.2.2.1, s6.2.2.2.2.2, v9) : Option (Int × Int × (List (Int)) × Int × Int × (List (Int)) × List (Int))).bind fun s10 =>
 some (.inl (s10.1, s10.2.1, s10.2.2.1, s10.2.2.2.1, s10.2.2.2.2.1, s10.2.2.2.2.2.1, s10.2.2.2.2.2.2, (i64 (s2.2.2.2.2.2.2.2 + (1 : Int))))))
 else
 some (.inr (s2.1, s2.2.1, s2.2.2.1, s2.2.2.2.1, s2.2.2.2.2.1, s2.2.2.2.2.2.1, s2.2.2.2.2.2.2.1)))) (r0.1, r0.2.1, r0.2.2.1, r0.2.2.2.1, r0.2.1, r0.2.2.2.2.1, ([] : List (Int)), (0 : Int))).bind fun x11 =>
 some (x11.1, x11.2.1, x11.2.2.1, x11.2.2.2.1, x11.2.2.2.2.1, x11.2.2.2.2.2.1, x11.2.2.2.2.2.2) : Option (Int × Int × (List (Int)) × Int × Int × (List (Int)) × List (Int))).bind fun s12 =>
 (spec_l11Own s12.1 s12.2.1 s12.2.2.1 s12.2.2.2.1 s12.2.2.2.2.1 s12.2.2.2.2.2.1).bind fun r13 =>
 some (r13.1, r13.2.1, r13.2.2.1, r13.2.2.2.1, r13.2.2.2.2.1, r13.2.2.2.2.2, s12.2.2.2.2.2.2, true)
/-- laws.sameInts -/
noncomputable def laws_sameInts (a0 : List (Int)) (a1 : List (Int)) : Option (Bool) :=
 if (!decide (((a0.length : Nat) : Int) = ((a1.length : Nat) : Int))) then
 (some false)
 else
 let j0 : Unit → Option _ := fun s1 =>
 (some true)
 (loopM (σ := Int) (X := (Unit) ⊕ (Bool)) (fun s2 =>
 (if (decide (s2 < ((a0.length : Nat) : Int))) then
 (let j3 : Unit → Option _ := fun s4 =>
 (some (.inl (i64 (s2 + (1 : Int)))))
 chk ((decide ((0 : Int) ≤ s2)) && (decide (s2 < ((a0.length : Nat) : Int)))) <|
 chk ((decide ((0 : Int) ≤ s2)) && (decide (s2 < ((a1.length : Nat) : Int)))) <|
 if (!decide ((a0.getD (Int.toNat s2) 0) = (a1.getD (Int.toNat s2) 0))) then
 (some (.inr (.inr false)))
 else
 j3 ())
 else
 some (.inr (.inl ())))) (0 : Int)).bind fun x5 =>
 sumE x5 (fun y6 =>
 j0 ()) (fun z7 =>
 some z7)
/-- impl.GoodLeases -/
noncomputable def impl_GoodLeases (a0 : Int) (a1 : Int) (a2 : List (Int)) (a3 : Int) (a4 : Int) (a5 : List (Int)) : Option (Bool) :=
 (impl_areLeases a0 a1 a2 a3 a4 a5).bind fun r0 =>
 some r0
/-- (*spec.l1Cur).leases -/
noncomputable def spec_l1Cur_leases (a0 : List (Int)) (a1 : Int) (a2 : Int) : Option (Int × Int × Int × Int × (List (Int)) × Int × Int × List (Int)) :=
 (spec_l1Cur_leaseSteps a0 a1 a2).bind fun r0 =>
 (if (decide ((100 : Int) < ((r0.2.2.length : Nat) : Int))) then
 (chk ((decide ((0 : Int) ≤ (0 : Int))) && ((decide ((0 : Int) ≤ (50 : Int))) && (decide ((50 : Int) ≤ ((r0.2.2.length : Nat) : Int))))) <|
 some (50 : Int) : Option (Int))
 else
 (some ((r0.2.2.length : Nat) : Int))).bind fun s1 =>
 (spec_l1Cur_pick a0 r0.1 r0.2.1 (4 : Int)).bind fun r2 =>
 (spec_l1Cur_pick a0 r2.1 r2.2.1 (20 : Int)).bind fun r3 =>
 (spec_PlayLeases (i64 ((1 : Int) + r2.2.2)) r3.2.2 ((r0.2.2.take (Int.toNat s1)).drop (Int.toNat (0 : Int)))).bind fun r4 =>
 (spec_l1Cur_pick a0 r3.1 r3.2.1 (40 : Int)).bind fun r5 =>
 ((if (decide (r5.2.2 = (0 : Int))) then
 (let v6 : List (Int) := ((-1 : Int) :: ((50 : Int) :: ((1000000 : Int) :: ([] : List (Int)))))
 (spec_l1Cur_among a0 r5.1 r5.2.1 v6).bind fun r7 =>
 some (r7.1, r7.2.1, (i64 (r4.2.1 + r7.2.2)), r4.2.2.2.1, r4.2.2.2.2.2.1) : Option (Int × Int × Int × Int × List (Int)))
 else
 ((if (decide (r5.2.2 = (1 : Int))) then
 ((spec_l1Cur_pick a0 r5.1 r5.2.1 (6 : Int)).bind fun r8 =>
 some (r8.1, r8.2.1, (i64 (r8.2.2 - (2 : Int))), r4.2.2.2.2.2.1) : Option (Int × Int × Int × List (Int)))
 else
 ((if (decide (r5.2.2 = (2 : Int))) then
 (let v9 : List (Int) := ((1 : Int) :: ([] : List (Int)))
 let v10 : List (Int) := (r4.2.2.2.2.2.1 ++ v9)
 chk (decide (((v10.length : Nat) : Int) ≤ (17592186044416 : Int))) <|
 some v10 : Option (List (Int)))
 else
 (some r4.2.2.2.2.2.1)).bind fun s11 =>
 some (r5.1, r5.2.1, r4.2.2.2.1, s11))).bind fun s12 =>
 some (s12.1, s12.2.1, r4.2.1, s12.2.2.1, s12.2.2.2))).bind fun s13 =>
 some (s13.1, s13.2.1, s13.2.2.1, s13.2.2.2.1, s13.2.2.2.2) : Option (Int × Int × Int × Int × List (Int))).bind fun s14 =>
 some (s14.1, s14.2.1, r4.1, s14.2.2.1, r4.2.2.1, s14.2.2.2.1, r4.2.2.2.2.1, s14.2.2.2.2)
/-- spec.DrawStepLease -/
noncomputable def spec_DrawStepLease (a0 : List (Int)) : Option (Int × Int × (List (Int)) × Int × Int × (List (Int)) × Int × Int × Int) :=
 (spec_l1Cur_leases a0 (0 : Int) (0 : Int)).bind fun r0 =>
 (spec_l1Cur_pick a0 r0.1 r0.2.1 (6 : Int)).bind fun r1 =>
 (spec_l1Cur_pick a0 r1.1 r1.2.1 (i64 (((r0.2.2.2.2.1.length : Nat) : Int) + (2 : Int)))).bind fun r2 =>
 (spec_l1Cur_pick a0 r2.1 r2.2.1 (30 : Int)).bind fun r3 =>
 some (r0.2.2.1, r0.2.2.2.1, r0.2.2.2.2.1, r0.2.2.2.2.2.1, r0.2.2.2.2.2.2.1, r0.2.2.2.2.2.2.2, r1.2.2, (i64 (r2.2.2 - (1 : Int))), (i64 (r3.2.2 - (5 : Int))))
/-- impl.StepLease -/
noncomputable def impl_StepLease (a0 : Int) (a1 : Int) (a2 : List (Int)) (a3 : Int) (a4 : Int) (a5 : List (Int)) (a6 : Int) (a7 : Int) (a8 : Int) : Option (Int × Int × (List (Int)) × Int × Int × (List (Int)) × Bool) :=
 (impl_areLeases a0 a1 a2 a3 a4 a5).bind fun r0 =>
 if (!r0) then
 (some ((0 : Int), (0 : Int), ([] : List (Int)), (0 : Int), (0 : Int), ([] : List (Int)), false))
 else
 (impl_Leases_step a0 a1 a2 a3 a4 a5 a6 a7 a8).bind fun r1 =>
 some (r1.1, r1.2.1, r1.2.2.1, r1.2.2.2.1, r1.2.2.2.2.1, r1.2.2.2.2.2.1, r1.2.2.2.2.2.2)
/-- spec.StepLease -/
noncomputable def spec_StepLease (a0 : Int) (a1 : Int) (a2 : List (Int)) (a3 : Int) (a4 : Int) (a5 : List (Int)) (a6 : Int) (a7 : Int) (a8 : Int) : Option (Int × Int × (List (Int)) × Int × Int × (List (Int)) × Bool) :=
 (spec_GoodLeases a0 a1 a2 a3 a4 a5).bind fun r0 =>
 if (!r0) then
 (some ((0 : Int), (0 : Int), ([] : List (Int)), (0 : Int), (0 : Int), ([] : List (Int)), false))
 else
 (spec_l11Own a0 a1 a2 a3 a4 a5).bind fun r1 =>
 (spec_l11Step r1.1 r1.2.1 r1.2.2.1 r1.2.2.2.1 r1.2.2.2.2.1 r1.2.2.2.2.2 a6 a7 a8).bind fun r2 =>
 if (!r2.2.2.2.2.2.2) then
 (some ((0 : Int), (0 : Int), ([] : List (Int)), (0 : Int), (0 : Int), ([] : List (Int)), false))
 else
 some (r2.2.2.1, r2.2.2.2.1, ((r2.1.take (Int.toNat ((r1.2.2.1.length : Nat) : Int))).drop (Int.toNat (0 : Int))), r2.2.2.2.2.1, r2.2.2.2.2.2.1, ((r2.2.1.take (Int.toNat ((r1.2.2.2.2.2.length : Nat) : Int))).drop (Int.toNat (0 : Int))), true)
/-- impl.BelieversOf -/
noncomputable def impl_BelieversOf (a0 : Int) (a1 : Int) (a2 : List (Int)) (a3 : Int) (a4 : Int) (a5 : List (Int)) : Option ((List (Int)) × Bool) :=
 (impl_areLeases a0 a1 a2 a3 a4 a5).bind fun r0 =>
 if (!r0) then
 (some (([] : List (Int)), false))
 else
 (impl_Leases_believers a0 a1 a2 a3 a4 a5).bind fun r1 =>
 some (r1, true)
/-- impl.SafeUntil -/
noncomputable def impl_SafeUntil (a0 : Int) (a1 : Int) (a2 : List (Int)) (a3 : Int) (a4 : Int) (a5 : List (Int)) (a6 : Int) : Option (Int × Bool) :=
 (impl_areLeases a0 a1 a2 a3 a4 a5).bind fun r0 =>
 (if (!(!r0)) then impl_in a6 (0 : Int) (i64 (((a2.length : Nat) : Int) - (1 : Int))) else some false).bind fun r1 =>
 let v2 : Bool := (if (!r0) then true else (!r1))
 if v2 then
 (some ((0 : Int), false))
 else
 chk ((decide ((0 : Int) ≤ a6)) && (decide (a6 < ((a5.length : Nat) : Int)))) <|
 some ((max (i64 ((a5.getD (Int.toNat a6) 0) - a0)) (0 : Int)), true)
/-- laws.has -/
noncomputable def laws_has (a0 : List (Int)) (a1 : Int) : Option (Bool) :=
 let j0 : Unit → Option _ := fun s1 =>
 (some false)
 (loopM (σ := Int) (X := (Unit) ⊕ (Bool)) (fun s2 =>
 (if (decide (s2 < ((a0.length : Nat) : Int))) then
 (let j3 : Unit → Option _ := fun s4 =>
 (some (.inl (i64 (s2 + (1 : Int)))))
 chk ((decide ((0 : Int) ≤ s2)) && (decide (s2 < ((a0.length : Nat) : Int)))) <|
 if (decide ((a0.getD (Int.toNat s2) 0) = a1)) then
 (some (.inr (.inr true)))
 else
 j3 ())
 else
 some (.inr (.inl ())))) (0 : Int)).bind fun x5 =>
 sumE x5 (fun y6 =>
 j0 ()) (fun z7 =>
 some z7)
/-- laws.FnLease -/
noncomputable def laws_FnLease (a0 : List (Int)) (a1 : List (Int)) : Option (Bool) :=
 if (decide ((1048576 : Int) < (i64 (((a0.length : Nat) : Int) + ((a1.length : Nat) : Int))))) then
 (some true)
 else
 (spec_DrawPlayLeases a0).bind fun r0 =>
 (impl_PlayLeases r0.1 r0.2.1 r0.2.2).bind fun r1 =>
 (spec_PlayLeases r0.1 r0.2.1 r0.2.2).bind fun r2 =>
 (if (!(r1.2.2.2.2.2.2.2 != r2.2.2.2.2.2.2.2)) then laws_sameInts r1.2.2.2.2.2.2.1 r2.2.2.2.2.2.2.1 else some false).bind fun r3 =>
 let v4 : Bool := (if (r1.2.2.2.2.2.2.2 != r2.2.2.2.2.2.2.2) then true else (!r3))
 if v4 then
 (some false)
 else
 let j5 : Unit → Option _ := fun s6 =>
 ((if r1.2.2.2.2.2.2.2 then impl_GoodLeases r1.1 r1.2.1 r1.2.2.1 r1.2.2.2.1 r1.2.2.2.2.1 r1.2.2.2.2.2.1 else some false).bind fun r7 =>
 let v8 : Bool := (if r1.2.2.2.2.2.2.2 then (!r7) else false)
 if v8 then
 (some false)
 else
 (spec_DrawStepLease a1).bind fun r9 =>
 (impl_StepLease r9.1 r9.2.1 r9.2.2.1 r9.2.2.2.1 r9.2.2.2.2.1 r9.2.2.2.2.2.1 r9.2.2.2.2.2.2.1 r9.2.2.2.2.2.2.2.1 r9.2.2.2.2.2.2.2.2).bind fun r10 =>
 (spec_StepLease r9.1 r9.2.1 r9.2.2.1 r9.2.2.2.1 r9.2.2.2.2.1 r9.2.2.2.2.2.1 r9.2.2.2.2.2.2.1 r9.2.2.2.2.2.2.2.1 r9.2.2.2.2.2.2.2.2).bind fun r11 =>
 if (r10.2.2.2.2.2.2 != r11.2.2.2.2.2.2) then
 (some false)
 else
 if (!r10.2.2.2.2.2.2) then
 (some (decide (((r10.2.2.1.length : Nat) : Int) = (0 : Int))))
 else
 (impl_BelieversOf r10.1 r10.2.1 r10.2.2.1 r10.2.2.2.1 r10.2.2.2.2.1 r10.2.2.2.2.2.1).bind fun r12 =>
 let v13 : Bool := (if (!r12.2) then true else (decide ((1 : Int) < ((r12.1.length : Nat) : Int))))
 (if (!v13) then impl_GoodLeases r10.1 r10.2.1 r10.2.2.1 r10.2.2.2.1 r10.2.2.2.2.1 r10.2.2.2.2.2.1 else some false).bind fun r14 =>
 let v15 : Bool := (if v13 then true else (!r14))
 let v16 : Bool := (if v15 then true else (decide (r10.2.1 < r9.2.1)))
 if v16 then
 (some false)
 else
 let j17 : Unit → Option _ := fun s18 =>
 (some true)
 (loopM (σ := Int) (X := (Unit) ⊕ (Bool)) (fun s19 =>
 (if (decide (s19 < ((r10.2.2.1.length : Nat) : Int))) then
 (let j20 : Unit → Option _ := fun s21 =>
 (some (.inl (i64 (s19 + (1 : Int)))))
 chk ((decide ((0 : Int) ≤ s19)) && (decide (s19 < ((r10.2.2.1.length : Nat) : Int)))) <|
 (impl_SafeUntil r10.1 r10.2.1 r10.2.2.1 r10.2.2.2.1 r10.2.2.2.2.1 r10.2.2.2.2.2.1 s19).bind fun r22 =>
 (if (!(!r22.2)) then laws_has r12.1 s19 else some false).bind fun r23 =>
 let v24 : Bool := (if (!r22.2) then true else ((decide ((r10.2.2.1.getD (Int.toNat s19) 0) < r22.1)) != r23))
 (if (!v24) then laws_has r12.1 s19 else some false).bind fun r25 =>
 let v26 : Bool := (if (!decide (s19 = r10.2.2.2.1)) then true else (decide (r10.2.2.2.2.1 ≤ r10.2.1)))
 let v27 : Bool := (if r25 then v26 else false)
 let v28 : Bool := (if v24 then true else v27)
 if v28 then
 (some (.inr (.inr false)))
 else
 j20 ())
 else
 some (.inr (.inl ())))) (0 : Int)).bind fun x29 =>
 sumE x29 (fun y30 =>
 j17 ()) (fun z31 =>
 some z31))
 (loopM (σ := Int) (X := (Unit) ⊕ (Bool)) (fun s32 =>
 (if (decide (s32 < ((r1.2.2.2.2.2.2.1.length : Nat) : Int))) then
 (let j33 : Unit → Option _ := fun s34 =>
 (some (.inl (i64 (s32 + (1 : Int)))))
 chk ((decide ((0 : Int) ≤ s32)) && (decide (s32 < ((r1.2.2.2.2.2.2.1.length : Nat) : Int)))) <|
 if (decide ((1 : Int) < (r1.2.2.2.2.2.2.1.getD (Int.toNat s32) 0))) then
 (some (.inr (.inr false)))
 else
 j33 ())
 else
 some (.inr (.inl ())))) (0 : Int)).bind fun x35 =>
 sumE x35 (fun y36 =>
 j5 ()) (fun z37 =>
 some z37)
/-- laws.szLeaseStepS -/
noncomputable def laws_szLeaseStepS (a0 : List ((Int) × (Int) × Int)) (a1 : Int) : Option (Int) :=
 if (decide ((i64 (a1 - ((a0.length : Nat) : Int))) < (0 : Int))) then
 (some (-1 : Int))
 else
 some (i64 (a1 - ((a0.length : Nat) : Int)))
/-- laws.toLeaseStep -/
noncomputable def laws_toLeaseStep (a0 : Int) (a1 : Int) (a2 : Int) : Option (Int × Int × Int) :=
 some (a0, a1, a2)
/-- laws.toLeaseStepS -/
noncomputable def laws_toLeaseStepS (a0 : List ((Int) × (Int) × Int)) : Option (List ((Int) × (Int) × Int)) :=
 chk ((decide ((0 : Int) ≤ ((a0.length : Nat) : Int))) && (decide (((a0.length : Nat) : Int) ≤ (5864062014805 : Int)))) <|
 let v0 : List ((Int) × (Int) × Int) := (List.replicate (Int.toNat ((a0.length : Nat) : Int)) ((0 : Int), ((0 : Int), (0 : Int))))
 ((loopM (σ := (List ((Int) × (Int) × Int)) × Int) (X := List ((Int) × (Int) × Int)) (fun s1 =>
 (if (decide (s1.2 < ((a0.length : Nat) : Int))) then
 ((chk ((decide ((0 : Int) ≤ s1.2)) && (decide (s1.2 < ((a0.length : Nat) : Int)))) <|
 let v2 : (Int) × (Int) × Int := (a0.getD (Int.toNat s1.2) (0, (0, 0)))
 (laws_toLeaseStep v2.1 v2.2.1 v2.2.2).bind fun r3 =>
 chk ((decide ((0 : Int) ≤ s1.2)) && (decide (s1.2 < ((s1.1.length : Nat) : Int)))) <|
 let v4 : List ((Int) × (Int) × Int) := (s1.1.set (Int.toNat s1.2) (r3.1, (r3.2.1, r3.2.2)))
 some v4 : Option (List ((Int) × (Int) × Int))).bind fun s5 =>
 some (.inl (s5, (i64 (s1.2 + (1 : Int))))))
 else
 some (.inr s1.1))) (v0, (0 : Int))).bind fun x6 =>
 some x6 : Option (List ((Int) × (Int) × Int))).bind fun s7 =>
 some s7
/-- laws.eqIntS -/
noncomputable def laws_eqIntS (a0 : List (Int)) (a1 : List (Int)) : Option (Bool) :=
 if (!decide (((a0.length : Nat) : Int) = ((a1.length : Nat) : Int))) then
 (some false)
 else
 let j0 : Unit → Option _ := fun s1 =>
 (some true)
 (loopM (σ := Int) (X := (Unit) ⊕ (Bool)) (fun s2 =>
 (if (decide (s2 < ((a0.length : Nat) : Int))) then
 (let j3 : Unit → Option _ := fun s4 =>
 (some (.inl (i64 (s2 + (1 : Int)))))
 chk ((decide ((0 : Int) ≤ s2)) && (decide (s2 < ((a0.length : Nat) : Int)))) <|
 chk ((decide ((0 : Int) ≤ s2)) && (decide (s2 < ((a1.length : Nat) : Int)))) <|
 if (!decide ((a0.getD (Int.toNat s2) 0) = (a1.getD (Int.toNat s2) 0))) then
 (some (.inr (.inr false)))
 else
 j3 ())
 else
 some (.inr (.inl ())))) (0 : Int)).bind fun x5 =>
 sumE x5 (fun y6 =>
 j0 ()) (fun z7 =>
 some z7)
/-- laws.eqLeases -/
noncomputable def laws_eqLeases (a0 : Int) (a1 : Int) (a2 : List (Int)) (a3 : Int) (a4 : Int) (a5 : List (Int)) (a6 : Int) (a7 : Int) (a8 : List (Int)) (a9 : Int) (a10 : Int) (a11 : List (Int)) : Option (Bool) :=
 if (!decide (a0 = a6)) then
 (some false)
 else
 if (!decide (a1 = a7)) then
 (some false)
 else
 (laws_eqIntS a2 a8).bind fun r0 =>
 if (!r0) then
 (some false)
 else
 if (!decide (a3 = a9)) then
 (some false)
 else
 if (!decide (a4 = a10)) then
 (some false)
 else
 (laws_eqIntS a5 a11).bind fun r1 =>
 if (!r1) then
 (some false)
 else
 some true
/-- laws.eqLeaseStep -/
noncomputable def laws_eqLeaseStep (a0 : Int) (a1 : Int) (a2 : Int) (a3 : Int) (a4 : Int) (a5 : Int) : Option (Bool) :=
 if (!decide (a0 = a3)) then
 (some false)
 else
 if (!decide (a1 = a4)) then
 (some false)
 else
 if (!decide (a2 = a5)) then
 (some false)
 else
 some true
/-- laws.eqLeaseStepS -/
noncomputable def laws_eqLeaseStepS (a0 : List ((Int) × (Int) × Int)) (a1 : List ((Int) × (Int) × Int)) : Option (Bool) :=
 if (!decide (((a0.length : Nat) : Int) = ((a1.length : Nat) : Int))) then
 (some false)
 else
 let j0 : Unit → Option _ := fun s1 =>
 (some true)
 (loopM (σ := Int) (X := (Unit) ⊕ (Bool)) (fun s2 =>
 (if (decide (s2 < ((a0.length : Nat) : Int))) then
 (let j3 : Unit → Option _ := fun s4 =>
 (some (.inl (i64 (s2 + (1 : Int)))))
 chk ((decide ((0 : Int) ≤ s2)) && (decide (s2 < ((a0.length : Nat) : Int)))) <|
 let v5 : (Int) × (Int) × Int := (a0.getD (Int.toNat s2) (0, (0, 0)))
 chk ((decide ((0 : Int) ≤ s2)) && (decide (s2 < ((a1.length : Nat) : Int)))) <|
 let v6 : (Int) × (Int) × Int := (a1.getD (Int.toNat s2) (0, (0, 0)))
 (laws_eqLeaseStep v5.1 v5.2.1 v5.2.2 v6.1 v6.2.1 v6.2.2).bind fun r7 =>
 if (!r7) then
 (some (.inr (.inr false)))
 else
 j3 ())
 else
 some (.inr (.inl ())))) (0 : Int)).bind fun x8 =>
 sumE x8 (fun y9 =>
 j0 ()) (fun z10 =>
 some z10)
/-- laws.markLeaseStepS -/
noncomputable def laws_markLeaseStepS (a0 : List ((Int) × (Int) × Int)) (a1 : Int) : Option ((List ((Int) × (Int) × Int)) × Int) :=
 ((loopM (σ := (List ((Int) × (Int) × Int)) × Int × Int) (X := (List ((Int) × (Int) × Int)) × Int) (fun s0 =>
 (if (decide (s0.2.2 < ((s0.1.length : Nat) : Int))) then
 ((chk ((decide ((0 : Int) ≤ s0.2.2)) && (decide (s0.2.2 < ((s0.1.length : Nat) : Int)))) <|
 let v1 : List ((Int) × (Int) × Int) := (s0.1.set (Int.toNat s0.2.2) (s0.2.1, (s0.1.getD (Int.toNat s0.2.2) (0, (0, 0))).2))
 chk ((decide ((0 : Int) ≤ s0.2.2)) && (decide (s0.2.2 < ((v1.length : Nat) : Int)))) <|
 let v2 : List ((Int) × (Int) × Int) := (v1.set (Int.toNat s0.2.2) ((v1.getD (Int.toNat s0.2.2) (0, (0, 0))).1, ((i64 (s0.2.1 + (1 : Int))), (v1.getD (Int.toNat s0.2.2) (0, (0, 0))).2.2)))
 chk ((decide ((0 : Int) ≤ s0.2.2)) && (decide (s0.2.2 < ((v2.length : Nat) : Int)))) <|
 let v3 : List ((Int) × (Int) × Int) := (v2.set (Int.toNat s0.2.2) ((v2.getD (Int.toNat s0.2.2) (0, (0, 0))).1, ((v2.getD (Int.toNat s0.2.2) (0, (0, 0))).2.1, (i64 ((i64 (s0.2.1 + (1 : Int))) + (1 : Int))))))
 some v3 : Option (List ((Int) × (Int) × Int))).bind fun s4 =>
 some (.inl (s4, (i64 ((i64 ((i64 (s0.2.1 + (1 : Int))) + (1 : Int))) + (1 : Int))), (i64 (s0.2.2 + (1 : Int))))))
 else
 some (.inr (s0.1, s0.2.1)))) (a0, a1, (0 : Int))).bind fun x5 =>
 some (x5.1, x5.2) : Option ((List ((Int) × (Int) × Int)) × Int)).bind fun s6 =>
 some (s6.1, s6.2)
/-- laws.markIntS -/
noncomputable def laws_markIntS (a0 : List (Int)) (a1 : Int) : Option ((List (Int)) × Int) :=
 ((loopM (σ := (List (Int)) × Int × Int) (X := (List (Int)) × Int) (fun s0 =>
 (if (decide (s0.2.2 < ((s0.1.length : Nat) : Int))) then
 ((chk ((decide ((0 : Int) ≤ s0.2.2)) && (decide (s0.2.2 < ((s0.1.length : Nat) : Int)))) <|
 let v1 : List (Int) := (s0.1.set (Int.toNat s0.2.2) s0.2.1)
 some v1 : Option (List (Int))).bind fun s2 =>
 some (.inl (s2, (i64 (s0.2.1 + (1 : Int))), (i64 (s0.2.2 + (1 : Int))))))
 else
 some (.inr (s0.1, s0.2.1)))) (a0, a1, (0 : Int))).bind fun x3 =>
 some (x3.1, x3.2) : Option ((List (Int)) × Int)).bind fun s4 =>
 some (s4.1, s4.2)
/-- laws.markLeases -/
noncomputable def laws_markLeases (a0 : Int) (a1 : Int) (a2 : List (Int)) (a3 : Int) (a4 : Int) (a5 : List (Int)) (a6 : Int) : Option ((List (Int)) × (List (Int)) × Int) :=
 (laws_markIntS a2 a6).bind fun r0 =>
 (laws_markIntS a5 r0.2).bind fun r1 =>
 some (r0.1, r1.1, r1.2)
/-- laws.heldIntS -/
noncomputable def laws_heldIntS (a0 : List (Int)) (a1 : Int) : Option (Int) :=
 let j0 : Int → Option _ := fun s1 =>
 (some s1)
 (loopM (σ := Int × Int) (X := (Int) ⊕ (Int)) (fun s2 =>
 (if (decide (s2.2 < ((a0.length : Nat) : Int))) then
 (let j3 : Unit → Option _ := fun s4 =>
 (some (.inl ((i64 (s2.1 + (1 : Int))), (i64 (s2.2 + (1 : Int))))))
 chk ((decide ((0 : Int) ≤ s2.2)) && (decide (s2.2 < ((a0.length : Nat) : Int)))) <|
 if (!decide ((a0.getD (Int.toNat s2.2) 0) = s2.1)) then
 (some (.inr (.inr (-1 : Int))))
 else
 j3 ())
 else
 some (.inr (.inl s2.1)))) (a1, (0 : Int))).bind fun x5 =>
 sumE x5 (fun y6 =>
 j0 y6) (fun z7 =>
 some z7)
/-- laws.heldLeases -/
noncomputable def laws_heldLeases (a0 : Int) (a1 : Int) (a2 : List (Int)) (a3 : Int) (a4 : Int) (a5 : List (Int)) (a6 : Int) : Option (Int) :=
 (laws_heldIntS a2 a6).bind fun r0 =>
 if (decide (r0 < (0 : Int))) then
 (some (-1 : Int))
 else
 (laws_heldIntS a5 r0).bind fun r1 =>
 if (decide (r1 < (0 : Int))) then
 (some (-1 : Int))
 else
 some r1
/-- laws.FnExactPlayLeases -/
noncomputable def laws_FnExactPlayLeases (a0 : Int) (a1 : Int) (a2 : List ((Int) × (Int) × Int)) : Option (Bool) :=
 (laws_szLeaseStepS a2 (1048576 : Int)).bind fun r0 =>
 if (decide (r0 < (0 : Int))) then
 (some true)
 else
 (laws_toLeaseStepS a2).bind fun r1 =>
 (spec_PlayLeases a0 a1 r1).bind fun r2 =>
 (laws_toLeaseStepS a2).bind fun r3 =>
 (impl_PlayLeases a0 a1 r3).bind fun r4 =>
 (laws_eqLeases r4.1 r4.2.1 r4.2.2.1 r4.2.2.2.1 r4.2.2.2.2.1 r4.2.2.2.2.2.1 r2.1 r2.2.1 r2.2.2.1 r2.2.2.2.1 r2.2.2.2.2.1 r2.2.2.2.2.2.1).bind fun r5 =>
 (if (!(!r5)) then laws_eqIntS r4.2.2.2.2.2.2.1 r2.2.2.2.2.2.2.1 else some false).bind fun r6 =>
 let v7 : Bool := (if (!r5) then true else (!r6))
 let v8 : Bool := (if v7 then true else (r4.2.2.2.2.2.2.2 != r2.2.2.2.2.2.2.2))
 if v8 then
 (some false)
 else
 (laws_toLeaseStepS a2).bind fun r9 =>
 (laws_eqLeaseStepS r3 r9).bind fun r10 =>
 if (!r10) then
 (some false)
 else
 (laws_markLeaseStepS r3 (1 : Int)).bind fun r11 =>
 (if (!(decide (r11.2 < (0 : Int)))) then laws_eqLeases r4.1 r4.2.1 r4.2.2.1 r4.2.2.2.1 r4.2.2.2.2.1 r4.2.2.2.2.2.1 r2.1 r2.2.1 r2.2.2.1 r2.2.2.2.1 r2.2.2.2.2.1 r2.2.2.2.2.2.1 else some false).bind fun r12 =>
 let v13 : Bool := (if (decide (r11.2 < (0 : Int))) then true else (!r12))
 (if (!v13) then laws_eqIntS r4.2.2.2.2.2.2.1 r2.2.2.2.2.2.2.1 else some false).bind fun r14 =>
 let v15 : Bool := (if v13 then true else (!r14))
 let v16 : Bool := (if v15 then true else (r4.2.2.2.2.2.2.2 != r2.2.2.2.2.2.2.2))
 if v16 then
 (some false)
 else
 (laws_markLeases r4.1 r4.2.1 r4.2.2.1 r4.2.2.2.1 r4.2.2.2.2.1 r4.2.2.2.2.2.1 (1 : Int)).bind fun r17 =>
 (laws_markIntS r4.2.2.2.2.2.2.1 r17.2.2).bind fun r18 =>
 (laws_heldLeases r4.1 r4.2.1 r17.1 r4.2.2.2.1 r4.2.2.2.2.1 r17.2.1 (1 : Int)).bind fun r19 =>
 if (decide (r19 < (0 : Int))) then
 (some false)
 else
 (laws_heldIntS r18.1 r19).bind fun r20 =>
 if (decide (r20 < (0 : Int))) then
 (some false)
 else
 if (!decide (r20 = r18.2)) then
 (some false)
 else
 (laws_toLeaseStepS a2).bind fun r21 =>
 (impl_PlayLeases a0 a1 r21).bind fun r22 =>
 (laws_eqLeases r22.1 r22.2.1 r22.2.2.1 r22.2.2.2.1 r22.2.2.2.2.1 r22.2.2.2.2.2.1 r2.1 r2.2.1 r2.2.2.1 r2.2.2.2.1 r2.2.2.2.2.1 r2.2.2.2.2.2.1).bind fun r23 =>
 (if (!(!r23)) then laws_eqIntS r22.2.2.2.2.2.2.1 r2.2.2.2.2.2.2.1 else some false).bind fun r24 =>
 let v25 : Bool := (if (!r23) then true else (!r24))
 let v26 : Bool := (if v25 then true else (r22.2.2.2.2.2.2.2 != r2.2.2.2.2.2.2.2))
 if v26 then
 (some false)
 else
 (laws_heldLeases r4.1 r4.2.1 r17.1 r4.2.2.2.1 r4.2.2.2.2.1 r17.2.1 (1 : Int)).bind fun r27 =>
 if (decide (r27 < (0 : Int))) then
 (some false)
 else
 (laws_heldIntS r18.1 r27).bind fun r28 =>
 if (decide (r28 < (0 : Int))) then
 (some false)
 else
 if (!decide (r28 = r18.2)) then
 (some false)
 else
 some true
end Sh
