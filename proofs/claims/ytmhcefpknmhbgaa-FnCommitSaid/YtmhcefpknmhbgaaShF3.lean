/- Sh: typed functions of Go functions, part 3 (written by a program; each is checked against the seat's code). -/
import Derived.Test.YtmhcefpknmhbgaaShF2
set_option linter.unusedVariables false
namespace Sh
open Go
/-- (*spec.l1Cur).nodes -/
noncomputable def spec_l1Cur_nodes (a0 : List (Int)) (a1 : Int) (a2 : Int) : Option (Int × Int × Int) :=
 (spec_l1Cur_one a0 a1 a2 (30 : Int)).bind fun r0 =>
 if r0.2.2 then
 (let v1 : List (Int) := ((0 : Int) :: ((12 : Int) :: ((13 : Int) :: ([] : List (Int)))))
 (spec_l1Cur_among a0 r0.1 r0.2.1 v1).bind fun r2 =>
 some (r2.1, r2.2.1, r2.2.2))
 else
 (spec_l1Cur_pick a0 r0.1 r0.2.1 (7 : Int)).bind fun r3 =>
 some (r3.1, r3.2.1, (i64 ((1 : Int) + r3.2.2)))
/-- (*spec.l1Cur).group -/
noncomputable def spec_l1Cur_group (a0 : List (Int)) (a1 : Int) (a2 : Int) (a3 : Int) : Option (Int × Int × List (Int)) :=
 ((loopM (σ := Int × Int × (List (Int)) × Int) (X := Int × Int × List (Int)) (fun s0 =>
 (if (decide (s0.2.2.2 < a3)) then
 (((spec_l1Cur_one a0 s0.1 s0.2.1 (3 : Int)).bind fun r1 =>
 (if (!r1.2.2) then
 (let v2 : List (Int) := (s0.2.2.2 :: ([] : List (Int)))
 let v3 : List (Int) := (s0.2.2.1 ++ v2)
 chk (decide (((v3.length : Nat) : Int) ≤ (17592186044416 : Int))) <|
 some v3 : Option (List (Int)))
 else
 (some s0.2.2.1)).bind fun s4 =>
 some (r1.1, r1.2.1, s4) : Option (Int × Int × List (Int))).bind fun s5 =>
 some (.inl (s5.1, s5.2.1, s5.2.2, (i64 (s0.2.2.2 + (1 : Int))))))
 else
 some (.inr (s0.1, s0.2.1, s0.2.2.1)))) (a1, a2, ([] : List (Int)), (0 : Int))).bind fun x6 =>
 some (x6.1, x6.2.1, x6.2.2) : Option (Int × Int × List (Int))).bind fun s7 =>
 (spec_l1Cur_one a0 s7.1 s7.2.1 (30 : Int)).bind fun r8 =>
 (if r8.2.2 then
 ((spec_l1Cur_pick a0 r8.1 r8.2.1 (14 : Int)).bind fun r9 =>
 let v10 : List (Int) := ((i64 (r9.2.2 - (1 : Int))) :: ([] : List (Int)))
 let v11 : List (Int) := (s7.2.2 ++ v10)
 chk (decide (((v11.length : Nat) : Int) ≤ (17592186044416 : Int))) <|
 some (r9.1, r9.2.1, v11) : Option (Int × Int × List (Int)))
 else
 (some (r8.1, r8.2.1, s7.2.2))).bind fun s12 =>
 some (s12.1, s12.2.1, s12.2.2)
/-- spec.DrawMeetOf -/
noncomputable def spec_DrawMeetOf (a0 : List (Int)) : Option ((List (Int)) × (List (Int)) × Int) :=
 (spec_l1Cur_nodes a0 (0 : Int) (0 : Int)).bind fun r0 =>
 (spec_l1Cur_group a0 r0.1 r0.2.1 r0.2.2).bind fun r1 =>
 (spec_l1Cur_group a0 r1.1 r1.2.1 r0.2.2).bind fun r2 =>
 some (r1.2.2, r2.2.2, r0.2.2)
/-- impl.isGroup -/
noncomputable def impl_isGroup (a0 : List (Int)) (a1 : Int) : Option (Bool) :=
 (impl_in a1 (1 : Int) (12 : Int)).bind fun r0 =>
 (if r0 then impl_areRising a0 a1 else some false).bind fun r1 =>
 let v2 : Bool := (if r0 then r1 else false)
 some v2
/-- impl.IsMajority -/
noncomputable def impl_IsMajority (a0 : List (Int)) (a1 : Int) : Option (Bool × Bool) :=
 (impl_isGroup a0 a1).bind fun r0 =>
 if (!r0) then
 (some (false, false))
 else
 some ((decide (a1 < (i64 ((2 : Int) * ((a0.length : Nat) : Int))))), true)
/-- spec.GoodGroup -/
noncomputable def spec_GoodGroup (a0 : List (Int)) (a1 : Int) : Option (Bool) :=
 let j0 : Unit → Option _ := fun s1 =>
 ((spec_l8Nodes a1).bind fun r2 =>
 some r2)
 (loopM (σ := Int) (X := (Unit) ⊕ (Bool)) (fun s3 =>
 (if (decide (s3 < ((a0.length : Nat) : Int))) then
 (let j4 : Unit → Option _ := fun s5 =>
 (some (.inl (i64 (s3 + (1 : Int)))))
 chk ((decide ((0 : Int) ≤ s3)) && (decide (s3 < ((a0.length : Nat) : Int)))) <|
 (spec_l1In (a0.getD (Int.toNat s3) 0) (0 : Int) (i64 (a1 - (1 : Int)))).bind fun r6 =>
 chk (!((!(!r6)) && (decide ((0 : Int) < s3))) || ((decide ((0 : Int) ≤ (i64 (s3 - (1 : Int))))) && (decide ((i64 (s3 - (1 : Int))) < ((a0.length : Nat) : Int))))) <|
 let v7 : Bool := (if (decide ((0 : Int) < s3)) then (decide ((a0.getD (Int.toNat s3) 0) ≤ (a0.getD (Int.toNat (i64 (s3 - (1 : Int)))) 0))) else false)
 let v8 : Bool := (if (!r6) then true else v7)
 if v8 then
 (some (.inr (.inr false)))
 else
 j4 ())
 else
 some (.inr (.inl ())))) (0 : Int)).bind fun x9 =>
 sumE x9 (fun y10 =>
 j0 ()) (fun z11 =>
 some z11)
/-- spec.IsMajority -/
noncomputable def spec_IsMajority (a0 : List (Int)) (a1 : Int) : Option (Bool × Bool) :=
 (spec_GoodGroup a0 a1).bind fun r0 =>
 if (!r0) then
 (some (false, false))
 else
 some ((decide (a1 < (i64 ((2 : Int) * ((a0.length : Nat) : Int))))), true)
/-- impl.meet$1 -/
noncomputable def impl_meet_1 (a0 : Int) (a1 : List (Int)) : Option (Bool) :=
 (slices_Contains__int_int a1 a0).bind fun r0 =>
 some (!r0)
/-- slices.IndexFunc[[]int,int] -/
noncomputable def slices_IndexFunc__int_int' (a0 : List (Int)) (a1 : List (Int)) : Option (Int) :=
 let j0 : Unit → Option _ := fun s1 =>
 (some (-1 : Int))
 (loopM (σ := Int) (X := (Unit) ⊕ (Int)) (fun s2 =>
 (if (decide (s2 < ((a0.length : Nat) : Int))) then
 (let j3 : Unit → Option _ := fun s4 =>
 (some (.inl (i64 (s2 + (1 : Int)))))
 chk ((decide ((0 : Int) ≤ s2)) && (decide (s2 < ((a0.length : Nat) : Int)))) <|
 (impl_meet_1 (a0.getD (Int.toNat s2) 0) a1).bind fun r5 =>
 if r5 then
 (some (.inr (.inr s2)))
 else
 j3 ())
 else
 some (.inr (.inl ())))) (0 : Int)).bind fun x6 =>
 sumE x6 (fun y7 =>
 j0 ()) (fun z8 =>
 some z8)
/-- slices.DeleteFunc[[]int,int] -/
noncomputable def slices_DeleteFunc__int_int (a0 : List (Int)) (a1 : List (Int)) : Option ((List (Int)) × Int) :=
 (slices_IndexFunc__int_int' a0 a1).bind fun r0 =>
 if (decide (r0 = (-1 : Int))) then
 (some (a0, ((a0.length : Nat) : Int)))
 else
 ((loopM (σ := (List (Int)) × Int × Int) (X := (List (Int)) × Int) (fun s1 =>
 (if (decide (s1.2.2 < ((s1.1.length : Nat) : Int))) then
 ((chk ((decide ((0 : Int) ≤ s1.2.2)) && (decide (s1.2.2 < ((s1.1.length : Nat) : Int)))) <|
 (impl_meet_1 (s1.1.getD (Int.toNat s1.2.2) 0) a1).bind fun r2 =>
 (if (!r2) then
 (chk ((decide ((0 : Int) ≤ s1.2.1)) && (decide (s1.2.1 < ((s1.1.length : Nat) : Int)))) <|
 let v3 : List (Int) := (s1.1.set (Int.toNat s1.2.1) (s1.1.getD (Int.toNat s1.2.2) 0))
 some (v3, (i64 (s1.2.1 + (1 : Int)))) : Option ((List (Int)) × Int))
 else
 (some (s1.1, s1.2.1))).bind fun s4 =>
 some (s4.1, s4.2) : Option ((List (Int)) × Int)).bind fun s5 =>
 some (.inl (s5.1, s5.2, (i64 (s1.2.2 + (1 : Int))))))
 else
 some (.inr (s1.1, s1.2.1)))) (a0, r0, (i64 (r0 + (1 : Int))))).bind fun x6 =>
 some (x6.1, x6.2) : Option ((List (Int)) × Int)).bind fun s7 =>
 chk ((decide ((0 : Int) ≤ s7.2)) && ((decide (s7.2 ≤ ((s7.1.length : Nat) : Int))) && (decide (((s7.1.length : Nat) : Int) ≤ ((s7.1.length : Nat) : Int))))) <|
 let v8 : List (Int) := (((s7.1.take (Int.toNat s7.2)).drop (Int.toNat (0 : Int))) ++ ((List.replicate (Int.toNat (((s7.1.length : Nat) : Int) - s7.2)) (0 : Int)) ++ ((s7.1.take (Int.toNat ((s7.1.length : Nat) : Int))).drop (Int.toNat (s7.2 + (((s7.1.length : Nat) : Int) - s7.2))))))
 chk ((decide ((0 : Int) ≤ (0 : Int))) && ((decide ((0 : Int) ≤ s7.2)) && (decide (s7.2 ≤ ((v8.length : Nat) : Int))))) <|
 some (v8, s7.2)
/-- impl.meet -/
noncomputable def impl_meet (a0 : List (Int)) (a1 : List (Int)) : Option ((List (Int)) × Int) :=
 let v0 : List (Int) := (([] : List (Int)) ++ a0)
 chk (decide (((v0.length : Nat) : Int) ≤ (17592186044416 : Int))) <|
 (slices_DeleteFunc__int_int v0 a1).bind fun r1 =>
 some (r1.1, r1.2)
/-- impl.MeetOf -/
noncomputable def impl_MeetOf (a0 : List (Int)) (a1 : List (Int)) (a2 : Int) : Option ((List (Int)) × Bool) :=
 (impl_isGroup a0 a2).bind fun r0 =>
 (if (!(!r0)) then impl_isGroup a1 a2 else some false).bind fun r1 =>
 let v2 : Bool := (if (!r0) then true else (!r1))
 if v2 then
 (some (([] : List (Int)), false))
 else
 (impl_meet a0 a1).bind fun r3 =>
 some (((r3.1.take (Int.toNat r3.2)).drop (Int.toNat (0 : Int))), true)
/-- spec.DrawAllMeet -/
noncomputable def spec_DrawAllMeet (a0 : List (Int)) : Option (Int × List (List (Int))) :=
 (spec_l1Cur_nodes a0 (0 : Int) (0 : Int)).bind fun r0 =>
 (spec_l1Cur_pick a0 r0.1 r0.2.1 (6 : Int)).bind fun r1 =>
 ((loopM (σ := Int × Int × (List (List (Int))) × Int) (X := Int × Int × List (List (Int))) (fun s2 =>
 (if (decide ((0 : Int) < s2.2.2.2)) then
 (((spec_l1Cur_group a0 s2.1 s2.2.1 r0.2.2).bind fun r3 =>
 let v4 : List (List (Int)) := (r3.2.2 :: ([] : List (List (Int))))
 let v5 : List (List (Int)) := (s2.2.2.1 ++ v4)
 chk (decide (((v5.length : Nat) : Int) ≤ (5864062014805 : Int))) <|
 some (r3.1, r3.2.1, v5) : Option (Int × Int × List (List (Int)))).bind fun s6 =>
 some (.inl (s6.1, s6.2.1, s6.2.2, (i64 (s2.2.2.2 - (1 : Int))))))
 else
 some (.inr (s2.1, s2.2.1, s2.2.2.1)))) (r1.1, r1.2.1, ([] : List (List (Int))), r1.2.2)).bind fun x7 =>
 some (x7.1, x7.2.1, x7.2.2) : Option (Int × Int × List (List (Int)))).bind fun s8 =>
 (spec_l1Cur_one a0 s8.1 s8.2.1 (40 : Int)).bind fun r9 =>
 (if r9.2.2 then
 (chk (decide ((0 : Int) ≤ (40 : Int))) <|
 let v10 : List (List (Int)) := (s8.2.2 ++ (List.replicate (Int.toNat (40 : Int)) ([] : List (Int))))
 chk (decide (((v10.length : Nat) : Int) ≤ (5864062014805 : Int))) <|
 some v10 : Option (List (List (Int))))
 else
 (some s8.2.2)).bind fun s11 =>
 some (r0.2.2, s11)
/-- impl.areGroups$1 -/
noncomputable def impl_areGroups_1 (a0 : List (Int)) (a1 : Int) : Option (Bool) :=
 (impl_isGroup a0 a1).bind fun r0 =>
 some (!r0)
/-- slices.IndexFunc[[]impl.Group,impl.Group] -/
noncomputable def slices_IndexFunc__impl_Group_impl_Group (a0 : List (List (Int))) (a1 : Int) : Option (Int) :=
 let j0 : Unit → Option _ := fun s1 =>
 (some (-1 : Int))
 (loopM (σ := Int) (X := (Unit) ⊕ (Int)) (fun s2 =>
 (if (decide (s2 < ((a0.length : Nat) : Int))) then
 (let j3 : Unit → Option _ := fun s4 =>
 (some (.inl (i64 (s2 + (1 : Int)))))
 chk ((decide ((0 : Int) ≤ s2)) && (decide (s2 < ((a0.length : Nat) : Int)))) <|
 let v5 : List (Int) := (a0.getD (Int.toNat s2) [])
 chk true <|
 (impl_areGroups_1 v5 a1).bind fun r6 =>
 if r6 then
 (some (.inr (.inr s2)))
 else
 j3 ())
 else
 some (.inr (.inl ())))) (0 : Int)).bind fun x7 =>
 sumE x7 (fun y8 =>
 j0 ()) (fun z9 =>
 some z9)
/-- slices.ContainsFunc[[]impl.Group,impl.Group] -/
noncomputable def slices_ContainsFunc__impl_Group_impl_Group (a0 : List (List (Int))) (a1 : Int) : Option (Bool) :=
 (slices_IndexFunc__impl_Group_impl_Group a0 a1).bind fun r0 =>
 some (decide ((0 : Int) ≤ r0))
/-- impl.areGroups -/
noncomputable def impl_areGroups (a0 : Int) (a1 : List (List (Int))) : Option (Bool) :=
 (impl_in a0 (1 : Int) (12 : Int)).bind fun r0 =>
 let v1 : Bool := (if r0 then (decide (((a1.length : Nat) : Int) ≤ (40 : Int))) else false)
 (if v1 then slices_ContainsFunc__impl_Group_impl_Group a1 a0 else some false).bind fun r2 =>
 let v3 : Bool := (if v1 then (!r2) else false)
 some v3
/-- impl.AllMeet -/
noncomputable def impl_AllMeet (a0 : Int) (a1 : List (List (Int))) : Option (Bool × Bool) :=
 (impl_areGroups a0 a1).bind fun r0 =>
 if (!r0) then
 (some (false, false))
 else
 if (decide (((a1.length : Nat) : Int) = (1 : Int))) then
 (chk ((decide ((0 : Int) ≤ (0 : Int))) && (decide ((0 : Int) < ((a1.length : Nat) : Int)))) <|
 chk true <|
 some ((decide ((0 : Int) < (((a1.getD (Int.toNat (0 : Int)) []).length : Nat) : Int))), true))
 else
 let j1 : Unit → Option _ := fun s2 =>
 (some (true, true))
 (loopM (σ := Int) (X := (Unit) ⊕ (Bool × Bool)) (fun s3 =>
 (if (decide (s3 < ((a1.length : Nat) : Int))) then
 (let j4 : Unit → Option _ := fun s5 =>
 (some (.inl (i64 (s3 + (1 : Int)))))
 chk ((decide ((0 : Int) ≤ s3)) && (decide (s3 < ((a1.length : Nat) : Int)))) <|
 let v6 : List (Int) := (a1.getD (Int.toNat s3) [])
 chk true <|
 chk ((decide ((0 : Int) ≤ (0 : Int))) && ((decide ((0 : Int) ≤ s3)) && (decide (s3 ≤ ((a1.length : Nat) : Int))))) <|
 let j7 : Unit → Option _ := fun s8 =>
 (j4 ())
 (loopM (σ := Int) (X := (Unit) ⊕ (Bool × Bool)) (fun s9 =>
 (if (decide (s9 < s3)) then
 (let j10 : Unit → Option _ := fun s11 =>
 (some (.inl (i64 (s9 + (1 : Int)))))
 chk ((decide ((0 : Int) ≤ s9)) && (decide (s9 < s3))) <|
 chk (decide (0 ≤ s9) && decide (s9 < ((a1.length : Nat) : Int))) <|
 let v12 : List (Int) := (a1.getD (Int.toNat s9) [])
 chk true <|
 (impl_meet v6 v12).bind fun r13 =>
 if (decide (r13.2 = (0 : Int))) then
 (some (.inr (.inr (false, true))))
 else
 j10 ())
 else
 some (.inr (.inl ())))) (0 : Int)).bind fun x14 =>
 sumE x14 (fun y15 =>
 j7 ()) (fun z16 =>
 some (.inr (.inr (z16.1, z16.2)))))
 else
 some (.inr (.inl ())))) (0 : Int)).bind fun x17 =>
 sumE x17 (fun y18 =>
 j1 ()) (fun z19 =>
 some (z19.1, z19.2))
/-- spec.l8Sets -/
noncomputable def spec_l8Sets (a0 : Int) (a1 : List (List (Int))) : Option (Bool) :=
 let j0 : Unit → Option _ := fun s1 =>
 ((spec_l8Nodes a0).bind fun r2 =>
 let v3 : Bool := (if r2 then (decide (((a1.length : Nat) : Int) ≤ (40 : Int))) else false)
 some v3)
 (loopM (σ := Int) (X := (Unit) ⊕ (Bool)) (fun s4 =>
 (if (decide (s4 < ((a1.length : Nat) : Int))) then
 (let j5 : Unit → Option _ := fun s6 =>
 (some (.inl (i64 (s4 + (1 : Int)))))
 chk ((decide ((0 : Int) ≤ s4)) && (decide (s4 < ((a1.length : Nat) : Int)))) <|
 let v7 : List (Int) := (a1.getD (Int.toNat s4) [])
 chk true <|
 (spec_GoodGroup v7 a0).bind fun r8 =>
 if (!r8) then
 (some (.inr (.inr false)))
 else
 j5 ())
 else
 some (.inr (.inl ())))) (0 : Int)).bind fun x9 =>
 sumE x9 (fun y10 =>
 j0 ()) (fun z11 =>
 some z11)
/-- spec.l8Meet -/
noncomputable def spec_l8Meet (a0 : List (Int)) (a1 : List (Int)) : Option (List (Int)) :=
 ((loopM (σ := (List (Int)) × Int) (X := List (Int)) (fun s0 =>
 (if (decide (s0.2 < ((a0.length : Nat) : Int))) then
 ((chk ((decide ((0 : Int) ≤ s0.2)) && (decide (s0.2 < ((a0.length : Nat) : Int)))) <|
 (spec_l1Has a1 (a0.getD (Int.toNat s0.2) 0)).bind fun r1 =>
 (if r1 then
 (let v2 : List (Int) := ((a0.getD (Int.toNat s0.2) 0) :: ([] : List (Int)))
 let v3 : List (Int) := (s0.1 ++ v2)
 chk (decide (((v3.length : Nat) : Int) ≤ (17592186044416 : Int))) <|
 some v3 : Option (List (Int)))
 else
 (some s0.1)).bind fun s4 =>
 some s4 : Option (List (Int))).bind fun s5 =>
 some (.inl (s5, (i64 (s0.2 + (1 : Int))))))
 else
 some (.inr s0.1))) (([] : List (Int)), (0 : Int))).bind fun x6 =>
 some x6 : Option (List (Int))).bind fun s7 =>
 some s7
/-- spec.AllMeet -/
noncomputable def spec_AllMeet (a0 : Int) (a1 : List (List (Int))) : Option (Bool × Bool) :=
 (spec_l8Sets a0 a1).bind fun r0 =>
 if (!r0) then
 (some (false, false))
 else
 let j1 : Unit → Option _ := fun s2 =>
 (some (true, true))
 (loopM (σ := Int) (X := (Unit) ⊕ (Bool × Bool)) (fun s3 =>
 (if (decide (s3 < ((a1.length : Nat) : Int))) then
 (let j4 : Unit → Option _ := fun s5 =>
 (some (.inl (i64 (s3 + (1 : Int)))))
 chk ((decide ((0 : Int) ≤ s3)) && (decide (s3 < ((a1.length : Nat) : Int)))) <|
 let v6 : List (Int) := (a1.getD (Int.toNat s3) [])
 chk true <|
 chk ((decide ((0 : Int) ≤ (0 : Int))) && ((decide ((0 : Int) ≤ (i64 (s3 + (1 : Int))))) && (decide ((i64 (s3 + (1 : Int))) ≤ ((a1.length : Nat) : Int))))) <|
 let j7 : Unit → Option _ := fun s8 =>
 (j4 ())
 (loopM (σ := Int) (X := (Unit) ⊕ (Bool × Bool)) (fun s9 =>
 (if (decide (s9 < (i64 (s3 + (1 : Int))))) then
 (let j10 : Unit → Option _ := fun s11 =>
 (some (.inl (i64 (s9 + (1 : Int)))))
 chk ((decide ((0 : Int) ≤ s9)) && (decide (s9 < (i64 (s3 + (1 : Int)))))) <|
 chk (decide (0 ≤ s9) && decide (s9 < ((a1.length : Nat) : Int))) <|
 let v12 : List (Int) := (a1.getD (Int.toNat s9) [])
 chk true <|
 (spec_l8Meet v6 v12).bind fun r13 =>
 if (decide (((r13.length : Nat) : Int) = (0 : Int))) then
 (some (.inr (.inr (false, true))))
 else
 j10 ())
 else
 some (.inr (.inl ())))) (0 : Int)).bind fun x14 =>
 sumE x14 (fun y15 =>
 j7 ()) (fun z16 =>
 some (.inr (.inr (z16.1, z16.2)))))
 else
 some (.inr (.inl ())))) (0 : Int)).bind fun x17 =>
 sumE x17 (fun y18 =>
 j1 ()) (fun z19 =>
 some (z19.1, z19.2))
/-- slices.Equal[[]int,int] -/
noncomputable def slices_Equal__int_int (a0 : List (Int)) (a1 : List (Int)) : Option (Bool) :=
 if (!decide (((a0.length : Nat) : Int) = ((a1.length : Nat) : Int))) then
 (some false)
 else
 let j0 : Unit → Option _ := fun s1 =>
 (some true)
 (loopM (σ := Int) (X := (Unit) ⊕ (Bool)) (fun s2 =>
 (if (decide (s2 < ((a0.length : Nat) : Int))) then
 (let j3 : Unit → Option _ := fun s4 =>
 (some (.inl (i64 (s2 + (1 : Int)))))
 chk ((decide ((0 : Int) ≤ s2)) && (decide (s2 < ((a0.length : Nat) : Int)))) <|
 chk ((decide ((0 : Int) ≤ s2)) && (decide (s2 < ((a1.length : Nat) : Int)))) <|
 if (!decide ((a0.getD (Int.toNat s2) 0) = (a1.getD (Int.toNat s2) 0))) then
 (some (.inr (.inr false)))
 else
 j3 ())
 else
 some (.inr (.inl ())))) (0 : Int)).bind fun x5 =>
 sumE x5 (fun y6 =>
 j0 ()) (fun z7 =>
 some z7)
/-- impl.MinimalOf$1 -/
noncomputable def impl_MinimalOf_1 (a0 : List (Int)) (a1 : List (Int)) : Option (Bool) :=
 (slices_Equal__int_int a0 a1).bind fun r0 =>
 some r0
/-- impl.MinimalOf$2 -/
noncomputable def impl_MinimalOf_2 (a0 : List (Int)) (a1 : List (Int)) (a2 : List (Int)) : Option (Bool) :=
 (impl_MinimalOf_1 a0 a1).bind fun r0 =>
 (if (!r0) then impl_meet a0 a2 else some ([], 0)).bind fun r1 =>
 let v2 : Bool := (if (!r0) then (decide (r1.2 = ((a0.length : Nat) : Int))) else false)
 some v2
/-- slices.IndexFunc[[]impl.Group,impl.Group] -/
noncomputable def slices_IndexFunc__impl_Group_impl_Group' (a0 : List (List (Int))) (a1 : List (Int)) (a2 : List (Int)) : Option (Int) :=
 let j0 : Unit → Option _ := fun s1 =>
 (some (-1 : Int))
 (loopM (σ := Int) (X := (Unit) ⊕ (Int)) (fun s2 =>
 (if (decide (s2 < ((a0.length : Nat) : Int))) then
 (let j3 : Unit → Option _ := fun s4 =>
 (some (.inl (i64 (s2 + (1 : Int)))))
 chk ((decide ((0 : Int) ≤ s2)) && (decide (s2 < ((a0.length : Nat) : Int)))) <|
 let v5 : List (Int) := (a0.getD (Int.toNat s2) [])
 chk true <|
 (impl_MinimalOf_2 v5 a1 a2).bind fun r6 =>
 if r6 then
 (some (.inr (.inr s2)))
 else
 j3 ())
 else
 some (.inr (.inl ())))) (0 : Int)).bind fun x7 =>
 sumE x7 (fun y8 =>
 j0 ()) (fun z9 =>
 some z9)
/-- slices.ContainsFunc[[]impl.Group,impl.Group] -/
noncomputable def slices_ContainsFunc__impl_Group_impl_Group' (a0 : List (List (Int))) (a1 : List (Int)) (a2 : List (Int)) : Option (Bool) :=
 (slices_IndexFunc__impl_Group_impl_Group' a0 a1 a2).bind fun r0 =>
 some (decide ((0 : Int) ≤ r0))
/-- slices.IndexFunc[[]impl.Group,impl.Group] -/
noncomputable def slices_IndexFunc__impl_Group_impl_Group'' (a0 : List (List (Int))) (a1 : List (Int)) : Option (Int) :=
 let j0 : Unit → Option _ := fun s1 =>
 (some (-1 : Int))
 (loopM (σ := Int) (X := (Unit) ⊕ (Int)) (fun s2 =>
 (if (decide (s2 < ((a0.length : Nat) : Int))) then
 (let j3 : Unit → Option _ := fun s4 =>
 (some (.inl (i64 (s2 + (1 : Int)))))
 chk ((decide ((0 : Int) ≤ s2)) && (decide (s2 < ((a0.length : Nat) : Int)))) <|
 let v5 : List (Int) := (a0.getD (Int.toNat s2) [])
 chk true <|
 (impl_MinimalOf_1 v5 a1).bind fun r6 =>
 if r6 then
 (some (.inr (.inr s2)))
 else
 j3 ())
 else
 some (.inr (.inl ())))) (0 : Int)).bind fun x7 =>
 sumE x7 (fun y8 =>
 j0 ()) (fun z9 =>
 some z9)
/-- slices.ContainsFunc[[]impl.Group,impl.Group] -/
noncomputable def slices_ContainsFunc__impl_Group_impl_Group'' (a0 : List (List (Int))) (a1 : List (Int)) : Option (Bool) :=
 (slices_IndexFunc__impl_Group_impl_Group'' a0 a1).bind fun r0 =>
 some (decide ((0 : Int) ≤ r0))
/-- impl.MinimalOf -/
noncomputable def impl_MinimalOf (a0 : Int) (a1 : List (List (Int))) : Option ((List (List (Int))) × Bool) :=
 (impl_areGroups a0 a1).bind fun r0 =>
 if (!r0) then
 (some (([] : List (List (Int))), false))
 else
 ((loopM (σ := (List (List (Int))) × Int) (X := List (List (Int))) (fun s1 =>
 (if (decide (s1.2 < ((a1.length : Nat) : Int))) then
 ((chk ((decide ((0 : Int) ≤ s1.2)) && (decide (s1.2 < ((a1.length : Nat) : Int)))) <|
 let v2 : List (Int) := (a1.getD (Int.toNat s1.2) [])
 chk true <|
 (slices_ContainsFunc__impl_Group_impl_Group' a1 v2 v2).bind fun r3 =>
 (if (!r3) then slices_ContainsFunc__impl_Group_impl_Group'' s1.1 v2 else some false).bind fun r4 =>
 let v5 : Bool := (if (!r3) then (!r4) else false)
 (if v5 then
 (let v6 : List (Int) := (([] : List (Int)) ++ v2)
 chk (decide (((v6.length : Nat) : Int) ≤ (17592186044416 : Int))) <|
 let v7 : List (List (Int)) := (v6 :: ([] : List (List (Int))))
 let v8 : List (List (Int)) := (s1.1 ++ v7)
 chk (decide (((v8.length : Nat) : Int) ≤ (5864062014805 : Int))) <|
 some v8 : Option (List (List (Int))))
 else
 (some s1.1)).bind fun s9 =>
 some s9 : Option (List (List (Int)))).bind fun s10 =>
 some (.inl (s10, (i64 (s1.2 + (1 : Int))))))
 else
 some (.inr s1.1))) (([] : List (List (Int))), (0 : Int))).bind fun x11 =>
 some x11 : Option (List (List (Int)))).bind fun s12 =>
 some (s12, true)
/-- spec.l8Same -/
noncomputable def spec_l8Same (a0 : List (Int)) (a1 : List (Int)) : Option (Bool) :=
 (if (decide (((a0.length : Nat) : Int) = ((a1.length : Nat) : Int))) then spec_l8Meet a0 a1 else some []).bind fun r0 =>
 let v1 : Bool := (if (decide (((a0.length : Nat) : Int) = ((a1.length : Nat) : Int))) then (decide (((r0.length : Nat) : Int) = ((a0.length : Nat) : Int))) else false)
 some v1
/-- spec.MinimalOf -/
noncomputable def spec_MinimalOf (a0 : Int) (a1 : List (List (Int))) : Option ((List (List (Int))) × Bool) :=
 (spec_l8Sets a0 a1).bind fun r0 =>
 if (!r0) then
 (some (([] : List (List (Int))), false))
 else
 ((loopM (σ := (List (List (Int))) × Int) (X := List (List (Int))) (fun s1 =>
 (if (decide (s1.2 < ((a1.length : Nat) : Int))) then
 ((chk ((decide ((0 : Int) ≤ s1.2)) && (decide (s1.2 < ((a1.length : Nat) : Int)))) <|
 let v2 : List (Int) := (a1.getD (Int.toNat s1.2) [])
 chk true <|
 ((loopM (σ := Bool × Int) (X := Bool) (fun s3 =>
 (if (decide (s3.2 < ((a1.length : Nat) : Int))) then
 ((chk ((decide ((0 : Int) ≤ s3.2)) && (decide (s3.2 < ((a1.length : Nat) : Int)))) <|
 let v4 : List (Int) := (a1.getD (Int.toNat s3.2) [])
 chk true <|
 (spec_l8Meet v2 v4).bind fun r5 =>
 (if (decide (((r5.length : Nat) : Int) = ((v4.length : Nat) : Int))) then spec_l8Same v2 v4 else some false).bind fun r6 =>
 let v7 : Bool := (if (decide (((r5.length : Nat) : Int) = ((v4.length : Nat) : Int))) then (!r6) else false)
 (if ((!v7) && (decide (s3.2 < s1.2))) then spec_l8Same v2 v4 else some false).bind fun r8 =>
 let v9 : Bool := (if (decide (s3.2 < s1.2)) then r8 else false)
 let v10 : Bool := (if v7 then true else v9)
 (if v10 then
 (some false : Option (Bool))
 else
 (some s3.1)).bind fun s11 =>
 some s11 : Option (Bool)).bind fun s12 =>
 some (.inl (s12, (i64 (s3.2 + (1 : Int))))))
 else
 some (.inr s3.1))) (true, (0 : Int))).bind fun x13 =>
 some x13 : Option (Bool)).bind fun s14 =>
 (if s14 then
 (let v15 : List (Int) := (([] : List (Int)) ++ v2)
 chk (decide (((v15.length : Nat) : Int) ≤ (17592186044416 : Int))) <|
 let v16 : List (List (Int)) := (v15 :: ([] : List (List (Int))))
 let v17 : List (List (Int)) := (s1.1 ++ v16)
 chk (decide (((v17.length : Nat) : Int) ≤ (5864062014805 : Int))) <|
 some v17 : Option (List (List (Int))))
 else
 (some s1.1)).bind fun s18 =>
 some s18 : Option (List (List (Int)))).bind fun s19 =>
 some (.inl (s19, (i64 (s1.2 + (1 : Int))))))
 else
 some (.inr s1.1))) (([] : List (List (Int))), (0 : Int))).bind fun x20 =>
 some x20 : Option (List (List (Int)))).bind fun s21 =>
 some (s21, true)
/-- laws.FnMajority -/
noncomputable def laws_FnMajority (a0 : List (Int)) (a1 : List (Int)) : Option (Bool) :=
 if (decide ((1048576 : Int) < (i64 (((a0.length : Nat) : Int) + ((a1.length : Nat) : Int))))) then
 (some true)
 else
 (spec_DrawMeetOf a0).bind fun r0 =>
 (impl_IsMajority r0.1 r0.2.2).bind fun r1 =>
 (impl_IsMajority r0.2.1 r0.2.2).bind fun r2 =>
 (spec_IsMajority r0.1 r0.2.2).bind fun r3 =>
 (spec_IsMajority r0.2.1 r0.2.2).bind fun r4 =>
 (impl_MeetOf r0.1 r0.2.1 r0.2.2).bind fun r5 =>
 let v6 : Bool := (if (r1.2 != r3.2) then true else (r2.2 != r4.2))
 let v7 : Bool := (if v6 then true else (r1.1 != r3.1))
 let v8 : Bool := (if v7 then true else (r2.1 != r4.1))
 let v9 : Bool := (if r1.2 then r2.2 else false)
 let v10 : Bool := (if v8 then true else (r5.2 != v9))
 let v11 : Bool := (if r1.1 then r2.1 else false)
 let v12 : Bool := (if v11 then (decide (((r5.1.length : Nat) : Int) = (0 : Int))) else false)
 let v13 : Bool := (if v10 then true else v12)
 if v13 then
 (some false)
 else
 (spec_DrawAllMeet a1).bind fun r14 =>
 (impl_AllMeet r14.1 r14.2).bind fun r15 =>
 (spec_AllMeet r14.1 r14.2).bind fun r16 =>
 (impl_MinimalOf r14.1 r14.2).bind fun r17 =>
 (spec_MinimalOf r14.1 r14.2).bind fun r18 =>
 let v19 : Bool := (if (r15.2 != r16.2) then true else (r15.1 != r16.1))
 let v20 : Bool := (if v19 then true else (r17.2 != r18.2))
 if v20 then
 (some false)
 else
 if (!r17.2) then
 (some (decide (((r17.1.length : Nat) : Int) = (0 : Int))))
 else
 (impl_AllMeet r14.1 r17.1).bind fun r21 =>
 let v22 : Bool := (if r21.2 then (r21.1 == r15.1) else false)
 let v23 : Bool := (if v22 then (decide (((r17.1.length : Nat) : Int) ≤ ((r14.2.length : Nat) : Int))) else false)
 let v24 : Bool := (if (decide (((r14.2.length : Nat) : Int) = (0 : Int))) then true else (decide ((0 : Int) < ((r17.1.length : Nat) : Int))))
 let v25 : Bool := (if v23 then v24 else false)
 some v25
end Sh
