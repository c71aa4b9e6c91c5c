/- Sh: typed functions of Go functions, part 4 (written by a program; each is checked against the seat's code). -/
import Derived.Test.YtmhcefpknmhbgaaShF3
set_option linter.unusedVariables false
namespace Sh
open Go
/-- (*spec.l1Cur).shardSizes -/
noncomputable def spec_l1Cur_shardSizes (a0 : List (Int)) (a1 : Int) (a2 : Int) : Option (Int × Int × List (Int)) :=
 (spec_l1Cur_pick a0 a1 a2 (3 : Int)).bind fun r0 =>
 (spec_l1Cur_one a0 r0.1 r0.2.1 (30 : Int)).bind fun r1 =>
 (if r1.2.2 then
 (let v2 : List (Int) := ((0 : Int) :: ((4 : Int) :: ((5 : Int) :: ([] : List (Int)))))
 (spec_l1Cur_among a0 r1.1 r1.2.1 v2).bind fun r3 =>
 some (r3.1, r3.2.1, r3.2.2) : Option (Int × Int × Int))
 else
 (some (r1.1, r1.2.1, (i64 ((1 : Int) + r0.2.2))))).bind fun s4 =>
 ((loopM (σ := Int × Int × (List (Int)) × Int) (X := Int × Int × List (Int)) (fun s5 =>
 (if (decide ((0 : Int) < s5.2.2.2)) then
 (((spec_l1Cur_pick a0 s5.1 s5.2.1 (3 : Int)).bind fun r6 =>
 let v7 : List (Int) := ((i64 ((1 : Int) + r6.2.2)) :: ([] : List (Int)))
 let v8 : List (Int) := (s5.2.2.1 ++ v7)
 chk (decide (((v8.length : Nat) : Int) ≤ (17592186044416 : Int))) <|
 some (r6.1, r6.2.1, v8) : Option (Int × Int × List (Int))).bind fun s9 =>
 some (.inl (s9.1, s9.2.1, s9.2.2, (i64 (s5.2.2.2 - (1 : Int))))))
 else
 some (.inr (s5.1, s5.2.1, s5.2.2.1)))) (s4.1, s4.2.1, ([] : List (Int)), s4.2.2)).bind fun x10 =>
 some (x10.1, x10.2.1, x10.2.2) : Option (Int × Int × List (Int))).bind fun s11 =>
 (if (decide ((0 : Int) < ((s11.2.2.length : Nat) : Int))) then spec_l1Cur_one a0 s11.1 s11.2.1 (30 : Int) else some (0, 0, false)).bind fun r12 =>
 let v13 : Int := (if (decide ((0 : Int) < ((s11.2.2.length : Nat) : Int))) then r12.1 else s11.1)
 let v14 : Int := (if (decide ((0 : Int) < ((s11.2.2.length : Nat) : Int))) then r12.2.1 else s11.2.1)
 let v15 : Bool := (if (decide ((0 : Int) < ((s11.2.2.length : Nat) : Int))) then r12.2.2 else false)
 (if v15 then
 (let v16 : List (Int) := ((0 : Int) :: ((5 : Int) :: ((6 : Int) :: ([] : List (Int)))))
 (spec_l1Cur_among a0 v13 v14 v16).bind fun r17 =>
 chk ((decide ((0 : Int) ≤ (0 : Int))) && (decide ((0 : Int) < ((s11.2.2.length : Nat) : Int)))) <|
 let v18 : List (Int) := (s11.2.2.set (Int.toNat (0 : Int)) r17.2.2)
 some (r17.1, r17.2.1, v18) : Option (Int × Int × List (Int)))
 else
 (some (v13, v14, s11.2.2))).bind fun s19 =>
 some (s19.1, s19.2.1, s19.2.2)
/-- (*spec.l1Cur).commitSteps -/
noncomputable def spec_l1Cur_commitSteps (a0 : List (Int)) (a1 : Int) (a2 : Int) (a3 : Int) : Option (Int × Int × List ((Int) × (Int) × Int)) :=
 (spec_l1Cur_pick a0 a1 a2 (30 : Int)).bind fun r0 =>
 (spec_l1Cur_one a0 r0.1 r0.2.1 (6 : Int)).bind fun r1 =>
 (if r1.2.2 then
 ((spec_l1Cur_pick a0 r1.1 r1.2.1 (42 : Int)).bind fun r2 =>
 some (r2.1, r2.2.1, (i64 ((60 : Int) + r2.2.2))) : Option (Int × Int × Int))
 else
 (some (r1.1, r1.2.1, r0.2.2))).bind fun s3 =>
 ((loopM (σ := Int × Int × (List ((Int) × (Int) × Int)) × Int) (X := Int × Int × List ((Int) × (Int) × Int)) (fun s4 =>
 (if (decide ((0 : Int) < s4.2.2.2)) then
 ((let v5 : List (Int) := ((1 : Int) :: ((1 : Int) :: ((1 : Int) :: ((2 : Int) :: ((2 : Int) :: ((2 : Int) :: ((2 : Int) :: ((3 : Int) :: ((7 : Int) :: ([] : List (Int)))))))))))
 (spec_l1Cur_among a0 s4.1 s4.2.1 v5).bind fun r6 =>
 (spec_l1Cur_pick a0 r6.1 r6.2.1 (i64 (a3 + (1 : Int)))).bind fun r7 =>
 (spec_l1Cur_pick a0 r7.1 r7.2.1 (4 : Int)).bind fun r8 =>
 (spec_l1Cur_pick a0 r8.1 r8.2.1 (14 : Int)).bind fun r9 =>
 ((if (decide (r9.2.2 = (0 : Int))) then
 (some (r9.1, r9.2.1, (5 : Int)) : Option (Int × Int × Int))
 else
 ((if (decide (r9.2.2 = (1 : Int))) then
 (some (r9.1, r9.2.1, (6 : Int)) : Option (Int × Int × Int))
 else
 ((if (decide (r9.2.2 = (2 : Int))) then
 (let v10 : List (Int) := ((4 : Int) :: ((3 : Int) :: ((3 : Int) :: ((0 : Int) :: ((8 : Int) :: ([] : List (Int)))))))
 (spec_l1Cur_among a0 r9.1 r9.2.1 v10).bind fun r11 =>
 some (r11.1, r11.2.1, r11.2.2) : Option (Int × Int × Int))
 else
 (some (r9.1, r9.2.1, r6.2.2))).bind fun s12 =>
 some (s12.1, s12.2.1, s12.2.2))).bind fun s13 =>
 some (s13.1, s13.2.1, s13.2.2))).bind fun s14 =>
 some (s14.1, s14.2.1, s14.2.2) : Option (Int × Int × Int)).bind fun s15 =>
 let v16 : List ((Int) × (Int) × Int) := ((s15.2.2, (r7.2.2, r8.2.2)) :: ([] : List ((Int) × (Int) × Int)))
 let v17 : List ((Int) × (Int) × Int) := (s4.2.2.1 ++ v16)
 chk (decide (((v17.length : Nat) : Int) ≤ (5864062014805 : Int))) <|
 some (s15.1, s15.2.1, v17) : Option (Int × Int × List ((Int) × (Int) × Int))).bind fun s18 =>
 some (.inl (s18.1, s18.2.1, s18.2.2, (i64 (s4.2.2.2 - (1 : Int))))))
 else
 some (.inr (s4.1, s4.2.1, s4.2.2.1)))) (s3.1, s3.2.1, ([] : List ((Int) × (Int) × Int)), s3.2.2)).bind fun x19 =>
 some (x19.1, x19.2.1, x19.2.2) : Option (Int × Int × List ((Int) × (Int) × Int))).bind fun s20 =>
 some (s20.1, s20.2.1, s20.2.2)
/-- spec.DrawPlayCommit -/
noncomputable def spec_DrawPlayCommit (a0 : List (Int)) : Option ((List (Int)) × List ((Int) × (Int) × Int)) :=
 (spec_l1Cur_shardSizes a0 (0 : Int) (0 : Int)).bind fun r0 =>
 (spec_l1Cur_commitSteps a0 r0.1 r0.2.1 ((r0.2.2.length : Nat) : Int)).bind fun r1 =>
 some (r0.2.2, r1.2.2)
/-- impl.newCommit -/
noncomputable def impl_newCommit (a0 : List (Int)) : Option ((List (List ((Bool) × Int))) × Int × Bool) :=
 (impl_in ((a0.length : Nat) : Int) (1 : Int) (4 : Int)).bind fun r0 =>
 if (!r0) then
 (some (([] : List (List ((Bool) × Int))), (0 : Int), false))
 else
 let j1 : List (List ((Bool) × Int)) → Option _ := fun s2 =>
 (some (s2, (0 : Int), true))
 (loopM (σ := (List (List ((Bool) × Int))) × Int) (X := (List (List ((Bool) × Int))) ⊕ ((List (List ((Bool) × Int))) × Int × Bool)) (fun s3 =>
 (if (decide (s3.2 < ((a0.length : Nat) : Int))) then
 (let j4 : List (List ((Bool) × Int)) → Option _ := fun s5 =>
 (some (.inl (s5, (i64 (s3.2 + (1 : Int))))))
 chk ((decide ((0 : Int) ≤ s3.2)) && (decide (s3.2 < ((a0.length : Nat) : Int)))) <|
 (impl_in (a0.getD (Int.toNat s3.2) 0) (1 : Int) (5 : Int)).bind fun r6 =>
 if (!r6) then
 (some (.inr (.inr (([] : List (List ((Bool) × Int))), (0 : Int), false))))
 else
 chk ((decide ((0 : Int) ≤ (a0.getD (Int.toNat s3.2) 0))) && (decide ((a0.getD (Int.toNat s3.2) 0) ≤ (8796093022208 : Int)))) <|
 let v7 : List ((Bool) × Int) := (List.replicate (Int.toNat (a0.getD (Int.toNat s3.2) 0)) (false, (0 : Int)))
 let v8 : List (List ((Bool) × Int)) := (v7 :: ([] : List (List ((Bool) × Int))))
 let v9 : List (List ((Bool) × Int)) := (s3.1 ++ v8)
 chk (decide (((v9.length : Nat) : Int) ≤ (5864062014805 : Int))) <|
 j4 v9)
 else
 some (.inr (.inl s3.1)))) (([] : List (List ((Bool) × Int))), (0 : Int))).bind fun x10 =>
 sumE x10 (fun y11 =>
 j1 y11) (fun z12 =>
 some (z12.1, z12.2.1, z12.2.2))
/-- impl.copyCommit -/
noncomputable def impl_copyCommit (a0 : List (List ((Bool) × Int))) (a1 : Int) (a2 : Int) : Option ((List (List ((Bool) × Int))) × Int × Int) :=
 ((loopM (σ := (List (List ((Bool) × Int))) × Int) (X := List (List ((Bool) × Int))) (fun s0 =>
 (if (decide (s0.2 < ((a0.length : Nat) : Int))) then
 ((chk ((decide ((0 : Int) ≤ s0.2)) && (decide (s0.2 < ((a0.length : Nat) : Int)))) <|
 let v1 : List ((Bool) × Int) := (a0.getD (Int.toNat s0.2) [])
 chk true <|
 let v2 : List ((Bool) × Int) := (([] : List ((Bool) × Int)) ++ v1)
 chk (decide (((v2.length : Nat) : Int) ≤ (8796093022208 : Int))) <|
 let v3 : List (List ((Bool) × Int)) := (v2 :: ([] : List (List ((Bool) × Int))))
 let v4 : List (List ((Bool) × Int)) := (s0.1 ++ v3)
 chk (decide (((v4.length : Nat) : Int) ≤ (5864062014805 : Int))) <|
 some v4 : Option (List (List ((Bool) × Int)))).bind fun s5 =>
 some (.inl (s5, (i64 (s0.2 + (1 : Int))))))
 else
 some (.inr s0.1))) (([] : List (List ((Bool) × Int))), (0 : Int))).bind fun x6 =>
 some x6 : Option (List (List ((Bool) × Int)))).bind fun s7 =>
 some (s7, a1, a2)
/-- (impl.Shard).ups -/
noncomputable def impl_Shard_ups (a0 : List ((Bool) × Int)) (a1 : List (Int)) : Option (Int × Int) :=
 ((loopM (σ := Int × Int × Int) (X := Int × Int) (fun s0 =>
 (if (decide (s0.2.2 < ((a0.length : Nat) : Int))) then
 ((chk ((decide ((0 : Int) ≤ s0.2.2)) && (decide (s0.2.2 < ((a0.length : Nat) : Int)))) <|
 let v1 : (Bool) × Int := (a0.getD (Int.toNat s0.2.2) (false, 0))
 (if (!v1.1) then
 ((slices_Contains__int_int a1 v1.2).bind fun r2 =>
 (if r2 then
 (some (i64 (s0.2.1 + (1 : Int))) : Option (Int))
 else
 (some s0.2.1)).bind fun s3 =>
 some ((i64 (s0.1 + (1 : Int))), s3) : Option (Int × Int))
 else
 (some (s0.1, s0.2.1))).bind fun s4 =>
 some (s4.1, s4.2) : Option (Int × Int)).bind fun s5 =>
 some (.inl (s5.1, s5.2, (i64 (s0.2.2 + (1 : Int))))))
 else
 some (.inr (s0.1, s0.2.1)))) ((0 : Int), (0 : Int), (0 : Int))).bind fun x6 =>
 some (x6.1, x6.2) : Option (Int × Int)).bind fun s7 =>
 some (s7.1, s7.2)
/-- (impl.Commit).step$1 -/
noncomputable def impl_Commit_step_1 (a0 : List ((Bool) × Int)) : Option (Bool) :=
 let v0 : List (Int) := ((2 : Int) :: ([] : List (Int)))
 (impl_Shard_ups a0 v0).bind fun r1 =>
 let v2 : Bool := (if (decide (r1.1 = (0 : Int))) then true else (decide (r1.2 < r1.1)))
 some v2
/-- slices.IndexFunc[[]impl.Shard,impl.Shard] -/
noncomputable def slices_IndexFunc__impl_Shard_impl_Shard (a0 : List (List ((Bool) × Int))) : Option (Int) :=
 let j0 : Unit → Option _ := fun s1 =>
 (some (-1 : Int))
 (loopM (σ := Int) (X := (Unit) ⊕ (Int)) (fun s2 =>
 (if (decide (s2 < ((a0.length : Nat) : Int))) then
 (let j3 : Unit → Option _ := fun s4 =>
 (some (.inl (i64 (s2 + (1 : Int)))))
 chk ((decide ((0 : Int) ≤ s2)) && (decide (s2 < ((a0.length : Nat) : Int)))) <|
 let v5 : List ((Bool) × Int) := (a0.getD (Int.toNat s2) [])
 chk true <|
 (impl_Commit_step_1 v5).bind fun r6 =>
 if r6 then
 (some (.inr (.inr s2)))
 else
 j3 ())
 else
 some (.inr (.inl ())))) (0 : Int)).bind fun x7 =>
 sumE x7 (fun y8 =>
 j0 ()) (fun z9 =>
 some z9)
/-- slices.ContainsFunc[[]impl.Shard,impl.Shard] -/
noncomputable def slices_ContainsFunc__impl_Shard_impl_Shard (a0 : List (List ((Bool) × Int))) : Option (Bool) :=
 (slices_IndexFunc__impl_Shard_impl_Shard a0).bind fun r0 =>
 some (decide ((0 : Int) ≤ r0))
/-- (impl.Commit).step$2 -/
noncomputable def impl_Commit_step_2 (a0 : List ((Bool) × Int)) : Option (Bool) :=
 let v0 : List (Int) := ((2 : Int) :: ((3 : Int) :: ([] : List (Int))))
 (impl_Shard_ups a0 v0).bind fun r1 =>
 some (decide (r1.2 = (0 : Int)))
/-- slices.IndexFunc[[]impl.Shard,impl.Shard] -/
noncomputable def slices_IndexFunc__impl_Shard_impl_Shard' (a0 : List (List ((Bool) × Int))) : Option (Int) :=
 let j0 : Unit → Option _ := fun s1 =>
 (some (-1 : Int))
 (loopM (σ := Int) (X := (Unit) ⊕ (Int)) (fun s2 =>
 (if (decide (s2 < ((a0.length : Nat) : Int))) then
 (let j3 : Unit → Option _ := fun s4 =>
 (some (.inl (i64 (s2 + (1 : Int)))))
 chk ((decide ((0 : Int) ≤ s2)) && (decide (s2 < ((a0.length : Nat) : Int)))) <|
 let v5 : List ((Bool) × Int) := (a0.getD (Int.toNat s2) [])
 chk true <|
 (impl_Commit_step_2 v5).bind fun r6 =>
 if r6 then
 (some (.inr (.inr s2)))
 else
 j3 ())
 else
 some (.inr (.inl ())))) (0 : Int)).bind fun x7 =>
 sumE x7 (fun y8 =>
 j0 ()) (fun z9 =>
 some z9)
/-- slices.ContainsFunc[[]impl.Shard,impl.Shard] -/
noncomputable def slices_ContainsFunc__impl_Shard_impl_Shard' (a0 : List (List ((Bool) × Int))) : Option (Bool) :=
 (slices_IndexFunc__impl_Shard_impl_Shard' a0).bind fun r0 =>
 some (decide ((0 : Int) ≤ r0))
/-- (impl.Shard).primary$1 -/
noncomputable def impl_Shard_primary_1 (a0 : Bool) (a1 : Int) : Option (Bool) :=
 some (!a0)
/-- slices.IndexFunc[[]impl.Replica,impl.Replica] -/
noncomputable def slices_IndexFunc__impl_Replica_impl_Replica (a0 : List ((Bool) × Int)) : Option (Int) :=
 let j0 : Unit → Option _ := fun s1 =>
 (some (-1 : Int))
 (loopM (σ := Int) (X := (Unit) ⊕ (Int)) (fun s2 =>
 (if (decide (s2 < ((a0.length : Nat) : Int))) then
 (let j3 : Unit → Option _ := fun s4 =>
 (some (.inl (i64 (s2 + (1 : Int)))))
 chk ((decide ((0 : Int) ≤ s2)) && (decide (s2 < ((a0.length : Nat) : Int)))) <|
 let v5 : (Bool) × Int := (a0.getD (Int.toNat s2) (false, 0))
 (impl_Shard_primary_1 v5.1 v5.2).bind fun r6 =>
 if r6 then
 (some (.inr (.inr s2)))
 else
 j3 ())
 else
 some (.inr (.inl ())))) (0 : Int)).bind fun x7 =>
 sumE x7 (fun y8 =>
 j0 ()) (fun z9 =>
 some z9)
/-- (impl.Shard).primary -/
noncomputable def impl_Shard_primary (a0 : List ((Bool) × Int)) : Option (Int) :=
 (slices_IndexFunc__impl_Replica_impl_Replica a0).bind fun r0 =>
 some r0
/-- (*impl.Commit).act$1 -/
noncomputable def impl_Commit_act_1 (a0 : List ((Bool) × Int)) : Option (Bool) :=
 (impl_Shard_primary a0).bind fun r0 =>
 chk (!(decide ((0 : Int) ≤ r0)) || ((decide ((0 : Int) ≤ r0)) && (decide (r0 < ((a0.length : Nat) : Int))))) <|
 let v1 : Bool := (if (decide ((0 : Int) ≤ r0)) then (!decide ((a0.getD (Int.toNat r0) (false, 0)).2 = (1 : Int))) else false)
 chk (!v1 || ((decide ((0 : Int) ≤ r0)) && (decide (r0 < ((a0.length : Nat) : Int))))) <|
 let v2 : Bool := (if v1 then (!decide ((a0.getD (Int.toNat r0) (false, 0)).2 = (2 : Int))) else false)
 some v2
/-- slices.IndexFunc[[]impl.Shard,impl.Shard] -/
noncomputable def slices_IndexFunc__impl_Shard_impl_Shard'' (a0 : List (List ((Bool) × Int))) : Option (Int) :=
 let j0 : Unit → Option _ := fun s1 =>
 (some (-1 : Int))
 (loopM (σ := Int) (X := (Unit) ⊕ (Int)) (fun s2 =>
 (if (decide (s2 < ((a0.length : Nat) : Int))) then
 (let j3 : Unit → Option _ := fun s4 =>
 (some (.inl (i64 (s2 + (1 : Int)))))
 chk ((decide ((0 : Int) ≤ s2)) && (decide (s2 < ((a0.length : Nat) : Int)))) <|
 let v5 : List ((Bool) × Int) := (a0.getD (Int.toNat s2) [])
 chk true <|
 (impl_Commit_act_1 v5).bind fun r6 =>
 if r6 then
 (some (.inr (.inr s2)))
 else
 j3 ())
 else
 some (.inr (.inl ())))) (0 : Int)).bind fun x7 =>
 sumE x7 (fun y8 =>
 j0 ()) (fun z9 =>
 some z9)
/-- slices.ContainsFunc[[]impl.Shard,impl.Shard] -/
noncomputable def slices_ContainsFunc__impl_Shard_impl_Shard'' (a0 : List (List ((Bool) × Int))) : Option (Bool) :=
 (slices_IndexFunc__impl_Shard_impl_Shard'' a0).bind fun r0 =>
 some (decide ((0 : Int) ≤ r0))
/-- (impl.Commit).decision -/
noncomputable def impl_Commit_decision (a0 : List (List ((Bool) × Int))) (a1 : Int) (a2 : Int) : Option (Int) :=
 if (!decide (a1 = (0 : Int))) then
 (some a1)
 else
 some a2
/-- (*impl.Commit).act -/
noncomputable def impl_Commit_act (a0 : List (List ((Bool) × Int))) (a1 : Int) (a2 : Int) (a3 : Int) (a4 : Int) (a5 : Int) (a6 : Bool) : Option ((List (List ((Bool) × Int))) × Bool) :=
 chk ((decide ((0 : Int) ≤ a4)) && (decide (a4 < ((a0.length : Nat) : Int)))) <|
 chk true <|
 chk ((decide ((0 : Int) ≤ a5)) && (decide (a5 < (((a0.getD (Int.toNat a4) []).length : Nat) : Int)))) <|
 let j0 : List (List ((Bool) × Int)) → Option _ := fun s1 =>
 (some (s1, true))
 let j2 : List (List ((Bool) × Int)) → Option _ := fun s3 =>
 (j0 s3)
 if (decide (a3 = (1 : Int))) then
 (let v4 : List ((Bool) × Int) := (a0.getD (Int.toNat a4) [])
 chk (!(!(!a6)) || true) <|
 (if (!(!a6)) then impl_Shard_primary v4 else some 0).bind fun r5 =>
 let v6 : Bool := (if (!a6) then true else (!decide (r5 = a5)))
 let v7 : Bool := (if v6 then true else (!decide (((a0.getD (Int.toNat a4) []).getD (Int.toNat a5) (false, 0)).2 = (0 : Int))))
 if v7 then
 (some (a0, false))
 else
 let v8 : List ((Bool) × Int) := (a0.getD (Int.toNat a4) [])
 chk (decide (0 ≤ a5) && decide (a5 < ((v8.length : Nat) : Int))) <|
 chk (decide (0 ≤ a5)) <|
 let v9 : List ((Bool) × Int) := (v8.set (Int.toNat a5) ((v8.getD (Int.toNat a5) (false, 0)).1, (1 : Int)))
 let v10 : List (List ((Bool) × Int)) := (a0.set (Int.toNat a4) v9)
 j2 v10)
 else
 let j11 : List (List ((Bool) × Int)) → Option _ := fun s12 =>
 (j2 s12)
 if (decide (a3 = (2 : Int))) then
 ((slices_ContainsFunc__impl_Shard_impl_Shard'' a0).bind fun r13 =>
 let v14 : Bool := (if (!a6) then true else r13)
 let v15 : Bool := (if (!decide (((a0.getD (Int.toNat a4) []).getD (Int.toNat a5) (false, 0)).2 = (0 : Int))) then (!decide (((a0.getD (Int.toNat a4) []).getD (Int.toNat a5) (false, 0)).2 = (1 : Int))) else false)
 let v16 : Bool := (if v14 then true else v15)
 if v16 then
 (some (a0, false))
 else
 let v17 : List ((Bool) × Int) := (a0.getD (Int.toNat a4) [])
 chk (decide (0 ≤ a5) && decide (a5 < ((v17.length : Nat) : Int))) <|
 chk (decide (0 ≤ a5)) <|
 let v18 : List ((Bool) × Int) := (v17.set (Int.toNat a5) ((v17.getD (Int.toNat a5) (false, 0)).1, (2 : Int)))
 let v19 : List (List ((Bool) × Int)) := (a0.set (Int.toNat a4) v18)
 j11 v19)
 else
 let j20 : List (List ((Bool) × Int)) → Option _ := fun s21 =>
 (j11 s21)
 if (decide (a3 = (5 : Int))) then
 (let v22 : List ((Bool) × Int) := (a0.getD (Int.toNat a4) [])
 chk true <|
 (impl_Shard_ups v22 ([] : List (Int))).bind fun r23 =>
 if (decide (r23.1 = (1 : Int))) then
 (some (a0, false))
 else
 let v24 : List ((Bool) × Int) := (a0.getD (Int.toNat a4) [])
 chk (decide (0 ≤ a5)) <|
 let v25 : List ((Bool) × Int) := (v24.set (Int.toNat a5) (true, (0 : Int)))
 let v26 : List (List ((Bool) × Int)) := (a0.set (Int.toNat a4) v25)
 j20 v26)
 else
 let j27 : List (List ((Bool) × Int)) → Option _ := fun s28 =>
 (j20 s28)
 if (decide (a3 = (7 : Int))) then
 (let v29 : Bool := (if a6 then true else (decide (((a0.getD (Int.toNat a4) []).getD (Int.toNat a5) (false, 0)).2 = (3 : Int))))
 let v30 : Bool := (if v29 then true else (decide (((a0.getD (Int.toNat a4) []).getD (Int.toNat a5) (false, 0)).2 = (4 : Int))))
 if v30 then
 (some (a0, false))
 else
 let v31 : List ((Bool) × Int) := (a0.getD (Int.toNat a4) [])
 chk (decide (0 ≤ a5) && decide (a5 < ((v31.length : Nat) : Int))) <|
 chk (decide (0 ≤ a5)) <|
 let v32 : List ((Bool) × Int) := (v31.set (Int.toNat a5) ((v31.getD (Int.toNat a5) (false, 0)).1, (4 : Int)))
 let v33 : List (List ((Bool) × Int)) := (a0.set (Int.toNat a4) v32)
 (impl_Commit_decision v33 a1 a2).bind fun r34 =>
 (if (decide (r34 = (1 : Int))) then
 (chk (decide (0 ≤ a5) && decide (a5 < ((v32.length : Nat) : Int))) <|
 chk (decide (0 ≤ a5)) <|
 let v35 : List ((Bool) × Int) := (v32.set (Int.toNat a5) ((v32.getD (Int.toNat a5) (false, 0)).1, (3 : Int)))
 chk (decide (0 ≤ a4)) <|
 let v36 : List (List ((Bool) × Int)) := (v33.set (Int.toNat a4) v35)
 some v36 : Option (List (List ((Bool) × Int))))
 else
 (some v33)).bind fun s37 =>
 j27 s37)
 else
 j27 a0
/-- (impl.Commit).step -/
noncomputable def impl_Commit_step (a0 : List (List ((Bool) × Int))) (a1 : Int) (a2 : Int) (a3 : Int) (a4 : Int) (a5 : Int) : Option ((List (List ((Bool) × Int))) × Int × Int × Bool) :=
 (impl_copyCommit a0 a1 a2).bind fun r0 =>
 let v1 : Bool := (if (decide (a1 = (0 : Int))) then (decide (a2 = (0 : Int))) else false)
 ((if (decide (a3 = (3 : Int))) then
 ((if v1 then slices_ContainsFunc__impl_Shard_impl_Shard a0 else some false).bind fun r2 =>
 let v3 : Bool := (if v1 then (!r2) else false)
 some (r0.1, (1 : Int), r0.2.2, v3) : Option ((List (List ((Bool) × Int))) × Int × Int × Bool))
 else
 ((if (decide (a3 = (4 : Int))) then
 (some (r0.1, (2 : Int), r0.2.2, v1) : Option ((List (List ((Bool) × Int))) × Int × Int × Bool))
 else
 ((if (decide (a3 = (6 : Int))) then
 ((if (decide (a1 = (0 : Int))) then
 ((slices_ContainsFunc__impl_Shard_impl_Shard' a0).bind fun r4 =>
 (if r4 then
 (some (2 : Int) : Option (Int))
 else
 (some (1 : Int))).bind fun s5 =>
 some s5 : Option (Int))
 else
 (some a1)).bind fun s6 =>
 some (r0.1, s6, (decide (a2 = (0 : Int)))) : Option ((List (List ((Bool) × Int))) × Int × Bool))
 else
 ((if (decide (a3 = (1 : Int))) then
 (some (decide (a3 = (1 : Int))) : Option (Bool))
 else
 ((if (decide (a3 = (2 : Int))) then
 (some (decide (a3 = (2 : Int))) : Option (Bool))
 else
 ((if (decide (a3 = (5 : Int))) then
 (some (decide (a3 = (5 : Int))) : Option (Bool))
 else
 (some (decide (a3 = (7 : Int))))).bind fun s7 =>
 some s7)).bind fun s8 =>
 some s8)).bind fun s9 =>
 (if s9 then
 ((impl_in a4 (0 : Int) (i64 (((a0.length : Nat) : Int) - (1 : Int)))).bind fun r10 =>
 chk (!r10 || ((decide ((0 : Int) ≤ a4)) && (decide (a4 < ((a0.length : Nat) : Int))))) <|
 chk (!r10 || true) <|
 (if r10 then impl_in a5 (0 : Int) (i64 ((((a0.getD (Int.toNat a4) []).length : Nat) : Int) - (1 : Int))) else some false).bind fun r11 =>
 let v12 : Bool := (if r10 then r11 else false)
 chk (!v12 || ((decide ((0 : Int) ≤ a4)) && (decide (a4 < ((a0.length : Nat) : Int))))) <|
 chk (!v12 || true) <|
 chk (!v12 || ((decide ((0 : Int) ≤ a5)) && (decide (a5 < (((a0.getD (Int.toNat a4) []).length : Nat) : Int))))) <|
 let v13 : Bool := (if v12 then (!((a0.getD (Int.toNat a4) []).getD (Int.toNat a5) (false, 0)).1) else false)
 (if v13 then impl_Commit_act r0.1 r0.2.1 r0.2.2 a3 a4 a5 v1 else some ([], false)).bind fun r14 =>
 let v15 : List (List ((Bool) × Int)) := (if v13 then r14.1 else r0.1)
 let v16 : Bool := (if v13 then r14.2 else false)
 some (v15, v16) : Option ((List (List ((Bool) × Int))) × Bool))
 else
 (some (r0.1, false))).bind fun s17 =>
 some (s17.1, r0.2.2, s17.2))).bind fun s18 =>
 some (s18.1, r0.2.1, s18.2.1, s18.2.2))).bind fun s19 =>
 some (s19.1, s19.2.1, s19.2.2.1, s19.2.2.2))).bind fun s20 =>
 some (s20.1, s20.2.1, s20.2.2.1, s20.2.2.2) : Option ((List (List ((Bool) × Int))) × Int × Int × Bool)).bind fun s21 =>
 if (!s21.2.2.2) then
 (some (([] : List (List ((Bool) × Int))), (0 : Int), (0 : Int), false))
 else
 some (s21.1, s21.2.1, s21.2.2.1, true)
/-- impl.PlayCommit -/
noncomputable def impl_PlayCommit (a0 : List (Int)) (a1 : List ((Int) × (Int) × Int)) : Option ((List (List ((Bool) × Int))) × Int × Int × (List (Bool)) × Bool) :=
 (impl_newCommit a0).bind fun r0 =>
 let v1 : Bool := (if (!r0.2.2) then true else (decide ((100 : Int) < ((a1.length : Nat) : Int))))
 if v1 then
 (some (([] : List (List ((Bool) × Int))), (0 : Int), (0 : Int), ([] : List (Bool)), false))
 else
 ((loopM (σ := (List (List ((Bool) × Int))) × Int × Int × (List (Bool)) × Int) (X := (List (List ((Bool) × Int))) × Int × Int × List (Bool)) (fun s2 =>
 (if (decide (s2.2.2.2.2 < ((a1.length : Nat) : Int))) then
 ((chk ((decide ((0 : Int) ≤ s2.2.2.2.2)) && (decide (s2.2.2.2.2 < ((a1.length : Nat) : Int)))) <|
 let v3 : (Int) × (Int) × Int := (a1.getD (Int.toNat s2.2.2.2.2) (0, (0, 0)))
 (impl_Commit_step s2.1 s2.2.1 s2.2.2.1 v3.1 v3.2.1 v3.2.2).bind fun r4 =>
 (if r4.2.2.2 then
 (some (r4.1, r4.2.1, r4.2.2.1) : Option ((List (List ((Bool) × Int))) × Int × Int))
 else
 (some (s2.1, s2.2.1, s2.2.2.1))).bind fun s5 =>
 let v6 : List (Bool) := (r4.2.2.2 :: ([] : List (Bool)))
 let v7 : List (Bool) := (s2.2.2.2.1 ++ v6)
 chk (decide (((v7.length : Nat) : Int) ≤ (140737488355328 : Int))) <|
 some (s5.1, s5.2.1, s5.2.2, v7) : Option ((List (List ((Bool) × Int))) × Int × Int × List (Bool))).bind fun s8 =>
 some (.inl (s8.1, s8.2.1, s8.2.2.1, s8.2.2.2, (i64 (s2.2.2.2.2 + (1 : Int))))))
 else
 some (.inr (s2.1, s2.2.1, s2.2.2.1, s2.2.2.2.1)))) (r0.1, r0.2.1, r0.2.1, ([] : List (Bool)), (0 : Int))).bind fun x9 =>
 some (x9.1, x9.2.1, x9.2.2.1, x9.2.2.2) : Option ((List (List ((Bool) × Int))) × Int × Int × List (Bool))).bind fun s10 =>
 some (s10.1, s10.2.1, s10.2.2.1, s10.2.2.2, true)
/-- spec.NewCommit -/
noncomputable def spec_NewCommit (a0 : List (Int)) : Option ((List (List ((Bool) × Int))) × Int × Bool) :=
 (spec_l1In ((a0.length : Nat) : Int) (1 : Int) (4 : Int)).bind fun r0 =>
 if (!r0) then
 (some (([] : List (List ((Bool) × Int))), (0 : Int), false))
 else
 let j1 : List (List ((Bool) × Int)) → Option _ := fun s2 =>
 (some (s2, (0 : Int), true))
 (loopM (σ := (List (List ((Bool) × Int))) × Int) (X := (List (List ((Bool) × Int))) ⊕ ((List (List ((Bool) × Int))) × Int × Bool)) (fun s3 =>
 (if (decide (s3.2 < ((a0.length : Nat) : Int))) then
 (let j4 : List (List ((Bool) × Int)) → Option _ := fun s5 =>
 (some (.inl (s5, (i64 (s3.2 + (1 : Int))))))
 chk ((decide ((0 : Int) ≤ s3.2)) && (decide (s3.2 < ((a0.length : Nat) : Int)))) <|
 (spec_l1In (a0.getD (Int.toNat s3.2) 0) (1 : Int) (5 : Int)).bind fun r6 =>
 if (!r6) then
 (some (.inr (.inr (([] : List (List ((Bool) × Int))), (0 : Int), false))))
 else
 chk ((decide ((0 : Int) ≤ (a0.getD (Int.toNat s3.2) 0))) && (decide ((a0.getD (Int.toNat s3.2) 0) ≤ (8796093022208 : Int)))) <|
 let v7 : List ((Bool) × Int) := (List.replicate (Int.toNat (a0.getD (Int.toNat s3.2) 0)) (false, (0 : Int)))
 let v8 : List (List ((Bool) × Int)) := (v7 :: ([] : List (List ((Bool) × Int))))
 let v9 : List (List ((Bool) × Int)) := (s3.1 ++ v8)
 chk (decide (((v9.length : Nat) : Int) ≤ (5864062014805 : Int))) <|
 j4 v9)
 else
 some (.inr (.inl s3.1)))) (([] : List (List ((Bool) × Int))), (0 : Int))).bind fun x10 =>
 sumE x10 (fun y11 =>
 j1 y11) (fun z12 =>
 some (z12.1, z12.2.1, z12.2.2))
/-- spec.l15Own -/
noncomputable def spec_l15Own (a0 : List (List ((Bool) × Int))) (a1 : Int) (a2 : Int) : Option ((List (List ((Bool) × Int))) × Int × Int) :=
 ((loopM (σ := (List (List ((Bool) × Int))) × Int) (X := List (List ((Bool) × Int))) (fun s0 =>
 (if (decide (s0.2 < ((a0.length : Nat) : Int))) then
 ((chk ((decide ((0 : Int) ≤ s0.2)) && (decide (s0.2 < ((a0.length : Nat) : Int)))) <|
 let v1 : List ((Bool) × Int) := (a0.getD (Int.toNat s0.2) [])
 chk true <|
 let v2 : List ((Bool) × Int) := (([] : List ((Bool) × Int)) ++ v1)
 chk (decide (((v2.length : Nat) : Int) ≤ (8796093022208 : Int))) <|
 let v3 : List (List ((Bool) × Int)) := (v2 :: ([] : List (List ((Bool) × Int))))
 let v4 : List (List ((Bool) × Int)) := (s0.1 ++ v3)
 chk (decide (((v4.length : Nat) : Int) ≤ (5864062014805 : Int))) <|
 some v4 : Option (List (List ((Bool) × Int)))).bind fun s5 =>
 some (.inl (s5, (i64 (s0.2 + (1 : Int))))))
 else
 some (.inr s0.1))) (([] : List (List ((Bool) × Int))), (0 : Int))).bind fun x6 =>
 some x6 : Option (List (List ((Bool) × Int)))).bind fun s7 =>
 some (s7, a1, a2)
/-- spec.l15Copies -/
noncomputable def spec_l15Copies (a0 : List (List ((Bool) × Int))) (a1 : Int) (a2 : Int) (a3 : Bool) : Option (Bool) :=
 let j0 : Unit → Option _ := fun s1 =>
 (some true)
 (loopM (σ := Int) (X := (Unit) ⊕ (Bool)) (fun s2 =>
 (if (decide (s2 < ((a0.length : Nat) : Int))) then
 (let j3 : Unit → Option _ := fun s4 =>
 (some (.inl (i64 (s2 + (1 : Int)))))
 chk ((decide ((0 : Int) ≤ s2)) && (decide (s2 < ((a0.length : Nat) : Int)))) <|
 let v5 : List ((Bool) × Int) := (a0.getD (Int.toNat s2) [])
 chk true <|
 ((loopM (σ := Bool × Bool × Int) (X := Bool × Bool) (fun s6 =>
 (if (decide (s6.2.2 < ((v5.length : Nat) : Int))) then
 ((chk ((decide ((0 : Int) ≤ s6.2.2)) && (decide (s6.2.2 < ((v5.length : Nat) : Int)))) <|
 let v7 : (Bool) × Int := (v5.getD (Int.toNat s6.2.2) (false, 0))
 if v7.1 then
 (some (s6.1, s6.2.1))
 else
 let v8 : Bool := (if (!a3) then (decide (v7.2 = (3 : Int))) else false)
 let v9 : Bool := (if (decide (v7.2 = (2 : Int))) then true else v8)
 let v10 : Bool := (if s6.1 then true else v9)
 let v11 : Bool := (if s6.2.1 then v9 else false)
 some (v10, v11) : Option (Bool × Bool)).bind fun s12 =>
 some (.inl (s12.1, s12.2, (i64 (s6.2.2 + (1 : Int))))))
 else
 some (.inr (s6.1, s6.2.1)))) (false, true, (0 : Int))).bind fun x13 =>
 some (x13.1, x13.2) : Option (Bool × Bool)).bind fun s14 =>
 let v15 : Bool := (if a3 then (!s14.2) else false)
 let v16 : Bool := (if (!s14.1) then true else v15)
 if v16 then
 (some (.inr (.inr false)))
 else
 j3 ())
 else
 some (.inr (.inl ())))) (0 : Int)).bind fun x17 =>
 sumE x17 (fun y18 =>
 j0 ()) (fun z19 =>
 some z19)
/-- spec.l15Primary -/
noncomputable def spec_l15Primary (a0 : List ((Bool) × Int)) : Option (Int) :=
 let j0 : Unit → Option _ := fun s1 =>
 (some (-1 : Int))
 (loopM (σ := Int) (X := (Unit) ⊕ (Int)) (fun s2 =>
 (if (decide (s2 < ((a0.length : Nat) : Int))) then
 (let j3 : Unit → Option _ := fun s4 =>
 (some (.inl (i64 (s2 + (1 : Int)))))
 chk ((decide ((0 : Int) ≤ s2)) && (decide (s2 < ((a0.length : Nat) : Int)))) <|
 let v5 : (Bool) × Int := (a0.getD (Int.toNat s2) (false, 0))
 if (!v5.1) then
 (some (.inr (.inr s2)))
 else
 j3 ())
 else
 some (.inr (.inl ())))) (0 : Int)).bind fun x6 =>
 sumE x6 (fun y7 =>
 j0 ()) (fun z8 =>
 some z8)
/-- spec.l15All -/
noncomputable def spec_l15All (a0 : List (List ((Bool) × Int))) (a1 : Int) (a2 : Int) : Option (Bool) :=
 let j0 : Unit → Option _ := fun s1 =>
 (some true)
 (loopM (σ := Int) (X := (Unit) ⊕ (Bool)) (fun s2 =>
 (if (decide (s2 < ((a0.length : Nat) : Int))) then
 (let j3 : Unit → Option _ := fun s4 =>
 (some (.inl (i64 (s2 + (1 : Int)))))
 chk ((decide ((0 : Int) ≤ s2)) && (decide (s2 < ((a0.length : Nat) : Int)))) <|
 let v5 : List ((Bool) × Int) := (a0.getD (Int.toNat s2) [])
 chk true <|
 (spec_l15Primary v5).bind fun r6 =>
 chk (!(!(decide (r6 < (0 : Int)))) || ((decide ((0 : Int) ≤ r6)) && (decide (r6 < ((v5.length : Nat) : Int))))) <|
 chk (!((!(decide (r6 < (0 : Int)))) && (!decide ((v5.getD (Int.toNat r6) (false, 0)).2 = (1 : Int)))) || ((decide ((0 : Int) ≤ r6)) && (decide (r6 < ((v5.length : Nat) : Int))))) <|
 let v7 : Bool := (if (!decide ((v5.getD (Int.toNat r6) (false, 0)).2 = (1 : Int))) then (!decide ((v5.getD (Int.toNat r6) (false, 0)).2 = (2 : Int))) else false)
 let v8 : Bool := (if (decide (r6 < (0 : Int))) then true else v7)
 if v8 then
 (some (.inr (.inr false)))
 else
 j3 ())
 else
 some (.inr (.inl ())))) (0 : Int)).bind fun x9 =>
 sumE x9 (fun y10 =>
 j0 ()) (fun z11 =>
 some z11)
/-- spec.l15Decision -/
noncomputable def spec_l15Decision (a0 : List (List ((Bool) × Int))) (a1 : Int) (a2 : Int) : Option (Int) :=
 if (!decide (a1 = (0 : Int))) then
 (some a1)
 else
 some a2
/-- spec.l15Step -/
noncomputable def spec_l15Step (a0 : List (List ((Bool) × Int))) (a1 : Int) (a2 : Int) (a3 : Int) (a4 : Int) (a5 : Int) : Option ((List (List ((Bool) × Int))) × Int × Int × Bool) :=
 let v0 : Bool := (if (decide (a1 = (0 : Int))) then (decide (a2 = (0 : Int))) else false)
 let j1 : Unit → Option _ := fun s2 =>
 ((spec_l1In a4 (0 : Int) (i64 (((a0.length : Nat) : Int) - (1 : Int)))).bind fun r3 =>
 chk (!(!(!r3)) || ((decide ((0 : Int) ≤ a4)) && (decide (a4 < ((a0.length : Nat) : Int))))) <|
 chk (!(!(!r3)) || true) <|
 (if (!(!r3)) then spec_l1In a5 (0 : Int) (i64 ((((a0.getD (Int.toNat a4) []).length : Nat) : Int) - (1 : Int))) else some false).bind fun r4 =>
 let v5 : Bool := (if (!r3) then true else (!r4))
 if v5 then
 (some (a0, a1, a2, false))
 else
 chk ((decide ((0 : Int) ≤ a4)) && (decide (a4 < ((a0.length : Nat) : Int)))) <|
 let v6 : List ((Bool) × Int) := (a0.getD (Int.toNat a4) [])
 chk true <|
 chk ((decide ((0 : Int) ≤ a5)) && (decide (a5 < ((v6.length : Nat) : Int)))) <|
 let v7 : (Bool) × Int := (v6.getD (Int.toNat a5) (false, 0))
 if v7.1 then
 (some (a0, a1, a2, false))
 else
 let j8 : (List ((Bool) × Int)) × Bool × Int → Option _ := fun s9 =>
 (chk ((decide ((0 : Int) ≤ a5)) && (decide (a5 < ((s9.1.length : Nat) : Int)))) <|
 chk (decide (0 ≤ a5)) <|
 let v10 : List ((Bool) × Int) := (s9.1.set (Int.toNat a5) (s9.2.1, s9.2.2))
 let v11 : List (List ((Bool) × Int)) := (a0.set (Int.toNat a4) v10)
 some (v11, a1, a2, true))
 let j12 : (List ((Bool) × Int)) × Bool × Int → Option _ := fun s13 =>
 (j8 (s13.1, s13.2.1, s13.2.2))
 if (decide (a3 = (1 : Int))) then
 ((if (!(!v0)) then spec_l15Primary v6 else some 0).bind fun r14 =>
 let v15 : Bool := (if (!v0) then true else (!decide (r14 = a5)))
 let v16 : Bool := (if v15 then true else (!decide (v7.2 = (0 : Int))))
 if v16 then
 (some (a0, a1, a2, false))
 else
 j12 (v6, v7.1, (1 : Int)))
 else
 let j17 : (List ((Bool) × Int)) × Bool × Int → Option _ := fun s18 =>
 (j12 (s18.1, s18.2.1, s18.2.2))
 if (decide (a3 = (2 : Int))) then
 ((if (!(!v0)) then spec_l15All a0 a1 a2 else some false).bind fun r19 =>
 let v20 : Bool := (if (!v0) then true else (!r19))
 let v21 : Bool := (if (!decide (v7.2 = (0 : Int))) then (!decide (v7.2 = (1 : Int))) else false)
 let v22 : Bool := (if v20 then true else v21)
 if v22 then
 (some (a0, a1, a2, false))
 else
 j17 (v6, v7.1, (2 : Int)))
 else
 let j23 : (List ((Bool) × Int)) × Bool × Int → Option _ := fun s24 =>
 (j17 (s24.1, s24.2.1, s24.2.2))
 if (decide (a3 = (5 : Int))) then
 (((loopM (σ := (List ((Bool) × Int)) × Int × Int) (X := (List ((Bool) × Int)) × Int) (fun s25 =>
 (if (decide (s25.2.2 < ((v6.length : Nat) : Int))) then
 ((chk ((decide ((0 : Int) ≤ s25.2.2)) && (decide (s25.2.2 < ((s25.1.length : Nat) : Int)))) <|
 let v26 : (Bool) × Int := (s25.1.getD (Int.toNat s25.2.2) (false, 0))
 (if (!v26.1) then
 (some (s25.1, (i64 (s25.2.1 + (1 : Int)))) : Option ((List ((Bool) × Int)) × Int))
 else
 (some (s25.1, s25.2.1))).bind fun s27 =>
 some (s27.1, s27.2) : Option ((List ((Bool) × Int)) × Int)).bind fun s28 =>
 some (.inl (s28.1, s28.2, (i64 (s25.2.2 + (1 : Int))))))
 else
 some (.inr (s25.1, s25.2.1)))) (v6, (0 : Int), (0 : Int))).bind fun x29 =>
 some (x29.1, x29.2) : Option ((List ((Bool) × Int)) × Int)).bind fun s30 =>
 if (decide (s30.2 = (1 : Int))) then
 (some (a0, a1, a2, false))
 else
 j23 (s30.1, true, (0 : Int)))
 else
 if (decide (a3 = (7 : Int))) then
 ((spec_l15Decision a0 a1 a2).bind fun r31 =>
 let v32 : Bool := (if (decide (r31 = (0 : Int))) then true else (decide (v7.2 = (3 : Int))))
 let v33 : Bool := (if v32 then true else (decide (v7.2 = (4 : Int))))
 if v33 then
 (some (a0, a1, a2, false))
 else
 (if (decide (r31 = (1 : Int))) then
 (some (v6, (3 : Int)) : Option ((List ((Bool) × Int)) × Int))
 else
 (some (v6, (4 : Int)))).bind fun s34 =>
 j23 (s34.1, v7.1, s34.2))
 else
 some (a0, a1, a2, false))
 if (decide (a3 = (3 : Int))) then
 ((if (!(!v0)) then spec_l15Copies a0 a1 a2 true else some false).bind fun r35 =>
 let v36 : Bool := (if (!v0) then true else (!r35))
 if v36 then
 (some (a0, a1, a2, false))
 else
 some (a0, (1 : Int), a2, true))
 else
 if (decide (a3 = (4 : Int))) then
 (some (a0, (2 : Int), a2, v0))
 else
 if (decide (a3 = (6 : Int))) then
 (if (!decide (a2 = (0 : Int))) then
 (some (a0, a1, a2, false))
 else
 ((if (!decide (a1 = (0 : Int))) then
 (some a1 : Option (Int))
 else
 ((spec_l15Copies a0 a1 a2 false).bind fun r37 =>
 (if r37 then
 (some (1 : Int) : Option (Int))
 else
 (some (2 : Int))).bind fun s38 =>
 some s38)).bind fun s39 =>
 some s39 : Option (Int)).bind fun s40 =>
 some (a0, a1, s40, true))
 else
 j1 ()
/-- spec.PlayCommit -/
noncomputable def spec_PlayCommit (a0 : List (Int)) (a1 : List ((Int) × (Int) × Int)) : Option ((List (List ((Bool) × Int))) × Int × Int × (List (Bool)) × Bool) :=
 (spec_NewCommit a0).bind fun r0 =>
 let v1 : Bool := (if (!r0.2.2) then true else (decide ((100 : Int) < ((a1.length : Nat) : Int))))
 if v1 then
 (some (([] : List (List ((Bool) × Int))), (0 : Int), (0 : Int), ([] : List (Bool)), false))
 else
 ((loopM (σ := (List (List ((Bool) × Int))) × Int × Int × (List (Bool)) × Int) (X := (List (List ((Bool) × Int))) × Int × Int × List (Bool)) (fun s2 =>
 (if (decide (s2.2.2.2.2 < ((a1.length : Nat) : Int))) then
 ((chk ((decide ((0 : Int) ≤ s2.2.2.2.2)) && (decide (s2.2.2.2.2 < ((a1.length : Nat) : Int)))) <|
 let v3 : (Int) × (Int) × Int := (a1.getD (Int.toNat s2.2.2.2.2) (0, (0, 0)))
 (spec_l15Own s2.1 s2.2.1 s2.2.2.1).bind fun r4 =>
 (spec_l15Step r4.1 r4.2.1 r4.2.2 v3.1 v3.2.1 v3.2.2).bind fun r5 =>
 (if r5.2.2.2 then
 (some (((r5.1.take (Int.toNat ((r4.1.length : Nat) : Int))).drop (Int.toNat (0 : Int))), r5.2.1, r5.2.2.1) : Option ((List (List ((Bool) × Int))) × Int × Int))
 else
 (some (s2.1, s2.2.1, s2.2.2.1))).bind fun s6 =>
 let v7 : List (Bool) := (r5.2.2.2 :: ([] : List (Bool)))
 let v8 : List (Bool) := (s2.2.2.2.1 ++ v7)
 chk (decide (((v8.length : Nat) : Int) ≤ (140737488355328 : Int))) <|
 some (s6.1, s6.2.1, s6.2.2, v8) : Option ((List (List ((Bool) × Int))) × Int × Int × List (Bool))).bind fun s9 =>
 some (.inl (s9.1, s9.2.1, s9.2.2.1, s9.2.2.2, (i64 (s2.2.2.2.2 + (1 : Int))))))
 else
 some (.inr (s2.1, s2.2.1, s2.2.2.1, s2.2.2.2.1)))) (r0.1, r0.2.1, r0.2.1, ([] : List (Bool)), (0 : Int))).bind fun x10 =>
 some (x10.1, x10.2.1, x10.2.2.1, x10.2.2.2) : Option ((List (List ((Bool) × Int))) × Int × Int × List (Bool))).bind fun s11 =>
 (spec_l15Own s11.1 s11.2.1 s11.2.2.1).bind fun r12 =>
 some (r12.1, r12.2.1, r12.2.2, s11.2.2.2, true)
/-- laws.sameBools -/
noncomputable def laws_sameBools (a0 : List (Bool)) (a1 : List (Bool)) : Option (Bool) :=
 if (!decide (((a0.length : Nat) : Int) = ((a1.length : Nat) : Int))) then
 (some false)
 else
 let j0 : Unit → Option _ := fun s1 =>
 (some true)
 (loopM (σ := Int) (X := (Unit) ⊕ (Bool)) (fun s2 =>
 (if (decide (s2 < ((a0.length : Nat) : Int))) then
 (let j3 : Unit → Option _ := fun s4 =>
 (some (.inl (i64 (s2 + (1 : Int)))))
 chk ((decide ((0 : Int) ≤ s2)) && (decide (s2 < ((a0.length : Nat) : Int)))) <|
 chk ((decide ((0 : Int) ≤ s2)) && (decide (s2 < ((a1.length : Nat) : Int)))) <|
 if ((a0.getD (Int.toNat s2) false) != (a1.getD (Int.toNat s2) false)) then
 (some (.inr (.inr false)))
 else
 j3 ())
 else
 some (.inr (.inl ())))) (0 : Int)).bind fun x5 =>
 sumE x5 (fun y6 =>
 j0 ()) (fun z7 =>
 some z7)
/-- impl.isCommit$1$1 -/
noncomputable def impl_isCommit_1_1 (a0 : Bool) (a1 : Int) : Option (Bool) :=
 (impl_in a1 (0 : Int) (4 : Int)).bind fun r0 =>
 some (!r0)
/-- slices.IndexFunc[[]impl.Replica,impl.Replica] -/
noncomputable def slices_IndexFunc__impl_Replica_impl_Replica' (a0 : List ((Bool) × Int)) : Option (Int) :=
 let j0 : Unit → Option _ := fun s1 =>
 (some (-1 : Int))
 (loopM (σ := Int) (X := (Unit) ⊕ (Int)) (fun s2 =>
 (if (decide (s2 < ((a0.length : Nat) : Int))) then
 (let j3 : Unit → Option _ := fun s4 =>
 (some (.inl (i64 (s2 + (1 : Int)))))
 chk ((decide ((0 : Int) ≤ s2)) && (decide (s2 < ((a0.length : Nat) : Int)))) <|
 let v5 : (Bool) × Int := (a0.getD (Int.toNat s2) (false, 0))
 (impl_isCommit_1_1 v5.1 v5.2).bind fun r6 =>
 if r6 then
 (some (.inr (.inr s2)))
 else
 j3 ())
 else
 some (.inr (.inl ())))) (0 : Int)).bind fun x7 =>
 sumE x7 (fun y8 =>
 j0 ()) (fun z9 =>
 some z9)
/-- slices.ContainsFunc[[]impl.Replica,impl.Replica] -/
noncomputable def slices_ContainsFunc__impl_Replica_impl_Replica (a0 : List ((Bool) × Int)) : Option (Bool) :=
 (slices_IndexFunc__impl_Replica_impl_Replica' a0).bind fun r0 =>
 some (decide ((0 : Int) ≤ r0))
/-- impl.isCommit$1 -/
noncomputable def impl_isCommit_1 (a0 : List ((Bool) × Int)) : Option (Bool) :=
 (impl_in ((a0.length : Nat) : Int) (1 : Int) (5 : Int)).bind fun r0 =>
 (if (!(!r0)) then slices_ContainsFunc__impl_Replica_impl_Replica a0 else some false).bind fun r1 =>
 let v2 : Bool := (if (!r0) then true else r1)
 some v2
/-- slices.IndexFunc[[]impl.Shard,impl.Shard] -/
noncomputable def slices_IndexFunc__impl_Shard_impl_Shard''' (a0 : List (List ((Bool) × Int))) : Option (Int) :=
 let j0 : Unit → Option _ := fun s1 =>
 (some (-1 : Int))
 (loopM (σ := Int) (X := (Unit) ⊕ (Int)) (fun s2 =>
 (if (decide (s2 < ((a0.length : Nat) : Int))) then
 (let j3 : Unit → Option _ := fun s4 =>
 (some (.inl (i64 (s2 + (1 : Int)))))
 chk ((decide ((0 : Int) ≤ s2)) && (decide (s2 < ((a0.length : Nat) : Int)))) <|
 let v5 : List ((Bool) × Int) := (a0.getD (Int.toNat s2) [])
 chk true <|
 (impl_isCommit_1 v5).bind fun r6 =>
 if r6 then
 (some (.inr (.inr s2)))
 else
 j3 ())
 else
 some (.inr (.inl ())))) (0 : Int)).bind fun x7 =>
 sumE x7 (fun y8 =>
 j0 ()) (fun z9 =>
 some z9)
/-- slices.ContainsFunc[[]impl.Shard,impl.Shard] -/
noncomputable def slices_ContainsFunc__impl_Shard_impl_Shard''' (a0 : List (List ((Bool) × Int))) : Option (Bool) :=
 (slices_IndexFunc__impl_Shard_impl_Shard''' a0).bind fun r0 =>
 some (decide ((0 : Int) ≤ r0))
/-- impl.isCommit -/
noncomputable def impl_isCommit (a0 : List (List ((Bool) × Int))) (a1 : Int) (a2 : Int) : Option (Bool) :=
 (impl_in ((a0.length : Nat) : Int) (1 : Int) (4 : Int)).bind fun r0 =>
 (if r0 then impl_in a1 (0 : Int) (2 : Int) else some false).bind fun r1 =>
 let v2 : Bool := (if r0 then r1 else false)
 (if v2 then impl_in a2 (0 : Int) (2 : Int) else some false).bind fun r3 =>
 let v4 : Bool := (if v2 then r3 else false)
 (if v4 then slices_ContainsFunc__impl_Shard_impl_Shard''' a0 else some false).bind fun r5 =>
 let v6 : Bool := (if v4 then (!r5) else false)
 some v6
/-- impl.AgreesIn -/
noncomputable def impl_AgreesIn (a0 : List (List ((Bool) × Int))) (a1 : Int) (a2 : Int) : Option (Bool × Bool) :=
 (impl_isCommit a0 a1 a2).bind fun r0 =>
 if (!r0) then
 (some (false, false))
 else
 let v1 : Bool := (if (!decide (a1 = (0 : Int))) then (!decide (a2 = (0 : Int))) else false)
 let v2 : Bool := (if v1 then (!decide (a1 = a2)) else false)
 if v2 then
 (some (false, true))
 else
 let j3 : Unit → Option _ := fun s4 =>
 (some (true, true))
 (loopM (σ := Int) (X := (Unit) ⊕ (Bool × Bool)) (fun s5 =>
 (if (decide (s5 < ((a0.length : Nat) : Int))) then
 (let j6 : Unit → Option _ := fun s7 =>
 (some (.inl (i64 (s5 + (1 : Int)))))
 chk ((decide ((0 : Int) ≤ s5)) && (decide (s5 < ((a0.length : Nat) : Int)))) <|
 let v8 : List ((Bool) × Int) := (a0.getD (Int.toNat s5) [])
 chk true <|
 let j9 : Unit → Option _ := fun s10 =>
 (j6 ())
 (loopM (σ := Int) (X := (Unit) ⊕ (Bool × Bool)) (fun s11 =>
 (if (decide (s11 < ((v8.length : Nat) : Int))) then
 (let j12 : Unit → Option _ := fun s13 =>
 (some (.inl (i64 (s11 + (1 : Int)))))
 chk ((decide ((0 : Int) ≤ s11)) && (decide (s11 < ((v8.length : Nat) : Int)))) <|
 let v14 : (Bool) × Int := (v8.getD (Int.toNat s11) (false, 0))
 (if ((!v14.1) && (decide (v14.2 = (3 : Int)))) then impl_Commit_decision a0 a1 a2 else some 0).bind fun r15 =>
 let v16 : Bool := (if (decide (v14.2 = (3 : Int))) then (!decide (r15 = (1 : Int))) else false)
 (if (((!v14.1) && (!v16)) && (decide (v14.2 = (4 : Int)))) then impl_Commit_decision a0 a1 a2 else some 0).bind fun r17 =>
 let v18 : Bool := (if (decide (v14.2 = (4 : Int))) then (!decide (r17 = (2 : Int))) else false)
 let v19 : Bool := (if v16 then true else v18)
 let v20 : Bool := (if (!v14.1) then v19 else false)
 if v20 then
 (some (.inr (.inr (false, true))))
 else
 j12 ())
 else
 some (.inr (.inl ())))) (0 : Int)).bind fun x21 =>
 sumE x21 (fun y22 =>
 j9 ()) (fun z23 =>
 some (.inr (.inr (z23.1, z23.2)))))
 else
 some (.inr (.inl ())))) (0 : Int)).bind fun x24 =>
 sumE x24 (fun y25 =>
 j3 ()) (fun z26 =>
 some (z26.1, z26.2))
/-- impl.LivesIn$1 -/
noncomputable def impl_LivesIn_1 (a0 : List ((Bool) × Int)) : Option (Bool) :=
 (impl_Shard_primary a0).bind fun r0 =>
 some (decide (r0 < (0 : Int)))
/-- slices.IndexFunc[[]impl.Shard,impl.Shard] -/
noncomputable def slices_IndexFunc__impl_Shard_impl_Shard'''' (a0 : List (List ((Bool) × Int))) : Option (Int) :=
 let j0 : Unit → Option _ := fun s1 =>
 (some (-1 : Int))
 (loopM (σ := Int) (X := (Unit) ⊕ (Int)) (fun s2 =>
 (if (decide (s2 < ((a0.length : Nat) : Int))) then
 (let j3 : Unit → Option _ := fun s4 =>
 (some (.inl (i64 (s2 + (1 : Int)))))
 chk ((decide ((0 : Int) ≤ s2)) && (decide (s2 < ((a0.length : Nat) : Int)))) <|
 let v5 : List ((Bool) × Int) := (a0.getD (Int.toNat s2) [])
 chk true <|
 (impl_LivesIn_1 v5).bind fun r6 =>
 if r6 then
 (some (.inr (.inr s2)))
 else
 j3 ())
 else
 some (.inr (.inl ())))) (0 : Int)).bind fun x7 =>
 sumE x7 (fun y8 =>
 j0 ()) (fun z9 =>
 some z9)
/-- slices.ContainsFunc[[]impl.Shard,impl.Shard] -/
noncomputable def slices_ContainsFunc__impl_Shard_impl_Shard'''' (a0 : List (List ((Bool) × Int))) : Option (Bool) :=
 (slices_IndexFunc__impl_Shard_impl_Shard'''' a0).bind fun r0 =>
 some (decide ((0 : Int) ≤ r0))
/-- impl.LivesIn -/
noncomputable def impl_LivesIn (a0 : List (List ((Bool) × Int))) (a1 : Int) (a2 : Int) : Option (Bool × Bool) :=
 (impl_isCommit a0 a1 a2).bind fun r0 =>
 if (!r0) then
 (some (false, false))
 else
 (slices_ContainsFunc__impl_Shard_impl_Shard'''' a0).bind fun r1 =>
 some ((!r1), true)
/-- impl.GoodCommit -/
noncomputable def impl_GoodCommit (a0 : List (List ((Bool) × Int))) (a1 : Int) (a2 : Int) : Option (Bool) :=
 (impl_isCommit a0 a1 a2).bind fun r0 =>
 some r0
/-- laws.FnCommit -/
noncomputable def laws_FnCommit (a0 : List (Int)) : Option (Bool) :=
 if (decide ((1048576 : Int) < ((a0.length : Nat) : Int))) then
 (some true)
 else
 (spec_DrawPlayCommit a0).bind fun r0 =>
 (impl_PlayCommit r0.1 r0.2).bind fun r1 =>
 (spec_PlayCommit r0.1 r0.2).bind fun r2 =>
 (if (!(r1.2.2.2.2 != r2.2.2.2.2)) then laws_sameBools r1.2.2.2.1 r2.2.2.2.1 else some false).bind fun r3 =>
 let v4 : Bool := (if (r1.2.2.2.2 != r2.2.2.2.2) then true else (!r3))
 if v4 then
 (some false)
 else
 if (!r1.2.2.2.2) then
 (some (decide (((r1.2.2.2.1.length : Nat) : Int) = (0 : Int))))
 else
 (impl_AgreesIn r1.1 r1.2.1 r1.2.2.1).bind fun r5 =>
 (impl_LivesIn r1.1 r1.2.1 r1.2.2.1).bind fun r6 =>
 let v7 : Bool := (if r5.2 then r6.2 else false)
 let v8 : Bool := (if v7 then r5.1 else false)
 let v9 : Bool := (if v8 then r6.1 else false)
 (if v9 then impl_GoodCommit r1.1 r1.2.1 r1.2.2.1 else some false).bind fun r10 =>
 let v11 : Bool := (if v9 then r10 else false)
 some v11
/-- laws.szReplicaS -/
noncomputable def laws_szReplicaS (a0 : List ((Bool) × Int)) (a1 : Int) : Option (Int) :=
 if (decide ((i64 (a1 - ((a0.length : Nat) : Int))) < (0 : Int))) then
 (some (-1 : Int))
 else
 some (i64 (a1 - ((a0.length : Nat) : Int)))
/-- laws.szShard -/
noncomputable def laws_szShard (a0 : List ((Bool) × Int)) (a1 : Int) : Option (Int) :=
 (laws_szReplicaS a0 a1).bind fun r0 =>
 if (decide (r0 < (0 : Int))) then
 (some (-1 : Int))
 else
 some r0
/-- laws.szShardS -/
noncomputable def laws_szShardS (a0 : List (List ((Bool) × Int))) (a1 : Int) : Option (Int) :=
 if (decide ((i64 (a1 - ((a0.length : Nat) : Int))) < (0 : Int))) then
 (some (-1 : Int))
 else
 let j0 : Int → Option _ := fun s1 =>
 (some s1)
 (loopM (σ := Int × Int) (X := (Int) ⊕ (Int)) (fun s2 =>
 (if (decide (s2.2 < ((a0.length : Nat) : Int))) then
 (let j3 : Int → Option _ := fun s4 =>
 (some (.inl (s4, (i64 (s2.2 + (1 : Int))))))
 chk ((decide ((0 : Int) ≤ s2.2)) && (decide (s2.2 < ((a0.length : Nat) : Int)))) <|
 let v5 : List ((Bool) × Int) := (a0.getD (Int.toNat s2.2) [])
 chk true <|
 (laws_szShard v5 s2.1).bind fun r6 =>
 if (decide (r6 < (0 : Int))) then
 (some (.inr (.inr (-1 : Int))))
 else
 j3 r6)
 else
 some (.inr (.inl s2.1)))) ((i64 (a1 - ((a0.length : Nat) : Int))), (0 : Int))).bind fun x7 =>
 sumE x7 (fun y8 =>
 j0 y8) (fun z9 =>
 some z9)
/-- laws.szCommit -/
noncomputable def laws_szCommit (a0 : List (List ((Bool) × Int))) (a1 : Int) (a2 : Int) (a3 : Int) : Option (Int) :=
 (laws_szShardS a0 a3).bind fun r0 =>
 if (decide (r0 < (0 : Int))) then
 (some (-1 : Int))
 else
 some r0
/-- laws.toReplica -/
noncomputable def laws_toReplica (a0 : Bool) (a1 : Int) : Option (Bool × Int) :=
 some (a0, a1)
/-- laws.toReplicaS -/
noncomputable def laws_toReplicaS (a0 : List ((Bool) × Int)) : Option (List ((Bool) × Int)) :=
 chk ((decide ((0 : Int) ≤ ((a0.length : Nat) : Int))) && (decide (((a0.length : Nat) : Int) ≤ (8796093022208 : Int)))) <|
 let v0 : List ((Bool) × Int) := (List.replicate (Int.toNat ((a0.length : Nat) : Int)) (false, (0 : Int)))
 ((loopM (σ := (List ((Bool) × Int)) × Int) (X := List ((Bool) × Int)) (fun s1 =>
 (if (decide (s1.2 < ((a0.length : Nat) : Int))) then
 ((chk ((decide ((0 : Int) ≤ s1.2)) && (decide (s1.2 < ((a0.length : Nat) : Int)))) <|
 let v2 : (Bool) × Int := (a0.getD (Int.toNat s1.2) (false, 0))
 (laws_toReplica v2.1 v2.2).bind fun r3 =>
 chk ((decide ((0 : Int) ≤ s1.2)) && (decide (s1.2 < ((s1.1.length : Nat) : Int)))) <|
 let v4 : List ((Bool) × Int) := (s1.1.set (Int.toNat s1.2) (r3.1, r3.2))
 some v4 : Option (List ((Bool) × Int))).bind fun s5 =>
 some (.inl (s5, (i64 (s1.2 + (1 : Int))))))
 else
 some (.inr s1.1))) (v0, (0 : Int))).bind fun x6 =>
 some x6 : Option (List ((Bool) × Int))).bind fun s7 =>
 some s7
/-- laws.toShard -/
noncomputable def laws_toShard (a0 : List ((Bool) × Int)) : Option (List ((Bool) × Int)) :=
 (laws_toReplicaS a0).bind fun r0 =>
 some r0
/-- laws.toShardS -/
noncomputable def laws_toShardS (a0 : List (List ((Bool) × Int))) : Option (List (List ((Bool) × Int))) :=
 chk ((decide ((0 : Int) ≤ ((a0.length : Nat) : Int))) && (decide (((a0.length : Nat) : Int) ≤ (5864062014805 : Int)))) <|
 let v0 : List (List ((Bool) × Int)) := (List.replicate (Int.toNat ((a0.length : Nat) : Int)) ([] : List ((Bool) × Int)))
 ((loopM (σ := (List (List ((Bool) × Int))) × Int) (X := List (List ((Bool) × Int))) (fun s1 =>
 (if (decide (s1.2 < ((a0.length : Nat) : Int))) then
 ((chk ((decide ((0 : Int) ≤ s1.2)) && (decide (s1.2 < ((a0.length : Nat) : Int)))) <|
 let v2 : List ((Bool) × Int) := (a0.getD (Int.toNat s1.2) [])
 chk true <|
 (laws_toShard v2).bind fun r3 =>
 chk ((decide ((0 : Int) ≤ s1.2)) && (decide (s1.2 < ((s1.1.length : Nat) : Int)))) <|
 let v4 : List (List ((Bool) × Int)) := (s1.1.set (Int.toNat s1.2) r3)
 some v4 : Option (List (List ((Bool) × Int)))).bind fun s5 =>
 some (.inl (s5, (i64 (s1.2 + (1 : Int))))))
 else
 some (.inr s1.1))) (v0, (0 : Int))).bind fun x6 =>
 some x6 : Option (List (List ((Bool) × Int)))).bind fun s7 =>
 some s7
/-- laws.toCommit -/
noncomputable def laws_toCommit (a0 : List (List ((Bool) × Int))) (a1 : Int) (a2 : Int) : Option ((List (List ((Bool) × Int))) × Int × Int) :=
 (laws_toShardS a0).bind fun r0 =>
 some (r0, a1, a2)
/-- laws.toCommitStep -/
noncomputable def laws_toCommitStep (a0 : Int) (a1 : Int) (a2 : Int) : Option (Int × Int × Int) :=
 some (a0, a1, a2)
/-- spec.GoodCommit -/
noncomputable def spec_GoodCommit (a0 : List (List ((Bool) × Int))) (a1 : Int) (a2 : Int) : Option (Bool) :=
 let j0 : Unit → Option _ := fun s1 =>
 ((spec_l1In ((a0.length : Nat) : Int) (1 : Int) (4 : Int)).bind fun r2 =>
 (if r2 then spec_l1In a1 (0 : Int) (2 : Int) else some false).bind fun r3 =>
 let v4 : Bool := (if r2 then r3 else false)
 (if v4 then spec_l1In a2 (0 : Int) (2 : Int) else some false).bind fun r5 =>
 let v6 : Bool := (if v4 then r5 else false)
 some v6)
 (loopM (σ := Int) (X := (Unit) ⊕ (Bool)) (fun s7 =>
 (if (decide (s7 < ((a0.length : Nat) : Int))) then
 (let j8 : Unit → Option _ := fun s9 =>
 (some (.inl (i64 (s7 + (1 : Int)))))
 chk ((decide ((0 : Int) ≤ s7)) && (decide (s7 < ((a0.length : Nat) : Int)))) <|
 let v10 : List ((Bool) × Int) := (a0.getD (Int.toNat s7) [])
 chk true <|
 let j11 : Unit → Option _ := fun s12 =>
 ((spec_l1In ((v10.length : Nat) : Int) (1 : Int) (5 : Int)).bind fun r13 =>
 if (!r13) then
 (some (.inr (.inr false)))
 else
 j8 ())
 (loopM (σ := Int) (X := (Unit) ⊕ (Bool)) (fun s14 =>
 (if (decide (s14 < ((v10.length : Nat) : Int))) then
 (let j15 : Unit → Option _ := fun s16 =>
 (some (.inl (i64 (s14 + (1 : Int)))))
 chk ((decide ((0 : Int) ≤ s14)) && (decide (s14 < ((v10.length : Nat) : Int)))) <|
 let v17 : (Bool) × Int := (v10.getD (Int.toNat s14) (false, 0))
 (spec_l1In v17.2 (0 : Int) (4 : Int)).bind fun r18 =>
 if (!r18) then
 (some (.inr (.inr false)))
 else
 j15 ())
 else
 some (.inr (.inl ())))) (0 : Int)).bind fun x19 =>
 sumE x19 (fun y20 =>
 j11 ()) (fun z21 =>
 some (.inr (.inr z21))))
 else
 some (.inr (.inl ())))) (0 : Int)).bind fun x22 =>
 sumE x22 (fun y23 =>
 j0 ()) (fun z24 =>
 some z24)
/-- spec.StepCommit -/
noncomputable def spec_StepCommit (a0 : List (List ((Bool) × Int))) (a1 : Int) (a2 : Int) (a3 : Int) (a4 : Int) (a5 : Int) : Option ((List (List ((Bool) × Int))) × Int × Int × Bool) :=
 (spec_GoodCommit a0 a1 a2).bind fun r0 =>
 if (!r0) then
 (some (([] : List (List ((Bool) × Int))), (0 : Int), (0 : Int), false))
 else
 (spec_l15Own a0 a1 a2).bind fun r1 =>
 (spec_l15Step r1.1 r1.2.1 r1.2.2 a3 a4 a5).bind fun r2 =>
 if (!r2.2.2.2) then
 (some (([] : List (List ((Bool) × Int))), (0 : Int), (0 : Int), false))
 else
 some (((r2.1.take (Int.toNat ((r1.1.length : Nat) : Int))).drop (Int.toNat (0 : Int))), r2.2.1, r2.2.2.1, true)
/-- impl.StepCommit -/
noncomputable def impl_StepCommit (a0 : List (List ((Bool) × Int))) (a1 : Int) (a2 : Int) (a3 : Int) (a4 : Int) (a5 : Int) : Option ((List (List ((Bool) × Int))) × Int × Int × Bool) :=
 (impl_isCommit a0 a1 a2).bind fun r0 =>
 if (!r0) then
 (some (([] : List (List ((Bool) × Int))), (0 : Int), (0 : Int), false))
 else
 (impl_Commit_step a0 a1 a2 a3 a4 a5).bind fun r1 =>
 some (r1.1, r1.2.1, r1.2.2.1, r1.2.2.2)
/-- laws.eqReplica -/
noncomputable def laws_eqReplica (a0 : Bool) (a1 : Int) (a2 : Bool) (a3 : Int) : Option (Bool) :=
 if (a0 != a2) then
 (some false)
 else
 if (!decide (a1 = a3)) then
 (some false)
 else
 some true
/-- laws.eqReplicaS -/
noncomputable def laws_eqReplicaS (a0 : List ((Bool) × Int)) (a1 : List ((Bool) × Int)) : Option (Bool) :=
 if (!decide (((a0.length : Nat) : Int) = ((a1.length : Nat) : Int))) then
 (some false)
 else
 let j0 : Unit → Option _ := fun s1 =>
 (some true)
 (loopM (σ := Int) (X := (Unit) ⊕ (Bool)) (fun s2 =>
 (if (decide (s2 < ((a0.length : Nat) : Int))) then
 (let j3 : Unit → Option _ := fun s4 =>
 (some (.inl (i64 (s2 + (1 : Int)))))
 chk ((decide ((0 : Int) ≤ s2)) && (decide (s2 < ((a0.length : Nat) : Int)))) <|
 let v5 : (Bool) × Int := (a0.getD (Int.toNat s2) (false, 0))
 chk ((decide ((0 : Int) ≤ s2)) && (decide (s2 < ((a1.length : Nat) : Int)))) <|
 let v6 : (Bool) × Int := (a1.getD (Int.toNat s2) (false, 0))
 (laws_eqReplica v5.1 v5.2 v6.1 v6.2).bind fun r7 =>
 if (!r7) then
 (some (.inr (.inr false)))
 else
 j3 ())
 else
 some (.inr (.inl ())))) (0 : Int)).bind fun x8 =>
 sumE x8 (fun y9 =>
 j0 ()) (fun z10 =>
 some z10)
/-- laws.eqShard -/
noncomputable def laws_eqShard (a0 : List ((Bool) × Int)) (a1 : List ((Bool) × Int)) : Option (Bool) :=
 (laws_eqReplicaS a0 a1).bind fun r0 =>
 if (!r0) then
 (some false)
 else
 some true
/-- laws.eqShardS -/
noncomputable def laws_eqShardS (a0 : List (List ((Bool) × Int))) (a1 : List (List ((Bool) × Int))) : Option (Bool) :=
 if (!decide (((a0.length : Nat) : Int) = ((a1.length : Nat) : Int))) then
 (some false)
 else
 let j0 : Unit → Option _ := fun s1 =>
 (some true)
 (loopM (σ := Int) (X := (Unit) ⊕ (Bool)) (fun s2 =>
 (if (decide (s2 < ((a0.length : Nat) : Int))) then
 (let j3 : Unit → Option _ := fun s4 =>
 (some (.inl (i64 (s2 + (1 : Int)))))
 chk ((decide ((0 : Int) ≤ s2)) && (decide (s2 < ((a0.length : Nat) : Int)))) <|
 let v5 : List ((Bool) × Int) := (a0.getD (Int.toNat s2) [])
 chk true <|
 chk ((decide ((0 : Int) ≤ s2)) && (decide (s2 < ((a1.length : Nat) : Int)))) <|
 let v6 : List ((Bool) × Int) := (a1.getD (Int.toNat s2) [])
 chk true <|
 (laws_eqShard v5 v6).bind fun r7 =>
 if (!r7) then
 (some (.inr (.inr false)))
 else
 j3 ())
 else
 some (.inr (.inl ())))) (0 : Int)).bind fun x8 =>
 sumE x8 (fun y9 =>
 j0 ()) (fun z10 =>
 some z10)
/-- laws.eqCommit -/
noncomputable def laws_eqCommit (a0 : List (List ((Bool) × Int))) (a1 : Int) (a2 : Int) (a3 : List (List ((Bool) × Int))) (a4 : Int) (a5 : Int) : Option (Bool) :=
 (laws_eqShardS a0 a3).bind fun r0 =>
 if (!r0) then
 (some false)
 else
 if (!decide (a1 = a4)) then
 (some false)
 else
 if (!decide (a2 = a5)) then
 (some false)
 else
 some true
/-- laws.markReplicaS -/
noncomputable def laws_markReplicaS (a0 : List ((Bool) × Int)) (a1 : Int) : Option ((List ((Bool) × Int)) × Int) :=
 ((loopM (σ := (List ((Bool) × Int)) × Int × Int) (X := (List ((Bool) × Int)) × Int) (fun s0 =>
 (if (decide (s0.2.2 < ((s0.1.length : Nat) : Int))) then
 ((chk ((decide ((0 : Int) ≤ s0.2.2)) && (decide (s0.2.2 < ((s0.1.length : Nat) : Int)))) <|
 let v1 : List ((Bool) × Int) := (s0.1.set (Int.toNat s0.2.2) ((decide ((Int.tmod s0.2.1 (3 : Int)) = (0 : Int))), (s0.1.getD (Int.toNat s0.2.2) (false, 0)).2))
 chk ((decide ((0 : Int) ≤ s0.2.2)) && (decide (s0.2.2 < ((v1.length : Nat) : Int)))) <|
 let v2 : List ((Bool) × Int) := (v1.set (Int.toNat s0.2.2) ((v1.getD (Int.toNat s0.2.2) (false, 0)).1, (i64 (s0.2.1 + (1 : Int)))))
 some v2 : Option (List ((Bool) × Int))).bind fun s3 =>
 some (.inl (s3, (i64 ((i64 (s0.2.1 + (1 : Int))) + (1 : Int))), (i64 (s0.2.2 + (1 : Int))))))
 else
 some (.inr (s0.1, s0.2.1)))) (a0, a1, (0 : Int))).bind fun x4 =>
 some (x4.1, x4.2) : Option ((List ((Bool) × Int)) × Int)).bind fun s5 =>
 some (s5.1, s5.2)
/-- laws.markShardS -/
noncomputable def laws_markShardS (a0 : List (List ((Bool) × Int))) (a1 : Int) : Option ((List (List ((Bool) × Int))) × Int) :=
 ((loopM (σ := (List (List ((Bool) × Int))) × Int × Int) (X := (List (List ((Bool) × Int))) × Int) (fun s0 =>
 (if (decide (s0.2.2 < ((s0.1.length : Nat) : Int))) then
 ((chk ((decide ((0 : Int) ≤ s0.2.2)) && (decide (s0.2.2 < ((s0.1.length : Nat) : Int)))) <|
 chk true <|
 let v1 : List ((Bool) × Int) := (s0.1.getD (Int.toNat s0.2.2) [])
 (laws_markReplicaS v1 s0.2.1).bind fun r2 =>
 let v3 : List (List ((Bool) × Int)) := (s0.1.set (Int.toNat s0.2.2) r2.1)
 some (v3, r2.2) : Option ((List (List ((Bool) × Int))) × Int)).bind fun s4 =>
 some (.inl (s4.1, s4.2, (i64 (s0.2.2 + (1 : Int))))))
 else
 some (.inr (s0.1, s0.2.1)))) (a0, a1, (0 : Int))).bind fun x5 =>
 some (x5.1, x5.2) : Option ((List (List ((Bool) × Int))) × Int)).bind fun s6 =>
 some (s6.1, s6.2)
/-- laws.markCommit -/
noncomputable def laws_markCommit (a0 : List (List ((Bool) × Int))) (a1 : Int) (a2 : Int) (a3 : Int) : Option ((List (List ((Bool) × Int))) × Int) :=
 (laws_markShardS a0 a3).bind fun r0 =>
 some (r0.1, r0.2)
/-- laws.heldReplicaS -/
noncomputable def laws_heldReplicaS (a0 : List ((Bool) × Int)) (a1 : Int) : Option (Int) :=
 let j0 : Int → Option _ := fun s1 =>
 (some s1)
 (loopM (σ := Int × Int) (X := (Int) ⊕ (Int)) (fun s2 =>
 (if (decide (s2.2 < ((a0.length : Nat) : Int))) then
 (let j3 : Unit → Option _ := fun s4 =>
 (some (.inl ((i64 ((i64 (s2.1 + (1 : Int))) + (1 : Int))), (i64 (s2.2 + (1 : Int))))))
 chk ((decide ((0 : Int) ≤ s2.2)) && (decide (s2.2 < ((a0.length : Nat) : Int)))) <|
 if ((a0.getD (Int.toNat s2.2) (false, 0)).1 != (decide ((Int.tmod s2.1 (3 : Int)) = (0 : Int)))) then
 (some (.inr (.inr (-1 : Int))))
 else
 chk ((decide ((0 : Int) ≤ s2.2)) && (decide (s2.2 < ((a0.length : Nat) : Int)))) <|
 if (!decide ((a0.getD (Int.toNat s2.2) (false, 0)).2 = (i64 (s2.1 + (1 : Int))))) then
 (some (.inr (.inr (-1 : Int))))
 else
 j3 ())
 else
 some (.inr (.inl s2.1)))) (a1, (0 : Int))).bind fun x5 =>
 sumE x5 (fun y6 =>
 j0 y6) (fun z7 =>
 some z7)
/-- laws.heldShardS -/
noncomputable def laws_heldShardS (a0 : List (List ((Bool) × Int))) (a1 : Int) : Option (Int) :=
 let j0 : Int → Option _ := fun s1 =>
 (some s1)
 (loopM (σ := Int × Int) (X := (Int) ⊕ (Int)) (fun s2 =>
 (if (decide (s2.2 < ((a0.length : Nat) : Int))) then
 (let j3 : Int → Option _ := fun s4 =>
 (some (.inl (s4, (i64 (s2.2 + (1 : Int))))))
 chk ((decide ((0 : Int) ≤ s2.2)) && (decide (s2.2 < ((a0.length : Nat) : Int)))) <|
 chk true <|
 (laws_heldReplicaS (a0.getD (Int.toNat s2.2) []) s2.1).bind fun r5 =>
 if (decide (r5 < (0 : Int))) then
 (some (.inr (.inr (-1 : Int))))
 else
 j3 r5)
 else
 some (.inr (.inl s2.1)))) (a1, (0 : Int))).bind fun x6 =>
 sumE x6 (fun y7 =>
 j0 y7) (fun z8 =>
 some z8)
/-- laws.heldCommit -/
noncomputable def laws_heldCommit (a0 : List (List ((Bool) × Int))) (a1 : Int) (a2 : Int) (a3 : Int) : Option (Int) :=
 (laws_heldShardS a0 a3).bind fun r0 =>
 if (decide (r0 < (0 : Int))) then
 (some (-1 : Int))
 else
 some r0
/-- laws.FnExactStepCommit -/
noncomputable def laws_FnExactStepCommit (a0 : List (List ((Bool) × Int))) (a1 : Int) (a2 : Int) (a3 : Int) (a4 : Int) (a5 : Int) : Option (Bool) :=
 (laws_szCommit a0 a1 a2 (1048576 : Int)).bind fun r0 =>
 if (decide (r0 < (0 : Int))) then
 (some true)
 else
 (laws_toCommit a0 a1 a2).bind fun r1 =>
 (laws_toCommitStep a3 a4 a5).bind fun r2 =>
 (spec_StepCommit r1.1 r1.2.1 r1.2.2 r2.1 r2.2.1 r2.2.2).bind fun r3 =>
 (laws_toCommit a0 a1 a2).bind fun r4 =>
 (laws_toCommitStep a3 a4 a5).bind fun r5 =>
 (impl_StepCommit r4.1 r4.2.1 r4.2.2 r5.1 r5.2.1 r5.2.2).bind fun r6 =>
 (laws_eqCommit r6.1 r6.2.1 r6.2.2.1 r3.1 r3.2.1 r3.2.2.1).bind fun r7 =>
 let v8 : Bool := (if (!r7) then true else (r6.2.2.2 != r3.2.2.2))
 if v8 then
 (some false)
 else
 (laws_toCommit a0 a1 a2).bind fun r9 =>
 (laws_eqCommit r4.1 r4.2.1 r4.2.2 r9.1 r9.2.1 r9.2.2).bind fun r10 =>
 if (!r10) then
 (some false)
 else
 (laws_markCommit r4.1 r4.2.1 r4.2.2 (1 : Int)).bind fun r11 =>
 (if (!(decide (r11.2 < (0 : Int)))) then laws_eqCommit r6.1 r6.2.1 r6.2.2.1 r3.1 r3.2.1 r3.2.2.1 else some false).bind fun r12 =>
 let v13 : Bool := (if (decide (r11.2 < (0 : Int))) then true else (!r12))
 let v14 : Bool := (if v13 then true else (r6.2.2.2 != r3.2.2.2))
 if v14 then
 (some false)
 else
 (laws_markCommit r6.1 r6.2.1 r6.2.2.1 (1 : Int)).bind fun r15 =>
 (laws_heldCommit r15.1 r6.2.1 r6.2.2.1 (1 : Int)).bind fun r16 =>
 if (decide (r16 < (0 : Int))) then
 (some false)
 else
 if (!decide (r16 = r15.2)) then
 (some false)
 else
 (laws_toCommit a0 a1 a2).bind fun r17 =>
 (laws_toCommitStep a3 a4 a5).bind fun r18 =>
 (impl_StepCommit r17.1 r17.2.1 r17.2.2 r18.1 r18.2.1 r18.2.2).bind fun r19 =>
 (laws_eqCommit r19.1 r19.2.1 r19.2.2.1 r3.1 r3.2.1 r3.2.2.1).bind fun r20 =>
 let v21 : Bool := (if (!r20) then true else (r19.2.2.2 != r3.2.2.2))
 if v21 then
 (some false)
 else
 (laws_heldCommit r15.1 r6.2.1 r6.2.2.1 (1 : Int)).bind fun r22 =>
 if (decide (r22 < (0 : Int))) then
 (some false)
 else
 if (!decide (r22 = r15.2)) then
 (some false)
 else
 some true
/-- laws.szCommitStepS -/
noncomputable def laws_szCommitStepS (a0 : List ((Int) × (Int) × Int)) (a1 : Int) : Option (Int) :=
 if (decide ((i64 (a1 - ((a0.length : Nat) : Int))) < (0 : Int))) then
 (some (-1 : Int))
 else
 some (i64 (a1 - ((a0.length : Nat) : Int)))
/-- laws.toCommitStepS -/
noncomputable def laws_toCommitStepS (a0 : List ((Int) × (Int) × Int)) : Option (List ((Int) × (Int) × Int)) :=
 chk ((decide ((0 : Int) ≤ ((a0.length : Nat) : Int))) && (decide (((a0.length : Nat) : Int) ≤ (5864062014805 : Int)))) <|
 let v0 : List ((Int) × (Int) × Int) := (List.replicate (Int.toNat ((a0.length : Nat) : Int)) ((0 : Int), ((0 : Int), (0 : Int))))
 ((loopM (σ := (List ((Int) × (Int) × Int)) × Int) (X := List ((Int) × (Int) × Int)) (fun s1 =>
 (if (decide (s1.2 < ((a0.length : Nat) : Int))) then
 ((chk ((decide ((0 : Int) ≤ s1.2)) && (decide (s1.2 < ((a0.length : Nat) : Int)))) <|
 let v2 : (Int) × (Int) × Int := (a0.getD (Int.toNat s1.2) (0, (0, 0)))
 (laws_toCommitStep v2.1 v2.2.1 v2.2.2).bind fun r3 =>
 chk ((decide ((0 : Int) ≤ s1.2)) && (decide (s1.2 < ((s1.1.length : Nat) : Int)))) <|
 let v4 : List ((Int) × (Int) × Int) := (s1.1.set (Int.toNat s1.2) (r3.1, (r3.2.1, r3.2.2)))
 some v4 : Option (List ((Int) × (Int) × Int))).bind fun s5 =>
 some (.inl (s5, (i64 (s1.2 + (1 : Int))))))
 else
 some (.inr s1.1))) (v0, (0 : Int))).bind fun x6 =>
 some x6 : Option (List ((Int) × (Int) × Int))).bind fun s7 =>
 some s7
/-- laws.eqBoolS -/
noncomputable def laws_eqBoolS (a0 : List (Bool)) (a1 : List (Bool)) : Option (Bool) :=
 if (!decide (((a0.length : Nat) : Int) = ((a1.length : Nat) : Int))) then
 (some false)
 else
 let j0 : Unit → Option _ := fun s1 =>
 (some true)
 (loopM (σ := Int) (X := (Unit) ⊕ (Bool)) (fun s2 =>
 (if (decide (s2 < ((a0.length : Nat) : Int))) then
 (let j3 : Unit → Option _ := fun s4 =>
 (some (.inl (i64 (s2 + (1 : Int)))))
 chk ((decide ((0 : Int) ≤ s2)) && (decide (s2 < ((a0.length : Nat) : Int)))) <|
 chk ((decide ((0 : Int) ≤ s2)) && (decide (s2 < ((a1.length : Nat) : Int)))) <|
 if ((a0.getD (Int.toNat s2) false) != (a1.getD (Int.toNat s2) false)) then
 (some (.inr (.inr false)))
 else
 j3 ())
 else
 some (.inr (.inl ())))) (0 : Int)).bind fun x5 =>
 sumE x5 (fun y6 =>
 j0 ()) (fun z7 =>
 some z7)
/-- laws.eqCommitStep -/
noncomputable def laws_eqCommitStep (a0 : Int) (a1 : Int) (a2 : Int) (a3 : Int) (a4 : Int) (a5 : Int) : Option (Bool) :=
 if (!decide (a0 = a3)) then
 (some false)
 else
 if (!decide (a1 = a4)) then
 (some false)
 else
 if (!decide (a2 = a5)) then
 (some false)
 else
 some true
/-- laws.eqCommitStepS -/
noncomputable def laws_eqCommitStepS (a0 : List ((Int) × (Int) × Int)) (a1 : List ((Int) × (Int) × Int)) : Option (Bool) :=
 if (!decide (((a0.length : Nat) : Int) = ((a1.length : Nat) : Int))) then
 (some false)
 else
 let j0 : Unit → Option _ := fun s1 =>
 (some true)
 (loopM (σ := Int) (X := (Unit) ⊕ (Bool)) (fun s2 =>
 (if (decide (s2 < ((a0.length : Nat) : Int))) then
 (let j3 : Unit → Option _ := fun s4 =>
 (some (.inl (i64 (s2 + (1 : Int)))))
 chk ((decide ((0 : Int) ≤ s2)) && (decide (s2 < ((a0.length : Nat) : Int)))) <|
 let v5 : (Int) × (Int) × Int := (a0.getD (Int.toNat s2) (0, (0, 0)))
 chk ((decide ((0 : Int) ≤ s2)) && (decide (s2 < ((a1.length : Nat) : Int)))) <|
 let v6 : (Int) × (Int) × Int := (a1.getD (Int.toNat s2) (0, (0, 0)))
 (laws_eqCommitStep v5.1 v5.2.1 v5.2.2 v6.1 v6.2.1 v6.2.2).bind fun r7 =>
 if (!r7) then
 (some (.inr (.inr false)))
 else
 j3 ())
 else
 some (.inr (.inl ())))) (0 : Int)).bind fun x8 =>
 sumE x8 (fun y9 =>
 j0 ()) (fun z10 =>
 some z10)
/-- laws.markCommitStepS -/
noncomputable def laws_markCommitStepS (a0 : List ((Int) × (Int) × Int)) (a1 : Int) : Option ((List ((Int) × (Int) × Int)) × Int) :=
 ((loopM (σ := (List ((Int) × (Int) × Int)) × Int × Int) (X := (List ((Int) × (Int) × Int)) × Int) (fun s0 =>
 (if (decide (s0.2.2 < ((s0.1.length : Nat) : Int))) then
 ((chk ((decide ((0 : Int) ≤ s0.2.2)) && (decide (s0.2.2 < ((s0.1.length : Nat) : Int)))) <|
 let v1 : List ((Int) × (Int) × Int) := (s0.1.set (Int.toNat s0.2.2) (s0.2.1, (s0.1.getD (Int.toNat s0.2.2) (0, (0, 0))).2))
 chk ((decide ((0 : Int) ≤ s0.2.2)) && (decide (s0.2.2 < ((v1.length : Nat) : Int)))) <|
 let v2 : List ((Int) × (Int) × Int) := (v1.set (Int.toNat s0.2.2) ((v1.getD (Int.toNat s0.2.2) (0, (0, 0))).1, ((i64 (s0.2.1 + (1 : Int))), (v1.getD (Int.toNat s0.2.2) (0, (0, 0))).2.2)))
 chk ((decide ((0 : Int) ≤ s0.2.2)) && (decide (s0.2.2 < ((v2.length : Nat) : Int)))) <|
 let v3 : List ((Int) × (Int) × Int) := (v2.set (Int.toNat s0.2.2) ((v2.getD (Int.toNat s0.2.2) (0, (0, 0))).1, ((v2.getD (Int.toNat s0.2.2) (0, (0, 0))).2.1, (i64 ((i64 (s0.2.1 + (1 : Int))) + (1 : Int))))))
 some v3 : Option (List ((Int) × (Int) × Int))).bind fun s4 =>
 some (.inl (s4, (i64 ((i64 ((i64 (s0.2.1 + (1 : Int))) + (1 : Int))) + (1 : Int))), (i64 (s0.2.2 + (1 : Int))))))
 else
 some (.inr (s0.1, s0.2.1)))) (a0, a1, (0 : Int))).bind fun x5 =>
 some (x5.1, x5.2) : Option ((List ((Int) × (Int) × Int)) × Int)).bind fun s6 =>
 some (s6.1, s6.2)
/-- laws.markBoolS -/
noncomputable def laws_markBoolS (a0 : List (Bool)) (a1 : Int) : Option ((List (Bool)) × Int) :=
 ((loopM (σ := (List (Bool)) × Int × Int) (X := (List (Bool)) × Int) (fun s0 =>
 (if (decide (s0.2.2 < ((s0.1.length : Nat) : Int))) then
 ((chk ((decide ((0 : Int) ≤ s0.2.2)) && (decide (s0.2.2 < ((s0.1.length : Nat) : Int)))) <|
 let v1 : List (Bool) := (s0.1.set (Int.toNat s0.2.2) (decide ((Int.tmod s0.2.1 (3 : Int)) = (0 : Int))))
 some v1 : Option (List (Bool))).bind fun s2 =>
 some (.inl (s2, (i64 (s0.2.1 + (1 : Int))), (i64 (s0.2.2 + (1 : Int))))))
 else
 some (.inr (s0.1, s0.2.1)))) (a0, a1, (0 : Int))).bind fun x3 =>
 some (x3.1, x3.2) : Option ((List (Bool)) × Int)).bind fun s4 =>
 some (s4.1, s4.2)
/-- laws.heldBoolS -/
noncomputable def laws_heldBoolS (a0 : List (Bool)) (a1 : Int) : Option (Int) :=
 let j0 : Int → Option _ := fun s1 =>
 (some s1)
 (loopM (σ := Int × Int) (X := (Int) ⊕ (Int)) (fun s2 =>
 (if (decide (s2.2 < ((a0.length : Nat) : Int))) then
 (let j3 : Unit → Option _ := fun s4 =>
 (some (.inl ((i64 (s2.1 + (1 : Int))), (i64 (s2.2 + (1 : Int))))))
 chk ((decide ((0 : Int) ≤ s2.2)) && (decide (s2.2 < ((a0.length : Nat) : Int)))) <|
 if ((a0.getD (Int.toNat s2.2) false) != (decide ((Int.tmod s2.1 (3 : Int)) = (0 : Int)))) then
 (some (.inr (.inr (-1 : Int))))
 else
 j3 ())
 else
 some (.inr (.inl s2.1)))) (a1, (0 : Int))).bind fun x5 =>
 sumE x5 (fun y6 =>
 j0 y6) (fun z7 =>
 some z7)
/-- laws.FnExactPlayCommit -/
noncomputable def laws_FnExactPlayCommit (a0 : List (Int)) (a1 : List ((Int) × (Int) × Int)) : Option (Bool) :=
 if (decide ((1048576 : Int) < ((a0.length : Nat) : Int))) then
 (some true)
 else
 (laws_szCommitStepS a1 (1048576 : Int)).bind fun r0 =>
 if (decide (r0 < (0 : Int))) then
 (some true)
 else
 (laws_toIntS a0).bind fun r1 =>
 (laws_toCommitStepS a1).bind fun r2 =>
 (spec_PlayCommit r1 r2).bind fun r3 =>
 (laws_toIntS a0).bind fun r4 =>
 (laws_toCommitStepS a1).bind fun r5 =>
 (impl_PlayCommit r4 r5).bind fun r6 =>
 (laws_eqCommit r6.1 r6.2.1 r6.2.2.1 r3.1 r3.2.1 r3.2.2.1).bind fun r7 =>
 (if (!(!r7)) then laws_eqBoolS r6.2.2.2.1 r3.2.2.2.1 else some false).bind fun r8 =>
 let v9 : Bool := (if (!r7) then true else (!r8))
 let v10 : Bool := (if v9 then true else (r6.2.2.2.2 != r3.2.2.2.2))
 if v10 then
 (some false)
 else
 (laws_toIntS a0).bind fun r11 =>
 (laws_eqIntS r4 r11).bind fun r12 =>
 if (!r12) then
 (some false)
 else
 (laws_toCommitStepS a1).bind fun r13 =>
 (laws_eqCommitStepS r5 r13).bind fun r14 =>
 if (!r14) then
 (some false)
 else
 (laws_markIntS r4 (1 : Int)).bind fun r15 =>
 (laws_markCommitStepS r5 r15.2).bind fun r16 =>
 (if (!(decide (r16.2 < (0 : Int)))) then laws_eqCommit r6.1 r6.2.1 r6.2.2.1 r3.1 r3.2.1 r3.2.2.1 else some false).bind fun r17 =>
 let v18 : Bool := (if (decide (r16.2 < (0 : Int))) then true else (!r17))
 (if (!v18) then laws_eqBoolS r6.2.2.2.1 r3.2.2.2.1 else some false).bind fun r19 =>
 let v20 : Bool := (if v18 then true else (!r19))
 let v21 : Bool := (if v20 then true else (r6.2.2.2.2 != r3.2.2.2.2))
 if v21 then
 (some false)
 else
 (laws_markCommit r6.1 r6.2.1 r6.2.2.1 (1 : Int)).bind fun r22 =>
 (laws_markBoolS r6.2.2.2.1 r22.2).bind fun r23 =>
 (laws_heldCommit r22.1 r6.2.1 r6.2.2.1 (1 : Int)).bind fun r24 =>
 if (decide (r24 < (0 : Int))) then
 (some false)
 else
 (laws_heldBoolS r23.1 r24).bind fun r25 =>
 if (decide (r25 < (0 : Int))) then
 (some false)
 else
 if (!decide (r25 = r23.2)) then
 (some false)
 else
 (laws_toIntS a0).bind fun r26 =>
 (laws_toCommitStepS a1).bind fun r27 =>
 (impl_PlayCommit r26 r27).bind fun r28 =>
 (laws_eqCommit r28.1 r28.2.1 r28.2.2.1 r3.1 r3.2.1 r3.2.2.1).bind fun r29 =>
 (if (!(!r29)) then laws_eqBoolS r28.2.2.2.1 r3.2.2.2.1 else some false).bind fun r30 =>
 let v31 : Bool := (if (!r29) then true else (!r30))
 let v32 : Bool := (if v31 then true else (r28.2.2.2.2 != r3.2.2.2.2))
 if v32 then
 (some false)
 else
 (laws_heldCommit r22.1 r6.2.1 r6.2.2.1 (1 : Int)).bind fun r33 =>
 if (decide (r33 < (0 : Int))) then
 (some false)
 else
 (laws_heldBoolS r23.1 r33).bind fun r34 =>
 if (decide (r34 < (0 : Int))) then
 (some false)
 else
 if (!decide (r34 = r23.2)) then
 (some false)
 else
 some true
end Sh
