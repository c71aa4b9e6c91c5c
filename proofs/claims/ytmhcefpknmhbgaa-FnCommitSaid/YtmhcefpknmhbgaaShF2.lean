/- Sh: typed functions of Go functions, part 2 (written by a program; each is checked against the seat's code). -/
import Derived.Test.YtmhcefpknmhbgaaShF1
set_option linter.unusedVariables false
namespace Sh
open Go
/-- laws.szIntS -/
noncomputable def laws_szIntS (a0 : List (Int)) (a1 : Int) : Option (Int) :=
 if (decide ((i64 (a1 - ((a0.length : Nat) : Int))) < (0 : Int))) then
 (some (-1 : Int))
 else
 some (i64 (a1 - ((a0.length : Nat) : Int)))
/-- laws.szHome -/
noncomputable def laws_szHome (a0 : Int) (a1 : List (Int)) (a2 : Int) : Option (Int) :=
 (laws_szIntS a1 a2).bind fun r0 =>
 if (decide (r0 < (0 : Int))) then
 (some (-1 : Int))
 else
 some r0
/-- laws.szHomeS -/
noncomputable def laws_szHomeS (a0 : List ((Int) × List (Int))) (a1 : Int) : Option (Int) :=
 if (decide ((i64 (a1 - ((a0.length : Nat) : Int))) < (0 : Int))) then
 (some (-1 : Int))
 else
 let j0 : Int → Option _ := fun s1 =>
 (some s1)
 (loopM (σ := Int × Int) (X := (Int) ⊕ (Int)) (fun s2 =>
 (if (decide (s2.2 < ((a0.length : Nat) : Int))) then
 (let j3 : Int → Option _ := fun s4 =>
 (some (.inl (s4, (i64 (s2.2 + (1 : Int))))))
 chk ((decide ((0 : Int) ≤ s2.2)) && (decide (s2.2 < ((a0.length : Nat) : Int)))) <|
 let v5 : (Int) × List (Int) := (a0.getD (Int.toNat s2.2) (0, []))
 chk true <|
 (laws_szHome v5.1 v5.2 s2.1).bind fun r6 =>
 if (decide (r6 < (0 : Int))) then
 (some (.inr (.inr (-1 : Int))))
 else
 j3 r6)
 else
 some (.inr (.inl s2.1)))) ((i64 (a1 - ((a0.length : Nat) : Int))), (0 : Int))).bind fun x7 =>
 sumE x7 (fun y8 =>
 j0 y8) (fun z9 =>
 some z9)
/-- laws.szConfig -/
noncomputable def laws_szConfig (a0 : Int) (a1 : List (Int)) (a2 : List ((Int) × List (Int))) (a3 : Int) : Option (Int) :=
 (laws_szIntS a1 a3).bind fun r0 =>
 if (decide (r0 < (0 : Int))) then
 (some (-1 : Int))
 else
 (laws_szHomeS a2 r0).bind fun r1 =>
 if (decide (r1 < (0 : Int))) then
 (some (-1 : Int))
 else
 some r1
/-- laws.toIntS -/
noncomputable def laws_toIntS (a0 : List (Int)) : Option (List (Int)) :=
 chk ((decide ((0 : Int) ≤ ((a0.length : Nat) : Int))) && (decide (((a0.length : Nat) : Int) ≤ (17592186044416 : Int)))) <|
 let v0 : List (Int) := (List.replicate (Int.toNat ((a0.length : Nat) : Int)) (0 : Int))
 ((loopM (σ := (List (Int)) × Int) (X := List (Int)) (fun s1 =>
 (if (decide (s1.2 < ((a0.length : Nat) : Int))) then
 ((chk ((decide ((0 : Int) ≤ s1.2)) && (decide (s1.2 < ((a0.length : Nat) : Int)))) <|
 chk ((decide ((0 : Int) ≤ s1.2)) && (decide (s1.2 < ((s1.1.length : Nat) : Int)))) <|
 let v2 : List (Int) := (s1.1.set (Int.toNat s1.2) (a0.getD (Int.toNat s1.2) 0))
 some v2 : Option (List (Int))).bind fun s3 =>
 some (.inl (s3, (i64 (s1.2 + (1 : Int))))))
 else
 some (.inr s1.1))) (v0, (0 : Int))).bind fun x4 =>
 some x4 : Option (List (Int))).bind fun s5 =>
 some s5
/-- laws.toHome -/
noncomputable def laws_toHome (a0 : Int) (a1 : List (Int)) : Option (Int × List (Int)) :=
 (laws_toIntS a1).bind fun r0 =>
 some (a0, r0)
/-- laws.toHomeS -/
noncomputable def laws_toHomeS (a0 : List ((Int) × List (Int))) : Option (List ((Int) × List (Int))) :=
 chk ((decide ((0 : Int) ≤ ((a0.length : Nat) : Int))) && (decide (((a0.length : Nat) : Int) ≤ (4398046511104 : Int)))) <|
 let v0 : List ((Int) × List (Int)) := (List.replicate (Int.toNat ((a0.length : Nat) : Int)) ((0 : Int), ([] : List (Int))))
 ((loopM (σ := (List ((Int) × List (Int))) × Int) (X := List ((Int) × List (Int))) (fun s1 =>
 (if (decide (s1.2 < ((a0.length : Nat) : Int))) then
 ((chk ((decide ((0 : Int) ≤ s1.2)) && (decide (s1.2 < ((a0.length : Nat) : Int)))) <|
 let v2 : (Int) × List (Int) := (a0.getD (Int.toNat s1.2) (0, []))
 chk true <|
 (laws_toHome v2.1 v2.2).bind fun r3 =>
 chk ((decide ((0 : Int) ≤ s1.2)) && (decide (s1.2 < ((s1.1.length : Nat) : Int)))) <|
 let v4 : List ((Int) × List (Int)) := (s1.1.set (Int.toNat s1.2) (r3.1, r3.2))
 some v4 : Option (List ((Int) × List (Int)))).bind fun s5 =>
 some (.inl (s5, (i64 (s1.2 + (1 : Int))))))
 else
 some (.inr s1.1))) (v0, (0 : Int))).bind fun x6 =>
 some x6 : Option (List ((Int) × List (Int)))).bind fun s7 =>
 some s7
/-- laws.toConfig -/
noncomputable def laws_toConfig (a0 : Int) (a1 : List (Int)) (a2 : List ((Int) × List (Int))) : Option (Int × (List (Int)) × List ((Int) × List (Int))) :=
 (laws_toIntS a1).bind fun r0 =>
 (laws_toHomeS a2).bind fun r1 =>
 some (a0, r0, r1)
/-- spec.l16Node -/
noncomputable def spec_l16Node (a0 : Int) : Option (Bool) :=
 (spec_l1In a0 (0 : Int) (11 : Int)).bind fun r0 =>
 some r0
/-- spec.l16Rising -/
noncomputable def spec_l16Rising (a0 : List (Int)) (a1 : Int) : Option (Bool) :=
 let j0 : Unit → Option _ := fun s1 =>
 (some (decide (((a0.length : Nat) : Int) ≤ a1)))
 (loopM (σ := Int) (X := (Unit) ⊕ (Bool)) (fun s2 =>
 (if (decide (s2 < ((a0.length : Nat) : Int))) then
 (let j3 : Unit → Option _ := fun s4 =>
 (some (.inl (i64 (s2 + (1 : Int)))))
 chk ((decide ((0 : Int) ≤ s2)) && (decide (s2 < ((a0.length : Nat) : Int)))) <|
 (spec_l16Node (a0.getD (Int.toNat s2) 0)).bind fun r5 =>
 chk (!((!(!r5)) && (decide ((0 : Int) < s2))) || ((decide ((0 : Int) ≤ (i64 (s2 - (1 : Int))))) && (decide ((i64 (s2 - (1 : Int))) < ((a0.length : Nat) : Int))))) <|
 let v6 : Bool := (if (decide ((0 : Int) < s2)) then (decide ((a0.getD (Int.toNat s2) 0) ≤ (a0.getD (Int.toNat (i64 (s2 - (1 : Int)))) 0))) else false)
 let v7 : Bool := (if (!r5) then true else v6)
 if v7 then
 (some (.inr (.inr false)))
 else
 j3 ())
 else
 some (.inr (.inl ())))) (0 : Int)).bind fun x8 =>
 sumE x8 (fun y9 =>
 j0 ()) (fun z10 =>
 some z10)
/-- spec.l1Has -/
noncomputable def spec_l1Has (a0 : List (Int)) (a1 : Int) : Option (Bool) :=
 let j0 : Unit → Option _ := fun s1 =>
 (some false)
 (loopM (σ := Int) (X := (Unit) ⊕ (Bool)) (fun s2 =>
 (if (decide (s2 < ((a0.length : Nat) : Int))) then
 (let j3 : Unit → Option _ := fun s4 =>
 (some (.inl (i64 (s2 + (1 : Int)))))
 chk ((decide ((0 : Int) ≤ s2)) && (decide (s2 < ((a0.length : Nat) : Int)))) <|
 if (decide ((a0.getD (Int.toNat s2) 0) = a1)) then
 (some (.inr (.inr true)))
 else
 j3 ())
 else
 some (.inr (.inl ())))) (0 : Int)).bind fun x5 =>
 sumE x5 (fun y6 =>
 j0 ()) (fun z7 =>
 some z7)
/-- spec.GoodConfig -/
noncomputable def spec_GoodConfig (a0 : Int) (a1 : List (Int)) (a2 : List ((Int) × List (Int))) : Option (Bool) :=
 (spec_l1In a0 (1 : Int) (1000000 : Int)).bind fun r0 =>
 (if (!(!r0)) then spec_l16Rising a1 (12 : Int) else some false).bind fun r1 =>
 let v2 : Bool := (if (!r0) then true else (!r1))
 (if (!v2) then spec_l1In ((a2.length : Nat) : Int) (1 : Int) (8 : Int) else some false).bind fun r3 =>
 let v4 : Bool := (if v2 then true else (!r3))
 if v4 then
 (some false)
 else
 let j5 : Unit → Option _ := fun s6 =>
 (some true)
 (loopM (σ := Int) (X := (Unit) ⊕ (Bool)) (fun s7 =>
 (if (decide (s7 < ((a2.length : Nat) : Int))) then
 (let j8 : Unit → Option _ := fun s9 =>
 (some (.inl (i64 (s7 + (1 : Int)))))
 chk ((decide ((0 : Int) ≤ s7)) && (decide (s7 < ((a2.length : Nat) : Int)))) <|
 let v10 : (Int) × List (Int) := (a2.getD (Int.toNat s7) (0, []))
 chk true <|
 (spec_l1In v10.1 (-1 : Int) (11 : Int)).bind fun r11 =>
 (if (!(!r11)) then spec_l16Rising v10.2 (11 : Int) else some false).bind fun r12 =>
 let v13 : Bool := (if (!r11) then true else (!r12))
 (if (!v13) then spec_l1Has v10.2 v10.1 else some false).bind fun r14 =>
 let v15 : Bool := (if v13 then true else r14)
 (if (!v15) then spec_l1Has a1 v10.1 else some false).bind fun r16 =>
 let v17 : Bool := (if v15 then true else r16)
 let v18 : Bool := (if (decide (v10.1 = (-1 : Int))) then (decide ((0 : Int) < ((v10.2.length : Nat) : Int))) else false)
 let v19 : Bool := (if v17 then true else v18)
 if v19 then
 (some (.inr (.inr false)))
 else
 let j20 : Unit → Option _ := fun s21 =>
 (j8 ())
 (loopM (σ := (List (Int)) × Int) (X := (Unit) ⊕ (Bool)) (fun s22 =>
 (if (decide (s22.2 < ((v10.2.length : Nat) : Int))) then
 (let j23 : Unit → Option _ := fun s24 =>
 (some (.inl (s22.1, (i64 (s22.2 + (1 : Int))))))
 chk ((decide ((0 : Int) ≤ s22.2)) && (decide (s22.2 < ((s22.1.length : Nat) : Int)))) <|
 (spec_l1Has a1 (s22.1.getD (Int.toNat s22.2) 0)).bind fun r25 =>
 if r25 then
 (some (.inr (.inr false)))
 else
 j23 ())
 else
 some (.inr (.inl ())))) (v10.2, (0 : Int))).bind fun x26 =>
 sumE x26 (fun y27 =>
 j20 ()) (fun z28 =>
 some (.inr (.inr z28))))
 else
 some (.inr (.inl ())))) (0 : Int)).bind fun x29 =>
 sumE x29 (fun y30 =>
 j5 ()) (fun z31 =>
 some z31)
/-- spec.l16Load -/
noncomputable def spec_l16Load (a0 : Int) (a1 : List (Int)) (a2 : List ((Int) × List (Int))) (a3 : Int) : Option (Int) :=
 ((loopM (σ := Int × Int) (X := Int) (fun s0 =>
 (if (decide (s0.2 < ((a2.length : Nat) : Int))) then
 ((chk ((decide ((0 : Int) ≤ s0.2)) && (decide (s0.2 < ((a2.length : Nat) : Int)))) <|
 let v1 : (Int) × List (Int) := (a2.getD (Int.toNat s0.2) (0, []))
 chk true <|
 (if (decide (v1.1 = a3)) then
 (some (i64 (s0.1 + (1 : Int))) : Option (Int))
 else
 (some s0.1)).bind fun s2 =>
 some s2 : Option (Int)).bind fun s3 =>
 some (.inl (s3, (i64 (s0.2 + (1 : Int))))))
 else
 some (.inr s0.1))) ((0 : Int), (0 : Int))).bind fun x4 =>
 some x4 : Option (Int)).bind fun s5 =>
 some s5
/-- spec.LoadOf -/
noncomputable def spec_LoadOf (a0 : Int) (a1 : List (Int)) (a2 : List ((Int) × List (Int))) : Option ((List (Int)) × Bool) :=
 (spec_GoodConfig a0 a1 a2).bind fun r0 =>
 if (!r0) then
 (some (([] : List (Int)), false))
 else
 chk ((decide ((0 : Int) ≤ (12 : Int))) && (decide ((12 : Int) ≤ (17592186044416 : Int)))) <|
 let v1 : List (Int) := (List.replicate (Int.toNat (12 : Int)) (0 : Int))
 ((loopM (σ := (List (Int)) × Int) (X := List (Int)) (fun s2 =>
 (if (decide (s2.2 < ((v1.length : Nat) : Int))) then
 (((spec_l16Load a0 a1 a2 s2.2).bind fun r3 =>
 chk ((decide ((0 : Int) ≤ s2.2)) && (decide (s2.2 < ((s2.1.length : Nat) : Int)))) <|
 let v4 : List (Int) := (s2.1.set (Int.toNat s2.2) r3)
 some v4 : Option (List (Int))).bind fun s5 =>
 some (.inl (s5, (i64 (s2.2 + (1 : Int))))))
 else
 some (.inr s2.1))) (v1, (0 : Int))).bind fun x6 =>
 some x6 : Option (List (Int))).bind fun s7 =>
 some (s7, true)
/-- impl.areRising -/
noncomputable def impl_areRising (a0 : List (Int)) (a1 : Int) : Option (Bool) :=
 let j0 : Unit → Option _ := fun s1 =>
 (some true)
 (loopM (σ := Int) (X := (Unit) ⊕ (Bool)) (fun s2 =>
 (if (decide (s2 < ((a0.length : Nat) : Int))) then
 (let j3 : Unit → Option _ := fun s4 =>
 (some (.inl (i64 (s2 + (1 : Int)))))
 chk ((decide ((0 : Int) ≤ s2)) && (decide (s2 < ((a0.length : Nat) : Int)))) <|
 (impl_in (a0.getD (Int.toNat s2) 0) (0 : Int) (i64 (a1 - (1 : Int)))).bind fun r5 =>
 chk (!((!(!r5)) && (decide ((0 : Int) < s2))) || ((decide ((0 : Int) ≤ (i64 (s2 - (1 : Int))))) && (decide ((i64 (s2 - (1 : Int))) < ((a0.length : Nat) : Int))))) <|
 let v6 : Bool := (if (decide ((0 : Int) < s2)) then (decide ((a0.getD (Int.toNat s2) 0) ≤ (a0.getD (Int.toNat (i64 (s2 - (1 : Int)))) 0))) else false)
 let v7 : Bool := (if (!r5) then true else v6)
 if v7 then
 (some (.inr (.inr false)))
 else
 j3 ())
 else
 some (.inr (.inl ())))) (0 : Int)).bind fun x8 =>
 sumE x8 (fun y9 =>
 j0 ()) (fun z10 =>
 some z10)
/-- slices.Index[[]int,int] -/
noncomputable def slices_Index__int_int (a0 : List (Int)) (a1 : Int) : Option (Int) :=
 let j0 : Unit → Option _ := fun s1 =>
 (some (-1 : Int))
 (loopM (σ := Int) (X := (Unit) ⊕ (Int)) (fun s2 =>
 (if (decide (s2 < ((a0.length : Nat) : Int))) then
 (let j3 : Unit → Option _ := fun s4 =>
 (some (.inl (i64 (s2 + (1 : Int)))))
 chk ((decide ((0 : Int) ≤ s2)) && (decide (s2 < ((a0.length : Nat) : Int)))) <|
 if (decide (a1 = (a0.getD (Int.toNat s2) 0))) then
 (some (.inr (.inr s2)))
 else
 j3 ())
 else
 some (.inr (.inl ())))) (0 : Int)).bind fun x5 =>
 sumE x5 (fun y6 =>
 j0 ()) (fun z7 =>
 some z7)
/-- slices.Contains[[]int,int] -/
noncomputable def slices_Contains__int_int (a0 : List (Int)) (a1 : Int) : Option (Bool) :=
 (slices_Index__int_int a0 a1).bind fun r0 =>
 some (decide ((0 : Int) ≤ r0))
/-- impl.isConfig$1$1 -/
noncomputable def impl_isConfig_1_1 (a0 : Int) (a1 : Int) (a2 : List (Int)) (a3 : List ((Int) × List (Int))) : Option (Bool) :=
 (slices_Contains__int_int a2 a0).bind fun r0 =>
 some r0
/-- slices.IndexFunc[[]int,int] -/
noncomputable def slices_IndexFunc__int_int (a0 : List (Int)) (a1 : Int) (a2 : List (Int)) (a3 : List ((Int) × List (Int))) : Option (Int) :=
 let j0 : Unit → Option _ := fun s1 =>
 (some (-1 : Int))
 (loopM (σ := Int) (X := (Unit) ⊕ (Int)) (fun s2 =>
 (if (decide (s2 < ((a0.length : Nat) : Int))) then
 (let j3 : Unit → Option _ := fun s4 =>
 (some (.inl (i64 (s2 + (1 : Int)))))
 chk ((decide ((0 : Int) ≤ s2)) && (decide (s2 < ((a0.length : Nat) : Int)))) <|
 (impl_isConfig_1_1 (a0.getD (Int.toNat s2) 0) a1 a2 a3).bind fun r5 =>
 if r5 then
 (some (.inr (.inr s2)))
 else
 j3 ())
 else
 some (.inr (.inl ())))) (0 : Int)).bind fun x6 =>
 sumE x6 (fun y7 =>
 j0 ()) (fun z8 =>
 some z8)
/-- slices.ContainsFunc[[]int,int] -/
noncomputable def slices_ContainsFunc__int_int (a0 : List (Int)) (a1 : Int) (a2 : List (Int)) (a3 : List ((Int) × List (Int))) : Option (Bool) :=
 (slices_IndexFunc__int_int a0 a1 a2 a3).bind fun r0 =>
 some (decide ((0 : Int) ≤ r0))
/-- impl.isConfig$1 -/
noncomputable def impl_isConfig_1 (a0 : Int) (a1 : List (Int)) (a2 : Int) (a3 : List (Int)) (a4 : List ((Int) × List (Int))) : Option (Bool) :=
 (slices_ContainsFunc__int_int a1 a2 a3 a4).bind fun r0 =>
 (impl_in a0 (-1 : Int) (11 : Int)).bind fun r1 =>
 (if (!(!r1)) then slices_Contains__int_int a3 a0 else some false).bind fun r2 =>
 let v3 : Bool := (if (!r1) then true else r2)
 let v4 : Bool := (if v3 then true else r0)
 let v5 : Bool := (if v4 then true else (decide ((11 : Int) < ((a1.length : Nat) : Int))))
 (if (!v5) then impl_areRising a1 (12 : Int) else some false).bind fun r6 =>
 let v7 : Bool := (if v5 then true else (!r6))
 (if (!v7) then slices_Contains__int_int a1 a0 else some false).bind fun r8 =>
 let v9 : Bool := (if v7 then true else r8)
 let v10 : Bool := (if (decide (a0 < (0 : Int))) then (decide ((0 : Int) < ((a1.length : Nat) : Int))) else false)
 let v11 : Bool := (if v9 then true else v10)
 some v11
/-- slices.IndexFunc[[]impl.Home,impl.Home] -/
noncomputable def slices_IndexFunc__impl_Home_impl_Home (a0 : List ((Int) × List (Int))) (a1 : Int) (a2 : List (Int)) (a3 : List ((Int) × List (Int))) : Option (Int) :=
 let j0 : Unit → Option _ := fun s1 =>
 (some (-1 : Int))
 (loopM (σ := Int) (X := (Unit) ⊕ (Int)) (fun s2 =>
 (if (decide (s2 < ((a0.length : Nat) : Int))) then
 (let j3 : Unit → Option _ := fun s4 =>
 (some (.inl (i64 (s2 + (1 : Int)))))
 chk ((decide ((0 : Int) ≤ s2)) && (decide (s2 < ((a0.length : Nat) : Int)))) <|
 let v5 : (Int) × List (Int) := (a0.getD (Int.toNat s2) (0, []))
 chk true <|
 (impl_isConfig_1 v5.1 v5.2 a1 a2 a3).bind fun r6 =>
 if r6 then
 (some (.inr (.inr s2)))
 else
 j3 ())
 else
 some (.inr (.inl ())))) (0 : Int)).bind fun x7 =>
 sumE x7 (fun y8 =>
 j0 ()) (fun z9 =>
 some z9)
/-- slices.ContainsFunc[[]impl.Home,impl.Home] -/
noncomputable def slices_ContainsFunc__impl_Home_impl_Home (a0 : List ((Int) × List (Int))) (a1 : Int) (a2 : List (Int)) (a3 : List ((Int) × List (Int))) : Option (Bool) :=
 (slices_IndexFunc__impl_Home_impl_Home a0 a1 a2 a3).bind fun r0 =>
 some (decide ((0 : Int) ≤ r0))
/-- impl.isConfig -/
noncomputable def impl_isConfig (a0 : Int) (a1 : List (Int)) (a2 : List ((Int) × List (Int))) : Option (Bool) :=
 (impl_in a0 (1 : Int) (1000000 : Int)).bind fun r0 =>
 (if (!(!r0)) then impl_areRising a1 (12 : Int) else some false).bind fun r1 =>
 let v2 : Bool := (if (!r0) then true else (!r1))
 (if (!v2) then impl_in ((a2.length : Nat) : Int) (1 : Int) (8 : Int) else some false).bind fun r3 =>
 let v4 : Bool := (if v2 then true else (!r3))
 if v4 then
 (some false)
 else
 (slices_ContainsFunc__impl_Home_impl_Home a2 a0 a1 a2).bind fun r5 =>
 some (!r5)
/-- (impl.Config).load -/
noncomputable def impl_Config_load (a0 : Int) (a1 : List (Int)) (a2 : List ((Int) × List (Int))) (a3 : Int) : Option (Int) :=
 ((loopM (σ := Int × Int) (X := Int) (fun s0 =>
 (if (decide (s0.2 < ((a2.length : Nat) : Int))) then
 ((chk ((decide ((0 : Int) ≤ s0.2)) && (decide (s0.2 < ((a2.length : Nat) : Int)))) <|
 let v1 : (Int) × List (Int) := (a2.getD (Int.toNat s0.2) (0, []))
 chk true <|
 (if (decide (v1.1 = a3)) then
 (some (i64 (s0.1 + (1 : Int))) : Option (Int))
 else
 (some s0.1)).bind fun s2 =>
 some s2 : Option (Int)).bind fun s3 =>
 some (.inl (s3, (i64 (s0.2 + (1 : Int))))))
 else
 some (.inr s0.1))) ((0 : Int), (0 : Int))).bind fun x4 =>
 some x4 : Option (Int)).bind fun s5 =>
 some s5
/-- impl.LoadOf -/
noncomputable def impl_LoadOf (a0 : Int) (a1 : List (Int)) (a2 : List ((Int) × List (Int))) : Option ((List (Int)) × Bool) :=
 (impl_isConfig a0 a1 a2).bind fun r0 =>
 if (!r0) then
 (some (([] : List (Int)), false))
 else
 chk ((decide ((0 : Int) ≤ (12 : Int))) && (decide ((12 : Int) ≤ (17592186044416 : Int)))) <|
 let v1 : List (Int) := (List.replicate (Int.toNat (12 : Int)) (0 : Int))
 ((loopM (σ := (List (Int)) × Int) (X := List (Int)) (fun s2 =>
 (if (decide (s2.2 < ((v1.length : Nat) : Int))) then
 (((impl_Config_load a0 a1 a2 s2.2).bind fun r3 =>
 chk ((decide ((0 : Int) ≤ s2.2)) && (decide (s2.2 < ((s2.1.length : Nat) : Int)))) <|
 let v4 : List (Int) := (s2.1.set (Int.toNat s2.2) r3)
 some v4 : Option (List (Int))).bind fun s5 =>
 some (.inl (s5, (i64 (s2.2 + (1 : Int))))))
 else
 some (.inr s2.1))) (v1, (0 : Int))).bind fun x6 =>
 some x6 : Option (List (Int))).bind fun s7 =>
 some (s7, true)
/-- laws.eqHome -/
noncomputable def laws_eqHome (a0 : Int) (a1 : List (Int)) (a2 : Int) (a3 : List (Int)) : Option (Bool) :=
 if (!decide (a0 = a2)) then
 (some false)
 else
 (laws_eqIntS a1 a3).bind fun r0 =>
 if (!r0) then
 (some false)
 else
 some true
/-- laws.eqHomeS -/
noncomputable def laws_eqHomeS (a0 : List ((Int) × List (Int))) (a1 : List ((Int) × List (Int))) : Option (Bool) :=
 if (!decide (((a0.length : Nat) : Int) = ((a1.length : Nat) : Int))) then
 (some false)
 else
 let j0 : Unit → Option _ := fun s1 =>
 (some true)
 (loopM (σ := Int) (X := (Unit) ⊕ (Bool)) (fun s2 =>
 (if (decide (s2 < ((a0.length : Nat) : Int))) then
 (let j3 : Unit → Option _ := fun s4 =>
 (some (.inl (i64 (s2 + (1 : Int)))))
 chk ((decide ((0 : Int) ≤ s2)) && (decide (s2 < ((a0.length : Nat) : Int)))) <|
 let v5 : (Int) × List (Int) := (a0.getD (Int.toNat s2) (0, []))
 chk true <|
 chk ((decide ((0 : Int) ≤ s2)) && (decide (s2 < ((a1.length : Nat) : Int)))) <|
 let v6 : (Int) × List (Int) := (a1.getD (Int.toNat s2) (0, []))
 chk true <|
 (laws_eqHome v5.1 v5.2 v6.1 v6.2).bind fun r7 =>
 if (!r7) then
 (some (.inr (.inr false)))
 else
 j3 ())
 else
 some (.inr (.inl ())))) (0 : Int)).bind fun x8 =>
 sumE x8 (fun y9 =>
 j0 ()) (fun z10 =>
 some z10)
/-- laws.eqConfig -/
noncomputable def laws_eqConfig (a0 : Int) (a1 : List (Int)) (a2 : List ((Int) × List (Int))) (a3 : Int) (a4 : List (Int)) (a5 : List ((Int) × List (Int))) : Option (Bool) :=
 if (!decide (a0 = a3)) then
 (some false)
 else
 (laws_eqIntS a1 a4).bind fun r0 =>
 if (!r0) then
 (some false)
 else
 (laws_eqHomeS a2 a5).bind fun r1 =>
 if (!r1) then
 (some false)
 else
 some true
/-- laws.markHomeS -/
noncomputable def laws_markHomeS (a0 : List ((Int) × List (Int))) (a1 : Int) : Option ((List ((Int) × List (Int))) × Int) :=
 ((loopM (σ := (List ((Int) × List (Int))) × Int × Int) (X := (List ((Int) × List (Int))) × Int) (fun s0 =>
 (if (decide (s0.2.2 < ((s0.1.length : Nat) : Int))) then
 ((chk ((decide ((0 : Int) ≤ s0.2.2)) && (decide (s0.2.2 < ((s0.1.length : Nat) : Int)))) <|
 let v1 : List ((Int) × List (Int)) := (s0.1.set (Int.toNat s0.2.2) (s0.2.1, (s0.1.getD (Int.toNat s0.2.2) (0, [])).2))
 chk ((decide ((0 : Int) ≤ s0.2.2)) && (decide (s0.2.2 < ((v1.length : Nat) : Int)))) <|
 chk true <|
 let v2 : List (Int) := (v1.getD (Int.toNat s0.2.2) (0, [])).2
 (laws_markIntS v2 (i64 (s0.2.1 + (1 : Int)))).bind fun r3 =>
 let v4 : List ((Int) × List (Int)) := (v1.set (Int.toNat s0.2.2) ((v1.getD (Int.toNat s0.2.2) (0, [])).1, r3.1))
 some (v4, r3.2) : Option ((List ((Int) × List (Int))) × Int)).bind fun s5 =>
 some (.inl (s5.1, s5.2, (i64 (s0.2.2 + (1 : Int))))))
 else
 some (.inr (s0.1, s0.2.1)))) (a0, a1, (0 : Int))).bind fun x6 =>
 some (x6.1, x6.2) : Option ((List ((Int) × List (Int))) × Int)).bind fun s7 =>
 some (s7.1, s7.2)
/-- laws.markConfig -/
noncomputable def laws_markConfig (a0 : Int) (a1 : List (Int)) (a2 : List ((Int) × List (Int))) (a3 : Int) : Option ((List (Int)) × (List ((Int) × List (Int))) × Int) :=
 (laws_markIntS a1 a3).bind fun r0 =>
 (laws_markHomeS a2 r0.2).bind fun r1 =>
 some (r0.1, r1.1, r1.2)
/-- laws.FnExactLoadOf -/
noncomputable def laws_FnExactLoadOf (a0 : Int) (a1 : List (Int)) (a2 : List ((Int) × List (Int))) : Option (Bool) :=
 (laws_szConfig a0 a1 a2 (1048576 : Int)).bind fun r0 =>
 if (decide (r0 < (0 : Int))) then
 (some true)
 else
 (laws_toConfig a0 a1 a2).bind fun r1 =>
 (spec_LoadOf r1.1 r1.2.1 r1.2.2).bind fun r2 =>
 (laws_toConfig a0 a1 a2).bind fun r3 =>
 (impl_LoadOf r3.1 r3.2.1 r3.2.2).bind fun r4 =>
 (laws_eqIntS r4.1 r2.1).bind fun r5 =>
 let v6 : Bool := (if (!r5) then true else (r4.2 != r2.2))
 if v6 then
 (some false)
 else
 (laws_toConfig a0 a1 a2).bind fun r7 =>
 (laws_eqConfig r3.1 r3.2.1 r3.2.2 r7.1 r7.2.1 r7.2.2).bind fun r8 =>
 if (!r8) then
 (some false)
 else
 (laws_markConfig r3.1 r3.2.1 r3.2.2 (1 : Int)).bind fun r9 =>
 (if (!(decide (r9.2.2 < (0 : Int)))) then laws_eqIntS r4.1 r2.1 else some false).bind fun r10 =>
 let v11 : Bool := (if (decide (r9.2.2 < (0 : Int))) then true else (!r10))
 let v12 : Bool := (if v11 then true else (r4.2 != r2.2))
 if v12 then
 (some false)
 else
 (laws_markIntS r4.1 (1 : Int)).bind fun r13 =>
 (laws_heldIntS r13.1 (1 : Int)).bind fun r14 =>
 if (decide (r14 < (0 : Int))) then
 (some false)
 else
 if (!decide (r14 = r13.2)) then
 (some false)
 else
 (laws_toConfig a0 a1 a2).bind fun r15 =>
 (impl_LoadOf r15.1 r15.2.1 r15.2.2).bind fun r16 =>
 (laws_eqIntS r16.1 r2.1).bind fun r17 =>
 let v18 : Bool := (if (!r17) then true else (r16.2 != r2.2))
 if v18 then
 (some false)
 else
 (laws_heldIntS r13.1 (1 : Int)).bind fun r19 =>
 if (decide (r19 < (0 : Int))) then
 (some false)
 else
 if (!decide (r19 = r13.2)) then
 (some false)
 else
 some true
end Sh
