/- Sh: typed functions of Go functions and what is shown of them: the part that this statement needs. -/
import Derived.Test.YtddabbooahooeaaGreatDoorShFnStrict0
import Derived.IntWalk
set_option linter.unusedVariables false
set_option linter.unusedSimpArgs false
namespace Sh
open Go
theorem zbH {f : List Pr -> Int -> Int -> Int -> Option (List Pr)} {N : Int} (hf : Perms f N) (hN0 : 12 <= N) : Perms (pdqF f) (2 * N + 1) := by
 intro d a b lim ha hab hb hn hN h0 h1
 unfold pdqF
 refine Ok.bind (P := fun r => r.Perm d) ?_ fun r hr => Ok.ret hr
 refine zam (fun s : List Pr × Int × Int × Int × Bool × Bool => s.1.Perm d /\ 0 <= s.2.1 /\ s.2.1 <= s.2.2.1 /\ s.2.2.1 <= d.length /\ s.2.2.1 - s.2.1 <= 2 * N + 1 /\ 0 <= s.2.2.2.1 /\ s.2.2.2.1 <= 100) (fun s => (s.2.2.1 - s.2.1).toNat) ?_ ⟨List.Perm.refl _, ha, hab, hb, hN, h0, h1⟩
 rintro ⟨l, x, y, li, wb, wp⟩ ⟨hp, g1, g2, g3, g4, g5, g6⟩
 dsimp only at hp g1 g2 g3 g4 g5 g6 ⊢
 have hl := hp.length_eq
 have e0 : i64 (y - x) = y - x := zac (by omega) (by omega)
 have e1 : i64 (y - 1) = y - 1 := zac (by omega) (by omega)
 have e2 : i64 (x - 1) = x - 1 := zac (by omega) (by omega)
 have e3 : i64 (li - 1) = li - 1 := zac (by omega) (by omega)
 simp only [e0, e1, e2, e3]
 refine Ok.ited (fun _ => Ok.bind (zfP g1 (by omega) (by omega) g2) fun r hr => Ok.ret (hr.trans hp)) fun hbig => ?_
 refine Ok.ited (fun _ => Ok.bind (zjh g1 (by omega) (by omega) (by omega)) fun r hr => Ok.ret (hr.trans hp)) fun hli => ?_
 refine Ok.bind (P := fun s : List Pr × Int => s.1.Perm d /\ 0 <= s.2 /\ s.2 <= 100) ?_ fun s6 h6 => ?_
 · refine Ok.ite (fun _ => ?_) fun _ => Ok.ret ⟨hp, g5, g6⟩
   refine Ok.bind (ziA g1 (by omega) (by omega) g2) fun r hr => Ok.ret ⟨hr.trans hp, by dsimp only; omega, by dsimp only; omega⟩
 obtain ⟨l6, li6⟩ := s6
 obtain ⟨hp6, k1, k2⟩ := h6
 dsimp only at hp6 k1 k2 ⊢
 have hl6 := hp6.length_eq
 refine Ok.bind (zix g1 (by omega) (by omega) (by omega)) fun r7 h7 => ?_
 refine Ok.bind (P := fun s : List Pr × Int × Int => s.1.Perm d /\ x <= s.2.1 /\ s.2.1 < y) ?_ fun s9 h9 => ?_
 · refine Ok.ited (fun _ => ?_) fun _ => Ok.ret ⟨hp6, h7⟩
   refine Ok.bind (zjx g1 (by omega) (by omega) g2) fun r hr => ?_
   rw [zac (x := r7.1 - x) (by omega) (by omega), zac (by omega) (by omega)]
   exact Ok.ret ⟨hr.trans hp6, by dsimp only; omega, by dsimp only; omega⟩
 obtain ⟨l9, pv, ht⟩ := s9
 obtain ⟨hp9, p1, p2⟩ := h9
 dsimp only at hp9 p1 p2 ⊢
 have tail : ∀ l10 : List Pr, l10.Perm d -> Ok (chk (!decide ((0 : Int) < x) || ((decide ((0 : Int) <= x - 1)) && (decide (x - 1 < ((l10.length : Nat) : Int))))) <|
  chk (!decide ((0 : Int) < x) || ((decide ((0 : Int) <= pv)) && (decide (pv < ((l10.length : Nat) : Int))))) <|
  (if decide ((0 : Int) < x) then impl_sortPairs_1 (l10.getD (x - 1).toNat (0, 0)).1 (l10.getD (x - 1).toNat (0, 0)).2 (l10.getD pv.toNat (0, 0)).1 (l10.getD pv.toNat (0, 0)).2 else some 0).bind fun r16 =>
  if (if decide ((0 : Int) < x) then !decide (r16 < 0) else false) = true then
   (slices_partitionEqualCmpFunc_impl_Pair l10 x y pv).bind fun r18 => some (.inl (r18.1, r18.2, y, li6, wb, wp))
  else
   (slices_partitionCmpFunc_impl_Pair l10 x y pv).bind fun r19 =>
    (if decide ((i64 (r19.2.1 - x)) < (i64 (y - r19.2.1))) then
     ((f r19.1 x r19.2.1 li6).bind fun r20 => some (r20, (i64 (r19.2.1 + 1)), y, decide ((i64 (Int.tdiv (y - x) 8)) <= (i64 (r19.2.1 - x)))))
    else
     ((f r19.1 (i64 (r19.2.1 + 1)) y li6).bind fun r21 => some (r21, x, r19.2.1, decide ((i64 (Int.tdiv (y - x) 8)) <= (i64 (y - r19.2.1)))))).bind fun s22 =>
    some (.inl (s22.1, s22.2.1, s22.2.2.1, li6, s22.2.2.2, r19.2.2)))
  (fun o : (List Pr × Int × Int × Int × Bool × Bool) ⊕ List Pr => match o with
   | .inl s' => (s'.1.Perm d /\ 0 <= s'.2.1 /\ s'.2.1 <= s'.2.2.1 /\ s'.2.2.1 <= d.length /\ s'.2.2.1 - s'.2.1 <= 2 * N + 1 /\ 0 <= s'.2.2.2.1 /\ s'.2.2.2.1 <= 100) /\ (s'.2.2.1 - s'.2.1).toNat < (y - x).toNat
   | .inr x => x.Perm d) := by
  intro l10 hp10
  have hl10 := hp10.length_eq
  (repeat' (first | (with_reducible refine Ok.bc ?_ ?_; (· exact (by first | rfl | (simp only [Tc]; omega)))) | (with_reducible refine Ok.chk ?_ ?_; (· exact (by first | rfl | (simp only [Tc]; omega))))))
  refine Ok.cmpI fun r => ?_
  refine Ok.ite (fun _ => ?_) fun _ => ?_
  · refine Ok.bind (zio g1 (by omega) (by omega) p1 p2) fun r18 h18 => ?_
    exact Ok.ret ⟨⟨h18.1.trans hp10, by dsimp only; omega, by dsimp only; omega, by dsimp only; omega, by dsimp only; omega, by dsimp only; omega, by dsimp only; omega⟩, by dsimp only; omega⟩
  · refine Ok.bind (ziX g1 (by omega) (by omega) p1 p2) fun r19 h19 => ?_
    obtain ⟨l19, m, q⟩ := r19
    obtain ⟨hp19, m1, m2⟩ := h19
    dsimp only at hp19 m1 m2 ⊢
    have hl19 := (hp19.trans hp10).length_eq
    rw [zac (x := m - x) (by omega) (by omega), zac (x := y - m) (by omega) (by omega), zac (x := m + 1) (by omega) (by omega)]
    refine Ok.bind (P := fun s : List Pr × Int × Int × Bool => s.1.Perm d /\ 0 <= s.2.1 /\ s.2.1 <= s.2.2.1 /\ s.2.2.1 <= d.length /\ s.2.2.1 - s.2.1 < y - x) ?_ fun s22 h22 => ?_
    · refine Ok.ited (fun hlt => ?_) fun hlt => ?_
      · refine Ok.bind (hf l19 x m li6 g1 m1 (by omega) (by omega) (by omega) k1 k2) fun r20 h20 => ?_
        exact Ok.ret ⟨h20.trans (hp19.trans hp10), by dsimp only; omega, by dsimp only; omega, by dsimp only; omega, by dsimp only; omega⟩
      · refine Ok.bind (hf l19 (m + 1) y li6 (by omega) (by omega) (by omega) (by omega) (by omega) k1 k2) fun r20 h20 => ?_
        exact Ok.ret ⟨h20.trans (hp19.trans hp10), by dsimp only; omega, by dsimp only; omega, by dsimp only; omega, by dsimp only; omega⟩
    · obtain ⟨t1, t2, t3, t4, t5⟩ := h22
      exact Ok.ret ⟨⟨t1, t2, t3, t4, by dsimp only; omega, k1, k2⟩, by dsimp only; omega⟩
 refine Ok.ite (fun _ => ?_) fun _ => (tail l9 hp9).mono fun o ho => by cases o <;> exact ho
 have hl9 := hp9.length_eq
 refine Ok.bind (ziW g1 (by omega) (by omega) (by omega)) fun r20 h20 => ?_
 refine Ok.ite (fun _ => Ok.ret (h20.trans hp9)) fun _ => (tail r20.1 (h20.trans hp9)).mono fun o ho => by cases o <;> exact ho
theorem zj6 : Perms slices_pdqsortCmpFunc_impl_Pair''''''''' 6655 := by
 have h1 := zbH zjE (by omega)
 rw [<- lv1] at h1
 have h2 := zbH h1 (by omega)
 rw [<- lv2] at h2
 have h3 := zbH h2 (by omega)
 rw [<- lv3] at h3
 have h4 := zbH h3 (by omega)
 rw [<- lv4] at h4
 have h5 := zbH h4 (by omega)
 rw [<- lv5] at h5
 have h6 := zbH h5 (by omega)
 rw [<- lv6] at h6
 have h7 := zbH h6 (by omega)
 rw [<- lv7] at h7
 have h8 := zbH h7 (by omega)
 rw [<- lv8] at h8
 have h9 := zbH h8 (by omega)
 rw [<- lv9] at h9
 exact h9
noncomputable def bl (n : Nat) : Bool := match math_bits_Len (u64 (n : Int)) with
 | some m => decide (0 <= m) && decide (m <= 100)
 | none => false
theorem zj0 : ∀ n, n < 4096 -> bl n = true := by
 have : (List.range 4096).all bl = true := by decide +kernel
 intro n h1
 exact List.all_eq_true.1 this n (List.mem_range.2 h1)
theorem zhX {n : Nat} (h1 : n < 4096) : Ok (math_bits_Len (u64 (n : Int))) (fun m => 0 <= m /\ m <= 100) := by
 have := zj0 n h1
 unfold bl at this
 cases h : math_bits_Len (u64 (n : Int)) with
 | none => rw [h] at this; cases this
 | some m =>
   rw [h] at this
   simp only [Bool.and_eq_true, decide_eq_true_eq] at this
   exact ⟨m, rfl, this⟩
theorem zg8 {d : List Pr} (hn : d.length < 4096) : Ok (slices_SortFunc__impl_Pair_impl_Pair d) (fun r => r.Perm d) := by
 unfold slices_SortFunc__impl_Pair_impl_Pair
 refine Ok.bind (zhX hn) fun m hm => ?_
 exact Ok.bind (zj6 d 0 d.length m (by omega) (by omega) (by omega) (by omega) (by omega) hm.1 hm.2) fun r hr => Ok.ret hr
theorem mem_setD {l : List Pr} {k : Nat} {v x : Pr} (h : x ∈ l.set k v) : x = v \/ x ∈ l := by
 rcases List.mem_or_eq_of_mem_set h with h | h
 · exact .inr h
 · exact .inl h
theorem zhl {l : List Pr} (hn : l.length < 4096) : Ok (slices_Compact__impl_Pair_impl_Pair l) (fun r => 0 <= r.2 /\ r.2 <= r.1.length /\ r.1.length = l.length /\ ∀ x ∈ r.1.take r.2.toNat, x ∈ l) := by
 unfold slices_Compact__impl_Pair_impl_Pair
 have hself : (0 : Int) <= ((l.length : Nat) : Int) /\ ((l.length : Nat) : Int) <= l.length /\ l.length = l.length /\ ∀ x ∈ l.take (Int.toNat ((l.length : Nat) : Int)), x ∈ l :=
  ⟨by omega, by omega, rfl, fun x hx => List.mem_of_mem_take hx⟩
 refine Ok.ited (fun _ => Ok.ret hself) fun h2 => ?_
 dsimp only
 refine Ok.bind (P := fun x : Unit ⊕ (List Pr × Int) => match x with | .inl _ => True | .inr r => 0 <= r.2 /\ r.2 <= r.1.length /\ r.1.length = l.length /\ ∀ x ∈ r.1.take r.2.toNat, x ∈ l) ?_ fun x hx => ?_
 · refine zam (fun i : Int => 1 <= i /\ i <= l.length) (fun i => (l.length - i).toNat) ?_ ⟨by omega, by omega⟩
   rintro i ⟨g1, g2⟩
   refine Ok.ited (fun hc => ?_) fun hc => Ok.ret trivial
   rw [zac (x := i - 1) (by omega) (by omega), zac (x := i + 1) (by omega) (by omega)]
   (repeat' (first | (with_reducible refine Ok.bc ?_ ?_; (· exact (by first | rfl | (simp only [Tc]; omega)))) | (with_reducible refine Ok.chk ?_ ?_; (· exact (by first | rfl | (simp only [Tc]; omega))))))
   refine Ok.ite (fun _ => ?_) fun _ => Ok.ret ⟨⟨by omega, by omega⟩, by omega⟩
   (repeat' (first | (with_reducible refine Ok.bc ?_ ?_; (· exact (by first | rfl | (simp only [Tc]; omega)))) | (with_reducible refine Ok.chk ?_ ?_; (· exact (by first | rfl | (simp only [Tc]; omega))))))
   refine Ok.bind (P := fun s : List Pr × Int => s.1.length = l.length /\ (∀ x ∈ s.1, x ∈ l) /\ 0 <= s.2 /\ s.2 <= l.length) ?_ fun s hs => ?_
   · refine Ok.bind (P := fun s : List Pr × Int => s.1.length = l.length /\ (∀ x ∈ s.1, x ∈ l) /\ 0 <= s.2 /\ s.2 <= l.length) ?_ fun s hs => Ok.ret hs
     refine zam (fun s : List Pr × Int × Int => s.1.length = l.length /\ (∀ x ∈ s.1, x ∈ l) /\ 0 <= s.2.1 /\ 1 <= s.2.2 /\ s.2.1 <= i + s.2.2 - 1 /\ s.2.2 <= l.length - i) (fun s => (l.length - s.2.2).toNat) ?_ ⟨rfl, fun _ h => h, by dsimp only; omega, by dsimp only; omega, by dsimp only; omega, by dsimp only; omega⟩
     rintro ⟨m, k, q⟩ ⟨hl, hm, h3, h4, h5, h6⟩
     dsimp only at hl hm h3 h4 h5 h6 ⊢
     refine Ok.ited (fun hq => ?_) fun hq => Ok.ret ⟨hl, hm, h3, by dsimp only; omega⟩
     rw [zac (x := q - 1) (by omega) (by omega), zac (x := k + 1) (by omega) (by omega), zac (x := q + 1) (by omega) (by omega)]
     refine Ok.bind (P := fun s : List Pr × Int => s.1.length = l.length /\ (∀ x ∈ s.1, x ∈ l) /\ 0 <= s.2 /\ s.2 <= k + 1) ?_ fun s hs => ?_
     · (repeat' (first | (with_reducible refine Ok.bc ?_ ?_; (· exact (by first | rfl | (simp only [Tc]; omega)))) | (with_reducible refine Ok.chk ?_ ?_; (· exact (by first | rfl | (simp only [Tc]; omega))))))
       refine Ok.bind (P := fun s : List Pr × Int => s.1.length = l.length /\ (∀ x ∈ s.1, x ∈ l) /\ 0 <= s.2 /\ s.2 <= k + 1) ?_ fun s hs => Ok.ret hs
       refine Ok.ite (fun _ => ?_) fun _ => Ok.ret ⟨hl, hm, h3, by dsimp only; omega⟩
       (repeat' (first | (with_reducible refine Ok.bc ?_ ?_; (· exact (by first | rfl | (simp only [Tc]; omega)))) | (with_reducible refine Ok.chk ?_ ?_; (· exact (by first | rfl | (simp only [Tc]; omega))))))
       refine Ok.ret ⟨by simp only [List.length_set]; exact hl, fun x hx => ?_, by dsimp only; omega, by dsimp only; omega⟩
       rcases mem_setD hx with rfl | hx
       · exact hm _ (zaC (by omega) _)
       · exact hm x hx
     · obtain ⟨t1, t2, t3, t4⟩ := hs
       exact Ok.ret ⟨⟨t1, t2, t3, by dsimp only; omega, by dsimp only; omega, by dsimp only; omega⟩, by dsimp only; omega⟩
   · obtain ⟨m, k⟩ := s
     obtain ⟨hl, hm, h3, h4⟩ := hs
     dsimp only at hl hm h3 h4 ⊢
     refine Ok.chk (by simp only [Bool.and_eq_true, decide_eq_true_eq]; omega) ?_
     have e0 : Int.toNat 0 = 0 := rfl
     have hlen : ((m.take k.toNat).drop (Int.toNat 0) ++ (List.replicate (Int.toNat ((m.length : Int) - k)) P0 ++ (m.take (Int.toNat (m.length : Int))).drop (Int.toNat (k + ((m.length : Int) - k))))).length = l.length := by
      simp only [List.length_append, List.length_drop, List.length_take, List.length_replicate, e0]; omega
     have htake : ((m.take k.toNat).drop (Int.toNat 0) ++ (List.replicate (Int.toNat ((m.length : Int) - k)) P0 ++ (m.take (Int.toNat (m.length : Int))).drop (Int.toNat (k + ((m.length : Int) - k))))).take k.toNat = m.take k.toNat := by
      rw [e0, List.drop_zero, List.take_append_of_le_length (by rw [List.length_take]; omega)]
      rw [List.take_of_length_le (by rw [List.length_take]; omega)]
     refine Ok.chk (by simp only [Bool.and_eq_true, decide_eq_true_eq]; rw [hlen]; omega) ?_
     refine Ok.ret ⟨h3, by dsimp only; rw [hlen]; omega, hlen, fun x hx => ?_⟩
     dsimp only at hx
     rw [htake] at hx
     exact hm x (List.mem_of_mem_take hx)
 · rcases x with y | y
   · exact Ok.ret hself
   · exact Ok.ret hx
theorem zgc {l : List Pr} (hn : l.length < 4096) : Ok (impl_sortPairs l) (fun r => 0 <= r.2 /\ r.2 <= r.1.length /\ r.1.length = l.length /\ ∀ x ∈ r.1.take r.2.toNat, x ∈ l) := by
 unfold impl_sortPairs
 refine Ok.bind (zg8 hn) fun m hm => ?_
 have hl := hm.length_eq
 refine Ok.bind (zhl (by omega)) fun r hr => Ok.ret ⟨hr.1, hr.2.1, by dsimp only; omega, fun x hx => hm.mem_iff.1 (hr.2.2.2 x hx)⟩
def Ris (l : List Int) : Prop := ∀ k, k < l.length -> 0 <= l.getD k 0 /\ l.getD k 0 <= 11 /\ (0 < k -> l.getD (k - 1) 0 < l.getD k 0)
theorem Ris.ge {l : List Int} (h : Ris l) : ∀ k, k < l.length -> (k : Int) <= l.getD k 0
 | 0, hk => (h 0 hk).1
 | k + 1, hk => by
   have h1 := h.ge k (by omega)
   have h2 := (h (k + 1) hk).2.2 (by omega)
   simp only [Nat.add_sub_cancel] at h2
   omega
theorem Ris.len {l : List Int} (h : Ris l) : l.length <= 12 := by
 by_cases h0 : l.length = 0
 · omega
 · have h1 := h.ge (l.length - 1) (by omega)
   have h2 := (h (l.length - 1) (by omega)).2.1
   omega
theorem zcG {l : List Int} (h : l.length <= 1000000000) (x : Int) : spec_l1Has l x = some (decide (x ∈ l)) := zgn h x
def put : List Int -> Int -> List Int
 | [], n => [n]
 | y :: r, n => if y < n then y :: put r n else n :: y :: r
def putE : List Int -> Int -> List Int
 | [], n => [n]
 | y :: r, n => if y <= n then y :: putE r n else n :: y :: r
abbrev Asc (l : List Int) : Prop := l.Pairwise (· <= ·)
theorem zeN : ∀ (l : List Int) (n : Int), (put l n).length = l.length + 1
 | [], _ => rfl
 | y :: r, n => by unfold put; split <;> simp [zeN r n]
theorem mem_put {x n : Int} : ∀ {l : List Int}, x ∈ put l n ↔ x = n \/ x ∈ l
 | [] => by simp [put]
 | y :: r => by
   unfold put; split
   · rw [List.mem_cons, mem_put, List.mem_cons]; constructor <;> rintro (h | h | h) <;> simp [h]
   · simp
theorem zfM : ∀ (l : List Int) (n : Int), ∃ p, p <= l.length /\ (∀ k, k < p -> l.getD k 0 < n) /\ (p < l.length -> ¬ l.getD p 0 < n) /\ put l n = l.take p ++ n :: l.drop p
 | [], n => ⟨0, by simp, by simp, by simp, rfl⟩
 | y :: r, n => by
   unfold put
   by_cases h : y < n
   · obtain ⟨p, h1, h2, h3, h4⟩ := zfM r n
     refine ⟨p + 1, by simp; omega, fun k hk => ?_, fun hp => ?_, by rw [if_pos h, h4]; simp⟩
     · cases k with
       | zero => exact h
       | succ k => exact h2 k (by omega)
     · exact h3 (by simpa using hp)
   · exact ⟨0, by simp, by simp, fun _ => h, by rw [if_neg h]; simp⟩
theorem zgU {n : Int} : ∀ {l : List Int}, Asc l -> (∀ x ∈ l, n <= x) -> putE l n = n :: l
 | [], _, _ => rfl
 | z :: r, h, k => by
   unfold putE
   have hz := k z (List.mem_cons_self ..)
   split
   · have : z = n := by omega
     subst this
     rw [zgU h.of_cons fun x hx => k x (List.mem_cons_of_mem _ hx)]
   · rfl
theorem zhD {n : Int} : ∀ {l : List Int}, Asc l -> putE l n = put l n
 | [], _ => rfl
 | y :: r, h => by
   unfold putE put
   by_cases c : y < n
   · rw [if_pos (by omega), if_pos c, zhD h.of_cons]
   · rw [if_neg c]
     by_cases e : y = n
     · subst e
       rw [if_pos (by omega), zgU h.of_cons fun x hx => List.rel_of_pairwise_cons h hx]
     · rw [if_neg (by omega)]
theorem zga {x y : Int} : ∀ {l : List Int}, Asc (l ++ [y]) -> putE (l ++ [y]) x = if x < y then putE l x ++ [y] else l ++ [y, x]
 | [], _ => by
   simp only [List.nil_append, putE]
   by_cases c : x < y
   · rw [if_pos c, if_neg (by omega)]; rfl
   · rw [if_neg c, if_pos (by omega)]
 | z :: r, h => by
   have h' : Asc (r ++ [y]) := List.Pairwise.of_cons h
   have hz : z <= y := List.rel_of_pairwise_cons h (by simp)
   simp only [List.cons_append, putE]
   by_cases c : z <= x
   · rw [if_pos c, if_pos c, zga h']
     split <;> rfl
   · rw [if_neg c, if_pos (by omega), if_neg c]; rfl
theorem zhJ {n : Int} : ∀ {l : List Int}, Asc l -> Asc (put l n)
 | [], _ => by simp [put]
 | y :: r, h => by
   unfold put
   split
   · refine List.Pairwise.cons (fun x hx => ?_) (zhJ h.of_cons)
     rcases mem_put.1 hx with rfl | hx
     · omega
     · exact List.rel_of_pairwise_cons h hx
   · refine List.Pairwise.cons (fun x hx => ?_) h
     rcases List.mem_cons.1 hx with rfl | hx
     · omega
     · have := List.rel_of_pairwise_cons h hx; omega
def srt (l : List Int) : List Int := l.foldl put []
theorem ziB (l : List Int) (x : Int) : srt (l ++ [x]) = put (srt l) x := by simp [srt]
theorem zfu (l : List Int) : Asc (srt l) := by
 have : ∀ (l acc : List Int), Asc acc -> Asc (l.foldl put acc) := by
  intro l
  induction l with
  | nil => intro acc h; exact h
  | cons x l ih => intro acc h; exact ih _ (zhJ h)
 exact this l [] .nil
theorem zce (l : List Int) : (srt l).length = l.length := by
 have : ∀ (l acc : List Int), (l.foldl put acc).length = acc.length + l.length := by
  intro l
  induction l with
  | nil => intro acc; simp
  | cons x l ih => intro acc; simp only [List.foldl_cons, ih, zeN, List.length_cons]; omega
 simpa [srt] using this l []
theorem zdN (x y : Int) : cmp_Less_int x y = some (decide (x < y)) := by
 unfold cmp_Less_int cmp_isNaN_int
 by_cases c : x < y <;> simp [c]
theorem zid (A B : List Int) (y x : Int) : (A ++ y :: x :: B).getD A.length 0 = y := by
 rw [List.getD_eq_getElem?_getD, List.getElem?_append_right (by omega)]; simp
theorem zhU (A B : List Int) (y x : Int) : (A ++ y :: x :: B).getD (A.length + 1) 0 = x := by
 rw [List.getD_eq_getElem?_getD, List.getElem?_append_right (by omega)]; simp
theorem ziz (A B : List Int) (y x : Int) : ((A ++ y :: x :: B).set (A.length + 1) y).set A.length x = A ++ x :: y :: B := by
 rw [List.set_append_right _ _ (by omega), List.set_append_right _ _ (by omega)]
 simp
theorem zfR {f : List Int × Int -> Option ((List Int × Int) ⊕ List Int)}
 (h0 : ∀ d : List Int, f (d, 0) = some (.inr d))
 (h1 : ∀ (A B : List Int) (y x : Int), A.length + B.length <= 1000000 -> f (A ++ y :: x :: B, ((A.length + 1 : Nat) : Int)) = some (if x < y then .inl (A ++ x :: y :: B, (A.length : Int)) else .inr (A ++ y :: x :: B))) :
 ∀ (n : Nat) (A : List Int) (x : Int) (B : List Int), A.length = n -> A.length + B.length <= 1000000 -> Asc A -> loopM f (A ++ x :: B, (n : Int)) = some (putE A x ++ B)
 | 0, A, x, B, hn, _, _ => by
   have : A = [] := List.length_eq_zero_iff.1 hn
   subst this
   rw [zay, show ((0 : Nat) : Int) = 0 from rfl, h0]; rfl
 | n + 1, A, x, B, hn, hl, hs => by
   rcases List.eq_nil_or_concat A with rfl | ⟨A', y, rfl⟩
   · simp at hn
   · simp only [List.concat_eq_append] at hs hl hn ⊢
     have e : A' ++ [y] ++ x :: B = A' ++ y :: x :: B := by simp
     have el : (A' ++ [y]).length = A'.length + 1 := by simp
     rw [el] at hl
     have hn' : n = A'.length := by omega
     subst hn'
     rw [e, zay, h1 A' B y x (by omega), zga hs]
     by_cases c : x < y
     · rw [if_pos c, if_pos c]
       dsimp only
       rw [zfR h0 h1 A'.length A' x (y :: B) rfl (by simp only [List.length_cons]; omega) (List.pairwise_append.1 hs).1]
       simp
     · rw [if_neg c, if_neg c]
       simp
theorem ziI {v : List Int} (hv : v.length <= 1000000) : slices_insertionSortOrdered_int v 0 v.length = some (srt v) := by
 unfold slices_insertionSortOrdered_int
 by_cases h0 : v.length = 0
 · have : v = [] := List.length_eq_zero_iff.1 h0
   subst this
   refine zad (zad ?_ rfl) rfl
   rw [zay]; rfl
 · have hz : ∀ k, k <= v.length -> (srt (v.take k) ++ v.drop k).length = v.length := by
    intro k hk
    rw [List.length_append, zce, List.length_take, List.length_drop]; omega
   refine zad (zad (zas (fun k : Nat => (srt (v.take (k + 1)) ++ v.drop (k + 1), ((k + 1 : Nat) : Int))) (v.length - 1) (srt v) ?_ ?_ ?_) rfl) rfl
   · have : srt (v.take 1) ++ v.drop 1 = v := by
      cases v with
      | nil => simp at h0
      | cons x r => simp [srt, put]
     rw [this]; rfl
   · intro k hk
     have hk1 : ((k + 1 : Nat) : Int) < v.length := by omega
     have hs := zcd v 0 (show k + 1 < v.length by omega)
     have hd : v.drop (k + 1) = v.getD (k + 1) 0 :: v.drop (k + 2) := by
      rw [List.drop_eq_getElem_cons (by omega), List.getD_eq_getElem?_getD, List.getElem?_eq_getElem (by omega)]; rfl
     have hl : (srt (v.take (k + 1))).length = k + 1 := by rw [zce, List.length_take]; omega
     have hi := zac (x := ((k + 1 : Nat) : Int) + 1) (by omega) (by omega)
     simp only [zbz hk1, if_true]
     refine zad (zad (a := srt (v.take (k + 2)) ++ v.drop (k + 2)) (zad ?_ rfl) rfl) ?_
     · rw [hd, hs, ziB, <- zhD (zfu _)]
       refine zfR ?_ ?_ (k + 1) (srt (v.take (k + 1))) (v.getD (k + 1) 0) (v.drop (k + 2)) hl (by rw [hl, List.length_drop]; omega) (zfu _)
       · intro d
         simp
       · intro A B y x hAB
         have e1 : i64 (((A.length + 1 : Nat) : Int) - 1) = (A.length : Int) := by rw [zac (by omega) (by omega)]; omega
         have e2 : (A ++ y :: x :: B).length = A.length + B.length + 2 := by simp; omega
         have e3 : ((A ++ y :: x :: B).set (A.length + 1) y).length = A.length + B.length + 2 := by simp; omega
         have g1 := zid A B y x
         have g2 := zhU A B y x
         have g3 := ziz A B y x
         obtain ⟨D, hD⟩ : ∃ D, A ++ y :: x :: B = D := ⟨_, rfl⟩
         rw [hD] at e2 e3 g1 g2 g3
         have c1 : (0 : Int) < ((A.length + 1 : Nat) : Int) := by omega
         have c2 : (0 : Int) <= ((A.length + 1 : Nat) : Int) := by omega
         have c3 : ((A.length + 1 : Nat) : Int) < (D.length : Int) := by omega
         have c4 : (0 : Int) <= (A.length : Int) := by omega
         have c5 : (A.length : Int) < (D.length : Int) := by omega
         have c6 : (A.length : Int) < ((D.set (A.length + 1) y).length : Int) := by omega
         simp only [hD, e1, zbz c1, zbz c2, zbz c3, zbz c4, zbz c5, Bool.and_self, Bool.or_true, Bool.not_true, zah, if_true, Int.toNat_natCast, g1, g2, zdN, bind_some]
         by_cases c : x < y
         · simp only [c, decide_true, if_true, zbz c6, Bool.and_self, zah, g3, bind_some]
         · simp only [c, decide_false, Bool.false_eq_true, if_false]
     · rw [hi]; rfl
   · have : v.length - 1 + 1 = v.length := by omega
     simp [this]
theorem zh7 (n : Int) : IntKind.u64.wrap n = n % 18446744073709551616 := by simp [IntKind.wrap, IntKind.bits, IntKind.signed]
set_option maxRecDepth 20000 in
theorem zgl {x : Int} (h0 : 0 <= x) (h1 : x < 256) : Ok (math_bits_Len x) (fun _ => True) := by
 unfold math_bits_Len math_bits_Len64
 rw [if_neg (by simp)]
 refine Ok.bind (P := fun _ => True) ?_ fun r _ => Ok.ret trivial
 refine Ok.bind (P := fun s => s.1 = x) ?_ fun s0 e0 => ?_
 · rw [if_neg (by simp; omega)]; exact Ok.ret rfl
 refine Ok.bind (P := fun s => s.1 = x) ?_ fun s1 e1 => ?_
 · rw [if_neg (by simp; omega)]; exact Ok.ret e0
 refine Ok.bind (P := fun s => s.1 = x) ?_ fun s2 e2 => ?_
 · rw [if_neg (by simp; omega)]; exact Ok.ret e1
 have e3 : u8 s2.1 = x := by rw [e2]; unfold u8; rw [IntKind.wrap_u8]; omega
 rw [e3]
 refine Ok.chk ?_ (Ok.ret trivial)
 refine Bool.and_eq_true_iff.2 ⟨decide_eq_true h0, decide_eq_true ?_⟩
 have : ∀ n : Nat, n = 256 -> x < (n : Int) := fun n hn => by omega
 exact this _ (by decide)
theorem zcx {v : List Int} (hv : v.length <= 12) : slices_Sort__int_int v = some (srt v) := by
 unfold slices_Sort__int_int
 have e : u64 ((v.length : Nat) : Int) = (v.length : Int) := by unfold u64; rw [zh7]; omega
 rw [e]
 obtain ⟨r, hr, _⟩ := zgl (x := (v.length : Int)) (by omega) (by omega)
 rw [hr, bind_some]
 refine zad ?_ rfl
 unfold slices_pdqsortOrdered_int
 refine zad ?_ rfl
 rw [zay]
 have e2 : i64 ((v.length : Int) - 0) = (v.length : Int) := by rw [zac (by omega) (by omega)]; omega
 rw [e2, if_pos (by simp; omega), ziI (by omega)]
 rfl
abbrev Op3 := Int × Int × Tx
abbrev O0 : Op3 := (0, (0, []))
def Conf (l : List Op3) (p : Pr) : Prop := ∃ i j : Nat, i < j /\ j < l.length /\ (l.getD i O0).2.1 = p.1 /\ (l.getD j O0).2.1 = p.2 /\ p.1 ≠ p.2 /\ (l.getD i O0).2.2 ≠ [] /\ (l.getD i O0).2.2 = (l.getD j O0).2.2 /\ ((l.getD i O0).1 = 2 \/ (l.getD j O0).1 = 2)
theorem zf8 {l : List Op3} (hn : l.length <= 60) : Ok (impl_conflicts l) (fun r => r.1.length <= 3600 /\ 0 <= r.2 /\ r.2 <= r.1.length /\ ∀ x ∈ r.1.take r.2.toNat, Conf l x) := by
 unfold impl_conflicts
 refine Ok.bind (P := fun o : List Pr => o.length <= 3600 /\ ∀ x ∈ o, Conf l x) ?_ fun o ho => ?_
 · refine Ok.bind (P := fun o : List Pr => o.length <= 3600 /\ ∀ x ∈ o, Conf l x) ?_ fun o ho => Ok.ret ho
   refine zam (fun s : List Pr × Int => 0 <= s.2 /\ s.2 <= l.length /\ (s.1.length : Int) <= 60 * s.2 /\ ∀ x ∈ s.1, Conf l x) (fun s => (l.length - s.2).toNat) ?_ ⟨by dsimp only; omega, by dsimp only; omega, by dsimp only; simp, by simp⟩
   rintro ⟨o, j⟩ ⟨g1, g2, g3, g4⟩
   dsimp only at g1 g2 g3 g4 ⊢
   refine Ok.ited (fun hc => ?_) fun hc => Ok.ret ⟨by omega, g4⟩
   rw [zac (x := j + 1) (by omega) (by omega)]
   refine Ok.bind (P := fun o' : List Pr => (o'.length : Int) <= o.length + j /\ ∀ x ∈ o', Conf l x) ?_ fun o' ho => ?_
   · (repeat' (first | (with_reducible refine Ok.bc ?_ ?_; (· exact (by first | rfl | (simp only [Tc]; omega)))) | (with_reducible refine Ok.chk ?_ ?_; (· exact (by first | rfl | (simp only [Tc]; omega))))))
     refine Ok.bind (P := fun o' : List Pr => (o'.length : Int) <= o.length + j /\ ∀ x ∈ o', Conf l x) ?_ fun o' ho => Ok.ret ho
     refine Ok.bind (P := fun o' : List Pr => (o'.length : Int) <= o.length + j /\ ∀ x ∈ o', Conf l x) ?_ fun o' ho => Ok.ret ho
     refine zam (fun s : List Pr × Int => 0 <= s.2 /\ s.2 <= j /\ (s.1.length : Int) <= o.length + s.2 /\ ∀ x ∈ s.1, Conf l x) (fun s => (j - s.2).toNat) ?_ ⟨by dsimp only; omega, by dsimp only; omega, by dsimp only; omega, g4⟩
     rintro ⟨q, i⟩ ⟨h1, h2, h3, h4⟩
     dsimp only at h1 h2 h3 h4 ⊢
     refine Ok.ited (fun hi => ?_) fun hi => Ok.ret ⟨by omega, h4⟩
     rw [zac (x := i + 1) (by omega) (by omega)]
     refine Ok.bind (P := fun o' : List Pr => (o'.length : Int) <= o.length + i + 1 /\ ∀ x ∈ o', Conf l x) ?_ fun o' ho => ?_
     · (repeat' (first | (with_reducible refine Ok.bc ?_ ?_; (· exact (by first | rfl | (simp only [Tc]; omega)))) | (with_reducible refine Ok.chk ?_ ?_; (· exact (by first | rfl | (simp only [Tc]; omega))))))
       refine Ok.bind (P := fun o' : List Pr => (o'.length : Int) <= o.length + i + 1 /\ ∀ x ∈ o', Conf l x) ?_ fun o' ho => Ok.ret ho
       refine Ok.ite (fun hv => ?_) fun _ => Ok.ret ⟨by omega, h4⟩
       refine Ok.chk (zbz (by simp only [List.length_append, List.length_cons, List.length_nil]; omega)) ?_
       refine Ok.ret ⟨by simp only [List.length_append, List.length_cons, List.length_nil]; omega, fun x hx => ?_⟩
       rcases List.mem_append.1 hx with hx | hx
       · exact h4 x hx
       · simp only [List.mem_singleton] at hx
         subst hx
         simp only [Bool.if_false_right, Bool.if_true_left, Bool.and_eq_true, Bool.or_eq_true, decide_eq_true_eq, Bool.not_eq_true', decide_eq_false_iff_not] at hv
         obtain ⟨⟨⟨v1, v2⟩, v3⟩, v4⟩ := hv
         exact ⟨i.toNat, j.toNat, by omega, by omega, rfl, rfl, v1, v2, v3, v4⟩
     · exact Ok.ret ⟨⟨by dsimp only; omega, by dsimp only; omega, by dsimp only; omega, ho.2⟩, by dsimp only; omega⟩
   · exact Ok.ret ⟨⟨by dsimp only; omega, by dsimp only; omega, by dsimp only; omega, ho.2⟩, by dsimp only; omega⟩
 · refine Ok.bind (zgc (by omega)) fun r hr => Ok.ret ⟨by dsimp only; omega, hr.1, hr.2.1, fun x hx => ho.2 x (hr.2.2.2 x hx)⟩
theorem firstIdx_cases (n : Nat) (p : Nat -> Bool) : (firstIdx n p = -1 /\ ∀ k, k < n -> p k = false) \/ ∃ k : Nat, k < n /\ firstIdx n p = k /\ p k = true := by
 unfold firstIdx
 cases h : (List.range n).find? p with
 | none =>
   refine .inl ⟨rfl, fun k hk => ?_⟩
   have := List.find?_eq_none.1 h k (List.mem_range.2 hk)
   simpa using this
 | some k =>
   have h1 := List.find?_some h
   have h2 := List.mem_of_find?_eq_some h
   exact .inr ⟨k, List.mem_range.1 h2, rfl, h1⟩
theorem zfB (l : List Int) (x : Int) (hl : l.length <= 1000000) : slices_Contains__int_int l x = some (decide (x ∈ l)) := by
 unfold slices_Contains__int_int
 have h : slices_Index__int_int l x = some (firstIdx l.length fun k => decide (x = l.getD k 0)) := by
  unfold slices_Index__int_int
  refine zad (zcl (fun k : Nat => (k : Int)) l.length (fun k => decide (x = l.getD k 0)) rfl (fun k hk => ?_) ?_) (zcj _ _)
  · have hk1 : (k : Int) < l.length := by omega
    have hk0 : (0 : Int) <= (k : Int) := by omega
    have hi : i64 ((k : Int) + 1) = ((k + 1 : Nat) : Int) := by rw [zac (by omega) (by omega)]; rfl
    simp only [hk1, hk0, decide_true, if_true, Bool.and_self, zah, Int.toNat_natCast, hi]
    cases decide (x = l.getD k 0) <;> rfl
  · simp
 refine zad h ?_
 rw [zdp, zgu l 0 fun y => decide (x = y)]
 congr 1
 rw [Bool.eq_iff_iff, List.any_eq_true, decide_eq_true_eq]
 constructor
 · rintro ⟨y, hy, h⟩
   rw [of_decide_eq_true h]; exact hy
 · exact fun h => ⟨x, h, decide_eq_true rfl⟩
def blk (t : Int) (left : List Int) (p : Pr) : Bool := decide (p.2 = t) && decide (p.1 ∈ left)
theorem zja (p : Pr) (t : Int) (left : List Int) (hl : left.length <= 1000000) : impl_SerialOrder_1_1 p.1 p.2 t left = some (blk t left p) := by
 unfold impl_SerialOrder_1_1 blk
 by_cases h : p.2 = t
 · simp only [h, decide_true, if_true, zfB _ _ hl, bind_some, Bool.true_and]
 · simp only [h, decide_false, Bool.false_eq_true, if_false, bind_some, Bool.false_and]
theorem zj9 (t : Int) (ps : List Pr) (left : List Int) (hp : ps.length <= 1000000) (hl : left.length <= 1000000) : impl_SerialOrder_1 t ps left = some (!ps.any (blk t left)) := by
 unfold impl_SerialOrder_1 slices_ContainsFunc__impl_Pair_impl_Pair
 have h : slices_IndexFunc__impl_Pair_impl_Pair ps t left = some (firstIdx ps.length fun k => blk t left (ps.getD k P0)) := by
  unfold slices_IndexFunc__impl_Pair_impl_Pair
  refine zad (zcl (fun k : Nat => (k : Int)) ps.length (fun k => blk t left (ps.getD k P0)) rfl (fun k hk => ?_) ?_) (zcj _ _)
  · have hk1 : (k : Int) < ps.length := by omega
    have hk0 : (0 : Int) <= (k : Int) := by omega
    have hi : i64 ((k : Int) + 1) = ((k + 1 : Nat) : Int) := by rw [zac (by omega) (by omega)]; rfl
    simp only [hk1, hk0, decide_true, if_true, Bool.and_self, zah, Int.toNat_natCast, zja _ _ _ hl, bind_some, hi]
    cases blk t left (ps.getD k P0) <;> rfl
  · simp
 rw [h]
 simp only [bind_some]
 rw [zdp, zgu ps P0 (blk t left)]
theorem zjG (left : List Int) (ps : List Pr) (hp : ps.length <= 1000000) (hl : left.length <= 1000000) : slices_IndexFunc__int_int'''''' left ps left = some (firstIdx left.length fun k => !ps.any (blk (left.getD k 0) left)) := by
 unfold slices_IndexFunc__int_int''''''
 refine zad (zcl (fun k : Nat => (k : Int)) left.length (fun k => !ps.any (blk (left.getD k 0) left)) rfl (fun k hk => ?_) ?_) (zcj _ _)
 · have hk1 : (k : Int) < left.length := by omega
   have hk0 : (0 : Int) <= (k : Int) := by omega
   have hi : i64 ((k : Int) + 1) = ((k + 1 : Nat) : Int) := by rw [zac (by omega) (by omega)]; rfl
   simp only [hk1, hk0, decide_true, if_true, Bool.and_self, zah, Int.toNat_natCast, zj9 _ _ _ hp hl, bind_some, hi]
   cases (!ps.any (blk (left.getD k 0) left)) <;> rfl
 · simp
theorem zjw (f : Int -> Int) : ∀ (l : List Int), l ≠ [] -> ∃ t ∈ l, ∀ s ∈ l, f t <= f s
 | [], h => absurd rfl h
 | a :: l, _ => by
   by_cases hl : l = []
   · subst hl
     exact ⟨a, by simp, fun s hs => by simp at hs; subst hs; omega⟩
   · obtain ⟨t, ht, h⟩ := zjw f l hl
     by_cases c : f a <= f t
     · refine ⟨a, by simp, fun s hs => ?_⟩
       rcases List.mem_cons.1 hs with rfl | hs
       · omega
       · have := h s hs; omega
     · refine ⟨t, by simp [ht], fun s hs => ?_⟩
       rcases List.mem_cons.1 hs with rfl | hs
       · omega
       · exact h s hs
theorem zey {l : List Op3} (hn : l.length <= 60) (hg : impl_areOps l = some true) {ts : List Int} (ht : impl_txnsOf l = some ts) (hts : ts.length <= 12) (f : Int -> Int) (hf : ∀ x, Conf l x -> f x.1 < f x.2) :
 Ok (impl_SerialOrder l) (fun r => r.2 = true) := by
 unfold impl_SerialOrder
 refine Ok.be hg ?_
 simp only [Bool.not_true, Bool.false_eq_true, if_false]
 refine Ok.be ht ?_
 refine Ok.bind (zf8 hn) fun r hr => ?_
 obtain ⟨ps, n⟩ := r
 obtain ⟨r0, r1, r2, r3⟩ := hr
 dsimp only at r0 r1 r2 r3 ⊢
 have e0 : (ps.take n.toNat).drop (Int.toNat 0) = ps.take n.toNat := by
  show List.drop 0 _ = _
  rw [List.drop_zero]
 rw [e0]
 have hq : (ps.take n.toNat).length <= 1000000 := by rw [List.length_take]; omega
 generalize ps.take n.toNat = qs at r3 hq
 refine Ok.bind (P := fun x : List Int ⊕ (List Int × Bool) => match x with | .inl _ => True | .inr _ => False) ?_ fun x hx => ?_
 · refine zam (fun s : List Int × List Int => s.1.length + s.2.length <= 12) (fun s => s.1.length) ?_ (by simpa using hts)
   rintro ⟨left, out⟩ h1
   dsimp only at h1 ⊢
   refine Ok.ited (fun hc => ?_) fun hc => Ok.ret trivial
   have hne : left ≠ [] := by
    intro h; rw [h] at hc; simp at hc
   refine Ok.be (zjG left qs hq (by omega)) ?_
   rcases firstIdx_cases left.length (fun k => !qs.any (blk (left.getD k 0) left)) with ⟨h, hall⟩ | ⟨k, hk, h, hp⟩
   · obtain ⟨t, ht, hmin⟩ := zjw f left hne
     obtain ⟨k, hk, rfl⟩ := List.mem_iff_getElem.1 ht
     have := hall k hk
     have e : left.getD k 0 = left[k] := by rw [List.getD_eq_getElem?_getD, List.getElem?_eq_getElem hk]; rfl
     rw [e] at this
     simp only [Bool.not_eq_false', List.any_eq_true] at this
     obtain ⟨p, hp, hb⟩ := this
     unfold blk at hb
     simp only [Bool.and_eq_true, decide_eq_true_eq] at hb
     have h1 := hf p (r3 p hp)
     have h2 := hmin p.1 hb.2
     rw [hb.1] at h1
     omega
   · rw [h]
     refine Ok.ited (fun hh => by omega) fun _ => ?_
     rw [zac (x := (k : Int) + 1) (by omega) (by omega)]
     refine Ok.chk (by simp only [Bool.and_eq_true, decide_eq_true_eq]; omega) ?_
     refine Ok.chk (zbz (by simp only [List.length_append, List.length_cons, List.length_nil]; omega)) ?_
     refine Ok.bind (P := fun r : List Int => r.length + 1 = left.length) ?_ fun r hr => ?_
     · unfold slices_Delete__int_int
       rw [zbE (zbz (by omega)), zbE (zbz (by omega)), zbE (zbz (by omega)), zbE (zbz (by omega))]
       refine Ok.ret ?_
       have e0 : Int.toNat 0 = 0 := rfl
       simp only [List.length_append, List.length_drop, List.length_take, e0]
       omega
     · refine Ok.ret ⟨?_, by dsimp only; omega⟩
       simp only [List.length_append, List.length_cons, List.length_nil]; omega
 · rcases x with y | y
   · exact Ok.ret rfl
   · exact hx.elim
def okc (o : Op3) : Bool := (decide (1 <= o.1) && decide (o.1 <= 3)) && ((decide (1 <= o.2.1) && decide (o.2.1 <= 8)) && (if o.1 = 3 then decide (o.2.2 = []) else isKy o.2.2))
structure GO (l : List Op3) : Prop where
 len : l.length <= 60
 op : ∀ k, k < l.length -> okc (l.getD k O0) = true
 last : ∀ k j, k < j -> j < l.length -> (l.getD k O0).1 = 3 -> (l.getD j O0).2.1 ≠ (l.getD k O0).2.1
 ends : ∀ k, k < l.length -> (l.getD k O0).1 ≠ 3 -> ∃ j, k < j /\ j < l.length /\ (l.getD j O0).2.1 = (l.getD k O0).2.1 /\ (l.getD j O0).1 = 3
theorem zfo : isKy [] = false := by decide
def moreB (l : List Op3) (k n : Nat) : Bool := (List.range n).any fun j => decide ((l.getD (k + 1 + j) O0).2.1 = (l.getD k O0).2.1)
def doneB (l : List Op3) (k n : Nat) : Bool := (List.range n).any fun j => decide ((l.getD (k + 1 + j) O0).2.1 = (l.getD k O0).2.1) && decide ((l.getD (k + 1 + j) O0).1 = 3)
def badB (l : List Op3) (k : Nat) : Bool := !okc (l.getD k O0) || (if (l.getD k O0).1 = 3 then moreB l k (l.length - (k + 1)) else !doneB l k (l.length - (k + 1)))
theorem zd4 {l : List Op3} (hk : ∀ o ∈ l, o.2.2.length <= 1000000) (hl : l.length <= 1000000) : spec_GoodOps l = some (decide (l.length <= 60) && !(List.range l.length).any (badB l)) := by
 unfold spec_GoodOps
 by_cases h60 : l.length <= 60
 case neg =>
  have : (60 : Int) < (l.length : Int) := by omega
  simp only [this, decide_true, if_true, h60, decide_false, Bool.false_and]
 have h60' : ¬ (60 : Int) < (l.length : Int) := by omega
 simp only [h60', decide_false, Bool.false_eq_true, if_false, h60, decide_true, Bool.true_and]
 refine zad (zbT (fun k : Nat => (k : Int)) l.length (badB l) (.inr false) (.inl ()) rfl (fun k hkk => ?_) ?_) ?_
 · have hk1 : (k : Int) < l.length := by omega
   have hk0 : (0 : Int) <= (k : Int) := by omega
   have hi : i64 ((k : Int) + 1) = ((k + 1 : Nat) : Int) := by rw [zac (by omega) (by omega)]; rfl
   have hin : ((k + 1 : Nat) : Int) <= l.length := by omega
   have hi0 : (0 : Int) <= ((k + 1 : Nat) : Int) := by omega
   have hself : ((l.length : Nat) : Int) <= l.length := by omega
   have hky := hk _ (zaC hkk O0)
   have inner : loopM (σ := Bool × Bool × Int) (X := Bool × Bool) (fun s13 =>
    (if (decide (s13.2.2 < (((l.length : Nat) : Int) - ((k + 1 : Nat) : Int)))) then
    ((chk ((decide ((0 : Int) <= s13.2.2)) && (decide (s13.2.2 < (((l.length : Nat) : Int) - ((k + 1 : Nat) : Int))))) <|
    chk (decide (0 <= (((k + 1 : Nat) : Int) + s13.2.2)) && decide ((((k + 1 : Nat) : Int) + s13.2.2) < ((l.length : Nat) : Int))) <|
    some ((if s13.1 then true else decide ((l.getD (Int.toNat (((k + 1 : Nat) : Int) + s13.2.2)) O0).2.1 = (l.getD k O0).2.1)), (if s13.2.1 then true else (if decide ((l.getD (Int.toNat (((k + 1 : Nat) : Int) + s13.2.2)) O0).2.1 = (l.getD k O0).2.1) then decide ((l.getD (Int.toNat (((k + 1 : Nat) : Int) + s13.2.2)) O0).1 = (3 : Int)) else false)))).bind fun s18 =>
    some (.inl (s18.1, s18.2, (i64 (s13.2.2 + (1 : Int))))))
    else
    some (.inr (s13.1, s13.2.1)))) (false, false, (0 : Int)) = some (moreB l k (l.length - (k + 1)), doneB l k (l.length - (k + 1))) := by
    refine zas (fun j : Nat => (moreB l k j, doneB l k j, (j : Int))) (l.length - (k + 1)) (moreB l k (l.length - (k + 1)), doneB l k (l.length - (k + 1))) rfl (fun j hj => ?_) ?_
    · have j1 : (j : Int) < ((l.length : Nat) : Int) - ((k + 1 : Nat) : Int) := by omega
      have j0 : (0 : Int) <= (j : Int) := by omega
      have j2 : (0 : Int) <= ((k + 1 : Nat) : Int) + (j : Int) := by omega
      have j3 : ((k + 1 : Nat) : Int) + (j : Int) < ((l.length : Nat) : Int) := by omega
      have j4 : Int.toNat (((k + 1 : Nat) : Int) + (j : Int)) = k + 1 + j := by omega
      have ji : i64 ((j : Int) + 1) = ((j + 1 : Nat) : Int) := by rw [zac (by omega) (by omega)]; rfl
      simp only [j1, j0, j2, j3, j4, ji, decide_true, if_true, Bool.and_self, zah, bind_some, zjC, ziG]
      have em : moreB l k (j + 1) = (moreB l k j || decide ((l.getD (k + 1 + j) O0).2.1 = (l.getD k O0).2.1)) := by
       unfold moreB; rw [List.range_succ, List.any_append]; simp
      have ed : doneB l k (j + 1) = (doneB l k j || (decide ((l.getD (k + 1 + j) O0).2.1 = (l.getD k O0).2.1) && decide ((l.getD (k + 1 + j) O0).1 = 3))) := by
       unfold doneB; rw [List.range_succ, List.any_append]; simp
      rw [em, ed]
    · have : ¬ (((l.length - (k + 1) : Nat) : Int) < ((l.length : Nat) : Int) - ((k + 1 : Nat) : Int)) := by omega
      simp only [this, decide_false, Bool.false_eq_true, if_false]
   simp only [hk1, hk0, decide_true, if_true, Bool.and_self, zah, Int.toNat_natCast, zds, bind_some, zfb _ (Nat.le_trans hky (by decide)), hi, hin, hi0, hself]
   unfold badB okc
   have e1 : Int.toNat ((k : Nat) : Int) = k := Int.toNat_natCast k
   generalize hb1 : (decide (1 <= (l.getD k O0).1) && decide ((l.getD k O0).1 <= 3)) = b1
   generalize hb2 : (decide (1 <= (l.getD k O0).2.1) && decide ((l.getD k O0).2.1 <= 8)) = b2
   cases b1 with
   | false => simp
   | true =>
     cases b2 with
     | false => simp
     | true =>
       by_cases h3 : (l.getD k O0).1 = 3
       · by_cases hy : (l.getD k O0).2.2 = []
         · simp only [h3, hy, decide_true, Bool.not_true, Bool.not_false, Bool.false_eq_true, if_false, if_true, bne_self_eq_false, Bool.and_false, bind_some]
           refine zad (zad inner rfl) ?_
           simp only [Bool.true_and, Bool.and_self, Bool.not_true, Bool.false_or, Bool.or_false, Bool.false_eq_true, if_false, if_true]
           cases moreB l k (l.length - (k + 1)) <;> rfl
         · simp only [h3, hy, zfo, decide_true, decide_false, Bool.not_true, Bool.not_false, Bool.false_eq_true, if_false, if_true, show (true != false) = true from rfl, show (false != true) = true from rfl, bne_self_eq_false, Bool.true_and, Bool.false_and, Bool.and_false, Bool.and_true, Bool.and_self, Bool.true_or, Bool.or_true, Bool.false_or, Bool.or_false, bind_some]
       · by_cases hy : (l.getD k O0).2.2 = []
         · simp only [h3, hy, zfo, decide_true, decide_false, Bool.not_true, Bool.not_false, Bool.false_eq_true, if_false, if_true, show (true != false) = true from rfl, show (false != true) = true from rfl, bne_self_eq_false, Bool.true_and, Bool.false_and, Bool.and_false, Bool.and_true, Bool.and_self, Bool.true_or, Bool.or_true, Bool.false_or, Bool.or_false, bind_some]
         · cases hkk2 : isKy (l.getD k O0).2.2 with
           | false => simp only [h3, hy, hkk2, zfo, decide_true, decide_false, Bool.not_true, Bool.not_false, Bool.false_eq_true, if_false, if_true, show (true != false) = true from rfl, show (false != true) = true from rfl, bne_self_eq_false, Bool.true_and, Bool.false_and, Bool.and_false, Bool.and_true, Bool.and_self, Bool.true_or, Bool.or_true, Bool.false_or, Bool.or_false, bind_some]
           | true =>
             simp only [h3, hy, hkk2, decide_false, Bool.not_true, Bool.not_false, Bool.false_eq_true, if_false, if_true, bne_self_eq_false, Bool.and_self, bind_some]
             refine zad (zad inner rfl) ?_
             simp only [Bool.true_and, Bool.and_self, Bool.not_true, Bool.false_or, Bool.or_false, Bool.false_eq_true, if_false, if_true]
             cases doneB l k (l.length - (k + 1)) <;> rfl
 · simp
 · cases (List.range l.length).any (badB l) <;> rfl
def eq9 (a b : List Bool) : Bool := ((a.getD 0 false == b.getD 0 false) && ((a.getD 1 false == b.getD 1 false) && ((a.getD 2 false == b.getD 2 false) && ((a.getD 3 false == b.getD 3 false) && ((a.getD 4 false == b.getD 4 false) && ((a.getD 5 false == b.getD 5 false) && ((a.getD 6 false == b.getD 6 false) && ((a.getD 7 false == b.getD 7 false) && (a.getD 8 false == b.getD 8 false)))))))))
def mk9 (f : Nat -> Bool) : List Bool := (List.range 9).map f
theorem zia (f : Nat -> Bool) : (mk9 f).length = 9 := by simp [mk9]
theorem za0 (f : Nat -> Bool) {t : Nat} (h : t < 9) : (mk9 f).getD t false = f t := by
 unfold mk9
 rw [List.getD_eq_getElem?_getD, List.getElem?_map, List.getElem?_range h]; rfl
theorem zhR (f : Nat -> Bool) {t : Nat} (h : t < 9) (v : Bool) : (mk9 f).set t v = mk9 fun i => if i = t then v else f i := by
 unfold mk9
 apply List.ext_getElem?
 intro i
 rw [List.getElem?_set]
 by_cases hi : i < 9
 · rw [List.getElem?_map, List.getElem?_map, List.getElem?_range hi]
   by_cases e : t = i
   · subst e
     rw [if_pos rfl, if_pos (by simp; exact h)]
     simp
   · rw [if_neg e]
     simp [Ne.symm e]
 · rw [List.getElem?_eq_none (by simp; omega), List.getElem?_eq_none (by simp; omega)]
   split
   · rw [if_neg (by simp; omega)]
   · rfl
theorem zjf (f g : Nat -> Bool) : eq9 (mk9 f) (mk9 g) = true ↔ ∀ t, t < 9 -> f t = g t := by
 unfold eq9
 rw [za0 f (show 0 < 9 by decide), za0 f (show 1 < 9 by decide), za0 f (show 2 < 9 by decide), za0 f (show 3 < 9 by decide), za0 f (show 4 < 9 by decide), za0 f (show 5 < 9 by decide), za0 f (show 6 < 9 by decide), za0 f (show 7 < 9 by decide), za0 f (show 8 < 9 by decide),
  za0 g (show 0 < 9 by decide), za0 g (show 1 < 9 by decide), za0 g (show 2 < 9 by decide), za0 g (show 3 < 9 by decide), za0 g (show 4 < 9 by decide), za0 g (show 5 < 9 by decide), za0 g (show 6 < 9 by decide), za0 g (show 7 < 9 by decide), za0 g (show 8 < 9 by decide)]
 simp only [Bool.and_eq_true, beq_iff_eq]
 constructor
 · rintro ⟨h0, h1, h2, h3, h4, h5, h6, h7, h8⟩ t ht
   have : t = 0 \/ t = 1 \/ t = 2 \/ t = 3 \/ t = 4 \/ t = 5 \/ t = 6 \/ t = 7 \/ t = 8 := by omega
   rcases this with rfl | rfl | rfl | rfl | rfl | rfl | rfl | rfl | rfl <;> assumption
 · exact fun h => ⟨h 0 (by omega), h 1 (by omega), h 2 (by omega), h 3 (by omega), h 4 (by omega), h 5 (by omega), h 6 (by omega), h 7 (by omega), h 8 (by omega)⟩
def ovr (l : List Op3) (k t : Nat) : Bool := (List.range k).any fun i => decide ((l.getD i O0).2.1 = (t : Int)) && decide ((l.getD i O0).1 = 3)
def sen (l : List Op3) (k t : Nat) : Bool := (List.range k).any fun i => decide ((l.getD i O0).2.1 = (t : Int))
def badI (l : List Op3) (k : Nat) : Bool := !okc (l.getD k O0) || ovr l k (l.getD k O0).2.1.toNat
theorem zdS {l : List Op3} (hl : l.length <= 1000000) : impl_areOps l = some (!(List.range l.length).any (badI l) && (decide (l.length <= 60) && eq9 (mk9 (sen l l.length)) (mk9 (ovr l l.length)))) := by
 unfold impl_areOps
 have hz : (false :: false :: false :: false :: false :: false :: false :: false :: false :: ([] : List Bool)) = mk9 fun _ => false := by decide
 have hr : (((List.replicate (Int.toNat (9 : Int)) false).length : Nat) : Int) = 9 := by decide
 dsimp only
 rw [hz]
 first | rw [zbE (by decide), zbE (by decide)] | skip
 refine zad (zbT (fun k : Nat => (mk9 (ovr l k), mk9 (sen l k), (k : Int))) l.length (badI l) (.inr false) (.inl (mk9 (ovr l l.length), mk9 (sen l l.length))) rfl (fun k hkk => ?_) ?_) ?_
 · have hk1 : (k : Int) < l.length := by omega
   have hk0 : (0 : Int) <= (k : Int) := by omega
   have hi : i64 ((k : Int) + 1) = ((k + 1 : Nat) : Int) := by rw [zac (by omega) (by omega)]; rfl
   simp only [hk1, hk0, decide_true, if_true, Bool.and_self, zah, Int.toNat_natCast, zhv, bind_some, zfk, hi, zia]
   unfold badI okc
   by_cases h1 : (decide (1 <= (l.getD k O0).1) && decide ((l.getD k O0).1 <= 3)) = true
   case neg =>
    have h1 : (decide (1 <= (l.getD k O0).1) && decide ((l.getD k O0).1 <= 3)) = false := by simpa using h1
    simp only [h1, Bool.not_false, Bool.not_true, Bool.false_eq_true, if_false, if_true, bind_some, Bool.true_or, Bool.false_and, Bool.and_false, zah]
   by_cases h2 : (decide (1 <= (l.getD k O0).2.1) && decide ((l.getD k O0).2.1 <= 8)) = true
   case neg =>
    have h2 : (decide (1 <= (l.getD k O0).2.1) && decide ((l.getD k O0).2.1 <= 8)) = false := by simpa using h2
    simp only [h1, h2, Bool.not_false, Bool.not_true, Bool.false_eq_true, if_false, if_true, bind_some, Bool.true_or, Bool.false_and, Bool.and_false, Bool.true_and, zah]
   have ht : 1 <= (l.getD k O0).2.1 /\ (l.getD k O0).2.1 <= 8 := by simpa using h2
   have t0 : (0 : Int) <= (l.getD k O0).2.1 := by omega
   have t9 : (l.getD k O0).2.1 < 9 := by omega
   have t9' : (l.getD k O0).2.1 < ((9 : Nat) : Int) := by omega
   have tn : (l.getD k O0).2.1.toNat < 9 := by omega
   simp only [h1, h2, t0, t9, t9', decide_true, Bool.and_self, Bool.or_true, zah, Bool.not_false, Bool.not_true, Bool.false_eq_true, if_false, if_true, bind_some, Bool.true_and, za0 _ tn]
   cases hov : ovr l k (l.getD k O0).2.1.toNat with
   | true => simp only [if_true, Bool.true_or, Bool.not_true, Bool.false_and, Bool.false_eq_true, if_false, bind_some, Bool.or_true]
   | false =>
     have es : mk9 (sen l (k + 1)) = (mk9 (sen l k)).set (l.getD k O0).2.1.toNat true := by
      rw [zhR _ tn]
      congr 1
      funext t
      unfold sen
      rw [List.range_succ, List.any_append]
      simp only [List.any_cons, List.any_nil, Bool.or_false]
      by_cases e : t = (l.getD k O0).2.1.toNat
      · subst e
        rw [if_pos rfl]
        have : (l.getD k O0).2.1 = (((l.getD k O0).2.1.toNat : Nat) : Int) := by omega
        rw [decide_eq_true this, Bool.or_true]
      · rw [if_neg e]
        have : ¬ (l.getD k O0).2.1 = (t : Int) := by omega
        rw [decide_eq_false this, Bool.or_false]
     have eo : mk9 (ovr l (k + 1)) = (mk9 (ovr l k)).set (l.getD k O0).2.1.toNat (decide ((l.getD k O0).1 = 3)) := by
      rw [zhR _ tn]
      congr 1
      funext t
      have hsucc : ovr l (k + 1) t = (ovr l k t || (decide ((l.getD k O0).2.1 = (t : Int)) && decide ((l.getD k O0).1 = 3))) := by
       unfold ovr
       rw [List.range_succ, List.any_append]
       simp only [List.any_cons, List.any_nil, Bool.or_false]
      rw [hsucc]
      by_cases e : t = (l.getD k O0).2.1.toNat
      · subst e
        rw [if_pos rfl, hov, Bool.false_or]
        have : (l.getD k O0).2.1 = (((l.getD k O0).2.1.toNat : Nat) : Int) := by omega
        rw [decide_eq_true this, Bool.true_and]
      · rw [if_neg e]
        have : ¬ (l.getD k O0).2.1 = (t : Int) := by omega
        rw [decide_eq_false this, Bool.false_and, Bool.or_false]
     rw [es, eo]
     by_cases h3 : (l.getD k O0).1 = 3
     · by_cases hy : (l.getD k O0).2.2 = []
       · simp only [h3, hy, decide_true, Bool.not_true, Bool.not_false, Bool.false_eq_true, if_false, if_true, Bool.and_false, bind_some, Bool.or_self, Bool.or_false]
       · simp only [h3, hy, decide_true, decide_false, Bool.not_true, Bool.not_false, Bool.false_eq_true, if_false, if_true, Bool.and_false, Bool.false_and, bind_some, Bool.or_self, Bool.or_false]
     · cases hkk2 : isKy (l.getD k O0).2.2 <;>
        simp only [h3, hkk2, decide_false, Bool.not_true, Bool.not_false, Bool.false_eq_true, if_false, if_true, Bool.and_self, bind_some, Bool.or_self, Bool.or_false]
 · simp
 · cases hb : (List.range l.length).any (badI l) with
   | true => simp only [if_true, zgF, Bool.not_true, Bool.false_and]
   | false =>
     simp only [Bool.false_eq_true, if_false, zfe, Bool.not_false, Bool.true_and, zia]
     have e9 : ∀ n : Int, 0 <= n -> n < 9 -> (decide (0 <= n) && decide (n < ((9 : Nat) : Int))) = true := fun n h1 h2 => by
      simp only [Bool.and_eq_true, decide_eq_true_eq]; omega
     have e9' : decide ((((9 : Nat) : Int)) = 9) = true := by decide
     simp only [e9 0 (by decide) (by decide), e9 1 (by decide) (by decide), e9 2 (by decide) (by decide), e9 3 (by decide) (by decide), e9 4 (by decide) (by decide), e9 5 (by decide) (by decide), e9 6 (by decide) (by decide), e9 7 (by decide) (by decide), e9 8 (by decide) (by decide), e9', Bool.or_true, zah]
     have hc : decide (((l.length : Nat) : Int) <= 60) = decide (l.length <= 60) := by rw [decide_eq_decide]; omega
     rw [hc]
     cases decide (l.length <= 60) with
     | true => rfl
     | false => rfl
theorem zeo {o : Op3} (h : okc o = true) : 1 <= o.2.1 /\ o.2.1 <= 8 := by
 unfold okc at h
 simp only [Bool.and_eq_true, decide_eq_true_eq] at h
 exact h.2.1
theorem zjt (l : List Op3) : (decide (l.length <= 60) && !(List.range l.length).any (badB l)) = true ↔ GO l := by
 simp only [Bool.and_eq_true, decide_eq_true_eq, Bool.not_eq_true', zao]
 constructor
 · rintro ⟨h1, h2⟩
   have h3 : ∀ k, k < l.length -> okc (l.getD k O0) = true /\ (if (l.getD k O0).1 = 3 then moreB l k (l.length - (k + 1)) else !doneB l k (l.length - (k + 1))) = false := fun k hk => by
    have := h2 k hk
    unfold badB at this
    simpa only [Bool.or_eq_false_iff, Bool.not_eq_false'] using this
   refine ⟨h1, fun k hk => (h3 k hk).1, fun k j hkj hj hK hT => ?_, fun k hk hK => ?_⟩
   · have := (h3 k (by omega)).2
     rw [if_pos hK] at this
     unfold moreB at this
     rw [zao] at this
     have := this (j - (k + 1)) (by omega)
     rw [show k + 1 + (j - (k + 1)) = j by omega, decide_eq_true hT] at this
     cases this
   · have := (h3 k hk).2
     rw [if_neg hK] at this
     unfold doneB at this
     simp only [Bool.not_eq_false', za9, Bool.and_eq_true, decide_eq_true_eq] at this
     obtain ⟨j, hj, q1, q2⟩ := this
     exact ⟨k + 1 + j, by omega, by omega, q1, q2⟩
 · intro g
   refine ⟨g.len, fun k hk => ?_⟩
   unfold badB
   rw [g.op k hk]
   simp only [Bool.not_true, Bool.false_or]
   split
   · rename_i hK
     unfold moreB
     rw [zao]
     intro j hj
     exact decide_eq_false (g.last k (k + 1 + j) (by omega) (by omega) hK)
   · rename_i hK
     obtain ⟨j, q1, q2, q3, q4⟩ := g.ends k hk hK
     simp only [Bool.not_eq_false']
     unfold doneB
     rw [za9]
     refine ⟨j - (k + 1), by omega, ?_⟩
     rw [show k + 1 + (j - (k + 1)) = j by omega, decide_eq_true q3, decide_eq_true q4]; rfl
theorem zjv (l : List Op3) : (!(List.range l.length).any (badI l) && (decide (l.length <= 60) && eq9 (mk9 (sen l l.length)) (mk9 (ovr l l.length)))) = true ↔ GO l := by
 simp only [Bool.and_eq_true, decide_eq_true_eq, Bool.not_eq_true', zao, zjf]
 constructor
 · rintro ⟨h2, h1, h4⟩
   have h3 : ∀ k, k < l.length -> okc (l.getD k O0) = true /\ ovr l k (l.getD k O0).2.1.toNat = false := fun k hk => by
    have := h2 k hk
    unfold badI at this
    simpa only [Bool.or_eq_false_iff, Bool.not_eq_false'] using this
   refine ⟨h1, fun k hk => (h3 k hk).1, fun k j hkj hj hK hT => ?_, fun k hk hK => ?_⟩
   · have := (h3 j hj).2
     unfold ovr at this
     rw [zao] at this
     have := this k hkj
     have ht := zeo (h3 j hj).1
     have e : (l.getD k O0).2.1 = (((l.getD j O0).2.1.toNat : Nat) : Int) := by omega
     rw [decide_eq_true e, decide_eq_true hK] at this
     cases this
   · have ht := zeo (h3 k hk).1
     have hs : sen l l.length (l.getD k O0).2.1.toNat = true := by
      unfold sen
      rw [za9]
      exact ⟨k, hk, decide_eq_true (by omega)⟩
     have := h4 (l.getD k O0).2.1.toNat (by omega)
     rw [hs] at this
     have := this.symm
     unfold ovr at this
     rw [za9] at this
     obtain ⟨i, hi, hb⟩ := this
     simp only [Bool.and_eq_true, decide_eq_true_eq] at hb
     refine ⟨i, ?_, hi, by omega, hb.2⟩
     rcases Nat.lt_trichotomy k i with h | h | h
     · exact h
     · subst h; exact absurd hb.2 hK
     · have hk2 := (h3 k hk).2
       unfold ovr at hk2
       rw [zao] at hk2
       have := hk2 i h
       rw [decide_eq_true hb.1, decide_eq_true hb.2] at this
       cases this
 · intro g
   refine ⟨fun k hk => ?_, g.len, fun t ht => ?_⟩
   · unfold badI
     rw [g.op k hk]
     simp only [Bool.not_true, Bool.false_or]
     unfold ovr
     rw [zao]
     intro i hi
     have ht := zeo (g.op k hk)
     by_cases h3 : (l.getD i O0).1 = 3
     · have := g.last i k hi hk h3
       have : ¬ (l.getD i O0).2.1 = (((l.getD k O0).2.1.toNat : Nat) : Int) := by omega
       rw [decide_eq_false this, Bool.false_and]
     · rw [decide_eq_false h3, Bool.and_false]
   · rw [Bool.eq_iff_iff]
     unfold sen ovr
     rw [za9, za9]
     constructor
     · rintro ⟨k, hk, h⟩
       have h := of_decide_eq_true h
       by_cases h3 : (l.getD k O0).1 = 3
       · exact ⟨k, hk, by rw [decide_eq_true h, decide_eq_true h3]; rfl⟩
       · obtain ⟨j, q1, q2, q3, q4⟩ := g.ends k hk h3
         exact ⟨j, q2, by rw [decide_eq_true (q3.trans h), decide_eq_true q4]; rfl⟩
     · rintro ⟨k, hk, h⟩
       simp only [Bool.and_eq_true, decide_eq_true_eq] at h
       exact ⟨k, hk, decide_eq_true h.1⟩
open Classical in
theorem zbl {l : List Op3} (hk : ∀ o ∈ l, o.2.2.length <= 1000000) (hl : l.length <= 1000000) : spec_GoodOps l = some (decide (GO l)) := by
 rw [zd4 hk hl]
 congr 1
 rw [Bool.eq_iff_iff, decide_eq_true_eq]
 exact zjt l
open Classical in
theorem zaR {l : List Op3} (hl : l.length <= 1000000) : impl_areOps l = some (decide (GO l)) := by
 rw [zdS hl]
 congr 1
 rw [Bool.eq_iff_iff, decide_eq_true_eq]
 exact zjv l
abbrev Sp := Int × Tx × Int × Int × Bool
def sameB (l : List Op3) (i j : Nat) : Bool := decide ((l.getD i O0).2.1 = (l.getD j O0).2.1) && decide ((l.getD i O0).2.2 = (l.getD j O0).2.2)
def hit (l : List Op3) (j i : Nat) : Bool := !decide ((l.getD j O0).1 = 3) && sameB l j i
def isF (l : List Op3) (i : Nat) : Bool := !decide ((l.getD i O0).1 = 3) && !((List.range i).any fun j => hit l j i)
def fs (l : List Op3) (k : Nat) : List Nat := (List.range k).filter (isF l)
def BO (l : List Op3) : Prop := ∀ o ∈ l, o.2.2.length <= 100
theorem zfi {l : List Op3} (h : BO l) {o : Op3} (ho : o.2.2.length <= 100) : BO (l ++ [o]) := by
 intro x hx
 rcases List.mem_append.1 hx with hx | hx
 · exact h x hx
 · simp only [List.mem_singleton] at hx
   subst hx; exact ho
theorem zjH {l : List Op3} (h : BO l) (k : Nat) : (l.getD k O0).2.2.length <= 100 := by
 by_cases hk : k < l.length
 · exact h _ (zaC hk O0)
 · rw [List.getD_eq_getElem?_getD, List.getElem?_eq_none (by omega)]; simp
theorem zie {l : List Op3} (hl : l.length <= 1000000) (t : Int) : Ok (spec_l3Commit l t) (fun r => -1 <= r /\ r < l.length) := by
 unfold spec_l3Commit
 dsimp only
 refine Ok.bind (P := fun x : Unit ⊕ Int => match x with | .inl _ => True | .inr r => -1 <= r /\ r < l.length) ?_ fun x hx => ?_
 · refine zam (fun i : Int => 0 <= i /\ i <= l.length) (fun i => (l.length - i).toNat) ?_ ⟨by omega, by omega⟩
   rintro i ⟨g1, g2⟩
   refine Ok.ited (fun hc => ?_) fun hc => Ok.ret trivial
   rw [zac (x := i + 1) (by omega) (by omega)]
   (repeat' (first | (with_reducible refine Ok.bc ?_ ?_; (· exact (by first | rfl | (simp only [Tc]; omega)))) | (with_reducible refine Ok.chk ?_ ?_; (· exact (by first | rfl | (simp only [Tc]; omega))))))
   refine Ok.ite (fun _ => Ok.ret ⟨by omega, by omega⟩) fun _ => Ok.ret ⟨⟨by omega, by omega⟩, by omega⟩
 · rcases x with y | y
   · exact Ok.ret ⟨by omega, by omega⟩
   · exact Ok.ret hx
theorem ziS {a : List Int} (hb : Byt a) : Ok (spec_l1Cur_ops a 0 0) (fun r => 0 <= r.1 /\ r.1 <= 2000 /\ r.2.2.length <= 120 /\ BO r.2.2) := by
 unfold spec_l1Cur_ops
 refine Ok.bind (zc1 hb (by omega) (by omega) _) fun r0 q0 => ?_
 refine Ok.bind (zc1 hb (by omega) (by omega) _) fun r1 q1 => ?_
 refine Ok.bind (zeT hb (by omega) (by omega) _) fun r2 q2 => ?_
 refine Ok.bind (P := fun n : Int => 0 <= n /\ n <= 50) ?_ fun n hn => ?_
 · refine Ok.ite (fun _ => Ok.ret (by omega)) fun _ => Ok.ret (by omega)
 refine Ok.bind (P := fun s : Int × Int × List Op3 => 0 <= s.1 /\ s.1 <= 1000 /\ s.2.2.length <= 50 /\ BO s.2.2) ?_ fun s14 h14 => ?_
 · refine Ok.bind (P := fun s : Int × Int × List Op3 => 0 <= s.1 /\ s.1 <= 1000 /\ s.2.2.length <= 50 /\ BO s.2.2) ?_ fun s hs => Ok.ret hs
   refine zam (fun s : Int × Int × List Op3 × Int => 0 <= s.1 /\ s.1 <= 100 + 15 * (50 - s.2.2.2) /\ (s.2.2.1.length : Int) + s.2.2.2 <= 50 /\ 0 <= s.2.2.2 /\ BO s.2.2.1) (fun s => s.2.2.2.toNat) ?_ ⟨by dsimp only; omega, by dsimp only; omega, by dsimp only; simp; omega, by dsimp only; omega, by intro x hx; simp at hx⟩
   rintro ⟨p, h, l, m⟩ ⟨g1, g2, g3, g4, g5⟩
   dsimp only at g1 g2 g3 g4 g5 ⊢
   refine Ok.ited (fun hc => ?_) fun hc => Ok.ret ⟨g1, by dsimp only; omega, by dsimp only; omega, g5⟩
   rw [zac (x := m - 1) (by omega) (by omega)]
   refine Ok.bind (P := fun s : Int × Int × List Op3 => 0 <= s.1 /\ s.1 <= p + 15 /\ s.2.2.length = l.length + 1 /\ BO s.2.2) ?_ fun s hs => ?_
   · refine Ok.bind (zc1 hb (by omega) (by omega) _) fun r5 q5 => ?_
     refine Ok.bind (zc1 hb (by omega) (by omega) _) fun r6 q6 => ?_
     refine Ok.bind (zjy hb (by omega) (by omega)) fun r7 q7 => ?_
     refine Ok.bind (zeT hb (by omega) (by omega) _) fun r8 q8 => ?_
     refine Ok.bind (P := fun y : Tx => y.length <= 100) ?_ fun y hy => ?_
     · refine Ok.ite (fun _ => Ok.ret (by simp)) fun _ => Ok.ret (by omega)
     refine Ok.chk (zbz (by simp only [List.length_append, List.length_cons, List.length_nil]; omega)) ?_
     exact Ok.ret ⟨by dsimp only; omega, by dsimp only; omega, by simp, zfi g5 hy⟩
   · exact Ok.ret ⟨⟨hs.1, by dsimp only; omega, by dsimp only; omega, by dsimp only; omega, hs.2.2.2⟩, by dsimp only; omega⟩
 obtain ⟨p0, h0, l⟩ := s14
 obtain ⟨u1, u2, u3, u4⟩ := h14
 dsimp only at u1 u2 u3 u4 ⊢
 refine Ok.bind (P := fun s : Int × Int × List Op3 => 0 <= s.1 /\ s.1 <= 1500 /\ s.2.2.length <= 100 /\ BO s.2.2) ?_ fun s34 h34 => ?_
 · refine Ok.bind (P := fun s : Int × Int × List Op3 => 0 <= s.1 /\ s.1 <= 1500 /\ s.2.2.length <= 100 /\ BO s.2.2) ?_ fun s hs => Ok.ret hs
   refine zam (fun s : Int × Int × List Op3 × Int => 0 <= s.1 /\ s.1 <= 1000 + 5 * s.2.2.2 /\ (s.2.2.1.length : Int) <= 2 * s.2.2.2 /\ 0 <= s.2.2.2 /\ s.2.2.2 <= l.length /\ BO s.2.2.1) (fun s => (l.length - s.2.2.2).toNat) ?_ ⟨by dsimp only; omega, by dsimp only; omega, by dsimp only; simp, by dsimp only; omega, by dsimp only; omega, by intro x hx; simp at hx⟩
   rintro ⟨p, h, o, i⟩ ⟨g1, g2, g3, g4, g5, g6⟩
   dsimp only at g1 g2 g3 g4 g5 g6 ⊢
   refine Ok.ited (fun hc => ?_) fun hc => Ok.ret ⟨g1, by dsimp only; omega, by dsimp only; omega, g6⟩
   rw [zac (x := i + 1) (by omega) (by omega)]
   refine Ok.bind (P := fun s : Int × Int × List Op3 => 0 <= s.1 /\ s.1 <= p + 5 /\ s.2.2.length <= o.length + 2 /\ BO s.2.2) ?_ fun s hs => ?_
   · refine Ok.chk (by simp only [Bool.and_eq_true, decide_eq_true_eq]; omega) ?_
     refine Ok.chk (zbz (by simp only [List.length_append, List.length_cons, List.length_nil]; omega)) ?_
     refine Ok.chk (by simp only [Bool.and_eq_true, decide_eq_true_eq]; omega) ?_
     refine Ok.bind (P := fun _ => True) ?_ fun s24 _ => ?_
     · refine Ok.bind (P := fun _ => True) ?_ fun s _ => Ok.ret trivial
       refine zam (fun s : Bool × Int => 0 <= s.2 /\ s.2 <= l.length) (fun s => (l.length - s.2).toNat) ?_ ⟨by dsimp only; omega, by dsimp only; omega⟩
       rintro ⟨bb, j⟩ ⟨e1, e2⟩
       dsimp only at e1 e2 ⊢
       refine Ok.ited (fun hj => ?_) fun hj => Ok.ret trivial
       rw [zac (x := j + 1) (by omega) (by omega)]
       refine Ok.bind (P := fun _ => True) ?_ fun s _ => Ok.ret ⟨⟨by dsimp only; omega, by dsimp only; omega⟩, by dsimp only; omega⟩
       refine Ok.chk (by simp only [Bool.and_eq_true, decide_eq_true_eq]; omega) ?_
       refine Ok.chk (by simp only [Bool.and_eq_true, decide_eq_true_eq]; omega) ?_
       exact Ok.ret trivial
     refine Ok.bind (P := fun r : Int × Int × Bool => s24 = false -> 0 <= r.1 /\ r.1 <= p + 5) ?_ fun r25 q25 => ?_
     · cases s24 with
       | true => exact Ok.ret fun h => by cases h
       | false =>
         simp only [Bool.not_false, if_true]
         exact (zeT hb (by omega) (by omega) _).mono fun r hr _ => by omega
     have hp : 0 <= (if (!s24) = true then r25.1 else p) /\ (if (!s24) = true then r25.1 else p) <= p + 5 := by
      cases s24 with
      | true => simp; omega
      | false => simpa using q25 rfl
     refine Ok.bind (P := fun s : List Op3 => s.length <= o.length + 2 /\ BO s) ?_ fun s hs => Ok.ret ⟨hp.1, hp.2, hs.1, hs.2⟩
     have hbo : BO (o ++ [((l.getD i.toNat (0, (0, []))).1, ((l.getD i.toNat (0, (0, []))).2.1, (l.getD i.toNat (0, (0, []))).2.2))]) := zfi g6 (zjH u4 _)
     refine Ok.ite (fun _ => ?_) fun _ => Ok.ret ⟨by simp, hbo⟩
     refine Ok.chk (zbz (by simp only [List.length_append, List.length_cons, List.length_nil]; omega)) ?_
     exact Ok.ret ⟨by simp, zfi hbo (by simp)⟩
   · exact Ok.ret ⟨⟨hs.1, by dsimp only; omega, by dsimp only; omega, by dsimp only; omega, by dsimp only; omega, hs.2.2.2⟩, by dsimp only; omega⟩
 obtain ⟨p3, h3, l3⟩ := s34
 obtain ⟨w1, w2, w3, w4⟩ := h34
 dsimp only at w1 w2 w3 w4 ⊢
 rw [zac (x := 1 + r0.2.2) (by omega) (by omega)]
 refine Ok.bind (P := fun s : Int × Int × List Op3 => 0 <= s.1 /\ s.1 <= 2000 /\ s.2.2.length <= 120 /\ BO s.2.2) ?_ fun s hs => Ok.ret hs
 refine Ok.bind (P := fun s : Int × Int × List Op3 => 0 <= s.1 /\ s.1 <= 2000 /\ s.2.2.length <= 120 /\ BO s.2.2) ?_ fun s hs => Ok.ret hs
 refine zam (fun s : Int × Int × List Op3 × Int => 0 <= s.1 /\ s.1 <= 1500 + 5 * s.2.2.2 /\ (s.2.2.1.length : Int) <= 100 + s.2.2.2 /\ 1 <= s.2.2.2 /\ s.2.2.2 <= 6 /\ BO s.2.2.1) (fun s => (10 - s.2.2.2).toNat) ?_ ⟨by dsimp only; omega, by dsimp only; omega, by dsimp only; omega, by dsimp only; omega, by dsimp only; omega, w4⟩
 rintro ⟨p, h, o, t⟩ ⟨g1, g2, g3, g4, g5, g6⟩
 dsimp only at g1 g2 g3 g4 g5 g6 ⊢
 refine Ok.ited (fun hc => ?_) fun hc => Ok.ret ⟨g1, by dsimp only; omega, by dsimp only; omega, g6⟩
 rw [zac (x := t + 1) (by omega) (by omega)]
 refine Ok.bind (P := fun s : Int × Int × List Op3 => 0 <= s.1 /\ s.1 <= p + 5 /\ s.2.2.length <= o.length + 1 /\ BO s.2.2) ?_ fun s hs => ?_
 · refine Ok.bind (zie (by omega) t) fun r36 q36 => ?_
   refine Ok.bind (P := fun r : Int × Int × Bool => r36 < 0 -> 0 <= r.1 /\ r.1 <= p + 5) ?_ fun r37 q37 => ?_
   · refine Ok.ited (fun _ => (zeT hb (by omega) (by omega) _).mono fun r hr _ => by omega) fun hh => Ok.ret fun h => absurd h hh
   have hp : 0 <= (if decide (r36 < 0) = true then r37.1 else p) /\ (if decide (r36 < 0) = true then r37.1 else p) <= p + 5 := by
    by_cases c : r36 < 0
    · rw [if_pos (zbz c)]; exact q37 c
    · rw [if_neg (by simpa using c)]; omega
   refine Ok.bind (P := fun s : List Op3 => s.length <= o.length + 1 /\ BO s) ?_ fun s hs => Ok.ret ⟨hp.1, hp.2, hs.1, hs.2⟩
   refine Ok.ite (fun _ => ?_) fun _ => Ok.ret ⟨by omega, g6⟩
   refine Ok.chk (zbz (by simp only [List.length_append, List.length_cons, List.length_nil]; omega)) ?_
   exact Ok.ret ⟨by simp, zfi g6 (by simp)⟩
 · exact Ok.ret ⟨⟨hs.1, by dsimp only; omega, by dsimp only; omega, by dsimp only; omega, by dsimp only; omega, hs.2.2.2⟩, by dsimp only; omega⟩
noncomputable def spec_DrawGoodOps (a0 : List (Int)) : Option (List ((Int) × (Int) × List UInt8)) :=
 (spec_l1Cur_ops a0 (0 : Int) (0 : Int)).bind fun r0 =>
 some r0.2.2
noncomputable def spec_DrawRecoverableOf (a0 : List (Int)) : Option (List ((Int) × (Int) × List UInt8)) :=
 (spec_DrawGoodOps a0).bind fun r0 =>
 some r0
noncomputable def impl_writerAt (a0 : List ((Int) × (Int) × List UInt8)) (a1 : Int) : Option (Int) :=
 let j0 : Unit -> Option _ := fun s1 =>
 (some (0 : Int))
 (loopM (σ := Int) (X := (Unit) ⊕ (Int)) (fun s2 =>
 (if (decide ((0 : Int) <= s2)) then
 (let j3 : Unit -> Option _ := fun s4 =>
 (some (.inl (i64 (s2 - (1 : Int)))))
 chk ((decide ((0 : Int) <= s2)) && (decide (s2 < ((a0.length : Nat) : Int)))) <|
 chk (!(decide ((a0.getD (Int.toNat s2) (0, (0, []))).1 = (2 : Int))) || ((decide ((0 : Int) <= s2)) && (decide (s2 < ((a0.length : Nat) : Int))))) <|
 chk (!(decide ((a0.getD (Int.toNat s2) (0, (0, []))).1 = (2 : Int))) || ((decide ((0 : Int) <= a1)) && (decide (a1 < ((a0.length : Nat) : Int))))) <|
 let v5 : Bool := (if (decide ((a0.getD (Int.toNat s2) (0, (0, []))).1 = (2 : Int))) then (decide ((a0.getD (Int.toNat s2) (0, (0, []))).2.2 = (a0.getD (Int.toNat a1) (0, (0, []))).2.2)) else false)
 if v5 then
 (chk ((decide ((0 : Int) <= s2)) && (decide (s2 < ((a0.length : Nat) : Int)))) <|
 some (.inr (.inr (a0.getD (Int.toNat s2) (0, (0, []))).2.1)))
 else
 j3 ())
 else
 some (.inr (.inl ())))) (i64 (a1 - (1 : Int)))).bind fun x6 =>
 sumE x6 (fun y7 =>
 j0 ()) (fun z8 =>
 some z8)
noncomputable def impl_RecoverableOf (a0 : List ((Int) × (Int) × List UInt8)) : Option (Bool × Bool × Bool × Bool) :=
 (impl_areOps a0).bind fun r0 =>
 if (!r0) then
 (some (false, false, false, false))
 else
 ((loopM (σ := (List ((Int) × Int)) × Int) (X := List ((Int) × Int)) (fun s1 =>
 (if (decide (s1.2 < ((a0.length : Nat) : Int))) then
 ((chk ((decide ((0 : Int) <= s1.2)) && (decide (s1.2 < ((a0.length : Nat) : Int)))) <|
 let v2 : (Int) × (Int) × List UInt8 := (a0.getD (Int.toNat s1.2) (0, (0, [])))
 (if (decide (v2.1 = (3 : Int))) then
 (let v3 : List ((Int) × Int) := (mset s1.1 v2.2.1 s1.2)
 some v3 : Option (List ((Int) × Int)))
 else
 (some s1.1)).bind fun s4 =>
 some s4 : Option (List ((Int) × Int))).bind fun s5 =>
 some (.inl (s5, (i64 (s1.2 + (1 : Int))))))
 else
 some (.inr s1.1))) (([] : List ((Int) × Int)), (0 : Int))).bind fun x6 =>
 some x6 : Option (List ((Int) × Int))).bind fun s7 =>
 ((loopM (σ := Bool × Bool × Bool × Int) (X := Bool × Bool × Bool) (fun s8 =>
 (if (decide (s8.2.2.2 < ((a0.length : Nat) : Int))) then
 ((chk ((decide ((0 : Int) <= s8.2.2.2)) && (decide (s8.2.2.2 < ((a0.length : Nat) : Int)))) <|
 let v9 : (Int) × (Int) × List UInt8 := (a0.getD (Int.toNat s8.2.2.2) (0, (0, [])))
 (impl_writerAt a0 s8.2.2.2).bind fun r10 =>
 let v11 : Bool := (if (decide (v9.1 = (3 : Int))) then true else (decide (r10 = (0 : Int))))
 let v12 : Bool := (if v11 then true else (decide (r10 = v9.2.1)))
 if v12 then
 (some (s8.1, s8.2.1, s8.2.2.1))
 else
 let v13 : Bool := (if s8.2.2.1 then (!(decide (s8.2.2.2 < (mget s7 r10 (0 : Int))))) else false)
 (if (decide (v9.1 = (1 : Int))) then
 (let v14 : Bool := (if s8.1 then (decide ((mget s7 r10 (0 : Int)) < (mget s7 v9.2.1 (0 : Int)))) else false)
 let v15 : Bool := (if s8.2.1 then (!(decide (s8.2.2.2 < (mget s7 r10 (0 : Int))))) else false)
 some (v14, v15) : Option (Bool × Bool))
 else
 (some (s8.1, s8.2.1))).bind fun s16 =>
 some (s16.1, s16.2, v13) : Option (Bool × Bool × Bool)).bind fun s17 =>
 some (.inl (s17.1, s17.2.1, s17.2.2, (i64 (s8.2.2.2 + (1 : Int))))))
 else
 some (.inr (s8.1, s8.2.1, s8.2.2.1)))) (true, true, true, (0 : Int))).bind fun x18 =>
 some (x18.1, x18.2.1, x18.2.2) : Option (Bool × Bool × Bool)).bind fun s19 =>
 some (s19.1, s19.2.1, s19.2.2, true)
noncomputable def spec_l3Last (a0 : List ((Int) × (Int) × List UInt8)) (a1 : Int) (a2 : List UInt8) : Option (Int × Int) :=
 let j0 : Unit -> Option _ := fun s1 =>
 (some ((0 : Int), (-1 : Int)))
 (loopM (σ := Int) (X := (Unit) ⊕ (Int × Int)) (fun s2 =>
 (if (decide ((0 : Int) <= s2)) then
 (let j3 : Unit -> Option _ := fun s4 =>
 (some (.inl (i64 (s2 - (1 : Int)))))
 chk ((decide ((0 : Int) <= s2)) && (decide (s2 < ((a0.length : Nat) : Int)))) <|
 chk (!(decide ((a0.getD (Int.toNat s2) (0, (0, []))).1 = (2 : Int))) || ((decide ((0 : Int) <= s2)) && (decide (s2 < ((a0.length : Nat) : Int))))) <|
 let v5 : Bool := (if (decide ((a0.getD (Int.toNat s2) (0, (0, []))).1 = (2 : Int))) then (decide ((a0.getD (Int.toNat s2) (0, (0, []))).2.2 = a2)) else false)
 if v5 then
 (chk ((decide ((0 : Int) <= s2)) && (decide (s2 < ((a0.length : Nat) : Int)))) <|
 some (.inr (.inr ((a0.getD (Int.toNat s2) (0, (0, []))).2.1, s2))))
 else
 j3 ())
 else
 some (.inr (.inl ())))) (i64 (a1 - (1 : Int)))).bind fun x6 =>
 sumE x6 (fun y7 =>
 j0 ()) (fun z8 =>
 some (z8.1, z8.2))
noncomputable def spec_RecoverableOf (a0 : List ((Int) × (Int) × List UInt8)) : Option (Bool × Bool × Bool × Bool) :=
 (spec_GoodOps a0).bind fun r0 =>
 if (!r0) then
 (some (false, false, false, false))
 else
 ((loopM (σ := Bool × Bool × Bool × Int) (X := Bool × Bool × Bool) (fun s1 =>
 (if (decide (s1.2.2.2 < ((a0.length : Nat) : Int))) then
 ((chk ((decide ((0 : Int) <= s1.2.2.2)) && (decide (s1.2.2.2 < ((a0.length : Nat) : Int)))) <|
 let v2 : (Int) × (Int) × List UInt8 := (a0.getD (Int.toNat s1.2.2.2) (0, (0, [])))
 (spec_l3Last a0 s1.2.2.2 v2.2.2).bind fun r3 =>
 let v4 : Bool := (if (decide (v2.1 = (3 : Int))) then true else (decide (r3.1 = (0 : Int))))
 let v5 : Bool := (if v4 then true else (decide (r3.1 = v2.2.1)))
 if v5 then
 (some (s1.1, s1.2.1, s1.2.2.1))
 else
 (spec_l3Commit a0 r3.1).bind fun r6 =>
 let v7 : Bool := (if s1.2.2.1 then (decide (r6 < s1.2.2.2)) else false)
 (if (decide (v2.1 = (1 : Int))) then
 (let v8 : Bool := (if s1.2.1 then (decide (r6 < s1.2.2.2)) else false)
 (if s1.1 then spec_l3Commit a0 r3.1 else some 0).bind fun r9 =>
 (if s1.1 then spec_l3Commit a0 v2.2.1 else some 0).bind fun r10 =>
 let v11 : Bool := (if s1.1 then (decide (r9 < r10)) else false)
 some (v11, v8) : Option (Bool × Bool))
 else
 (some (s1.1, s1.2.1))).bind fun s12 =>
 some (s12.1, s12.2, v7) : Option (Bool × Bool × Bool)).bind fun s13 =>
 some (.inl (s13.1, s13.2.1, s13.2.2, (i64 (s1.2.2.2 + (1 : Int))))))
 else
 some (.inr (s1.1, s1.2.1, s1.2.2.1)))) (true, true, true, (0 : Int))).bind fun x14 =>
 some (x14.1, x14.2.1, x14.2.2) : Option (Bool × Bool × Bool)).bind fun s15 =>
 some (s15.1, s15.2.1, s15.2.2, true)
noncomputable def impl_ReadsFrom (a0 : List ((Int) × (Int) × List UInt8)) : Option ((List ((Int) × Int)) × Bool) :=
 (impl_areOps a0).bind fun r0 =>
 if (!r0) then
 (some (([] : List ((Int) × Int)), false))
 else
 ((loopM (σ := (List ((Int) × Int)) × Int) (X := List ((Int) × Int)) (fun s1 =>
 (if (decide (s1.2 < ((a0.length : Nat) : Int))) then
 ((chk ((decide ((0 : Int) <= s1.2)) && (decide (s1.2 < ((a0.length : Nat) : Int)))) <|
 let v2 : (Int) × (Int) × List UInt8 := (a0.getD (Int.toNat s1.2) (0, (0, [])))
 (if (decide (v2.1 = (1 : Int))) then
 ((impl_writerAt a0 s1.2).bind fun r3 =>
 let v4 : List ((Int) × Int) := ((r3, v2.2.1) :: ([] : List ((Int) × Int)))
 let v5 : List ((Int) × Int) := (s1.1 ++ v4)
 chk (decide (((v5.length : Nat) : Int) <= (8796093022208 : Int))) <|
 some v5 : Option (List ((Int) × Int)))
 else
 (some s1.1)).bind fun s6 =>
 some s6 : Option (List ((Int) × Int))).bind fun s7 =>
 some (.inl (s7, (i64 (s1.2 + (1 : Int))))))
 else
 some (.inr s1.1))) (([] : List ((Int) × Int)), (0 : Int))).bind fun x8 =>
 some x8 : Option (List ((Int) × Int))).bind fun s9 =>
 some (s9, true)
noncomputable def spec_ReadsFrom (a0 : List ((Int) × (Int) × List UInt8)) : Option ((List ((Int) × Int)) × Bool) :=
 (spec_GoodOps a0).bind fun r0 =>
 if (!r0) then
 (some (([] : List ((Int) × Int)), false))
 else
 ((loopM (σ := (List ((Int) × Int)) × Int) (X := List ((Int) × Int)) (fun s1 =>
 (if (decide (s1.2 < ((a0.length : Nat) : Int))) then
 ((chk ((decide ((0 : Int) <= s1.2)) && (decide (s1.2 < ((a0.length : Nat) : Int)))) <|
 let v2 : (Int) × (Int) × List UInt8 := (a0.getD (Int.toNat s1.2) (0, (0, [])))
 (if (decide (v2.1 = (1 : Int))) then
 ((spec_l3Last a0 s1.2 v2.2.2).bind fun r3 =>
 let v4 : List ((Int) × Int) := ((r3.1, v2.2.1) :: ([] : List ((Int) × Int)))
 let v5 : List ((Int) × Int) := (s1.1 ++ v4)
 chk (decide (((v5.length : Nat) : Int) <= (8796093022208 : Int))) <|
 some v5 : Option (List ((Int) × Int)))
 else
 (some s1.1)).bind fun s6 =>
 some s6 : Option (List ((Int) × Int))).bind fun s7 =>
 some (.inl (s7, (i64 (s1.2 + (1 : Int))))))
 else
 some (.inr s1.1))) (([] : List ((Int) × Int)), (0 : Int))).bind fun x8 =>
 some x8 : Option (List ((Int) × Int))).bind fun s9 =>
 some (s9, true)
noncomputable def spec_l3Txns (a0 : List ((Int) × (Int) × List UInt8)) : Option (List (Int)) :=
 ((loopM (σ := (List (Int)) × Int) (X := List (Int)) (fun s0 =>
 (if (decide (s0.2 <= (8 : Int))) then
 ((((loopM (σ := Int) (X := List (Int)) (fun s1 =>
 (if (decide (s1 < ((a0.length : Nat) : Int))) then
 (let j2 : Unit -> Option _ := fun s3 =>
 (some (.inl (i64 (s1 + (1 : Int)))))
 chk ((decide ((0 : Int) <= s1)) && (decide (s1 < ((a0.length : Nat) : Int)))) <|
 let v4 : (Int) × (Int) × List UInt8 := (a0.getD (Int.toNat s1) (0, (0, [])))
 if (decide (v4.2.1 = s0.2)) then
 (let v5 : List (Int) := (s0.2 :: ([] : List (Int)))
 let v6 : List (Int) := (s0.1 ++ v5)
 chk (decide (((v6.length : Nat) : Int) <= (17592186044416 : Int))) <|
 some (.inr v6))
 else
 j2 ())
 else
 some (.inr s0.1))) (0 : Int)).bind fun x7 =>
 some x7 : Option (List (Int))).bind fun s8 =>
 some s8 : Option (List (Int))).bind fun s9 =>
 some (.inl (s9, (i64 (s0.2 + (1 : Int))))))
 else
 some (.inr s0.1))) (([] : List (Int)), (1 : Int))).bind fun x10 =>
 some x10 : Option (List (Int))).bind fun s11 =>
 some s11
noncomputable def spec_DrawSerialOps (a0 : List (Int)) : Option ((List ((Int) × (Int) × List UInt8)) × List (Int)) :=
 (spec_l1Cur_ops a0 (0 : Int) (0 : Int)).bind fun r0 =>
 (spec_l3Txns r0.2.2).bind fun r1 =>
 ((loopM (σ := Int × Int × (List (Int)) × Int) (X := Int × Int × List (Int)) (fun s2 =>
 (if (decide ((0 : Int) < s2.2.2.2)) then
 (((spec_l1Cur_pick a0 s2.1 s2.2.1 (i64 (s2.2.2.2 + (1 : Int)))).bind fun r3 =>
 chk ((decide ((0 : Int) <= s2.2.2.2)) && (decide (s2.2.2.2 < ((s2.2.2.1.length : Nat) : Int)))) <|
 chk ((decide ((0 : Int) <= r3.2.2)) && (decide (r3.2.2 < ((s2.2.2.1.length : Nat) : Int)))) <|
 chk ((decide ((0 : Int) <= s2.2.2.2)) && (decide (s2.2.2.2 < ((s2.2.2.1.length : Nat) : Int)))) <|
 let v4 : List (Int) := (s2.2.2.1.set (Int.toNat s2.2.2.2) (s2.2.2.1.getD (Int.toNat r3.2.2) 0))
 chk ((decide ((0 : Int) <= r3.2.2)) && (decide (r3.2.2 < ((v4.length : Nat) : Int)))) <|
 let v5 : List (Int) := (v4.set (Int.toNat r3.2.2) (s2.2.2.1.getD (Int.toNat s2.2.2.2) 0))
 some (r3.1, r3.2.1, v5) : Option (Int × Int × List (Int))).bind fun s6 =>
 some (.inl (s6.1, s6.2.1, s6.2.2, (i64 (s2.2.2.2 - (1 : Int))))))
 else
 some (.inr (s2.1, s2.2.1, s2.2.2.1)))) (r0.1, r0.2.1, r1, (i64 (((r1.length : Nat) : Int) - (1 : Int))))).bind fun x7 =>
 some (x7.1, x7.2.1, x7.2.2) : Option (Int × Int × List (Int))).bind fun s8 =>
 (spec_l1Cur_one a0 s8.1 s8.2.1 (20 : Int)).bind fun r9 =>
 (if r9.2.2 then
 (let v10 : List (Int) := ((1 : Int) :: ([] : List (Int)))
 let v11 : List (Int) := (s8.2.2 ++ v10)
 chk (decide (((v11.length : Nat) : Int) <= (17592186044416 : Int))) <|
 some v11 : Option (List (Int)))
 else
 (some s8.2.2)).bind fun s12 =>
 some (r0.2.2, s12)
noncomputable def impl_SerialOps (a0 : List ((Int) × (Int) × List UInt8)) (a1 : List (Int)) : Option ((List ((Int) × (Int) × List UInt8)) × Bool) :=
 (impl_areOps a0).bind fun r0 =>
 if (!r0) then
 (some (([] : List ((Int) × (Int) × List UInt8)), false))
 else
 let v1 : List (Int) := (([] : List (Int)) ++ a1)
 chk (decide (((v1.length : Nat) : Int) <= (17592186044416 : Int))) <|
 (slices_Sort__int_int v1).bind fun r2 =>
 (impl_txnsOf a0).bind fun r3 =>
 (slices_Equal__int_int r2 r3).bind fun r4 =>
 if (!r4) then
 (some (([] : List ((Int) × (Int) × List UInt8)), false))
 else
 ((loopM (σ := (List ((Int) × (Int) × List UInt8)) × Int) (X := List ((Int) × (Int) × List UInt8)) (fun s5 =>
 (if (decide (s5.2 < ((a1.length : Nat) : Int))) then
 ((chk ((decide ((0 : Int) <= s5.2)) && (decide (s5.2 < ((a1.length : Nat) : Int)))) <|
 ((loopM (σ := (List ((Int) × (Int) × List UInt8)) × Int) (X := List ((Int) × (Int) × List UInt8)) (fun s6 =>
 (if (decide (s6.2 < ((a0.length : Nat) : Int))) then
 ((chk ((decide ((0 : Int) <= s6.2)) && (decide (s6.2 < ((a0.length : Nat) : Int)))) <|
 let v7 : (Int) × (Int) × List UInt8 := (a0.getD (Int.toNat s6.2) (0, (0, [])))
 (if (decide (v7.2.1 = (a1.getD (Int.toNat s5.2) 0))) then
 (let v8 : List ((Int) × (Int) × List UInt8) := ((v7.1, (v7.2.1, v7.2.2)) :: ([] : List ((Int) × (Int) × List UInt8)))
 let v9 : List ((Int) × (Int) × List UInt8) := (s6.1 ++ v8)
 chk (decide (((v9.length : Nat) : Int) <= (4398046511104 : Int))) <|
 some v9 : Option (List ((Int) × (Int) × List UInt8)))
 else
 (some s6.1)).bind fun s10 =>
 some s10 : Option (List ((Int) × (Int) × List UInt8))).bind fun s11 =>
 some (.inl (s11, (i64 (s6.2 + (1 : Int))))))
 else
 some (.inr s6.1))) (s5.1, (0 : Int))).bind fun x12 =>
 some x12 : Option (List ((Int) × (Int) × List UInt8))).bind fun s13 =>
 some s13 : Option (List ((Int) × (Int) × List UInt8))).bind fun s14 =>
 some (.inl (s14, (i64 (s5.2 + (1 : Int))))))
 else
 some (.inr s5.1))) (([] : List ((Int) × (Int) × List UInt8)), (0 : Int))).bind fun x15 =>
 some x15 : Option (List ((Int) × (Int) × List UInt8))).bind fun s16 =>
 some (s16, true)
noncomputable def spec_SerialOps (a0 : List ((Int) × (Int) × List UInt8)) (a1 : List (Int)) : Option ((List ((Int) × (Int) × List UInt8)) × Bool) :=
 (spec_l3Txns a0).bind fun r0 =>
 (spec_GoodOps a0).bind fun r1 =>
 let v2 : Bool := (if (!r1) then true else (!decide (((a1.length : Nat) : Int) = ((r0.length : Nat) : Int))))
 if v2 then
 (some (([] : List ((Int) × (Int) × List UInt8)), false))
 else
 let j3 : Unit -> Option _ := fun s4 =>
 (((loopM (σ := (List ((Int) × (Int) × List UInt8)) × Int) (X := List ((Int) × (Int) × List UInt8)) (fun s5 =>
 (if (decide (s5.2 < ((a1.length : Nat) : Int))) then
 ((chk ((decide ((0 : Int) <= s5.2)) && (decide (s5.2 < ((a1.length : Nat) : Int)))) <|
 ((loopM (σ := (List ((Int) × (Int) × List UInt8)) × Int) (X := List ((Int) × (Int) × List UInt8)) (fun s6 =>
 (if (decide (s6.2 < ((a0.length : Nat) : Int))) then
 ((chk ((decide ((0 : Int) <= s6.2)) && (decide (s6.2 < ((a0.length : Nat) : Int)))) <|
 let v7 : (Int) × (Int) × List UInt8 := (a0.getD (Int.toNat s6.2) (0, (0, [])))
 (if (decide (v7.2.1 = (a1.getD (Int.toNat s5.2) 0))) then
 (let v8 : List ((Int) × (Int) × List UInt8) := ((v7.1, (v7.2.1, v7.2.2)) :: ([] : List ((Int) × (Int) × List UInt8)))
 let v9 : List ((Int) × (Int) × List UInt8) := (s6.1 ++ v8)
 chk (decide (((v9.length : Nat) : Int) <= (4398046511104 : Int))) <|
 some v9 : Option (List ((Int) × (Int) × List UInt8)))
 else
 (some s6.1)).bind fun s10 =>
 some s10 : Option (List ((Int) × (Int) × List UInt8))).bind fun s11 =>
 some (.inl (s11, (i64 (s6.2 + (1 : Int))))))
 else
 some (.inr s6.1))) (s5.1, (0 : Int))).bind fun x12 =>
 some x12 : Option (List ((Int) × (Int) × List UInt8))).bind fun s13 =>
 some s13 : Option (List ((Int) × (Int) × List UInt8))).bind fun s14 =>
 some (.inl (s14, (i64 (s5.2 + (1 : Int))))))
 else
 some (.inr s5.1))) (([] : List ((Int) × (Int) × List UInt8)), (0 : Int))).bind fun x15 =>
 some x15 : Option (List ((Int) × (Int) × List UInt8))).bind fun s16 =>
 some (s16, true))
 (loopM (σ := Int) (X := (Unit) ⊕ ((List ((Int) × (Int) × List UInt8)) × Bool)) (fun s17 =>
 (if (decide (s17 < ((a1.length : Nat) : Int))) then
 (let j18 : Unit -> Option _ := fun s19 =>
 (some (.inl (i64 (s17 + (1 : Int)))))
 chk ((decide ((0 : Int) <= s17)) && (decide (s17 < ((a1.length : Nat) : Int)))) <|
 (spec_l1Has r0 (a1.getD (Int.toNat s17) 0)).bind fun r20 =>
 chk (!(!(!r20)) || ((decide ((0 : Int) <= (0 : Int))) && ((decide ((0 : Int) <= s17)) && (decide (s17 <= ((a1.length : Nat) : Int)))))) <|
 (if (!(!r20)) then spec_l1Has ((a1.take (Int.toNat s17)).drop (Int.toNat (0 : Int))) (a1.getD (Int.toNat s17) 0) else some false).bind fun r21 =>
 let v22 : Bool := (if (!r20) then true else r21)
 if v22 then
 (some (.inr (.inr (([] : List ((Int) × (Int) × List UInt8)), false))))
 else
 j18 ())
 else
 some (.inr (.inl ())))) (0 : Int)).bind fun x23 =>
 sumE x23 (fun y24 =>
 j3 ()) (fun z25 =>
 some (z25.1, z25.2))
noncomputable def laws_sameOps (a0 : List ((Int) × (Int) × List UInt8)) (a1 : List ((Int) × (Int) × List UInt8)) : Option (Bool) :=
 if (!decide (((a0.length : Nat) : Int) = ((a1.length : Nat) : Int))) then
 (some false)
 else
 let j0 : Unit -> Option _ := fun s1 =>
 (some true)
 (loopM (σ := Int) (X := (Unit) ⊕ (Bool)) (fun s2 =>
 (if (decide (s2 < ((a0.length : Nat) : Int))) then
 (let j3 : Unit -> Option _ := fun s4 =>
 (some (.inl (i64 (s2 + (1 : Int)))))
 chk ((decide ((0 : Int) <= s2)) && (decide (s2 < ((a0.length : Nat) : Int)))) <|
 let v5 : (Int) × (Int) × List UInt8 := (a0.getD (Int.toNat s2) (0, (0, [])))
 chk ((decide ((0 : Int) <= s2)) && (decide (s2 < ((a1.length : Nat) : Int)))) <|
 let v6 : (Int) × (Int) × List UInt8 := (a1.getD (Int.toNat s2) (0, (0, [])))
 if (!((decide (v5.1 = v6.1)) && ((decide (v5.2.1 = v6.2.1)) && (decide (v5.2.2 = v6.2.2))))) then
 (some (.inr (.inr false)))
 else
 j3 ())
 else
 some (.inr (.inl ())))) (0 : Int)).bind fun x7 =>
 sumE x7 (fun y8 =>
 j0 ()) (fun z9 =>
 some z9)
noncomputable def laws_FnStrict (a0 : List (Int)) (a1 : List (Int)) : Option (Bool) :=
 if (decide ((1048576 : Int) < (i64 (((a0.length : Nat) : Int) + ((a1.length : Nat) : Int))))) then
 (some true)
 else
 (spec_DrawRecoverableOf a0).bind fun r0 =>
 (impl_RecoverableOf r0).bind fun r1 =>
 (spec_RecoverableOf r0).bind fun r2 =>
 (impl_ReadsFrom r0).bind fun r3 =>
 (spec_ReadsFrom r0).bind fun r4 =>
 let v5 : Bool := (if (r1.2.2.2 != r2.2.2.2) then true else (r1.1 != r2.1))
 let v6 : Bool := (if v5 then true else (r1.2.1 != r2.2.1))
 let v7 : Bool := (if v6 then true else (r1.2.2.1 != r2.2.2.1))
 let v8 : Bool := (if v7 then true else (r3.2 != r4.2))
 let v9 : Bool := (if r1.2.2.1 then (!r1.2.1) else false)
 let v10 : Bool := (if v8 then true else v9)
 let v11 : Bool := (if r1.2.1 then (!r1.1) else false)
 let v12 : Bool := (if v10 then true else v11)
 if v12 then
 (some false)
 else
 ((loopM (σ := Int × Int) (X := Int) (fun s13 =>
 (if (decide (s13.2 < ((r0.length : Nat) : Int))) then
 ((chk ((decide ((0 : Int) <= s13.2)) && (decide (s13.2 < ((r0.length : Nat) : Int)))) <|
 let v14 : (Int) × (Int) × List UInt8 := (r0.getD (Int.toNat s13.2) (0, (0, [])))
 (if (decide (v14.1 = (1 : Int))) then
 (some (i64 (s13.1 + (1 : Int))) : Option (Int))
 else
 (some s13.1)).bind fun s15 =>
 some s15 : Option (Int)).bind fun s16 =>
 some (.inl (s16, (i64 (s13.2 + (1 : Int))))))
 else
 some (.inr s13.1))) ((0 : Int), (0 : Int))).bind fun x17 =>
 some x17 : Option (Int)).bind fun s18 =>
 let v19 : Bool := (if r3.2 then (!decide (((r3.1.length : Nat) : Int) = s18)) else false)
 if v19 then
 (some false)
 else
 (spec_DrawSerialOps a1).bind fun r20 =>
 (impl_SerialOps r20.1 r20.2).bind fun r21 =>
 (spec_SerialOps r20.1 r20.2).bind fun r22 =>
 (if (!(r21.2 != r22.2)) then laws_sameOps r21.1 r22.1 else some false).bind fun r23 =>
 let v24 : Bool := (if (r21.2 != r22.2) then true else (!r23))
 if v24 then
 (some false)
 else
 if (!r21.2) then
 (some (decide (((r21.1.length : Nat) : Int) = (0 : Int))))
 else
 (impl_RecoverableOf r21.1).bind fun r25 =>
 (impl_SerialOrder r21.1).bind fun r26 =>
 let v27 : Bool := (if r25.2.2.1 then r25.2.2.2 else false)
 let v28 : Bool := (if v27 then r26.2 else false)
 some v28
def wr (l : List Op3) (y : Tx) : Nat -> Int
 | 0 => 0
 | k + 1 => if decide ((l.getD k O0).1 = 2) && decide ((l.getD k O0).2.2 = y) then (l.getD k O0).2.1 else wr l y k
theorem zes {X A : Type} {f : Int -> Option (Int ⊕ X)} (n : Nat) (p : Nat -> Bool) (g : Nat -> X) (x0 : X) (out : Nat -> A) (a0 : A) (pr : X -> A)
 (hs : ∀ k, k < n -> f (k : Int) = some (if p k then .inr (g k) else .inl ((k : Int) - 1))) (he : f (-1) = some (.inr x0)) (hg : ∀ k, k < n -> p k = true -> pr (g k) = out k) (h0 : pr x0 = a0) :
 ∀ k, k <= n -> ∃ x, loopM f ((k : Int) - 1) = some x /\ pr x = (((List.range k).reverse.find? p).map out).getD a0
 | 0, _ => ⟨x0, by have e : (((0 : Nat) : Int) - 1) = -1 := rfl; rw [e, zay, he], h0⟩
 | k + 1, hk => by
   obtain ⟨x, h1, h2⟩ := zes n p g x0 out a0 pr hs he hg h0 k (by omega)
   have e : (((k + 1 : Nat) : Int) - 1) = (k : Int) := by omega
   rw [e, List.range_succ, List.reverse_append, List.reverse_singleton, List.singleton_append, List.find?_cons]
   rw [zay, hs k (by omega)]
   cases hp : p k with
   | true => exact ⟨g k, rfl, by rw [hg k (by omega) hp]; rfl⟩
   | false => exact ⟨x, h1, h2⟩
theorem zgE (l : List Op3) (y : Tx) : ∀ k, wr l y k = (((List.range k).reverse.find? fun j => decide ((l.getD j O0).1 = 2) && decide ((l.getD j O0).2.2 = y)).map fun j => (l.getD j O0).2.1).getD 0
 | 0 => rfl
 | k + 1 => by
   rw [List.range_succ, List.reverse_append, List.reverse_singleton, List.singleton_append, List.find?_cons]
   show (if _ then _ else _) = _
   cases h : (decide ((l.getD k O0).1 = 2) && decide ((l.getD k O0).2.2 = y)) with
   | true => rfl
   | false => exact zgE l y k
theorem zbN {l : List Op3} (hl : l.length <= 1000000) {i : Nat} (hi : i < l.length) : impl_writerAt l (i : Int) = some (wr l (l.getD i O0).2.2 i) := by
 refine Ok.of_eq ?_
 unfold impl_writerAt
 dsimp only
 have e : i64 ((i : Int) - 1) = (i : Int) - 1 := zac (by omega) (by omega)
 rw [e]
 refine Ok.bind (P := fun x : Unit ⊕ Int => (match x with | .inl _ => (0 : Int) | .inr z => z) = wr l (l.getD i O0).2.2 i) ?_ fun x hx => ?_
 · rw [zgE]
   refine zes l.length (fun k => decide ((l.getD k O0).1 = 2) && decide ((l.getD k O0).2.2 = (l.getD i O0).2.2)) (fun k => .inr (l.getD k O0).2.1) (.inl ()) (fun k => (l.getD k O0).2.1) 0 (fun x : Unit ⊕ Int => match x with | .inl _ => (0 : Int) | .inr z => z) (fun k hk => ?_) (by simp) (fun _ _ _ => rfl) rfl i (by omega)
   have hk1 : (k : Int) < l.length := by omega
   have hk0 : (0 : Int) <= (k : Int) := by omega
   have hi1 : (i : Int) < l.length := by omega
   have hi0 : (0 : Int) <= (i : Int) := by omega
   have ek : i64 ((k : Int) - 1) = (k : Int) - 1 := zac (by omega) (by omega)
   simp only [hk1, hk0, hi1, hi0, decide_true, if_true, Bool.and_self, Bool.or_true, zah, Int.toNat_natCast, ek, ziG]
   split <;> rfl
 · cases x with
   | inl u => exact Ok.ret hx
   | inr z => exact Ok.ret hx
theorem zgA {K V : Type} [DecidableEq K] : ∀ (l : List (K × V)) (k k' : K) (v d : V), mget (mset l k v) k' d = if k = k' then v else mget l k' d
 | [], k, k', v, d => by simp only [mset, mget]
 | p :: l, k, k', v, d => by
   simp only [mset]
   by_cases e : p.1 = k
   · rw [if_pos e]
     simp only [mget]
     by_cases e2 : k = k'
     · rw [if_pos e2, if_pos e2]
     · rw [if_neg e2, if_neg e2, if_neg (by rw [e]; exact e2)]
   · rw [if_neg e]
     simp only [mget]
     by_cases e2 : p.1 = k'
     · rw [if_pos e2, if_pos e2, if_neg (fun h => e (e2.trans h.symm))]
     · rw [if_neg e2, if_neg e2, zgA l k k' v d]
theorem zcv {l : List Op3} (hl : l.length <= 1000000) {i : Nat} (hi : i <= l.length) (y : Tx) : ∃ r, spec_l3Last l (i : Int) y = some r /\ r.1 = wr l y i := by
 have key : Ok (spec_l3Last l (i : Int) y) (fun r => r.1 = wr l y i) := by
  unfold spec_l3Last
  dsimp only
  have e : i64 ((i : Int) - 1) = (i : Int) - 1 := zac (by omega) (by omega)
  rw [e]
  refine Ok.bind (P := fun x : Unit ⊕ (Int × Int) => (match x with | .inl _ => (0 : Int) | .inr z => z.1) = wr l y i) ?_ fun x hx => ?_
  · rw [zgE]
    refine zes l.length (fun k => decide ((l.getD k O0).1 = 2) && decide ((l.getD k O0).2.2 = y)) (fun k => .inr ((l.getD k O0).2.1, (k : Int))) (.inl ()) (fun k => (l.getD k O0).2.1) 0 (fun x : Unit ⊕ (Int × Int) => match x with | .inl _ => (0 : Int) | .inr z => z.1) (fun k hk => ?_) (by simp) (fun _ _ _ => rfl) rfl i hi
    have hk1 : (k : Int) < l.length := by omega
    have hk0 : (0 : Int) <= (k : Int) := by omega
    have ek : i64 ((k : Int) - 1) = (k : Int) - 1 := zac (by omega) (by omega)
    simp only [hk1, hk0, decide_true, if_true, Bool.and_self, Bool.or_true, zah, Int.toNat_natCast, ek, ziG]
    split <;> rfl
  · cases x with
    | inl u => exact Ok.ret hx
    | inr z => exact Ok.ret hx
 exact key
def cm (l : List Op3) (t : Int) : Int := firstIdx l.length fun k => decide ((l.getD k O0).2.1 = t) && decide ((l.getD k O0).1 = 3)
theorem zd8 {l : List Op3} (hl : l.length <= 1000000) (t : Int) : spec_l3Commit l t = some (cm l t) := by
 unfold spec_l3Commit
 dsimp only
 refine zad (zcl (fun k : Nat => (k : Int)) l.length (fun k => decide ((l.getD k O0).2.1 = t) && decide ((l.getD k O0).1 = 3)) rfl (fun k hk => ?_) ?_) (zcj _ _)
 · have hk1 : (k : Int) < l.length := by omega
   have hk0 : (0 : Int) <= (k : Int) := by omega
   have hi : i64 ((k : Int) + 1) = ((k + 1 : Nat) : Int) := by rw [zac (by omega) (by omega)]; rfl
   simp only [hk1, hk0, decide_true, if_true, Bool.and_self, zah, Int.toNat_natCast, ziG, hi]
   split <;> rfl
 · simp
theorem zj3 {l : List Op3} (g : GO l) {k : Nat} (hk : k < l.length) (h3 : (l.getD k O0).1 = 3) : cm l (l.getD k O0).2.1 = k := by
 unfold cm
 rcases firstIdx_cases l.length (fun j => decide ((l.getD j O0).2.1 = (l.getD k O0).2.1) && decide ((l.getD j O0).1 = 3)) with ⟨h, hall⟩ | ⟨j, hj, h, hp⟩
 · have := hall k hk
   rw [decide_eq_true rfl, decide_eq_true h3] at this
   cases this
 · rw [h]
   simp only [Bool.and_eq_true, decide_eq_true_eq] at hp
   rcases Nat.lt_trichotomy j k with c | c | c
   · exact absurd hp.1.symm (g.last j k c hk hp.2)
   · rw [c]
   · exact absurd hp.1 (g.last k j c hj h3)
theorem zhc {l : List Op3} (g : GO l) {i : Nat} (hi : i < l.length) : ∃ k, i <= k /\ k < l.length /\ (l.getD k O0).2.1 = (l.getD i O0).2.1 /\ (l.getD k O0).1 = 3 /\ cm l (l.getD i O0).2.1 = k /\ ((l.getD i O0).1 ≠ 3 -> i < k) := by
 by_cases h3 : (l.getD i O0).1 = 3
 · exact ⟨i, Nat.le_refl _, hi, rfl, h3, zj3 g hi h3, fun h => absurd h3 h⟩
 · obtain ⟨j, j1, j2, j3, j4⟩ := g.ends i hi h3
   exact ⟨j, by omega, j2, j3, j4, by rw [<- j3]; exact zj3 g j2 j4, fun _ => j1⟩
def mcs (l : List Op3) : Nat -> List (Int × Int)
 | 0 => []
 | k + 1 => if (l.getD k O0).1 = 3 then mset (mcs l k) (l.getD k O0).2.1 (k : Int) else mcs l k
theorem zh9 {l : List Op3} (g : GO l) {k : Nat} (hk : k < l.length) (h3 : (l.getD k O0).1 = 3) : ∀ n, k < n -> n <= l.length -> mget (mcs l n) (l.getD k O0).2.1 0 = (k : Int)
 | 0, h, _ => by omega
 | n + 1, hkn, hn => by
   have em : mcs l (n + 1) = if (l.getD n O0).1 = 3 then mset (mcs l n) (l.getD n O0).2.1 (n : Int) else mcs l n := rfl
   rw [em]
   by_cases e : k = n
   · subst e
     rw [if_pos h3, zgA, if_pos rfl]
   · have ih := zh9 g hk h3 n (by omega) (by omega)
     split
     · rw [zgA, if_neg (g.last k n (by omega) (by omega) h3), ih]
     · exact ih
theorem ziU {l : List Op3} (g : GO l) {i : Nat} (hi : i < l.length) : mget (mcs l l.length) (l.getD i O0).2.1 0 = cm l (l.getD i O0).2.1 := by
 obtain ⟨k, k1, k2, k3, k4, k5, k6⟩ := zhc g hi
 rw [k5, <- k3]
 exact zh9 g k2 k4 _ k2 (Nat.le_refl _)
theorem wr_cases (l : List Op3) (y : Tx) : ∀ k, wr l y k = 0 \/ ∃ j, j < k /\ (l.getD j O0).1 = 2 /\ (l.getD j O0).2.2 = y /\ wr l y k = (l.getD j O0).2.1
 | 0 => .inl rfl
 | k + 1 => by
   have e : wr l y (k + 1) = if decide ((l.getD k O0).1 = 2) && decide ((l.getD k O0).2.2 = y) then (l.getD k O0).2.1 else wr l y k := rfl
   rw [e]
   by_cases c : (l.getD k O0).1 = 2 /\ (l.getD k O0).2.2 = y
   · rw [if_pos (by simp only [c.1, c.2, decide_true, Bool.and_self])]
     exact .inr ⟨k, by omega, c.1, c.2, rfl⟩
   · rw [if_neg (by simp only [Bool.and_eq_true, decide_eq_true_eq]; exact c)]
     rcases wr_cases l y k with h | ⟨j, j1, j2, j3, j4⟩
     · exact .inl h
     · exact .inr ⟨j, by omega, j2, j3, j4⟩
def wa (l : List Op3) (i : Nat) : Int := wr l (l.getD i O0).2.2 i
def sk (l : List Op3) (i : Nat) : Bool := (decide ((l.getD i O0).1 = 3) || decide (wa l i = 0)) || decide (wa l i = (l.getD i O0).2.1)
def r1 (l : List Op3) (i : Nat) : Bool := (sk l i || !decide ((l.getD i O0).1 = 1)) || decide (cm l (wa l i) < cm l (l.getD i O0).2.1)
def r2 (l : List Op3) (i : Nat) : Bool := (sk l i || !decide ((l.getD i O0).1 = 1)) || decide (cm l (wa l i) < (i : Int))
def r3 (l : List Op3) (i : Nat) : Bool := sk l i || decide (cm l (wa l i) < (i : Int))
def rall (p : Nat -> Bool) (k : Nat) : Bool := (List.range k).all p
theorem zb4 (p : Nat -> Bool) (k : Nat) : rall p (k + 1) = (rall p k && p k) := by
 unfold rall
 rw [List.range_succ, List.all_append]; simp
theorem zfm {p : Nat -> Bool} {k : Nat} : rall p k = true ↔ ∀ i, i < k -> p i = true := by simp [rall]
theorem zjB {l : List Op3} {i : Nat} (h : wa l i ≠ 0) : ∃ j, j < i /\ (l.getD j O0).1 = 2 /\ (l.getD j O0).2.2 = (l.getD i O0).2.2 /\ wa l i = (l.getD j O0).2.1 := by
 rcases wr_cases l (l.getD i O0).2.2 i with e | e
 · exact absurd e h
 · exact e
open Classical in
theorem zaS {l : List Op3} (hl : l.length <= 1000) : impl_RecoverableOf l = some (if GO l then (rall (r1 l) l.length, rall (r2 l) l.length, rall (r3 l) l.length, true) else (false, false, false, false)) := by
 unfold impl_RecoverableOf
 refine zad (zaR (by omega)) ?_
 by_cases g : GO l
 case neg => simp only [g, decide_false, Bool.not_false, if_true, if_false]
 simp only [g, decide_true, Bool.not_true, Bool.false_eq_true, if_false, if_true]
 refine zad (a := mcs l l.length) (zad (zas (fun k : Nat => (mcs l k, (k : Int))) l.length (mcs l l.length) rfl (fun k hk => ?_) ?_) rfl) ?_
 · have hk1 : (k : Int) < l.length := by omega
   have hk0 : (0 : Int) <= (k : Int) := by omega
   have hi : i64 ((k : Int) + 1) = ((k + 1 : Nat) : Int) := by rw [zac (by omega) (by omega)]; rfl
   have em : mcs l (k + 1) = if (l.getD k O0).1 = 3 then mset (mcs l k) (l.getD k O0).2.1 (k : Int) else mcs l k := rfl
   simp only [hk1, hk0, decide_true, if_true, Bool.and_self, zah, Int.toNat_natCast, hi]
   rw [em]
   by_cases c : (l.getD k O0).1 = 3
   · simp only [c, decide_true, if_true, bind_some]
   · simp only [c, decide_false, Bool.false_eq_true, if_false, bind_some]
 · simp
 refine zad (a := (rall (r1 l) l.length, rall (r2 l) l.length, rall (r3 l) l.length)) (zad (zas (fun k : Nat => (rall (r1 l) k, rall (r2 l) k, rall (r3 l) k, (k : Int))) l.length (rall (r1 l) l.length, rall (r2 l) l.length, rall (r3 l) l.length) rfl (fun k hk => ?_) ?_) rfl) rfl
 · have hk1 : (k : Int) < l.length := by omega
   have hk0 : (0 : Int) <= (k : Int) := by omega
   have hi : i64 ((k : Int) + 1) = ((k + 1 : Nat) : Int) := by rw [zac (by omega) (by omega)]; rfl
   have hw := zbN (show l.length <= 1000000 by omega) hk
   simp only [hk1, hk0, decide_true, if_true, Bool.and_self, zah, Int.toNat_natCast, hi, hw, bind_some, zjC, ziG]
   rw [zb4, zb4, zb4]
   have e1 : r1 l k = ((sk l k || !decide ((l.getD k O0).1 = 1)) || decide (cm l (wa l k) < cm l (l.getD k O0).2.1)) := rfl
   have e2 : r2 l k = ((sk l k || !decide ((l.getD k O0).1 = 1)) || decide (cm l (wa l k) < (k : Int))) := rfl
   have e3 : r3 l k = (sk l k || decide (cm l (wa l k) < (k : Int))) := rfl
   have es : ((decide ((l.getD k O0).1 = 3) || decide (wr l (l.getD k O0).2.2 k = 0)) || decide (wr l (l.getD k O0).2.2 k = (l.getD k O0).2.1)) = sk l k := rfl
   rw [e1, e2, e3, es]
   cases hs : sk l k with
   | true => simp only [if_true, bind_some, Bool.true_or, Bool.and_true]
   | false =>
     unfold sk at hs
     simp only [Bool.or_eq_false_iff, decide_eq_false_iff_not] at hs
     obtain ⟨j, j1, j2, j3, j4⟩ := zjB hs.1.2
     have m1 : mget (mcs l l.length) (wr l (l.getD k O0).2.2 k) 0 = cm l (wa l k) := by
      show mget (mcs l l.length) (wa l k) 0 = _
      rw [j4]; exact ziU g (by omega)
     have m2 := ziU g hk
     obtain ⟨c, c1, c2, c3, c4, c5, c6⟩ := zhc g (show j < l.length by omega)
     have hne : cm l (wa l k) ≠ (k : Int) := by
      rw [j4, c5]
      intro e
      have : c = k := by omega
      rw [this] at c4; exact hs.1.1 c4
     have hd : (!decide ((k : Int) < cm l (wa l k))) = decide (cm l (wa l k) < (k : Int)) := by
      rw [Bool.eq_iff_iff]; simp; omega
     simp only [m1, m2, hd, Bool.false_eq_true, if_false, Bool.false_or]
     by_cases h1 : (l.getD k O0).1 = 1
     · simp only [h1, decide_true, if_true, bind_some, Bool.not_true, Bool.false_or]
     · simp only [h1, decide_false, Bool.false_eq_true, if_false, bind_some, Bool.not_false, Bool.true_or, Bool.and_true]
 · simp
open Classical in
theorem zbX {l : List Op3} (hl : l.length <= 1000) (hb : BO l) : spec_RecoverableOf l = some (if GO l then (rall (r1 l) l.length, rall (r2 l) l.length, rall (r3 l) l.length, true) else (false, false, false, false)) := by
 unfold spec_RecoverableOf
 refine zad (zbl (fun o ho => Nat.le_trans (hb o ho) (by decide)) (by omega)) ?_
 by_cases g : GO l
 case neg => simp only [g, decide_false, Bool.not_false, if_true, if_false]
 simp only [g, decide_true, Bool.not_true, Bool.false_eq_true, if_false, if_true]
 refine zad (a := (rall (r1 l) l.length, rall (r2 l) l.length, rall (r3 l) l.length)) (zad (zas (fun k : Nat => (rall (r1 l) k, rall (r2 l) k, rall (r3 l) k, (k : Int))) l.length (rall (r1 l) l.length, rall (r2 l) l.length, rall (r3 l) l.length) rfl (fun k hk => ?_) ?_) rfl) rfl
 · have hk1 : (k : Int) < l.length := by omega
   have hk0 : (0 : Int) <= (k : Int) := by omega
   have hi : i64 ((k : Int) + 1) = ((k + 1 : Nat) : Int) := by rw [zac (by omega) (by omega)]; rfl
   obtain ⟨q, hq, hq1⟩ := zcv (show l.length <= 1000000 by omega) (Nat.le_of_lt hk) (l.getD k O0).2.2
   have hc := fun t => zd8 (show l.length <= 1000000 by omega) t
   simp only [hk1, hk0, decide_true, if_true, Bool.and_self, zah, Int.toNat_natCast, hi, hq, hq1, hc, bind_some, zjC, ziG]
   rw [zb4, zb4, zb4]
   have e1 : r1 l k = ((sk l k || !decide ((l.getD k O0).1 = 1)) || decide (cm l (wa l k) < cm l (l.getD k O0).2.1)) := rfl
   have e2 : r2 l k = ((sk l k || !decide ((l.getD k O0).1 = 1)) || decide (cm l (wa l k) < (k : Int))) := rfl
   have e3 : r3 l k = (sk l k || decide (cm l (wa l k) < (k : Int))) := rfl
   have es : ((decide ((l.getD k O0).1 = 3) || decide (wr l (l.getD k O0).2.2 k = 0)) || decide (wr l (l.getD k O0).2.2 k = (l.getD k O0).2.1)) = sk l k := rfl
   have ew : wr l (l.getD k O0).2.2 k = wa l k := rfl
   rw [e1, e2, e3, es, ew]
   cases hs : sk l k with
   | true => simp only [if_true, bind_some, Bool.true_or, Bool.and_true]
   | false =>
     simp only [Bool.false_eq_true, if_false, Bool.false_or]
     by_cases h1 : (l.getD k O0).1 = 1
     · cases rall (r1 l) k with
       | true => simp only [h1, decide_true, if_true, bind_some, Bool.not_true, Bool.false_or, Bool.true_and]
       | false => simp only [h1, decide_true, if_true, bind_some, Bool.not_true, Bool.false_or, Bool.false_and, Bool.false_eq_true, if_false]
     · simp only [h1, decide_false, Bool.false_eq_true, if_false, bind_some, Bool.not_false, Bool.true_or, Bool.and_true]
 · simp
theorem zjK {l : List Op3} {n : Nat} (h : rall (r3 l) n = true) : rall (r2 l) n = true := by
 rw [zfm] at h ⊢
 intro i hi
 have := h i hi
 unfold r3 at this
 unfold r2
 simp only [Bool.or_eq_true] at this ⊢
 exact this.imp .inl id
theorem zjJ {l : List Op3} (g : GO l) (h : rall (r2 l) l.length = true) : rall (r1 l) l.length = true := by
 rw [zfm] at h ⊢
 intro i hi
 have := h i hi
 unfold r2 at this
 unfold r1
 rw [Bool.or_eq_true] at this ⊢
 refine this.imp id fun hc => ?_
 have hc := of_decide_eq_true hc
 obtain ⟨k, k1, k2, k3, k4, k5, k6⟩ := zhc g hi
 rw [k5]
 exact decide_eq_true (by omega)
def rf (l : List Op3) : Nat -> List Pr
 | 0 => []
 | k + 1 => if (l.getD k O0).1 = 1 then rf l k ++ [(wa l k, (l.getD k O0).2.1)] else rf l k
theorem zgM (l : List Op3) : ∀ k, (rf l k).length <= k
 | 0 => Nat.le_refl _
 | k + 1 => by
   have e : rf l (k + 1) = if (l.getD k O0).1 = 1 then rf l k ++ [(wa l k, (l.getD k O0).2.1)] else rf l k := rfl
   have := zgM l k
   rw [e]; split
   · simp only [List.length_append, List.length_cons, List.length_nil]; omega
   · omega
open Classical in
theorem zcY {l : List Op3} (hl : l.length <= 1000) : impl_ReadsFrom l = some (if GO l then (rf l l.length, true) else ([], false)) := by
 unfold impl_ReadsFrom
 refine zad (zaR (by omega)) ?_
 by_cases g : GO l
 case neg => simp only [g, decide_false, Bool.not_false, if_true, if_false]
 simp only [g, decide_true, Bool.not_true, Bool.false_eq_true, if_false, if_true]
 refine zad (a := rf l l.length) (zad (zas (fun k : Nat => (rf l k, (k : Int))) l.length (rf l l.length) rfl (fun k hk => ?_) ?_) rfl) rfl
 · have hk1 : (k : Int) < l.length := by omega
   have hk0 : (0 : Int) <= (k : Int) := by omega
   have hi : i64 ((k : Int) + 1) = ((k + 1 : Nat) : Int) := by rw [zac (by omega) (by omega)]; rfl
   have em : rf l (k + 1) = if (l.getD k O0).1 = 1 then rf l k ++ [(wa l k, (l.getD k O0).2.1)] else rf l k := rfl
   have hw := zbN (show l.length <= 1000000 by omega) hk
   have hr := zgM l k
   have hx : (((rf l k ++ [(wr l (l.getD k O0).2.2 k, (l.getD k O0).2.1)]).length : Nat) : Int) <= 8796093022208 := by
    simp only [List.length_append, List.length_cons, List.length_nil]; omega
   simp only [hk1, hk0, decide_true, if_true, Bool.and_self, zah, Int.toNat_natCast, hi, hw, bind_some, hx]
   rw [em]
   by_cases c : (l.getD k O0).1 = 1
   · simp only [c, decide_true, if_true, bind_some]; rfl
   · simp only [c, decide_false, Bool.false_eq_true, if_false, bind_some]
 · simp
open Classical in
theorem zdl {l : List Op3} (hl : l.length <= 1000) (hb : BO l) : spec_ReadsFrom l = some (if GO l then (rf l l.length, true) else ([], false)) := by
 unfold spec_ReadsFrom
 refine zad (zbl (fun o ho => Nat.le_trans (hb o ho) (by decide)) (by omega)) ?_
 by_cases g : GO l
 case neg => simp only [g, decide_false, Bool.not_false, if_true, if_false]
 simp only [g, decide_true, Bool.not_true, Bool.false_eq_true, if_false, if_true]
 refine zad (a := rf l l.length) (zad (zas (fun k : Nat => (rf l k, (k : Int))) l.length (rf l l.length) rfl (fun k hk => ?_) ?_) rfl) rfl
 · have hk1 : (k : Int) < l.length := by omega
   have hk0 : (0 : Int) <= (k : Int) := by omega
   have hi : i64 ((k : Int) + 1) = ((k + 1 : Nat) : Int) := by rw [zac (by omega) (by omega)]; rfl
   have em : rf l (k + 1) = if (l.getD k O0).1 = 1 then rf l k ++ [(wa l k, (l.getD k O0).2.1)] else rf l k := rfl
   obtain ⟨q, hq, hq1⟩ := zcv (show l.length <= 1000000 by omega) (Nat.le_of_lt hk) (l.getD k O0).2.2
   have hr := zgM l k
   have hx : (((rf l k ++ [(wr l (l.getD k O0).2.2 k, (l.getD k O0).2.1)]).length : Nat) : Int) <= 8796093022208 := by
    simp only [List.length_append, List.length_cons, List.length_nil]; omega
   simp only [hk1, hk0, decide_true, if_true, Bool.and_self, zah, Int.toNat_natCast, hi, hq, hq1, bind_some, hx]
   rw [em]
   by_cases c : (l.getD k O0).1 = 1
   · simp only [c, decide_true, if_true, bind_some]; rfl
   · simp only [c, decide_false, Bool.false_eq_true, if_false, bind_some]
 · simp
def ct (l : List Op3) : Nat -> List Int
 | 0 => []
 | k + 1 => if (l.getD k O0).1 = 3 then ct l k ++ [(l.getD k O0).2.1] else ct l k
theorem ziR (l : List Op3) : ∀ k, (ct l k).length <= k
 | 0 => Nat.le_refl _
 | k + 1 => by
   have e : ct l (k + 1) = if (l.getD k O0).1 = 3 then ct l k ++ [(l.getD k O0).2.1] else ct l k := rfl
   have := ziR l k
   rw [e]; split
   · simp only [List.length_append, List.length_cons, List.length_nil]; omega
   · omega
theorem zeX {l : List Op3} {x : Int} : ∀ {k : Nat}, x ∈ ct l k ↔ ∃ i, i < k /\ (l.getD i O0).1 = 3 /\ (l.getD i O0).2.1 = x
 | 0 => by simp [ct]
 | k + 1 => by
   have e : ct l (k + 1) = if (l.getD k O0).1 = 3 then ct l k ++ [(l.getD k O0).2.1] else ct l k := rfl
   rw [e]
   constructor
   · intro h
     split at h
     · rcases List.mem_append.1 h with h | h
       · obtain ⟨i, i1, i2⟩ := zeX.1 h
         exact ⟨i, by omega, i2⟩
       · simp only [List.mem_singleton] at h
         exact ⟨k, by omega, by assumption, h.symm⟩
     · obtain ⟨i, i1, i2⟩ := zeX.1 h
       exact ⟨i, by omega, i2⟩
   · rintro ⟨i, i1, i2, i3⟩
     by_cases c : i = k
     · subst c
       rw [if_pos i2, List.mem_append]
       exact .inr (by rw [i3]; exact List.mem_singleton.2 rfl)
     · have : x ∈ ct l k := zeX.2 ⟨i, by omega, i2, i3⟩
       split
       · exact List.mem_append.2 (.inl this)
       · exact this
theorem zbI {l : List Op3} (g : GO l) : ∀ k, k <= l.length -> (ct l k).Nodup
 | 0, _ => List.nodup_nil
 | k + 1, hk => by
   have e : ct l (k + 1) = if (l.getD k O0).1 = 3 then ct l k ++ [(l.getD k O0).2.1] else ct l k := rfl
   have ih := zbI g k (by omega)
   rw [e]; split
   · rw [List.nodup_append]
     refine ⟨ih, by simp, fun x hx y hy => ?_⟩
     simp only [List.mem_singleton] at hy
     subst hy
     obtain ⟨i, i1, i2, i3⟩ := zeX.1 hx
     have := g.last i k i1 (by omega) i2
     rw [<- i3]
     exact fun e => this e.symm
   · exact ih
theorem zj7 {l : List Op3} (g : GO l) : (ct l l.length).length <= 8 := by
 have hsub : ct l l.length ⊆ ([1, 2, 3, 4, 5, 6, 7, 8] : List Int) := by
  intro x hx
  obtain ⟨i, i1, i2, i3⟩ := zeX.1 hx
  have := zeo (g.op i i1)
  rw [i3] at this
  simp only [List.mem_cons, List.not_mem_nil, or_false]
  omega
 exact List.Nodup.length_le_of_subset (zbI g _ (Nat.le_refl _)) hsub
theorem zcu {l : List Op3} (g : GO l) : impl_txnsOf l = some (srt (ct l l.length)) := by
 have hl := g.len
 have h8 := zj7 g
 unfold impl_txnsOf
 refine zad (a := ct l l.length) (zad (zas (fun k : Nat => (ct l k, (k : Int))) l.length (ct l l.length) rfl (fun k hk => ?_) ?_) rfl) ?_
 · have hk1 : (k : Int) < l.length := by omega
   have hk0 : (0 : Int) <= (k : Int) := by omega
   have hi : i64 ((k : Int) + 1) = ((k + 1 : Nat) : Int) := by rw [zac (by omega) (by omega)]; rfl
   have em : ct l (k + 1) = if (l.getD k O0).1 = 3 then ct l k ++ [(l.getD k O0).2.1] else ct l k := rfl
   have hr := ziR l k
   have hx : (((ct l k ++ [(l.getD k O0).2.1]).length : Nat) : Int) <= 17592186044416 := by
    simp only [List.length_append, List.length_cons, List.length_nil]; omega
   simp only [hk1, hk0, decide_true, if_true, Bool.and_self, zah, Int.toNat_natCast, hi, hx]
   rw [em]
   by_cases c : (l.getD k O0).1 = 3
   · simp only [c, decide_true, if_true, bind_some]
   · simp only [c, decide_false, Bool.false_eq_true, if_false, bind_some]
 · simp
 · rw [zcx (by omega)]; rfl
def pres (l : List Op3) (t : Int) : Bool := (List.range l.length).any fun k => decide ((l.getD k O0).2.1 = t)
def tx (l : List Op3) : Nat -> List Int
 | 0 => []
 | k + 1 => if pres l ((k : Int) + 1) then tx l k ++ [(k : Int) + 1] else tx l k
theorem zgV (l : List Op3) : ∀ k, (tx l k).length <= k
 | 0 => Nat.le_refl _
 | k + 1 => by
   have e : tx l (k + 1) = if pres l ((k : Int) + 1) then tx l k ++ [(k : Int) + 1] else tx l k := rfl
   have := zgV l k
   rw [e]; split
   · simp only [List.length_append, List.length_cons, List.length_nil]; omega
   · omega
theorem zhy {l : List Op3} {x : Int} : ∀ {k : Nat}, x ∈ tx l k ↔ 1 <= x /\ x <= k /\ pres l x = true
 | 0 => by simp only [tx, List.not_mem_nil, false_iff]; omega
 | k + 1 => by
   have e : tx l (k + 1) = if pres l ((k : Int) + 1) then tx l k ++ [(k : Int) + 1] else tx l k := rfl
   have ih := zhy (l := l) (x := x) (k := k)
   rw [e]
   by_cases c : x = (k : Int) + 1
   · subst c
     have hn : (k : Int) + 1 ∉ tx l k := fun h => by have := (ih.1 h).2.1; omega
     constructor
     · intro h
       split at h
       · rename_i hp; exact ⟨by omega, by omega, hp⟩
       · exact absurd h hn
     · rintro ⟨_, _, hp⟩
       rw [if_pos hp]
       exact List.mem_append.2 (.inr (by simp))
   · constructor
     · intro h
       have : x ∈ tx l k := by
        split at h
        · rcases List.mem_append.1 h with h | h
          · exact h
          · simp only [List.mem_singleton] at h; exact absurd h c
        · exact h
       obtain ⟨h1, h2, h3⟩ := ih.1 this
       exact ⟨h1, by omega, h3⟩
     · rintro ⟨h1, h2, h3⟩
       have : x ∈ tx l k := ih.2 ⟨h1, by omega, h3⟩
       split
       · exact List.mem_append.2 (.inl this)
       · exact this
theorem zdD (l : List Op3) : ∀ k, (tx l k).Nodup
 | 0 => List.nodup_nil
 | k + 1 => by
   have e : tx l (k + 1) = if pres l ((k : Int) + 1) then tx l k ++ [(k : Int) + 1] else tx l k := rfl
   have ih := zdD l k
   rw [e]; split
   · rw [List.nodup_append]
     refine ⟨ih, by simp, fun x hx y hy => ?_⟩
     simp only [List.mem_singleton] at hy
     subst hy
     have := (zhy.1 hx).2.1
     omega
   · exact ih
theorem zcw {l : List Op3} (hl : l.length <= 1000000) : spec_l3Txns l = some (tx l 8) := by
 unfold spec_l3Txns
 refine zad (a := tx l 8) (zad (zas (fun k : Nat => (tx l k, (k : Int) + 1)) 8 (tx l 8) rfl (fun k hk => ?_) ?_) rfl) rfl
 · have h8 : (k : Int) + 1 <= 8 := by omega
   have hi : i64 (((k : Int) + 1) + 1) = ((k + 1 : Nat) : Int) + 1 := by rw [zac (by omega) (by omega)]; rfl
   have hr := zgV l k
   have hx : (((tx l k ++ [(k : Int) + 1]).length : Nat) : Int) <= 17592186044416 := by
    simp only [List.length_append, List.length_cons, List.length_nil]; omega
   have em : tx l (k + 1) = if pres l ((k : Int) + 1) then tx l k ++ [(k : Int) + 1] else tx l k := rfl
   simp only [h8, decide_true, if_true, hi]
   refine zad (a := tx l (k + 1)) (zad (a := tx l (k + 1)) (zad (zbT (fun j : Nat => (j : Int)) l.length (fun j => decide ((l.getD j O0).2.1 = (k : Int) + 1)) (tx l k ++ [(k : Int) + 1]) (tx l k) rfl (fun j hj => ?_) ?_) ?_) rfl) rfl
   · have hj1 : (j : Int) < l.length := by omega
     have hj0 : (0 : Int) <= (j : Int) := by omega
     have hj2 : i64 ((j : Int) + 1) = ((j + 1 : Nat) : Int) := by rw [zac (by omega) (by omega)]; rfl
     simp only [hj1, hj0, decide_true, if_true, Bool.and_self, zah, Int.toNat_natCast, hj2, hx]
     split <;> rfl
   · simp
   · rw [em]; rfl
 · simp
theorem ziv {l : List Op3} (g : GO l) (x : Int) : x ∈ tx l 8 ↔ x ∈ ct l l.length := by
 rw [zhy, zeX]
 unfold pres
 rw [za9]
 constructor
 · rintro ⟨_, _, k, hk, e⟩
   have e := of_decide_eq_true e
   obtain ⟨c, c1, c2, c3, c4, _⟩ := zhc g hk
   exact ⟨c, c2, c4, c3.trans e⟩
 · rintro ⟨i, i1, i2, i3⟩
   have := zeo (g.op i i1)
   exact ⟨by omega, by omega, i, i1, decide_eq_true i3⟩
theorem zi2 (l : List Int) (n : Int) : (put l n).Perm (n :: l) := by
 obtain ⟨p, _, _, _, h⟩ := zfM l n
 rw [h]
 refine List.perm_middle.trans ?_
 rw [List.take_append_drop]
theorem zdE (l : List Int) : (srt l).Perm l := by
 have : ∀ (l acc : List Int), (l.foldl put acc).Perm (acc ++ l) := by
  intro l
  induction l with
  | nil => intro acc; simp
  | cons x l ih =>
    intro acc
    rw [List.foldl_cons]
    exact (ih (put acc x)).trans (((zi2 acc x).append_right l).trans List.perm_middle.symm)
 simpa [srt] using this l []
theorem zeH {a b : List Int} : srt a = srt b ↔ a.Perm b := by
 constructor
 · intro h
   exact (zdE a).symm.trans ((by rw [h] : (srt a).Perm (srt b)).trans (zdE b))
 · intro h
   refine List.Perm.eq_of_pairwise (le := fun x y : Int => x <= y) (fun x y _ _ h1 h2 => by omega) (zfu a) (zfu b) ((zdE a).trans (h.trans (zdE b).symm))
theorem zeE {l : List Int} : l.Nodup ↔ ∀ k, k < l.length -> l.getD k 0 ∉ l.take k := by
 constructor
 · intro h k hk hm
   have e := zcd l 0 hk
   have : (l.take (k + 1)).Nodup := h.sublist (List.take_sublist _ _)
   rw [e, List.nodup_append] at this
   exact this.2.2 _ hm _ (by simp) rfl
 · intro h
   have : ∀ k, k <= l.length -> (l.take k).Nodup := by
    intro k
    induction k with
    | zero => intro _; simp
    | succ k ih =>
      intro hk
      rw [zcd l 0 (by omega), List.nodup_append]
      refine ⟨ih (by omega), by simp, fun x hx y hy => ?_⟩
      simp only [List.mem_singleton] at hy
      subst hy
      exact fun e => h k (by omega) (e ▸ hx)
   have := this l.length (Nat.le_refl _)
   rwa [List.take_length] at this
theorem zjn {a b : List Int} (ha : a.Nodup) (hs : ∀ x ∈ a, x ∈ b) (hl : a.length = b.length) (hb : b.Nodup) : a.Perm b := by
 rw [List.perm_ext_iff_of_nodup ha hb]
 intro x
 refine ⟨hs x, fun hx => ?_⟩
 apply Classical.byContradiction
 intro hn
 have h1 : (x :: a).Nodup := List.nodup_cons.2 ⟨hn, ha⟩
 have h2 : (x :: a) ⊆ b := by
  intro y hy
  rcases List.mem_cons.1 hy with rfl | hy
  · exact hx
  · exact hs y hy
 have := List.Nodup.length_le_of_subset h1 h2
 simp only [List.length_cons] at this
 omega
def ser (l : List Op3) (q : List Int) : List Op3 := q.flatMap fun t => l.filter fun o => decide (o.2.1 = t)
theorem zh1 (l : List Op3) : ∀ q : List Int, (ser l q).length <= q.length * l.length
 | [] => by simp [ser]
 | t :: q => by
   have := zh1 l q
   have h2 := List.length_filter_le (fun o : Op3 => decide (o.2.1 = t)) l
   show (List.flatMap _ (t :: q)).length <= _
   rw [List.flatMap_cons, List.length_append, List.length_cons, Nat.add_mul]
   unfold ser at this
   omega
noncomputable def serLoop (a0 : List Op3) (a1 : List Int) : Option (List Op3) :=
 (loopM (σ := (List ((Int) × (Int) × List UInt8)) × Int) (X := List ((Int) × (Int) × List UInt8)) (fun s5 =>
 (if (decide (s5.2 < ((a1.length : Nat) : Int))) then
 ((chk ((decide ((0 : Int) <= s5.2)) && (decide (s5.2 < ((a1.length : Nat) : Int)))) <|
 ((loopM (σ := (List ((Int) × (Int) × List UInt8)) × Int) (X := List ((Int) × (Int) × List UInt8)) (fun s6 =>
 (if (decide (s6.2 < ((a0.length : Nat) : Int))) then
 ((chk ((decide ((0 : Int) <= s6.2)) && (decide (s6.2 < ((a0.length : Nat) : Int)))) <|
 let v7 : (Int) × (Int) × List UInt8 := (a0.getD (Int.toNat s6.2) (0, (0, [])))
 (if (decide (v7.2.1 = (a1.getD (Int.toNat s5.2) 0))) then
 (let v8 : List ((Int) × (Int) × List UInt8) := ((v7.1, (v7.2.1, v7.2.2)) :: ([] : List ((Int) × (Int) × List UInt8)))
 let v9 : List ((Int) × (Int) × List UInt8) := (s6.1 ++ v8)
 chk (decide (((v9.length : Nat) : Int) <= (4398046511104 : Int))) <|
 some v9 : Option (List ((Int) × (Int) × List UInt8)))
 else
 (some s6.1)).bind fun s10 =>
 some s10 : Option (List ((Int) × (Int) × List UInt8))).bind fun s11 =>
 some (.inl (s11, (i64 (s6.2 + (1 : Int))))))
 else
 some (.inr s6.1))) (s5.1, (0 : Int))).bind fun x12 =>
 some x12 : Option (List ((Int) × (Int) × List UInt8))).bind fun s13 =>
 some s13 : Option (List ((Int) × (Int) × List UInt8))).bind fun s14 =>
 some (.inl (s14, (i64 (s5.2 + (1 : Int))))))
 else
 some (.inr s5.1))) (([] : List ((Int) × (Int) × List UInt8)), (0 : Int)))
theorem zeM {l : List Op3} {q : List Int} (hl : l.length <= 1000) (hq : q.length <= 1000) : serLoop l q = some (ser l q) := by
 have hall : ser l q = ser l (q.take q.length) := by rw [List.take_length]
 unfold serLoop
 rw [hall]
 refine zas (fun k : Nat => (ser l (q.take k), (k : Int))) q.length (ser l (q.take q.length)) rfl (fun k hk => ?_) (by simp)
 have hk1 : (k : Int) < q.length := by omega
 have hk0 : (0 : Int) <= (k : Int) := by omega
 have hi : i64 ((k : Int) + 1) = ((k + 1 : Nat) : Int) := by rw [zac (by omega) (by omega)]; rfl
 have hb : (ser l (q.take k)).length <= 1000 * 1000 := Nat.le_trans (zh1 _ _) (Nat.mul_le_mul (by rw [List.length_take]; omega) hl)
 have es : ser l (q.take (k + 1)) = ser l (q.take k) ++ (l.take l.length).filter fun o => decide (o.2.1 = q.getD k 0) := by
  rw [zcd q 0 hk, List.take_length]
  unfold ser
  rw [List.flatMap_append, List.flatMap_cons, List.flatMap_nil, List.append_nil]
 simp only [hk1, hk0, decide_true, if_true, Bool.and_self, zah, Int.toNat_natCast, hi]
 refine zad (a := ser l (q.take (k + 1))) (zad (a := ser l (q.take (k + 1))) (zad (zas (fun j : Nat => (ser l (q.take k) ++ (l.take j).filter (fun o => decide (o.2.1 = q.getD k 0)), (j : Int))) l.length (ser l (q.take k) ++ (l.take l.length).filter (fun o => decide (o.2.1 = q.getD k 0))) (by simp) (fun j hj => ?_) (by simp)) ?_) rfl) rfl
 · have hj1 : (j : Int) < l.length := by omega
   have hj0 : (0 : Int) <= (j : Int) := by omega
   have hj2 : i64 ((j : Int) + 1) = ((j + 1 : Nat) : Int) := by rw [zac (by omega) (by omega)]; rfl
   have hf := List.length_filter_le (fun o : Op3 => decide (o.2.1 = q.getD k 0)) (l.take j)
   rw [List.length_take] at hf
   have hx : (((ser l (q.take k) ++ (l.take j).filter (fun o => decide (o.2.1 = q.getD k 0))) ++ [l.getD j O0]).length : Int) <= 4398046511104 := by
    simp only [List.length_append, List.length_cons, List.length_nil]; omega
   simp only [hj1, hj0, decide_true, if_true, Bool.and_self, zah, Int.toNat_natCast, hj2]
   rw [zcd l O0 hj, List.filter_append]
   by_cases c : (l.getD j O0).2.1 = q.getD k 0
   · have e1 : List.filter (fun o : Op3 => decide (o.2.1 = q.getD k 0)) [l.getD j O0] = [l.getD j O0] := by
      rw [List.filter_cons, if_pos (decide_eq_true c)]; rfl
     rw [e1]
     simp only [c, decide_true, if_true]
     rw [<- c]
     rw [<- c] at hx
     rw [zgD hx, <- List.append_assoc]
     rfl
   · have e1 : List.filter (fun o : Op3 => decide (o.2.1 = q.getD k 0)) [l.getD j O0] = [] := by
      rw [List.filter_cons, if_neg (by simpa using c)]; rfl
     rw [e1, List.append_nil]
     simp only [c, decide_false, Bool.false_eq_true, if_false, bind_some]
 · rw [<- es]
theorem zis {a b : List Int} (ha : a.length <= 1000000000) : slices_Equal__int_int a b = some (decide (a = b)) := by
 unfold slices_Equal__int_int
 by_cases h : a.length = b.length
 · have e : (a.length : Int) = b.length := by omega
   simp only [e, decide_true, Bool.not_true, Bool.false_eq_true, if_false]
   refine zad (zdF (fun k : Nat => (k : Int)) a.length (fun k => !decide (a.getD k 0 = b.getD k 0)) (.inr false) (.inl ()) ?_ ?_) ?_
   · intro k hk
     have hk1 : (k : Int) < a.length := by omega
     simp (disch := omega) only [Cc, if_true, if_false]
     by_cases e : a.getD k 0 = b.getD k 0
     · simp only [e, decide_true, Bool.not_true, Bool.false_eq_true, if_false]; rfl
     · simp only [e, decide_false, Bool.not_false, if_true]
   · simp [e]
   · rw [zj8 0 h]
     by_cases e : a = b <;> simp [e]
 · have e : ¬ (a.length : Int) = b.length := by omega
   simp only [e, decide_false, Bool.not_false, if_true]
   rw [decide_eq_false fun hh : a = b => h (by rw [hh])]
def Ord (l : List Op3) (q : List Int) : Prop := q.Perm (ct l l.length)
open Classical in
theorem zdb {l : List Op3} {q : List Int} (hl : l.length <= 1000) (hq : q.length <= 12) : impl_SerialOps l q = some (if GO l /\ Ord l q then (ser l q, true) else ([], false)) := by
 unfold impl_SerialOps
 refine zad (zaR (by omega)) ?_
 by_cases g : GO l
 case neg => simp only [g, decide_false, Bool.not_false, if_true, if_false, false_and]
 simp only [g, decide_true, Bool.not_true, Bool.false_eq_true, if_false, true_and, List.nil_append]
 rw [zgD (by omega)]
 refine zad (zcx hq) ?_
 refine zad (zcu g) ?_
 refine zad (zis (by rw [zce]; omega)) ?_
 by_cases o : Ord l q
 · have e : srt q = srt (ct l l.length) := zeH.2 o
   simp only [e, decide_true, Bool.not_true, Bool.false_eq_true, if_false, o, if_true]
   exact zad (a := ser l q) (zad (zeM hl (by omega)) rfl) rfl
 · have e : ¬ srt q = srt (ct l l.length) := fun h => o (zeH.1 h)
   simp only [e, decide_false, Bool.not_false, if_true, o, if_false]
theorem zhP {l : List Op3} (g : GO l) {q : List Int} : Ord l q ↔ q.length = (tx l 8).length /\ (List.range q.length).any (fun k => !decide (q.getD k 0 ∈ tx l 8) || decide (q.getD k 0 ∈ q.take k)) = false := by
 have hp : (tx l 8).Perm (ct l l.length) := (List.perm_ext_iff_of_nodup (zdD l 8) (zbI g _ (Nat.le_refl _))).2 (ziv g)
 rw [zer]
 constructor
 · intro h
   have h2 : q.Perm (tx l 8) := h.trans hp.symm
   have hn := (h2.nodup_iff).2 (zdD l 8)
   refine ⟨h2.length_eq, fun k hk => ?_⟩
   rw [decide_eq_true (h2.mem_iff.1 (zaC hk 0)), decide_eq_false (zeE.1 hn k hk)]; rfl
 · rintro ⟨h1, h2⟩
   have hn : q.Nodup := zeE.2 fun k hk hm => by
    have := h2 k hk
    rw [decide_eq_true hm, Bool.or_true] at this
    cases this
   refine List.Perm.trans (zjn hn (fun x hx => ?_) h1 (zdD l 8)) hp
   obtain ⟨k, hk, rfl⟩ := List.mem_iff_getElem.1 hx
   have := h2 k hk
   have e : q.getD k 0 = q[k] := by rw [List.getD_eq_getElem?_getD, List.getElem?_eq_getElem hk]; rfl
   rw [e] at this
   simp only [Bool.or_eq_false_iff, Bool.not_eq_false', decide_eq_true_eq] at this
   exact this.1
open Classical in
theorem zdm {l : List Op3} {q : List Int} (hl : l.length <= 1000) (hq : q.length <= 12) (hb : BO l) : spec_SerialOps l q = some (if GO l /\ Ord l q then (ser l q, true) else ([], false)) := by
 unfold spec_SerialOps
 refine zad (zcw (by omega)) ?_
 refine zad (zbl (fun o ho => Nat.le_trans (hb o ho) (by decide)) (by omega)) ?_
 by_cases g : GO l
 case neg => simp only [g, decide_false, Bool.not_false, if_true, if_false, false_and]
 simp only [g, decide_true, Bool.not_true, Bool.false_eq_true, if_false, true_and]
 by_cases h1 : q.length = (tx l 8).length
 case neg =>
  have e : ¬ (q.length : Int) = ((tx l 8).length : Int) := by omega
  have o : ¬ Ord l q := fun o => h1 ((zhP g).1 o).1
  simp only [e, decide_false, Bool.not_false, if_true, o, if_false]
 have e : (q.length : Int) = ((tx l 8).length : Int) := by omega
 have ht := zgV l 8
 simp only [e, decide_true, Bool.not_true, Bool.false_eq_true, if_false]
 refine zad (zbT (fun k : Nat => (k : Int)) q.length (fun k => !decide (q.getD k 0 ∈ tx l 8) || decide (q.getD k 0 ∈ q.take k)) (.inr ([], false)) (.inl ()) rfl (fun k hk => ?_) (by simp [e])) ?_
 · have hk1 : (k : Int) < ((tx l 8).length : Int) := by omega
   have hk2 : (k : Int) <= ((tx l 8).length : Int) := by omega
   have hk0 : (0 : Int) <= (k : Int) := by omega
   have hi : i64 ((k : Int) + 1) = ((k + 1 : Nat) : Int) := by rw [zac (by omega) (by omega)]; rfl
   have hh1 := zcG (show (tx l 8).length <= 1000000000 by omega) (q.getD k 0)
   have hh2 := zcG (show (q.take k).length <= 1000000000 by rw [List.length_take]; omega) (q.getD k 0)
   have h0 : Int.toNat 0 = 0 := rfl
   simp only [hk1, hk2, hk0, Int.le_refl, decide_true, if_true, Bool.and_self, zah, Int.toNat_natCast, hi, hh1, bind_some, Bool.or_true, h0, List.drop_zero, hh2, zjC]
   cases decide (q.getD k 0 ∈ tx l 8) with
   | false => simp only [Bool.not_false, Bool.not_true, Bool.false_eq_true, if_false, if_true, bind_some, Bool.true_or]
   | true =>
     simp only [Bool.not_false, Bool.not_true, Bool.false_eq_true, if_false, if_true, bind_some, Bool.false_or]
     split <;> rfl
 · have oi := zhP g (q := q)
   cases hc : (List.range q.length).any (fun k => !decide (q.getD k 0 ∈ tx l 8) || decide (q.getD k 0 ∈ q.take k)) with
   | true =>
     have o : ¬ Ord l q := fun o => by rw [(oi.1 o).2] at hc; cases hc
     simp only [o, if_false, if_true, zgF]
   | false =>
     have o : Ord l q := oi.2 ⟨h1, hc⟩
     simp only [o, if_true, Bool.false_eq_true, if_false, zfe]
     have := zeM (q := q) hl (by omega)
     unfold serLoop at this
     simp only [e] at this
     exact zad (a := ser l q) (zad this rfl) rfl
theorem zjL {l : List Op3} (h1 : l.length <= 60) (h2 : ∀ o ∈ l, okc o = true) (h3 : l.Pairwise fun a b => a.1 = 3 -> b.2.1 ≠ a.2.1) (h4 : ∀ a ∈ l, ∃ b ∈ l, b.2.1 = a.2.1 /\ b.1 = 3) : GO l := by
 have hl : ∀ k j, k < j -> j < l.length -> (l.getD k O0).1 = 3 -> (l.getD j O0).2.1 ≠ (l.getD k O0).2.1 := by
  intro k j hkj hj
  have := List.pairwise_iff_getElem.1 h3 k j (by omega) hj hkj
  rw [List.getD_eq_getElem?_getD, List.getD_eq_getElem?_getD, List.getElem?_eq_getElem hj, List.getElem?_eq_getElem (show k < l.length by omega)]
  exact this
 refine ⟨h1, fun k hk => h2 _ (zaC hk O0), hl, fun k hk hne => ?_⟩
 obtain ⟨b, hb, b1, b2⟩ := h4 _ (zaC hk O0)
 obtain ⟨j, hj, rfl⟩ := List.mem_iff_getElem.1 hb
 have e : l.getD j O0 = l[j] := by rw [List.getD_eq_getElem?_getD, List.getElem?_eq_getElem hj]; rfl
 rw [<- e] at b1 b2
 refine ⟨j, ?_, hj, b1, b2⟩
 rcases Nat.lt_trichotomy k j with c | c | c
 · exact c
 · subst c; exact absurd b2 hne
 · exact absurd b1.symm (hl j k c hk b2)
theorem zjO {l : List Op3} (g : GO l) : l.Pairwise fun a b => a.1 = 3 -> b.2.1 ≠ a.2.1 := by
 rw [List.pairwise_iff_getElem]
 intro i j hi hj hij
 have := g.last i j hij hj
 rw [List.getD_eq_getElem?_getD, List.getD_eq_getElem?_getD, List.getElem?_eq_getElem hj, List.getElem?_eq_getElem hi] at this
 exact this
theorem zfx {l : List Op3} {q : List Int} {o : Op3} : o ∈ ser l q ↔ o ∈ l /\ o.2.1 ∈ q := by
 unfold ser
 simp only [List.mem_flatMap, List.mem_filter, decide_eq_true_eq]
 constructor
 · rintro ⟨t, ht, ho, e⟩
   exact ⟨ho, by rw [e]; exact ht⟩
 · rintro ⟨ho, ht⟩
   exact ⟨_, ht, ho, rfl⟩
theorem zhV : ∀ (q : List Int) (l : List Op3), q.Nodup -> (ser l q).length <= l.length
 | [], l, _ => by simp [ser]
 | t :: q, l, h => by
   obtain ⟨h1, h2⟩ := List.nodup_cons.1 h
   have e : ser l q = ser (l.filter fun o => !decide (o.2.1 = t)) q := by
    unfold ser
    have : ∀ s ∈ q, l.filter (fun o => decide (o.2.1 = s)) = (l.filter fun o => !decide (o.2.1 = t)).filter fun o => decide (o.2.1 = s) := by
     intro s hs
     rw [List.filter_filter]
     apply List.filter_congr
     intro o _
     by_cases c : o.2.1 = s
     · have : ¬ o.2.1 = t := fun e => h1 (by rw [<- e, c]; exact hs)
       simp [c, this]
       intro e2; exact h1 (by rw [<- e2]; exact hs)
     · simp [c]
    clear h h1 h2
    induction q with
    | nil => rfl
    | cons a q ih =>
      rw [List.flatMap_cons, List.flatMap_cons, this a (List.mem_cons_self ..), ih fun s hs => this s (List.mem_cons_of_mem _ hs)]
   have ih := zhV q (l.filter fun o => !decide (o.2.1 = t)) h2
   have hs : (l.filter fun o => decide (o.2.1 = t)).length + (l.filter fun o => !decide (o.2.1 = t)).length = l.length := by
    clear ih e h h1 h2
    induction l with
    | nil => rfl
    | cons a l ih =>
      rw [List.filter_cons, List.filter_cons]
      by_cases c : a.2.1 = t
      · simp only [c, decide_true, Bool.not_true, if_true, Bool.false_eq_true, if_false, List.length_cons]; omega
      · simp only [c, decide_false, Bool.not_false, if_true, Bool.false_eq_true, if_false, List.length_cons]; omega
   rw [<- e] at ih
   show (List.flatMap _ (t :: q)).length <= _
   rw [List.flatMap_cons, List.length_append]
   unfold ser at ih
   omega
theorem ziT {l : List Op3} (g : GO l) {q : List Int} (o : Ord l q) : GO (ser l q) := by
 have hn : q.Nodup := (o.nodup_iff).2 (zbI g _ (Nat.le_refl _))
 refine zjL (Nat.le_trans (zhV q l hn) g.len) (fun a ha => ?_) ?_ fun a ha => ?_
 · obtain ⟨i, hi, rfl⟩ := List.mem_iff_getElem.1 (zfx.1 ha).1
   have := g.op i hi
   rw [List.getD_eq_getElem?_getD, List.getElem?_eq_getElem hi] at this
   exact this
 · unfold ser
   rw [List.pairwise_flatMap]
   refine ⟨fun t _ => (zjO g).filter _, hn.imp fun {s t} hne a ha b hb h3 e => ?_⟩
   simp only [List.mem_filter, decide_eq_true_eq] at ha hb
   exact hne (by rw [<- ha.2, <- hb.2, e])
 · obtain ⟨h1, h2⟩ := zfx.1 ha
   obtain ⟨i, hi, rfl⟩ := List.mem_iff_getElem.1 h1
   obtain ⟨k, _, k2, k3, k4, _⟩ := zhc g hi
   have e : l.getD i O0 = l[i] := by rw [List.getD_eq_getElem?_getD, List.getElem?_eq_getElem hi]; rfl
   rw [e] at k3
   exact ⟨l.getD k O0, zfx.2 ⟨zaC k2 O0, by rw [k3]; exact h2⟩, k3, k4⟩
def plc (q : List Int) (t : Int) : Int := (q.idxOf t : Int)
theorem zii {q : List Int} {s t : Int} (hs : s ∈ q) (ht : t ∈ q) (h : plc q s = plc q t) : s = t := by
 unfold plc at h
 have h : q.idxOf s = q.idxOf t := by omega
 have h1 := List.getElem_idxOf (List.idxOf_lt_length_iff.2 hs)
 have h2 := List.getElem_idxOf (List.idxOf_lt_length_iff.2 ht)
 rw [<- h1, <- h2]
 simp only [h]
theorem zhA {l : List Op3} {q : List Int} (hn : q.Nodup) {i j : Nat} (hij : i < j) (hj : j < (ser l q).length) : plc q ((ser l q).getD i O0).2.1 <= plc q ((ser l q).getD j O0).2.1 := by
 have : (ser l q).Pairwise fun a b => plc q a.2.1 <= plc q b.2.1 := by
  show (List.flatMap _ q).Pairwise _
  rw [List.pairwise_flatMap]
  constructor
  · intro t _
    rw [List.pairwise_iff_getElem]
    intro a b ha hb _
    have h1 := List.getElem_mem ha
    have h2 := List.getElem_mem hb
    simp only [List.mem_filter, decide_eq_true_eq] at h1 h2
    rw [h1.2, h2.2]
    exact Int.le_refl _
  · rw [List.pairwise_iff_getElem]
    intro a b ha hb hab x hx y hy
    simp only [List.mem_filter, decide_eq_true_eq] at hx hy
    rw [hx.2, hy.2]
    unfold plc
    rw [hn.idxOf_getElem a ha, hn.idxOf_getElem b hb]
    omega
 have := List.pairwise_iff_getElem.1 this i j (by omega) hj hij
 rw [List.getD_eq_getElem?_getD, List.getD_eq_getElem?_getD, List.getElem?_eq_getElem hj, List.getElem?_eq_getElem (show i < (ser l q).length by omega)]
 exact this
theorem zgH {l : List Op3} {q : List Int} {i : Nat} (hi : i < (ser l q).length) : ((ser l q).getD i O0).2.1 ∈ q := (zfx.1 (zaC hi O0)).2
theorem zhu {l : List Op3} (g : GO l) {q : List Int} (o : Ord l q) : rall (r3 (ser l q)) (ser l q).length = true := by
 have hn : q.Nodup := (o.nodup_iff).2 (zbI g _ (Nat.le_refl _))
 have G := ziT g o
 rw [zfm]
 intro i hi
 unfold r3
 cases hs : sk (ser l q) i with
 | true => rfl
 | false =>
   unfold sk at hs
   simp only [Bool.or_eq_false_iff, decide_eq_false_iff_not] at hs
   obtain ⟨j, j1, j2, j3, j4⟩ := zjB hs.1.2
   obtain ⟨c, c1, c2, c3, c4, c5, c6⟩ := zhc G (show j < (ser l q).length by omega)
   rw [j4, c5, Bool.false_or]
   refine decide_eq_true ?_
   have h1 := zhA hn j1 hi
   rcases Nat.lt_trichotomy c i with h | h | h
   · omega
   · subst h; exact absurd (j4.trans c3.symm) hs.2
   · exfalso
     have h2 := zhA hn h c2
     rw [c3] at h2
     have := zii (zgH (show j < (ser l q).length by omega)) (zgH hi) (by omega)
     exact hs.2 (j4.trans this)
theorem zi4 {l : List Op3} (g : GO l) {q : List Int} (o : Ord l q) (x : Pr) (h : Conf (ser l q) x) : plc q x.1 < plc q x.2 := by
 have hn : q.Nodup := (o.nodup_iff).2 (zbI g _ (Nat.le_refl _))
 obtain ⟨i, j, h1, h2, h3, h4, h5, _⟩ := h
 have hu := zhA hn h1 h2
 have hi := zgH (l := l) (q := q) (show i < (ser l q).length by omega)
 have hj := zgH h2
 rw [h3] at hu hi
 rw [h4] at hu hj
 by_cases e : plc q x.1 = plc q x.2
 · exact absurd (zii hi hj e) h5
 · omega
theorem zd0 {l : List Op3} (hl : l.length <= 1000000) : laws_sameOps l l = some true := by
 unfold laws_sameOps
 simp only [decide_true, Bool.not_true, Bool.false_eq_true, if_false]
 refine zad (zbT (fun k : Nat => (k : Int)) l.length (fun _ => false) (.inr false) (.inl ()) rfl (fun k hk => ?_) (by simp)) ?_
 · have hk1 : (k : Int) < l.length := by omega
   have hk0 : (0 : Int) <= (k : Int) := by omega
   have hi : i64 ((k : Int) + 1) = ((k + 1 : Nat) : Int) := by rw [zac (by omega) (by omega)]; rfl
   simp only [hk1, hk0, decide_true, if_true, Bool.and_self, zah, Int.toNat_natCast, hi, Bool.not_true, Bool.false_eq_true, if_false]
 · rw [if_neg (by rw [za9]; rintro ⟨k, _, h⟩; cases h)]
   rfl
theorem zd5 {a : List Int} (hb : Byt a) : Ok (spec_DrawSerialOps a) (fun r => r.1.length <= 120 /\ BO r.1 /\ r.2.length <= 9) := by
 unfold spec_DrawSerialOps
 refine Ok.bind (ziS hb) fun r0 h0 => ?_
 obtain ⟨p0, hh0, l⟩ := r0
 obtain ⟨u1, u2, u3, u4⟩ := h0
 dsimp only at u1 u2 u3 u4 ⊢
 refine Ok.be (zcw (by omega)) ?_
 have ht := zgV l 8
 refine Ok.bind (P := fun s : Int × Int × List Int => 0 <= s.1 /\ s.1 <= 5000 /\ s.2.2.length = (tx l 8).length) ?_ fun s hs => ?_
 · refine Ok.bind (P := fun s : Int × Int × List Int => 0 <= s.1 /\ s.1 <= 5000 /\ s.2.2.length = (tx l 8).length) ?_ fun s hs => Ok.ret hs
   rw [zac (by omega) (by omega)]
   refine zam (fun s : Int × Int × List Int × Int => 0 <= s.1 /\ s.1 + 5 * s.2.2.2 <= 3000 /\ s.2.2.1.length = (tx l 8).length /\ -1 <= s.2.2.2 /\ s.2.2.2 <= ((tx l 8).length : Int) - 1) (fun s => (s.2.2.2 + 1).toNat) ?_ ⟨by dsimp only; omega, by dsimp only; omega, rfl, by dsimp only; omega, by dsimp only; omega⟩
   rintro ⟨p, h, q, i⟩ ⟨g1, g2, g3, g4, g5⟩
   dsimp only at g1 g2 g3 g4 g5 ⊢
   refine Ok.ited (fun hc => ?_) fun hc => Ok.ret ⟨g1, by dsimp only; omega, g3⟩
   rw [zac (x := i + 1) (by omega) (by omega), zac (x := i - 1) (by omega) (by omega)]
   refine Ok.bind (P := fun s : Int × Int × List Int => 0 <= s.1 /\ s.1 <= p + 5 /\ s.2.2.length = (tx l 8).length) ?_ fun s hs => Ok.ret ⟨⟨hs.1, by dsimp only; omega, hs.2.2, by dsimp only; omega, by dsimp only; omega⟩, by dsimp only; omega⟩
   refine Ok.bind (zc1 hb (by omega) (by omega) _) fun r3 q3 => ?_
   have : max 0 (i + 1 - 1) = i := by omega
   rw [this] at q3
   refine Ok.chk (by simp only [Bool.and_eq_true, decide_eq_true_eq]; omega) ?_
   refine Ok.chk (by simp only [Bool.and_eq_true, decide_eq_true_eq]; omega) ?_
   refine Ok.chk (by simp only [Bool.and_eq_true, decide_eq_true_eq]; omega) ?_
   refine Ok.chk (by simp only [Bool.and_eq_true, decide_eq_true_eq, List.length_set]; omega) ?_
   exact Ok.ret ⟨by dsimp only; omega, by dsimp only; omega, by dsimp only; rw [List.length_set, List.length_set]; exact g3⟩
 · refine Ok.bind (zeT hb (by omega) (by omega) _) fun r9 q9 => ?_
   refine Ok.bind (P := fun s : List Int => s.length <= 9) ?_ fun s hs => Ok.ret ⟨u3, u4, hs⟩
   refine Ok.ite (fun _ => ?_) fun _ => Ok.ret (by omega)
   refine Ok.chk (zbz (by simp only [List.length_append, List.length_cons, List.length_nil]; omega)) ?_
   exact Ok.ret (by simp only [List.length_append, List.length_cons, List.length_nil]; omega)
theorem zd6 {a b : List Int} (ha : Byt a) (hb : Byt b) : laws_FnStrict a b = some true := by
 classical
 refine Ok.of_eq ?_
 unfold laws_FnStrict
 refine Ok.ited (fun _ => Ok.ret rfl) fun _ => ?_
 refine Ok.bind (P := fun l : List Op3 => l.length <= 120 /\ BO l) ?_ fun l hl => ?_
 · unfold spec_DrawRecoverableOf spec_DrawGoodOps
   refine Ok.bind (P := fun l : List Op3 => l.length <= 120 /\ BO l) ?_ fun l hl => Ok.ret hl
   exact Ok.bind (ziS ha) fun r hr => Ok.ret ⟨hr.2.2.1, hr.2.2.2⟩
 obtain ⟨h1, h2⟩ := hl
 refine Ok.be (zaS (by omega)) ?_
 refine Ok.be (zbX (by omega) h2) ?_
 refine Ok.be (zcY (by omega)) ?_
 refine Ok.be (zdl (by omega) h2) ?_
 dsimp only
 refine Ok.ite (fun hv => ?_) fun _ => ?_
 · exfalso
   by_cases g : GO l
   · have h32 := zjK (l := l) (n := l.length)
     have h21 := zjJ g
     simp only [if_pos g] at hv
     generalize rall (r1 l) l.length = x1 at *
     generalize rall (r2 l) l.length = x2 at *
     generalize rall (r3 l) l.length = x3 at *
     cases x1 <;> cases x2 <;> cases x3 <;> simp_all
   · simp [g] at hv
 refine Ok.bind (P := fun s : Int => s = ((rf l l.length).length : Int)) ?_ fun s hs => ?_
 · refine Ok.bind (P := fun s : Int => s = ((rf l l.length).length : Int)) ?_ fun s hs => Ok.ret hs
   refine Ok.eq (zas (fun k : Nat => (((rf l k).length : Int), (k : Int))) l.length ((rf l l.length).length : Int) rfl (fun k hk => ?_) (by simp)) rfl
   have hk1 : (k : Int) < l.length := by omega
   have hk0 : (0 : Int) <= (k : Int) := by omega
   have hi : i64 ((k : Int) + 1) = ((k + 1 : Nat) : Int) := by rw [zac (by omega) (by omega)]; rfl
   have hr := zgM l k
   have hi2 : i64 (((rf l k).length : Int) + 1) = ((rf l k).length : Int) + 1 := zac (by omega) (by omega)
   have em : rf l (k + 1) = if (l.getD k O0).1 = 1 then rf l k ++ [(wa l k, (l.getD k O0).2.1)] else rf l k := rfl
   simp only [hk1, hk0, decide_true, if_true, Bool.and_self, zah, Int.toNat_natCast, hi, hi2]
   rw [em]
   by_cases c : (l.getD k O0).1 = 1
   · simp only [c, decide_true, if_true, bind_some, List.length_append, List.length_cons, List.length_nil]
     rfl
   · simp only [c, decide_false, Bool.false_eq_true, if_false, bind_some]
 subst hs
 refine Ok.ite (fun hv => ?_) fun _ => ?_
 · exfalso
   by_cases g : GO l <;> simp [g] at hv
 refine Ok.bind (zd5 hb) fun r hr => ?_
 obtain ⟨m, q⟩ := r
 obtain ⟨m1, m2, m3⟩ := hr
 dsimp only at m1 m2 m3 ⊢
 refine Ok.be (zdb (by omega) (by omega)) ?_
 refine Ok.be (zdm (by omega) (by omega) m2) ?_
 by_cases c : GO m /\ Ord m q
 · have hn : q.Nodup := (c.2.nodup_iff).2 (zbI c.1 _ (Nat.le_refl _))
   have hle := zhV q m hn
   have G := ziT c.1 c.2
   simp only [if_pos c, bne_self_eq_false, Bool.not_false, if_true]
   refine Ok.be (zd0 (by omega)) ?_
   simp only [Bool.not_true, Bool.false_eq_true, if_false]
   refine Ok.be (zaS (by omega)) ?_
   have hg : impl_areOps (ser m q) = some true := by rw [zaR (by omega), decide_eq_true G]
   have h8 := zj7 G
   refine Ok.bind (zey G.len hg (zcu G) (by rw [zce]; omega) (plc q) fun x hx => zi4 c.1 c.2 x hx) fun r4 h4 => Ok.ret ?_
   simp only [if_pos G, zhu c.1 c.2, h4, if_true]
 · simp only [if_neg c, bne_self_eq_false, Bool.not_false, if_true]
   refine Ok.be (zd0 (by simp)) ?_
   simp only [Bool.not_true, Bool.false_eq_true, if_false]
   exact Ok.ret rfl
end Sh
