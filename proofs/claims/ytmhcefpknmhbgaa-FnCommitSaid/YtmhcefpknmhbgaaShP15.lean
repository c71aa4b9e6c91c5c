/- Sh: commits (l15): steps, what holds of a played one; FnCommit and FnExactPlayCommit. -/
import Derived.Test.YtmhcefpknmhbgaaShP1
import Derived.Test.YtmhcefpknmhbgaaShP16
import Derived.Test.YtmhcefpknmhbgaaShF4
set_option linter.unusedVariables false
set_option linter.unusedSimpArgs false
namespace Sh
open Go

abbrev Rep := Bool × Int
abbrev Shrd := List Rep
/-- The first that is up. -/
def primL (x : Shrd) : Int := firstIdx x.length (fun k => !(x.getD k (false, 0)).1)
theorem firstIdx_lt (n : Nat) (p : Nat → Bool) : -1 ≤ firstIdx n p ∧ firstIdx n p < n := by
  unfold firstIdx
  cases h : (List.range n).find? p with
  | none => simp only; omega
  | some k => have := List.mem_range.1 (List.mem_of_find?_eq_some h); simp only; omega
theorem impl_Shard_primary_eq {x : Shrd} (h : x.length ≤ 1000000000) : impl_Shard_primary x = some (primL x) := by
  unfold impl_Shard_primary slices_IndexFunc__impl_Replica_impl_Replica
  refine bind_of (bind_of (loop_index (fun k : Nat => (k : Int)) x.length (fun k => !(x.getD k (false, 0)).1) rfl ?_ ?_) (firstR_out _ _)) rfl
  · intro k hk
    have hk1 : (k : Int) < x.length := by omega
    unfold impl_Shard_primary_1
    simp (disch := omega) only [decide_true, decide_false, i64_of, chk_and, chk_dec, chk_true, dec_t, dec_f, if_true, if_false, Bool.false_eq_true, Bool.not_true, Bool.not_false, Bool.and_self, Bool.and_false, Bool.false_and, Bool.and_true, Bool.true_and, Bool.or_false, Bool.false_or, Bool.or_true, Bool.true_or, bind_some, Int.toNat_natCast]
    cases (x.getD k (false, 0)).1 <;> rfl
  · simp
theorem spec_l15Primary_eq {x : Shrd} (h : x.length ≤ 1000000000) : spec_l15Primary x = some (primL x) := by
  unfold spec_l15Primary
  refine bind_of (loop_index (fun k : Nat => (k : Int)) x.length (fun k => !(x.getD k (false, 0)).1) rfl ?_ ?_) (firstR_out _ _)
  · intro k hk
    have hk1 : (k : Int) < x.length := by omega
    simp (disch := omega) only [decide_true, decide_false, i64_of, chk_and, chk_dec, chk_true, dec_t, dec_f, if_true, if_false, Bool.false_eq_true, Bool.not_true, Bool.not_false, Bool.and_self, Bool.and_false, Bool.false_and, Bool.and_true, Bool.true_and, Bool.or_false, Bool.false_or, Bool.or_true, Bool.true_or, bind_some, Int.toNat_natCast]
    cases (x.getD k (false, 0)).1 <;> rfl
  · simp
/-- Those that are up; those of them that have one of some. -/
def upL (x : Shrd) : Shrd := x.filter fun r => !r.1
def haveL (x : Shrd) (s : List Int) : Shrd := (upL x).filter fun r => decide (r.2 ∈ s)
theorem impl_Shard_ups_eq {x : Shrd} (h : x.length ≤ 1000000000) {s : List Int} (hs : s.length ≤ 1000000000) : impl_Shard_ups x s = some (((upL x).length : Int), ((haveL x s).length : Int)) := by
  unfold impl_Shard_ups
  refine bind_of (bind_of (loop_steps' (fun k : Nat => (((upL (x.take k)).length : Int), ((haveL (x.take k) s).length : Int), (k : Int))) x.length (((upL x).length : Int), ((haveL x s).length : Int)) rfl ?_ ?_) rfl) rfl
  · intro k hk
    have hk1 : (k : Int) < x.length := by omega
    have h1 : (upL (x.take k)).length ≤ x.length := Nat.le_trans (List.length_filter_le _ _) (by simp; omega)
    have h2 : (haveL (x.take k) s).length ≤ x.length := Nat.le_trans (List.length_filter_le _ _) h1
    simp (disch := omega) only [decide_true, decide_false, i64_of, chk_and, chk_dec, chk_true, dec_t, dec_f, if_true, if_false, Bool.false_eq_true, Bool.not_true, Bool.not_false, Bool.and_self, Bool.and_false, Bool.false_and, Bool.and_true, Bool.true_and, Bool.or_false, Bool.false_or, Bool.or_true, Bool.true_or, bind_some, Int.toNat_natCast, slices_Contains_int_eq hs]
    have e1 : upL (x.take (k + 1)) = upL (x.take k) ++ upL [x.getD k (false, 0)] := by rw [take_snoc x (false, 0) hk]; exact List.filter_append ..
    have e2 : haveL (x.take (k + 1)) s = haveL (x.take k) s ++ haveL [x.getD k (false, 0)] s := by unfold haveL; rw [e1]; exact List.filter_append ..
    rw [e1, e2]
    generalize x.getD k (false, 0) = r
    obtain ⟨d, hh⟩ := r
    cases d with
    | true => simp [upL, haveL]
    | false =>
      by_cases hm : hh ∈ s
      · simp [upL, haveL, hm]
      · simp [upL, haveL, hm]
  · simp
theorem copy_loop {l : List Shrd} (h : l.length ≤ 1000000000) (hx : ∀ x ∈ l, x.length ≤ 1000000000) (a1 a2 : Int) : impl_copyCommit l a1 a2 = some (l, a1, a2) := by
  unfold impl_copyCommit
  refine bind_of (bind_of (loop_steps' (fun k : Nat => (l.take k, (k : Int))) l.length l rfl ?_ ?_) rfl) rfl
  · intro k hk
    have hk1 : (k : Int) < l.length := by omega
    have hxk := hx _ (getD_mem hk [])
    simp (disch := omega) only [decide_true, decide_false, i64_of, chk_and, chk_dec, chk_true, dec_t, dec_f, if_true, if_false, Bool.false_eq_true, Bool.not_true, Bool.not_false, Bool.and_self, Bool.and_false, Bool.false_and, Bool.and_true, Bool.true_and, Bool.or_false, Bool.false_or, Bool.or_true, Bool.true_or, bind_some, Int.toNat_natCast, List.nil_append]
    rw [chk_dec (by simp only [List.length_append, List.length_take, List.length_cons, List.length_nil]; omega), take_snoc l [] hk]
    rfl
  · simp
theorem own_loop {l : List Shrd} (h : l.length ≤ 1000000000) (hx : ∀ x ∈ l, x.length ≤ 1000000000) (a1 a2 : Int) : spec_l15Own l a1 a2 = some (l, a1, a2) := by
  unfold spec_l15Own
  refine bind_of (bind_of (loop_steps' (fun k : Nat => (l.take k, (k : Int))) l.length l rfl ?_ ?_) rfl) rfl
  · intro k hk
    have hk1 : (k : Int) < l.length := by omega
    have hxk := hx _ (getD_mem hk [])
    simp (disch := omega) only [decide_true, decide_false, i64_of, chk_and, chk_dec, chk_true, dec_t, dec_f, if_true, if_false, Bool.false_eq_true, Bool.not_true, Bool.not_false, Bool.and_self, Bool.and_false, Bool.false_and, Bool.and_true, Bool.true_and, Bool.or_false, Bool.false_or, Bool.or_true, Bool.true_or, bind_some, Int.toNat_natCast, List.nil_append]
    rw [chk_dec (by simp only [List.length_append, List.length_take, List.length_cons, List.length_nil]; omega), take_snoc l [] hk]
    rfl
  · simp

def tellBad (x : Shrd) : Bool := decide ((upL x).length = 0) || decide ((haveL x [2]).length < (upL x).length)
theorem impl_Commit_step_1_eq {x : Shrd} (h : x.length ≤ 1000000000) : impl_Commit_step_1 x = some (tellBad x) := by
  unfold impl_Commit_step_1
  dsimp only
  rw [impl_Shard_ups_eq h (by simp)]
  simp only [bind_some, if_t, tellBad]
  congr 2
  · rw [decide_eq_decide]; omega
  · rw [decide_eq_decide]; omega
def recBad (x : Shrd) : Bool := decide ((haveL x [2, 3]).length = 0)
theorem impl_Commit_step_2_eq {x : Shrd} (h : x.length ≤ 1000000000) : impl_Commit_step_2 x = some (recBad x) := by
  unfold impl_Commit_step_2
  dsimp only
  rw [impl_Shard_ups_eq h (by simp)]
  simp only [bind_some, recBad]
  congr 1
  rw [decide_eq_decide]; omega
def freeB (x : Shrd) : Bool := decide (0 ≤ primL x) && (!decide ((x.getD (primL x).toNat (false, 0)).2 = 1) && !decide ((x.getD (primL x).toNat (false, 0)).2 = 2))
theorem impl_Commit_act_1_eq {x : Shrd} (h : x.length ≤ 1000000000) : impl_Commit_act_1 x = some (freeB x) := by
  unfold impl_Commit_act_1
  rw [impl_Shard_primary_eq h]
  have hp := firstIdx_lt x.length (fun k => !(x.getD k (false, 0)).1)
  have hp1 : primL x < x.length := hp.2
  simp only [bind_some, if_f, freeB]
  by_cases h0 : 0 ≤ primL x
  · simp (disch := omega) only [decide_true, decide_false, i64_of, chk_and, chk_dec, chk_true, dec_t, dec_f, if_true, if_false, Bool.false_eq_true, Bool.not_true, Bool.not_false, Bool.and_self, Bool.and_false, Bool.false_and, Bool.and_true, Bool.true_and, Bool.or_false, Bool.false_or, Bool.or_true, Bool.true_or, bind_some, Int.toNat_natCast, h0, hp1]
  · simp (disch := omega) only [decide_true, decide_false, i64_of, chk_and, chk_dec, chk_true, dec_t, dec_f, if_true, if_false, Bool.false_eq_true, Bool.not_true, Bool.not_false, Bool.and_self, Bool.and_false, Bool.false_and, Bool.and_true, Bool.true_and, Bool.or_false, Bool.false_or, Bool.or_true, Bool.true_or, bind_some, Int.toNat_natCast, h0]
def isBad (x : Shrd) : Bool := !(decide (1 ≤ (x.length : Int)) && decide ((x.length : Int) ≤ 5)) || x.any fun r => !(decide (0 ≤ r.2) && decide (r.2 ≤ 4))
theorem impl_isCommit_1_eq {x : Shrd} (h : x.length ≤ 1000000000) : impl_isCommit_1 x = some (isBad x) := by
  have hc : slices_ContainsFunc__impl_Replica_impl_Replica x = some (x.any fun r => !(decide (0 ≤ r.2) && decide (r.2 ≤ 4))) := by
    unfold slices_ContainsFunc__impl_Replica_impl_Replica slices_IndexFunc__impl_Replica_impl_Replica'
    refine bind_of (bind_of (loop_index (fun k : Nat => (k : Int)) x.length (fun k => !(decide (0 ≤ (x.getD k (false, 0)).2) && decide ((x.getD k (false, 0)).2 ≤ 4))) rfl ?_ ?_) (firstR_out _ _)) ?_
    · intro k hk
      have hk1 : (k : Int) < x.length := by omega
      unfold impl_isCommit_1_1
      simp (disch := omega) only [decide_true, decide_false, i64_of, chk_and, chk_dec, chk_true, dec_t, dec_f, if_true, if_false, Bool.false_eq_true, Bool.not_true, Bool.not_false, Bool.and_self, Bool.and_false, Bool.false_and, Bool.and_true, Bool.true_and, Bool.or_false, Bool.false_or, Bool.or_true, Bool.true_or, bind_some, Int.toNat_natCast, impl_in_eq]
      cases (!(decide (0 ≤ (x.getD k (false, 0)).2) && decide ((x.getD k (false, 0)).2 ≤ 4))) <;> rfl
    · simp
    · rw [firstIdx_any, any_mem x (false, 0) (fun r => !(decide (0 ≤ r.2) && decide (r.2 ≤ 4)))]
  unfold impl_isCommit_1 isBad
  simp -zeta only [if_someB, bind_some, if_t, if_f, if_t', if_f', or_ng, or_ng', nor_g, and_g, Bool.not_not, List.nil_append, impl_in_eq, hc]
  dsimp only
  congr 1
  cases (decide (1 ≤ (x.length : Int)) && decide ((x.length : Int) ≤ 5)) <;> simp
def deadB (x : Shrd) : Bool := decide (primL x < 0)
theorem impl_LivesIn_1_eq {x : Shrd} (h : x.length ≤ 1000000000) : impl_LivesIn_1 x = some (deadB x) := by
  unfold impl_LivesIn_1
  rw [impl_Shard_primary_eq h]; rfl
theorem cfShard0_eq {l : List Shrd} (h : l.length ≤ 1000000000) (hx : ∀ x ∈ l, x.length ≤ 1000000000) : slices_ContainsFunc__impl_Shard_impl_Shard l = some (l.any tellBad) := by
  unfold slices_ContainsFunc__impl_Shard_impl_Shard slices_IndexFunc__impl_Shard_impl_Shard
  refine bind_of (bind_of (loop_index (fun k : Nat => (k : Int)) l.length (fun k => tellBad (l.getD k [])) rfl ?_ ?_) (firstR_out _ _)) ?_
  · intro k hk
    have hk1 : (k : Int) < l.length := by omega
    have hxk := hx _ (getD_mem hk [])
    simp (disch := omega) only [decide_true, decide_false, i64_of, chk_and, chk_dec, chk_true, dec_t, dec_f, if_true, if_false, Bool.false_eq_true, Bool.not_true, Bool.not_false, Bool.and_self, Bool.and_false, Bool.false_and, Bool.and_true, Bool.true_and, Bool.or_false, Bool.false_or, Bool.or_true, Bool.true_or, bind_some, Int.toNat_natCast, impl_Commit_step_1_eq hxk]
    cases tellBad (l.getD k []) <;> rfl
  · simp
  · rw [firstIdx_any, any_mem l [] tellBad]
theorem cfShard1_eq {l : List Shrd} (h : l.length ≤ 1000000000) (hx : ∀ x ∈ l, x.length ≤ 1000000000) : slices_ContainsFunc__impl_Shard_impl_Shard' l = some (l.any recBad) := by
  unfold slices_ContainsFunc__impl_Shard_impl_Shard' slices_IndexFunc__impl_Shard_impl_Shard'
  refine bind_of (bind_of (loop_index (fun k : Nat => (k : Int)) l.length (fun k => recBad (l.getD k [])) rfl ?_ ?_) (firstR_out _ _)) ?_
  · intro k hk
    have hk1 : (k : Int) < l.length := by omega
    have hxk := hx _ (getD_mem hk [])
    simp (disch := omega) only [decide_true, decide_false, i64_of, chk_and, chk_dec, chk_true, dec_t, dec_f, if_true, if_false, Bool.false_eq_true, Bool.not_true, Bool.not_false, Bool.and_self, Bool.and_false, Bool.false_and, Bool.and_true, Bool.true_and, Bool.or_false, Bool.false_or, Bool.or_true, Bool.true_or, bind_some, Int.toNat_natCast, impl_Commit_step_2_eq hxk]
    cases recBad (l.getD k []) <;> rfl
  · simp
  · rw [firstIdx_any, any_mem l [] recBad]
theorem cfShard2_eq {l : List Shrd} (h : l.length ≤ 1000000000) (hx : ∀ x ∈ l, x.length ≤ 1000000000) : slices_ContainsFunc__impl_Shard_impl_Shard'' l = some (l.any freeB) := by
  unfold slices_ContainsFunc__impl_Shard_impl_Shard'' slices_IndexFunc__impl_Shard_impl_Shard''
  refine bind_of (bind_of (loop_index (fun k : Nat => (k : Int)) l.length (fun k => freeB (l.getD k [])) rfl ?_ ?_) (firstR_out _ _)) ?_
  · intro k hk
    have hk1 : (k : Int) < l.length := by omega
    have hxk := hx _ (getD_mem hk [])
    simp (disch := omega) only [decide_true, decide_false, i64_of, chk_and, chk_dec, chk_true, dec_t, dec_f, if_true, if_false, Bool.false_eq_true, Bool.not_true, Bool.not_false, Bool.and_self, Bool.and_false, Bool.false_and, Bool.and_true, Bool.true_and, Bool.or_false, Bool.false_or, Bool.or_true, Bool.true_or, bind_some, Int.toNat_natCast, impl_Commit_act_1_eq hxk]
    cases freeB (l.getD k []) <;> rfl
  · simp
  · rw [firstIdx_any, any_mem l [] freeB]
theorem cfShard3_eq {l : List Shrd} (h : l.length ≤ 1000000000) (hx : ∀ x ∈ l, x.length ≤ 1000000000) : slices_ContainsFunc__impl_Shard_impl_Shard''' l = some (l.any isBad) := by
  unfold slices_ContainsFunc__impl_Shard_impl_Shard''' slices_IndexFunc__impl_Shard_impl_Shard'''
  refine bind_of (bind_of (loop_index (fun k : Nat => (k : Int)) l.length (fun k => isBad (l.getD k [])) rfl ?_ ?_) (firstR_out _ _)) ?_
  · intro k hk
    have hk1 : (k : Int) < l.length := by omega
    have hxk := hx _ (getD_mem hk [])
    simp (disch := omega) only [decide_true, decide_false, i64_of, chk_and, chk_dec, chk_true, dec_t, dec_f, if_true, if_false, Bool.false_eq_true, Bool.not_true, Bool.not_false, Bool.and_self, Bool.and_false, Bool.false_and, Bool.and_true, Bool.true_and, Bool.or_false, Bool.false_or, Bool.or_true, Bool.true_or, bind_some, Int.toNat_natCast, impl_isCommit_1_eq hxk]
    cases isBad (l.getD k []) <;> rfl
  · simp
  · rw [firstIdx_any, any_mem l [] isBad]
theorem cfShard4_eq {l : List Shrd} (h : l.length ≤ 1000000000) (hx : ∀ x ∈ l, x.length ≤ 1000000000) : slices_ContainsFunc__impl_Shard_impl_Shard'''' l = some (l.any deadB) := by
  unfold slices_ContainsFunc__impl_Shard_impl_Shard'''' slices_IndexFunc__impl_Shard_impl_Shard''''
  refine bind_of (bind_of (loop_index (fun k : Nat => (k : Int)) l.length (fun k => deadB (l.getD k [])) rfl ?_ ?_) (firstR_out _ _)) ?_
  · intro k hk
    have hk1 : (k : Int) < l.length := by omega
    have hxk := hx _ (getD_mem hk [])
    simp (disch := omega) only [decide_true, decide_false, i64_of, chk_and, chk_dec, chk_true, dec_t, dec_f, if_true, if_false, Bool.false_eq_true, Bool.not_true, Bool.not_false, Bool.and_self, Bool.and_false, Bool.false_and, Bool.and_true, Bool.true_and, Bool.or_false, Bool.false_or, Bool.or_true, Bool.true_or, bind_some, Int.toNat_natCast, impl_LivesIn_1_eq hxk]
    cases deadB (l.getD k []) <;> rfl
  · simp
  · rw [firstIdx_any, any_mem l [] deadB]

/-! ### Steps -/
structure CS where
  sh : List Shrd
  dr : Int
  rc : Int
def CS.opn (c : CS) : Bool := decide (c.dr = 0) && decide (c.rc = 0)
def CS.dec (c : CS) : Int := if c.dr = 0 then c.rc else c.dr
def setR (l : List Shrd) (s n : Int) (r : Rep) : List Shrd := l.set s.toNat ((l.getD s.toNat []).set n.toNat r)
def CS.rep (c : CS) (s n : Int) : Rep := (c.sh.getD s.toNat []).getD n.toNat (false, 0)
/-- What a step of a replica that is up leaves there. -/
def CS.act (c : CS) (k s n : Int) : Option Rep :=
  let x := c.sh.getD s.toNat []
  let r := c.rep s n
  if k = 1 then (if c.opn && (decide (primL x = n) && decide (r.2 = 0)) then some (r.1, 1) else none)
  else if k = 2 then (if c.opn && (!(c.sh.any freeB) && (decide (r.2 = 0) || decide (r.2 = 1))) then some (r.1, 2) else none)
  else if k = 5 then (if (upL x).length = 1 then none else some (true, 0))
  else (if !c.opn && (!decide (r.2 = 3) && !decide (r.2 = 4)) then some (r.1, if c.dec = 1 then 3 else 4) else none)
theorem impl_Commit_decision_eq (l : List Shrd) (a b : Int) : impl_Commit_decision l a b = some (if a = 0 then b else a) := by
  unfold impl_Commit_decision
  by_cases h : a = 0 <;> simp [h]
theorem impl_Commit_act_eq {c : CS} (hl : c.sh.length ≤ 1000000000) (hx : ∀ x ∈ c.sh, x.length ≤ 1000000000) {k s n : Int} (hk : k = 1 ∨ k = 2 ∨ k = 5 ∨ k = 7) (h0 : 0 ≤ s) (h1 : s < c.sh.length) (h2 : 0 ≤ n) (h3 : n < (c.sh.getD s.toNat []).length) :
    impl_Commit_act c.sh c.dr c.rc k s n c.opn = some (match c.act k s n with | some r => (setR c.sh s n r, true) | none => (c.sh, false)) := by
  have hxs : (c.sh.getD s.toNat []).length ≤ 1000000000 := hx _ (getD_mem (by omega) _)
  have e1 := impl_Shard_primary_eq hxs
  have e2 := cfShard2_eq hl hx
  have e3 := impl_Shard_ups_eq (s := []) hxs (by simp)
  unfold impl_Commit_act CS.act CS.rep setR
  obtain ⟨x, hX⟩ : ∃ x, c.sh.getD s.toNat [] = x := ⟨_, rfl⟩
  rw [hX] at h3 hxs e1 e3
  obtain ⟨r, hR⟩ : ∃ r, x.getD n.toNat (false, 0) = r := ⟨_, rfl⟩
  have n21 : ¬ (2 : Int) = 1 := by decide
  have n51 : ¬ (5 : Int) = 1 := by decide
  have n52 : ¬ (5 : Int) = 2 := by decide
  have n71 : ¬ (7 : Int) = 1 := by decide
  have n72 : ¬ (7 : Int) = 2 := by decide
  have n75 : ¬ (7 : Int) = 5 := by decide
  rcases hk with rfl | rfl | rfl | rfl
  · simp (disch := omega) only [decide_true, decide_false, i64_of, chk_and, chk_dec, chk_true, dec_t, dec_f, if_true, if_false, Bool.false_eq_true, Bool.not_true, Bool.not_false, Bool.and_self, Bool.and_false, Bool.false_and, Bool.and_true, Bool.true_and, Bool.or_false, Bool.false_or, Bool.or_true, Bool.true_or, bind_some, Int.toNat_natCast, hX, hR, e1, if_someB]
    cases c.opn with
    | false => simp (disch := omega) only [decide_true, decide_false, i64_of, chk_and, chk_dec, chk_true, dec_t, dec_f, if_true, if_false, Bool.false_eq_true, Bool.not_true, Bool.not_false, Bool.and_self, Bool.and_false, Bool.false_and, Bool.and_true, Bool.true_and, Bool.or_false, Bool.false_or, Bool.or_true, Bool.true_or, bind_some, Int.toNat_natCast]
    | true =>
      by_cases q1 : primL x = n
      · by_cases q2 : r.2 = 0
        · simp (disch := omega) only [decide_true, decide_false, i64_of, chk_and, chk_dec, chk_true, dec_t, dec_f, if_true, if_false, Bool.false_eq_true, Bool.not_true, Bool.not_false, Bool.and_self, Bool.and_false, Bool.false_and, Bool.and_true, Bool.true_and, Bool.or_false, Bool.false_or, Bool.or_true, Bool.true_or, bind_some, Int.toNat_natCast, q1, q2, hX, hR, e1]
        · simp (disch := omega) only [decide_true, decide_false, i64_of, chk_and, chk_dec, chk_true, dec_t, dec_f, if_true, if_false, Bool.false_eq_true, Bool.not_true, Bool.not_false, Bool.and_self, Bool.and_false, Bool.false_and, Bool.and_true, Bool.true_and, Bool.or_false, Bool.false_or, Bool.or_true, Bool.true_or, bind_some, Int.toNat_natCast, q1, q2, hX, hR, e1]
      · simp (disch := omega) only [decide_true, decide_false, i64_of, chk_and, chk_dec, chk_true, dec_t, dec_f, if_true, if_false, Bool.false_eq_true, Bool.not_true, Bool.not_false, Bool.and_self, Bool.and_false, Bool.false_and, Bool.and_true, Bool.true_and, Bool.or_false, Bool.false_or, Bool.or_true, Bool.true_or, bind_some, Int.toNat_natCast, q1, hX, hR, e1]
  · simp (disch := omega) only [decide_true, decide_false, i64_of, chk_and, chk_dec, chk_true, dec_t, dec_f, if_true, if_false, Bool.false_eq_true, Bool.not_true, Bool.not_false, Bool.and_self, Bool.and_false, Bool.false_and, Bool.and_true, Bool.true_and, Bool.or_false, Bool.false_or, Bool.or_true, Bool.true_or, bind_some, Int.toNat_natCast, hX, hR, e2, n21, n51, n52, n71, n72, n75]
    cases c.opn with
    | false => simp (disch := omega) only [decide_true, decide_false, i64_of, chk_and, chk_dec, chk_true, dec_t, dec_f, if_true, if_false, Bool.false_eq_true, Bool.not_true, Bool.not_false, Bool.and_self, Bool.and_false, Bool.false_and, Bool.and_true, Bool.true_and, Bool.or_false, Bool.false_or, Bool.or_true, Bool.true_or, bind_some, Int.toNat_natCast]
    | true =>
      cases c.sh.any freeB with
      | true => simp (disch := omega) only [decide_true, decide_false, i64_of, chk_and, chk_dec, chk_true, dec_t, dec_f, if_true, if_false, Bool.false_eq_true, Bool.not_true, Bool.not_false, Bool.and_self, Bool.and_false, Bool.false_and, Bool.and_true, Bool.true_and, Bool.or_false, Bool.false_or, Bool.or_true, Bool.true_or, bind_some, Int.toNat_natCast]
      | false =>
        by_cases q1 : r.2 = 0
        · simp (disch := omega) only [decide_true, decide_false, i64_of, chk_and, chk_dec, chk_true, dec_t, dec_f, if_true, if_false, Bool.false_eq_true, Bool.not_true, Bool.not_false, Bool.and_self, Bool.and_false, Bool.false_and, Bool.and_true, Bool.true_and, Bool.or_false, Bool.false_or, Bool.or_true, Bool.true_or, bind_some, Int.toNat_natCast, q1]
        · by_cases q2 : r.2 = 1
          · simp (disch := omega) only [decide_true, decide_false, i64_of, chk_and, chk_dec, chk_true, dec_t, dec_f, if_true, if_false, Bool.false_eq_true, Bool.not_true, Bool.not_false, Bool.and_self, Bool.and_false, Bool.false_and, Bool.and_true, Bool.true_and, Bool.or_false, Bool.false_or, Bool.or_true, Bool.true_or, bind_some, Int.toNat_natCast, q1, q2]
          · simp (disch := omega) only [decide_true, decide_false, i64_of, chk_and, chk_dec, chk_true, dec_t, dec_f, if_true, if_false, Bool.false_eq_true, Bool.not_true, Bool.not_false, Bool.and_self, Bool.and_false, Bool.false_and, Bool.and_true, Bool.true_and, Bool.or_false, Bool.false_or, Bool.or_true, Bool.true_or, bind_some, Int.toNat_natCast, q1, q2]
  · simp (disch := omega) only [decide_true, decide_false, i64_of, chk_and, chk_dec, chk_true, dec_t, dec_f, if_true, if_false, Bool.false_eq_true, Bool.not_true, Bool.not_false, Bool.and_self, Bool.and_false, Bool.false_and, Bool.and_true, Bool.true_and, Bool.or_false, Bool.false_or, Bool.or_true, Bool.true_or, bind_some, Int.toNat_natCast, hX, hR, e3, n21, n51, n52, n71, n72, n75]
    by_cases q : (upL x).length = 1
    · simp (disch := omega) only [decide_true, decide_false, i64_of, chk_and, chk_dec, chk_true, dec_t, dec_f, if_true, if_false, Bool.false_eq_true, Bool.not_true, Bool.not_false, Bool.and_self, Bool.and_false, Bool.false_and, Bool.and_true, Bool.true_and, Bool.or_false, Bool.false_or, Bool.or_true, Bool.true_or, bind_some, Int.toNat_natCast, q]
    · have q' : ¬ ((upL x).length : Int) = 1 := by omega
      simp (disch := omega) only [decide_true, decide_false, i64_of, chk_and, chk_dec, chk_true, dec_t, dec_f, if_true, if_false, Bool.false_eq_true, Bool.not_true, Bool.not_false, Bool.and_self, Bool.and_false, Bool.false_and, Bool.and_true, Bool.true_and, Bool.or_false, Bool.false_or, Bool.or_true, Bool.true_or, bind_some, Int.toNat_natCast, q, q']
  · have hd : (if c.dr = 0 then c.rc else c.dr) = c.dec := rfl
    simp (disch := omega) only [decide_true, decide_false, i64_of, chk_and, chk_dec, chk_true, dec_t, dec_f, if_true, if_false, Bool.false_eq_true, Bool.not_true, Bool.not_false, Bool.and_self, Bool.and_false, Bool.false_and, Bool.and_true, Bool.true_and, Bool.or_false, Bool.false_or, Bool.or_true, Bool.true_or, bind_some, Int.toNat_natCast, hX, hR, impl_Commit_decision_eq, n21, n51, n52, n71, n72, n75, hd]
    cases c.opn with
    | true => simp (disch := omega) only [decide_true, decide_false, i64_of, chk_and, chk_dec, chk_true, dec_t, dec_f, if_true, if_false, Bool.false_eq_true, Bool.not_true, Bool.not_false, Bool.and_self, Bool.and_false, Bool.false_and, Bool.and_true, Bool.true_and, Bool.or_false, Bool.false_or, Bool.or_true, Bool.true_or, bind_some, Int.toNat_natCast]
    | false =>
      by_cases q1 : r.2 = 3
      · simp (disch := omega) only [decide_true, decide_false, i64_of, chk_and, chk_dec, chk_true, dec_t, dec_f, if_true, if_false, Bool.false_eq_true, Bool.not_true, Bool.not_false, Bool.and_self, Bool.and_false, Bool.false_and, Bool.and_true, Bool.true_and, Bool.or_false, Bool.false_or, Bool.or_true, Bool.true_or, bind_some, Int.toNat_natCast, q1]
      · by_cases q2 : r.2 = 4
        · simp (disch := omega) only [decide_true, decide_false, i64_of, chk_and, chk_dec, chk_true, dec_t, dec_f, if_true, if_false, Bool.false_eq_true, Bool.not_true, Bool.not_false, Bool.and_self, Bool.and_false, Bool.false_and, Bool.and_true, Bool.true_and, Bool.or_false, Bool.false_or, Bool.or_true, Bool.true_or, bind_some, Int.toNat_natCast, q1, q2]
        · by_cases q3 : c.dec = 1
          · simp (disch := omega) only [decide_true, decide_false, i64_of, chk_and, chk_dec, chk_true, dec_t, dec_f, if_true, if_false, Bool.false_eq_true, Bool.not_true, Bool.not_false, Bool.and_self, Bool.and_false, Bool.false_and, Bool.and_true, Bool.true_and, Bool.or_false, Bool.false_or, Bool.or_true, Bool.true_or, bind_some, Int.toNat_natCast, q1, q2, q3, List.length_set, List.set_set]
            rw [getD_set_eq (by omega)]
          · simp (disch := omega) only [decide_true, decide_false, i64_of, chk_and, chk_dec, chk_true, dec_t, dec_f, if_true, if_false, Bool.false_eq_true, Bool.not_true, Bool.not_false, Bool.and_self, Bool.and_false, Bool.false_and, Bool.and_true, Bool.true_and, Bool.or_false, Bool.false_or, Bool.or_true, Bool.true_or, bind_some, Int.toNat_natCast, q1, q2, q3, List.length_set]

def CS.actOk (c : CS) (s n : Int) : Bool := (decide (0 ≤ s) && decide (s ≤ (c.sh.length : Int) - 1)) && ((decide (0 ≤ n) && decide (n ≤ ((c.sh.getD s.toNat []).length : Int) - 1)) && !(c.rep s n).1)
def CS.step (c : CS) (k s n : Int) : Option CS :=
  if k = 3 then (if c.opn && !(c.sh.any tellBad) then some { c with dr := 1 } else none)
  else if k = 4 then (if c.opn then some { c with dr := 2 } else none)
  else if k = 6 then (if c.rc = 0 then some { c with rc := if c.dr = 0 then (if c.sh.any recBad then 2 else 1) else c.dr } else none)
  else if k = 1 ∨ k = 2 ∨ k = 5 ∨ k = 7 then (if c.actOk s n then (match c.act k s n with | some r => some { c with sh := setR c.sh s n r } | none => none) else none)
  else none
theorem impl_Commit_step_eq {c : CS} (hl : c.sh.length ≤ 1000000000) (hx : ∀ x ∈ c.sh, x.length ≤ 1000000000) (k s n : Int) :
    impl_Commit_step c.sh c.dr c.rc k s n = some (match c.step k s n with | some y => (y.sh, y.dr, y.rc, true) | none => ([], 0, 0, false)) := by
  have e0 := cfShard0_eq hl hx
  have e1 := cfShard1_eq hl hx
  unfold impl_Commit_step CS.step
  rw [copy_loop hl hx]
  have ho : (if (decide (c.dr = (0 : Int))) then (decide (c.rc = (0 : Int))) else false) = c.opn := by unfold CS.opn; simp only [if_f]
  simp only [bind_some, ho]
  by_cases k3 : k = 3
  · subst k3
    simp only [decide_true, if_true, e0]
    cases c.opn with
    | false => simp
    | true => cases c.sh.any tellBad <;> simp
  · by_cases k4 : k = 4
    · subst k4
      simp only [k3, decide_true, decide_false, Bool.false_eq_true, if_true, if_false, bind_some]
      cases c.opn <;> simp
    · by_cases k6 : k = 6
      · subst k6
        simp only [k3, k4, decide_true, decide_false, Bool.false_eq_true, if_true, if_false, bind_some, e1]
        by_cases q : c.rc = 0
        · by_cases q2 : c.dr = 0
          · cases c.sh.any recBad <;> simp [q, q2]
          · simp [q, q2]
        · by_cases q2 : c.dr = 0
          · cases c.sh.any recBad <;> simp [q, q2]
          · simp [q, q2]
      · have hK : ((if (decide (k = (1 : Int))) then
 (some (decide (k = (1 : Int))) : Option (Bool))
 else
 ((if (decide (k = (2 : Int))) then
 (some (decide (k = (2 : Int))) : Option (Bool))
 else
 ((if (decide (k = (5 : Int))) then
 (some (decide (k = (5 : Int))) : Option (Bool))
 else
 (some (decide (k = (7 : Int))))).bind fun s7 =>
 some s7)).bind fun s8 =>
 some s8)) : Option Bool) = some (decide (k = 1 ∨ k = 2 ∨ k = 5 ∨ k = 7)) := by
          by_cases q1 : k = 1
          · simp [q1]
          · by_cases q2 : k = 2
            · simp [q2]
            · by_cases q5 : k = 5
              · simp [q5]
              · simp [q1, q2, q5]
        simp only [k3, k4, k6, decide_false, Bool.false_eq_true, if_false, bind_some, hK]
        by_cases kk : k = 1 ∨ k = 2 ∨ k = 5 ∨ k = 7
        · simp only [kk, decide_true, if_true]
          simp -zeta only [if_someB, bind_some, if_t, if_f, if_t', if_f', or_ng, or_ng', nor_g, and_g, Bool.not_not, List.nil_append, impl_in_eq]
          by_cases c1 : 0 ≤ s ∧ s ≤ (c.sh.length : Int) - 1
          · have hxs : (c.sh.getD s.toNat []).length ≤ 1000000000 := hx _ (getD_mem (by omega) _)
            by_cases c2 : 0 ≤ n ∧ n ≤ ((c.sh.getD s.toNat []).length : Int) - 1
            · have ha := impl_Commit_act_eq hl hx kk c1.1 (by omega) c2.1 (by omega)
              unfold CS.actOk CS.rep
              simp (disch := omega) only [decide_true, decide_false, i64_of, chk_and, chk_dec, chk_true, dec_t, dec_f, if_true, if_false, Bool.false_eq_true, Bool.not_true, Bool.not_false, Bool.and_self, Bool.and_false, Bool.false_and, Bool.and_true, Bool.true_and, Bool.or_false, Bool.false_or, Bool.or_true, Bool.true_or, bind_some, Int.toNat_natCast, c1.1, c1.2, c2.1, c2.2]
              cases hd : ((c.sh.getD s.toNat []).getD n.toNat (false, 0)).1 with
              | true => simp (disch := omega) only [decide_true, decide_false, i64_of, chk_and, chk_dec, chk_true, dec_t, dec_f, if_true, if_false, Bool.false_eq_true, Bool.not_true, Bool.not_false, Bool.and_self, Bool.and_false, Bool.false_and, Bool.and_true, Bool.true_and, Bool.or_false, Bool.false_or, Bool.or_true, Bool.true_or, bind_some, Int.toNat_natCast]
              | false =>
                simp (disch := omega) only [decide_true, decide_false, i64_of, chk_and, chk_dec, chk_true, dec_t, dec_f, if_true, if_false, Bool.false_eq_true, Bool.not_true, Bool.not_false, Bool.and_self, Bool.and_false, Bool.false_and, Bool.and_true, Bool.true_and, Bool.or_false, Bool.false_or, Bool.or_true, Bool.true_or, bind_some, Int.toNat_natCast, ha]
                cases c.act k s n <;> simp
            · have hf : (decide (0 ≤ n) && decide (n ≤ ((c.sh.getD s.toNat []).length : Int) - 1)) = false := by
                rw [Bool.and_eq_false_iff, decide_eq_false_iff_not, decide_eq_false_iff_not]; omega
              unfold CS.actOk
              simp (disch := omega) only [decide_true, decide_false, i64_of, chk_and, chk_dec, chk_true, dec_t, dec_f, if_true, if_false, Bool.false_eq_true, Bool.not_true, Bool.not_false, Bool.and_self, Bool.and_false, Bool.false_and, Bool.and_true, Bool.true_and, Bool.or_false, Bool.false_or, Bool.or_true, Bool.true_or, bind_some, Int.toNat_natCast, c1.1, c1.2, hf]
          · have hf : (decide (0 ≤ s) && decide (s ≤ (c.sh.length : Int) - 1)) = false := by
              rw [Bool.and_eq_false_iff, decide_eq_false_iff_not, decide_eq_false_iff_not]; omega
            unfold CS.actOk
            simp (disch := omega) only [decide_true, decide_false, i64_of, chk_and, chk_dec, chk_true, dec_t, dec_f, if_true, if_false, Bool.false_eq_true, Bool.not_true, Bool.not_false, Bool.and_self, Bool.and_false, Bool.false_and, Bool.and_true, Bool.true_and, Bool.or_false, Bool.false_or, Bool.or_true, Bool.true_or, bind_some, Int.toNat_natCast, hf]
        · simp only [kk, decide_false, Bool.false_eq_true, if_false, bind_some, Bool.not_false, if_true]

/-! ### The reference's step -/
def allBad (x : Shrd) : Bool := decide (primL x < 0) || (!decide ((x.getD (primL x).toNat (false, 0)).2 = 1) && !decide ((x.getD (primL x).toNat (false, 0)).2 = 2))
theorem spec_l15All_eq {l : List Shrd} (h : l.length ≤ 1000000000) (hx : ∀ x ∈ l, x.length ≤ 1000000000) (a b : Int) : spec_l15All l a b = some (!(l.any allBad)) := by
  unfold spec_l15All
  refine bind_of (loop_any (fun k : Nat => (k : Int)) l.length (fun k => allBad (l.getD k [])) (.inr false) (.inl ()) ?_ ?_) ?_
  · intro k hk
    have hk1 : (k : Int) < l.length := by omega
    have hxk := hx _ (getD_mem hk [])
    have hp := (firstIdx_lt (l.getD k []).length (fun q => !((l.getD k []).getD q (false, 0)).1)).2
    have hp1 : primL (l.getD k []) < (l.getD k []).length := hp
    simp (disch := omega) only [decide_true, decide_false, i64_of, chk_and, chk_dec, chk_true, dec_t, dec_f, if_true, if_false, Bool.false_eq_true, Bool.not_true, Bool.not_false, Bool.and_self, Bool.and_false, Bool.false_and, Bool.and_true, Bool.true_and, Bool.or_false, Bool.false_or, Bool.or_true, Bool.true_or, bind_some, Int.toNat_natCast, spec_l15Primary_eq hxk]
    unfold allBad
    by_cases h0 : primL (l.getD k []) < 0
    · simp (disch := omega) only [decide_true, decide_false, i64_of, chk_and, chk_dec, chk_true, dec_t, dec_f, if_true, if_false, Bool.false_eq_true, Bool.not_true, Bool.not_false, Bool.and_self, Bool.and_false, Bool.false_and, Bool.and_true, Bool.true_and, Bool.or_false, Bool.false_or, Bool.or_true, Bool.true_or, bind_some, Int.toNat_natCast, h0]
    · simp (disch := omega) only [decide_true, decide_false, i64_of, chk_and, chk_dec, chk_true, dec_t, dec_f, if_true, if_false, Bool.false_eq_true, Bool.not_true, Bool.not_false, Bool.and_self, Bool.and_false, Bool.false_and, Bool.and_true, Bool.true_and, Bool.or_false, Bool.false_or, Bool.or_true, Bool.true_or, bind_some, Int.toNat_natCast, h0, if_f, if_t]
      rw [if_some]; rfl
  · simp
  · rw [any_mem l [] allBad]
    cases l.any allBad <;> simp

def cpHas (a : Bool) (r : Rep) : Bool := decide (r.2 = 2) || (!a && decide (r.2 = 3))
def cpSome (a : Bool) (x : Shrd) : Bool := x.any fun r => !r.1 && cpHas a r
def cpAll (a : Bool) (x : Shrd) : Bool := x.all fun r => r.1 || cpHas a r
def cpBad (a : Bool) (x : Shrd) : Bool := !cpSome a x || (a && !cpAll a x)
theorem spec_l15Copies_eq {l : List Shrd} (h : l.length ≤ 1000000000) (hx : ∀ x ∈ l, x.length ≤ 1000000000) (a1 a2 : Int) (a : Bool) : spec_l15Copies l a1 a2 a = some (!(l.any (cpBad a))) := by
  unfold spec_l15Copies
  refine bind_of (loop_any (fun k : Nat => (k : Int)) l.length (fun k => cpBad a (l.getD k [])) (.inr false) (.inl ()) ?_ ?_) ?_
  · intro k hk
    have hk1 : (k : Int) < l.length := by omega
    have hxk := hx _ (getD_mem hk [])
    obtain ⟨x, hX⟩ : ∃ x, l.getD k [] = x := ⟨_, rfl⟩
    simp (disch := omega) only [decide_true, decide_false, i64_of, chk_and, chk_dec, chk_true, dec_t, dec_f, if_true, if_false, Bool.false_eq_true, Bool.not_true, Bool.not_false, Bool.and_self, Bool.and_false, Bool.false_and, Bool.and_true, Bool.true_and, Bool.or_false, Bool.false_or, Bool.or_true, Bool.true_or, bind_some, Int.toNat_natCast, hX]
    rw [hX] at hxk
    refine bind_of (bind_of (loop_steps' (fun k : Nat => (cpSome a (x.take k), cpAll a (x.take k), (k : Int))) x.length (cpSome a x, cpAll a x) rfl ?_ ?_) rfl) ?_
    · intro q hq
      have hq1 : (q : Int) < x.length := by omega
      have e1 : cpSome a (x.take (q + 1)) = (cpSome a (x.take q) || (!(x.getD q (false, 0)).1 && cpHas a (x.getD q (false, 0)))) := by
        rw [take_snoc x (false, 0) hq]; simp only [cpSome, List.any_append, List.any_cons, List.any_nil, Bool.or_false]
      have e2 : cpAll a (x.take (q + 1)) = (cpAll a (x.take q) && ((x.getD q (false, 0)).1 || cpHas a (x.getD q (false, 0)))) := by
        rw [take_snoc x (false, 0) hq]; simp only [cpAll, List.all_append, List.all_cons, List.all_nil, Bool.and_true]
      rw [e1, e2]
      obtain ⟨r, hR⟩ : ∃ r, x.getD q (false, 0) = r := ⟨_, rfl⟩
      simp (disch := omega) only [decide_true, decide_false, i64_of, chk_and, chk_dec, chk_true, dec_t, dec_f, if_true, if_false, Bool.false_eq_true, Bool.not_true, Bool.not_false, Bool.and_self, Bool.and_false, Bool.false_and, Bool.and_true, Bool.true_and, Bool.or_false, Bool.false_or, Bool.or_true, Bool.true_or, bind_some, Int.toNat_natCast, if_f, if_t, hR]
      cases hd : r.1 with
      | true => simp (disch := omega) only [decide_true, decide_false, i64_of, chk_and, chk_dec, chk_true, dec_t, dec_f, if_true, if_false, Bool.false_eq_true, Bool.not_true, Bool.not_false, Bool.and_self, Bool.and_false, Bool.false_and, Bool.and_true, Bool.true_and, Bool.or_false, Bool.false_or, Bool.or_true, Bool.true_or, bind_some, Int.toNat_natCast]; rfl
      | false => simp (disch := omega) only [decide_true, decide_false, i64_of, chk_and, chk_dec, chk_true, dec_t, dec_f, if_true, if_false, Bool.false_eq_true, Bool.not_true, Bool.not_false, Bool.and_self, Bool.and_false, Bool.false_and, Bool.and_true, Bool.true_and, Bool.or_false, Bool.false_or, Bool.or_true, Bool.true_or, bind_some, Int.toNat_natCast]; rfl
    · simp
    · simp only [if_f, if_t, cpBad]
      rw [if_some]; rfl
  · simp
  · rw [any_mem l [] (cpBad a)]
    cases l.any (cpBad a) <;> simp

theorem haveL_nil {x : Shrd} {s : List Int} : (haveL x s).length = 0 ↔ ∀ r ∈ x, r.1 = false → r.2 ∉ s := by
  unfold haveL upL
  rw [List.length_eq_zero_iff, List.filter_eq_nil_iff]
  simp only [List.mem_filter, Bool.not_eq_true', decide_eq_true_eq]
  exact ⟨fun h r h1 h2 => h r ⟨h1, h2⟩, fun h r hr => h r hr.1 hr.2⟩
theorem haveL_full {x : Shrd} {s : List Int} : (haveL x s).length < (upL x).length ↔ ¬ ∀ r ∈ x, r.1 = false → r.2 ∈ s := by
  have h1 : (haveL x s).length ≤ (upL x).length := List.length_filter_le _ _
  have h2 : (haveL x s).length = (upL x).length ↔ ∀ r ∈ x, r.1 = false → r.2 ∈ s := by
    unfold haveL
    rw [List.length_filter_eq_length_iff]
    simp only [upL, List.mem_filter, Bool.not_eq_true', decide_eq_true_eq]
    exact ⟨fun h r h1 h2 => h r ⟨h1, h2⟩, fun h r hr => h r hr.1 hr.2⟩
  rw [← h2]; omega
theorem cpBad_rec (x : Shrd) : cpBad false x = recBad x := by
  unfold cpBad recBad
  rw [Bool.eq_iff_iff]
  simp only [Bool.false_and, Bool.or_false, Bool.not_eq_true', decide_eq_true_eq, haveL_nil, cpSome, List.any_eq_false, cpHas, Bool.not_false, Bool.true_and, Bool.and_eq_true, Bool.or_eq_true, not_and, not_or, List.mem_cons, List.not_mem_nil, or_false]
theorem upL_nil {x : Shrd} : (upL x).length = 0 ↔ ∀ r ∈ x, r.1 = true := by
  unfold upL
  rw [List.length_eq_zero_iff, List.filter_eq_nil_iff]
  simp
theorem cpBad_tell (x : Shrd) : cpBad true x = tellBad x := by
  unfold cpBad tellBad
  rw [Bool.eq_iff_iff]
  simp only [Bool.true_and, Bool.or_eq_true, Bool.not_eq_true', decide_eq_true_eq, haveL_full, upL_nil, cpSome, cpAll, List.any_eq_false, List.all_eq_false, cpHas, Bool.not_true, Bool.false_and, Bool.or_false, Bool.and_eq_true, not_and, decide_eq_true_eq, List.mem_cons, List.not_mem_nil, or_false]
  constructor
  · rintro (h | ⟨r, h1, h2⟩)
    · by_cases hu : ∀ r ∈ x, r.1 = true
      · exact .inl hu
      · refine .inr fun hh => hu fun r hr => ?_
        cases hd : r.1 with
        | true => rfl
        | false => exact absurd (hh r hr hd) (h r hr hd)
    · refine .inr fun hh => ?_
      have := hh r h1
      simp only [not_or] at h2
      exact h2.2 (this (by simpa using h2.1))
  · rintro (h | h)
    · exact .inl fun r hr hd => by rw [h r hr] at hd; cases hd
    · refine .inr (Classical.byContradiction fun hn => h fun r hr hd => ?_)
      refine Classical.byContradiction fun h2 => hn ⟨r, hr, ?_⟩
      simp [hd, h2]

theorem upCount_loop {x : Shrd} (h : x.length ≤ 1000000000) {f : (List ((Bool) × Int)) × Int × Int → Option (((List ((Bool) × Int)) × Int × Int) ⊕ ((List ((Bool) × Int)) × Int))}
    (hf : ∀ k : Nat, k < x.length → f (x, ((upL (x.take k)).length : Int), (k : Int)) = some (.inl (x, ((upL (x.take (k + 1))).length : Int), ((k + 1 : Nat) : Int))))
    (he : f (x, ((upL x).length : Int), (x.length : Int)) = some (.inr (x, ((upL x).length : Int)))) : loopM f (x, (0 : Int), (0 : Int)) = some (x, ((upL x).length : Int)) :=
  loop_steps' (fun k : Nat => (x, ((upL (x.take k)).length : Int), (k : Int))) x.length (x, ((upL x).length : Int)) rfl hf (by simpa using he)
def SpecOk (c : CS) (k s n : Int) (r : (List Shrd) × Int × Int × Bool) : Prop := r.2.2.2 = (c.step k s n).isSome ∧ ∀ y, c.step k s n = some y → r = (y.sh, y.dr, y.rc, true)
theorem allBad_free {l : List Shrd} (hlive : ∀ x ∈ l, 0 ≤ primL x) : l.any allBad = l.any freeB := by
  rw [Bool.eq_iff_iff, List.any_eq_true, List.any_eq_true]
  have : ∀ x ∈ l, allBad x = freeB x := by
    intro x hx
    have := hlive x hx
    unfold allBad freeB
    rw [decide_eq_false (show ¬ primL x < 0 by omega), decide_eq_true this, Bool.false_or, Bool.true_and]
  exact ⟨fun ⟨x, h1, h2⟩ => ⟨x, h1, by rw [← this x h1]; exact h2⟩, fun ⟨x, h1, h2⟩ => ⟨x, h1, by rw [this x h1]; exact h2⟩⟩
theorem spec_l15Step_1 {c : CS} (hl : c.sh.length ≤ 1000000000) (hx : ∀ x ∈ c.sh, x.length ≤ 1000000000) (hlive : ∀ x ∈ c.sh, 0 ≤ primL x) (s n : Int) : Ok (spec_l15Step c.sh c.dr c.rc 1 s n) (SpecOk c 1 s n) := by
  have e3 := spec_l15All_eq hl hx c.dr c.rc
  have f3 := allBad_free hlive
  have k3 : ¬ (1 : Int) = 3 := by decide
  have k4 : ¬ (1 : Int) = 4 := by decide
  have k6 : ¬ (1 : Int) = 6 := by decide
  have n21 : ¬ (2 : Int) = 1 := by decide
  have n51 : ¬ (5 : Int) = 1 := by decide
  have n52 : ¬ (5 : Int) = 2 := by decide
  have n71 : ¬ (7 : Int) = 1 := by decide
  have n72 : ¬ (7 : Int) = 2 := by decide
  have n75 : ¬ (7 : Int) = 5 := by decide
  have ho : (if (decide (c.dr = (0 : Int))) then (decide (c.rc = (0 : Int))) else false) = c.opn := by unfold CS.opn; simp only [if_f]
  unfold spec_l15Step SpecOk CS.step
  simp -zeta only [ho, k3, k4, k6, decide_true, decide_false, Bool.false_eq_true, if_true, if_false, Bool.not_not, spec_l1In_eq, if_someB, bind_some, if_t, if_f]
  unfold CS.actOk CS.act CS.rep setR
  obtain ⟨x, hX⟩ : ∃ x, c.sh.getD s.toNat [] = x := ⟨_, rfl⟩
  by_cases c1 : 0 ≤ s ∧ s ≤ (c.sh.length : Int) - 1
  · have hxs : (c.sh.getD s.toNat []).length ≤ 1000000000 := hx _ (getD_mem (by omega) _)
    rw [hX] at hxs
    have hs1 : s < (c.sh.length : Int) := by omega
    obtain ⟨r, hR⟩ : ∃ r, x.getD n.toNat (false, 0) = r := ⟨_, rfl⟩
    by_cases c2 : 0 ≤ n ∧ n ≤ (x.length : Int) - 1
    · have hn1 : n < (x.length : Int) := by omega
      simp (disch := omega) only [decide_true, decide_false, i64_of, chk_and, chk_dec, chk_true, dec_t, dec_f, if_true, if_false, Bool.false_eq_true, Bool.not_true, Bool.not_false, Bool.and_self, Bool.and_false, Bool.false_and, Bool.and_true, Bool.true_and, Bool.or_false, Bool.false_or, Bool.or_true, Bool.true_or, bind_some, Int.toNat_natCast, hX, hR, c1.1, c1.2, c2.1, c2.2, hs1, hn1]
      obtain ⟨d, hh⟩ := r
      cases d with
      | true => simp (disch := omega) only [decide_true, decide_false, i64_of, chk_and, chk_dec, chk_true, dec_t, dec_f, if_true, if_false, Bool.false_eq_true, Bool.not_true, Bool.not_false, Bool.and_self, Bool.and_false, Bool.false_and, Bool.and_true, Bool.true_and, Bool.or_false, Bool.false_or, Bool.or_true, Bool.true_or, bind_some, Int.toNat_natCast]; exact Ok.ret ⟨by simp, by simp⟩
      | false =>
        cases c.opn with
        | false => simp (disch := omega) only [decide_true, decide_false, i64_of, chk_and, chk_dec, chk_true, dec_t, dec_f, if_true, if_false, Bool.false_eq_true, Bool.not_true, Bool.not_false, Bool.and_self, Bool.and_false, Bool.false_and, Bool.and_true, Bool.true_and, Bool.or_false, Bool.false_or, Bool.or_true, Bool.true_or, bind_some, Int.toNat_natCast]; exact Ok.ret ⟨by simp, by simp⟩
        | true =>
          simp (disch := omega) only [decide_true, decide_false, i64_of, chk_and, chk_dec, chk_true, dec_t, dec_f, if_true, if_false, Bool.false_eq_true, Bool.not_true, Bool.not_false, Bool.and_self, Bool.and_false, Bool.false_and, Bool.and_true, Bool.true_and, Bool.or_false, Bool.false_or, Bool.or_true, Bool.true_or, bind_some, Int.toNat_natCast, spec_l15Primary_eq hxs]
          by_cases q1 : primL x = n
          · by_cases q2 : hh = 0
            · simp (disch := omega) only [decide_true, decide_false, i64_of, chk_and, chk_dec, chk_true, dec_t, dec_f, if_true, if_false, Bool.false_eq_true, Bool.not_true, Bool.not_false, Bool.and_self, Bool.and_false, Bool.false_and, Bool.and_true, Bool.true_and, Bool.or_false, Bool.false_or, Bool.or_true, Bool.true_or, bind_some, Int.toNat_natCast, q1, q2]; exact Ok.ret ⟨by simp, by simp⟩
            · simp (disch := omega) only [decide_true, decide_false, i64_of, chk_and, chk_dec, chk_true, dec_t, dec_f, if_true, if_false, Bool.false_eq_true, Bool.not_true, Bool.not_false, Bool.and_self, Bool.and_false, Bool.false_and, Bool.and_true, Bool.true_and, Bool.or_false, Bool.false_or, Bool.or_true, Bool.true_or, bind_some, Int.toNat_natCast, q1, q2]; exact Ok.ret ⟨by simp, by simp⟩
          · simp (disch := omega) only [decide_true, decide_false, i64_of, chk_and, chk_dec, chk_true, dec_t, dec_f, if_true, if_false, Bool.false_eq_true, Bool.not_true, Bool.not_false, Bool.and_self, Bool.and_false, Bool.false_and, Bool.and_true, Bool.true_and, Bool.or_false, Bool.false_or, Bool.or_true, Bool.true_or, bind_some, Int.toNat_natCast, q1]; exact Ok.ret ⟨by simp, by simp⟩
    · have hf : (decide (0 ≤ n) && decide (n ≤ (x.length : Int) - 1)) = false := by
        rw [Bool.and_eq_false_iff, decide_eq_false_iff_not, decide_eq_false_iff_not]; omega
      simp (disch := omega) only [decide_true, decide_false, i64_of, chk_and, chk_dec, chk_true, dec_t, dec_f, if_true, if_false, Bool.false_eq_true, Bool.not_true, Bool.not_false, Bool.and_self, Bool.and_false, Bool.false_and, Bool.and_true, Bool.true_and, Bool.or_false, Bool.false_or, Bool.or_true, Bool.true_or, bind_some, Int.toNat_natCast, hX, c1.1, c1.2, hs1, hf]
      exact Ok.ret ⟨by simp, by simp⟩
  · have hf : (decide (0 ≤ s) && decide (s ≤ (c.sh.length : Int) - 1)) = false := by
      rw [Bool.and_eq_false_iff, decide_eq_false_iff_not, decide_eq_false_iff_not]; omega
    simp (disch := omega) only [decide_true, decide_false, i64_of, chk_and, chk_dec, chk_true, dec_t, dec_f, if_true, if_false, Bool.false_eq_true, Bool.not_true, Bool.not_false, Bool.and_self, Bool.and_false, Bool.false_and, Bool.and_true, Bool.true_and, Bool.or_false, Bool.false_or, Bool.or_true, Bool.true_or, bind_some, Int.toNat_natCast, hf]
    exact Ok.ret ⟨by simp, by simp⟩
theorem spec_l15Step_2 {c : CS} (hl : c.sh.length ≤ 1000000000) (hx : ∀ x ∈ c.sh, x.length ≤ 1000000000) (hlive : ∀ x ∈ c.sh, 0 ≤ primL x) (s n : Int) : Ok (spec_l15Step c.sh c.dr c.rc 2 s n) (SpecOk c 2 s n) := by
  have e3 := spec_l15All_eq hl hx c.dr c.rc
  have f3 := allBad_free hlive
  have k3 : ¬ (2 : Int) = 3 := by decide
  have k4 : ¬ (2 : Int) = 4 := by decide
  have k6 : ¬ (2 : Int) = 6 := by decide
  have n21 : ¬ (2 : Int) = 1 := by decide
  have n51 : ¬ (5 : Int) = 1 := by decide
  have n52 : ¬ (5 : Int) = 2 := by decide
  have n71 : ¬ (7 : Int) = 1 := by decide
  have n72 : ¬ (7 : Int) = 2 := by decide
  have n75 : ¬ (7 : Int) = 5 := by decide
  have ho : (if (decide (c.dr = (0 : Int))) then (decide (c.rc = (0 : Int))) else false) = c.opn := by unfold CS.opn; simp only [if_f]
  unfold spec_l15Step SpecOk CS.step
  simp -zeta only [ho, k3, k4, k6, n21, decide_true, decide_false, Bool.false_eq_true, if_true, if_false, Bool.not_not, spec_l1In_eq, if_someB, bind_some, if_t, if_f]
  unfold CS.actOk CS.act CS.rep setR
  obtain ⟨x, hX⟩ : ∃ x, c.sh.getD s.toNat [] = x := ⟨_, rfl⟩
  by_cases c1 : 0 ≤ s ∧ s ≤ (c.sh.length : Int) - 1
  · have hxs : (c.sh.getD s.toNat []).length ≤ 1000000000 := hx _ (getD_mem (by omega) _)
    rw [hX] at hxs
    have hs1 : s < (c.sh.length : Int) := by omega
    obtain ⟨r, hR⟩ : ∃ r, x.getD n.toNat (false, 0) = r := ⟨_, rfl⟩
    by_cases c2 : 0 ≤ n ∧ n ≤ (x.length : Int) - 1
    · have hn1 : n < (x.length : Int) := by omega
      simp (disch := omega) only [decide_true, decide_false, i64_of, chk_and, chk_dec, chk_true, dec_t, dec_f, if_true, if_false, Bool.false_eq_true, Bool.not_true, Bool.not_false, Bool.and_self, Bool.and_false, Bool.false_and, Bool.and_true, Bool.true_and, Bool.or_false, Bool.false_or, Bool.or_true, Bool.true_or, bind_some, Int.toNat_natCast, hX, hR, c1.1, c1.2, c2.1, c2.2, hs1, hn1, n21]
      obtain ⟨d, hh⟩ := r
      cases d with
      | true => simp (disch := omega) only [decide_true, decide_false, i64_of, chk_and, chk_dec, chk_true, dec_t, dec_f, if_true, if_false, Bool.false_eq_true, Bool.not_true, Bool.not_false, Bool.and_self, Bool.and_false, Bool.false_and, Bool.and_true, Bool.true_and, Bool.or_false, Bool.false_or, Bool.or_true, Bool.true_or, bind_some, Int.toNat_natCast]; exact Ok.ret ⟨by simp, by simp⟩
      | false =>
        cases c.opn with
        | false => simp (disch := omega) only [decide_true, decide_false, i64_of, chk_and, chk_dec, chk_true, dec_t, dec_f, if_true, if_false, Bool.false_eq_true, Bool.not_true, Bool.not_false, Bool.and_self, Bool.and_false, Bool.false_and, Bool.and_true, Bool.true_and, Bool.or_false, Bool.false_or, Bool.or_true, Bool.true_or, bind_some, Int.toNat_natCast, n21]; exact Ok.ret ⟨by simp, by simp⟩
        | true =>
          simp (disch := omega) only [decide_true, decide_false, i64_of, chk_and, chk_dec, chk_true, dec_t, dec_f, if_true, if_false, Bool.false_eq_true, Bool.not_true, Bool.not_false, Bool.and_self, Bool.and_false, Bool.false_and, Bool.and_true, Bool.true_and, Bool.or_false, Bool.false_or, Bool.or_true, Bool.true_or, bind_some, Int.toNat_natCast, e3, f3, n21]
          cases c.sh.any freeB with
          | true => simp (disch := omega) only [decide_true, decide_false, i64_of, chk_and, chk_dec, chk_true, dec_t, dec_f, if_true, if_false, Bool.false_eq_true, Bool.not_true, Bool.not_false, Bool.and_self, Bool.and_false, Bool.false_and, Bool.and_true, Bool.true_and, Bool.or_false, Bool.false_or, Bool.or_true, Bool.true_or, bind_some, Int.toNat_natCast, n21]; exact Ok.ret ⟨by simp, by simp⟩
          | false =>
            by_cases q1 : hh = 0
            · simp (disch := omega) only [decide_true, decide_false, i64_of, chk_and, chk_dec, chk_true, dec_t, dec_f, if_true, if_false, Bool.false_eq_true, Bool.not_true, Bool.not_false, Bool.and_self, Bool.and_false, Bool.false_and, Bool.and_true, Bool.true_and, Bool.or_false, Bool.false_or, Bool.or_true, Bool.true_or, bind_some, Int.toNat_natCast, q1, n21]; exact Ok.ret ⟨by simp, by simp⟩
            · by_cases q2 : hh = 1
              · simp (disch := omega) only [decide_true, decide_false, i64_of, chk_and, chk_dec, chk_true, dec_t, dec_f, if_true, if_false, Bool.false_eq_true, Bool.not_true, Bool.not_false, Bool.and_self, Bool.and_false, Bool.false_and, Bool.and_true, Bool.true_and, Bool.or_false, Bool.false_or, Bool.or_true, Bool.true_or, bind_some, Int.toNat_natCast, q1, q2, n21]; exact Ok.ret ⟨by simp, by simp⟩
              · simp (disch := omega) only [decide_true, decide_false, i64_of, chk_and, chk_dec, chk_true, dec_t, dec_f, if_true, if_false, Bool.false_eq_true, Bool.not_true, Bool.not_false, Bool.and_self, Bool.and_false, Bool.false_and, Bool.and_true, Bool.true_and, Bool.or_false, Bool.false_or, Bool.or_true, Bool.true_or, bind_some, Int.toNat_natCast, q1, q2, n21]; exact Ok.ret ⟨by simp, by simp⟩
    · have hf : (decide (0 ≤ n) && decide (n ≤ (x.length : Int) - 1)) = false := by
        rw [Bool.and_eq_false_iff, decide_eq_false_iff_not, decide_eq_false_iff_not]; omega
      simp (disch := omega) only [decide_true, decide_false, i64_of, chk_and, chk_dec, chk_true, dec_t, dec_f, if_true, if_false, Bool.false_eq_true, Bool.not_true, Bool.not_false, Bool.and_self, Bool.and_false, Bool.false_and, Bool.and_true, Bool.true_and, Bool.or_false, Bool.false_or, Bool.or_true, Bool.true_or, bind_some, Int.toNat_natCast, hX, c1.1, c1.2, hs1, hf, n21]
      exact Ok.ret ⟨by simp, by simp⟩
  · have hf : (decide (0 ≤ s) && decide (s ≤ (c.sh.length : Int) - 1)) = false := by
      rw [Bool.and_eq_false_iff, decide_eq_false_iff_not, decide_eq_false_iff_not]; omega
    simp (disch := omega) only [decide_true, decide_false, i64_of, chk_and, chk_dec, chk_true, dec_t, dec_f, if_true, if_false, Bool.false_eq_true, Bool.not_true, Bool.not_false, Bool.and_self, Bool.and_false, Bool.false_and, Bool.and_true, Bool.true_and, Bool.or_false, Bool.false_or, Bool.or_true, Bool.true_or, bind_some, Int.toNat_natCast, hf, n21]
    exact Ok.ret ⟨by simp, by simp⟩
theorem spec_l15Step_5 {c : CS} (hl : c.sh.length ≤ 1000000000) (hx : ∀ x ∈ c.sh, x.length ≤ 1000000000) (hlive : ∀ x ∈ c.sh, 0 ≤ primL x) (s n : Int) : Ok (spec_l15Step c.sh c.dr c.rc 5 s n) (SpecOk c 5 s n) := by
  have e3 := spec_l15All_eq hl hx c.dr c.rc
  have f3 := allBad_free hlive
  have k3 : ¬ (5 : Int) = 3 := by decide
  have k4 : ¬ (5 : Int) = 4 := by decide
  have k6 : ¬ (5 : Int) = 6 := by decide
  have n21 : ¬ (2 : Int) = 1 := by decide
  have n51 : ¬ (5 : Int) = 1 := by decide
  have n52 : ¬ (5 : Int) = 2 := by decide
  have n71 : ¬ (7 : Int) = 1 := by decide
  have n72 : ¬ (7 : Int) = 2 := by decide
  have n75 : ¬ (7 : Int) = 5 := by decide
  have ho : (if (decide (c.dr = (0 : Int))) then (decide (c.rc = (0 : Int))) else false) = c.opn := by unfold CS.opn; simp only [if_f]
  unfold spec_l15Step SpecOk CS.step
  simp -zeta only [ho, k3, k4, k6, n51, n52, decide_true, decide_false, Bool.false_eq_true, if_true, if_false, Bool.not_not, spec_l1In_eq, if_someB, bind_some, if_t, if_f]
  unfold CS.actOk CS.act CS.rep setR
  obtain ⟨x, hX⟩ : ∃ x, c.sh.getD s.toNat [] = x := ⟨_, rfl⟩
  by_cases c1 : 0 ≤ s ∧ s ≤ (c.sh.length : Int) - 1
  · have hxs : (c.sh.getD s.toNat []).length ≤ 1000000000 := hx _ (getD_mem (by omega) _)
    rw [hX] at hxs
    have hs1 : s < (c.sh.length : Int) := by omega
    obtain ⟨r, hR⟩ : ∃ r, x.getD n.toNat (false, 0) = r := ⟨_, rfl⟩
    by_cases c2 : 0 ≤ n ∧ n ≤ (x.length : Int) - 1
    · have hn1 : n < (x.length : Int) := by omega
      simp (disch := omega) only [decide_true, decide_false, i64_of, chk_and, chk_dec, chk_true, dec_t, dec_f, if_true, if_false, Bool.false_eq_true, Bool.not_true, Bool.not_false, Bool.and_self, Bool.and_false, Bool.false_and, Bool.and_true, Bool.true_and, Bool.or_false, Bool.false_or, Bool.or_true, Bool.true_or, bind_some, Int.toNat_natCast, hX, hR, c1.1, c1.2, c2.1, c2.2, hs1, hn1, n51, n52]
      obtain ⟨d, hh⟩ := r
      cases d with
      | true => simp (disch := omega) only [decide_true, decide_false, i64_of, chk_and, chk_dec, chk_true, dec_t, dec_f, if_true, if_false, Bool.false_eq_true, Bool.not_true, Bool.not_false, Bool.and_self, Bool.and_false, Bool.false_and, Bool.and_true, Bool.true_and, Bool.or_false, Bool.false_or, Bool.or_true, Bool.true_or, bind_some, Int.toNat_natCast]; exact Ok.ret ⟨by simp, by simp⟩
      | false =>
        simp only [Bool.false_eq_true, if_false]
        refine Ok.bind (P := fun r => r = (x, ((upL x).length : Int))) ?_ ?_
        · refine Ok.eq (bind_of (upCount_loop hxs ?_ ?_) rfl) rfl
          · intro k hk
            have hk1 : (k : Int) < x.length := by omega
            have hu : (upL (x.take k)).length ≤ x.length := Nat.le_trans (List.length_filter_le _ _) (by simp; omega)
            have e1 : upL (x.take (k + 1)) = upL (x.take k) ++ upL [x.getD k (false, 0)] := by rw [take_snoc x (false, 0) hk]; exact List.filter_append ..
            simp (disch := omega) only [decide_true, decide_false, i64_of, chk_and, chk_dec, chk_true, dec_t, dec_f, if_true, if_false, Bool.false_eq_true, Bool.not_true, Bool.not_false, Bool.and_self, Bool.and_false, Bool.false_and, Bool.and_true, Bool.true_and, Bool.or_false, Bool.false_or, Bool.or_true, Bool.true_or, bind_some, Int.toNat_natCast]
            rw [e1]
            generalize x.getD k (false, 0) = r
            obtain ⟨d, h'⟩ := r
            cases d <;> simp [upL]
          · simp
        · rintro _ rfl
          by_cases q : (upL x).length = 1
          · simp (disch := omega) only [decide_true, decide_false, i64_of, chk_and, chk_dec, chk_true, dec_t, dec_f, if_true, if_false, Bool.false_eq_true, Bool.not_true, Bool.not_false, Bool.and_self, Bool.and_false, Bool.false_and, Bool.and_true, Bool.true_and, Bool.or_false, Bool.false_or, Bool.or_true, Bool.true_or, bind_some, Int.toNat_natCast, q]; exact Ok.ret ⟨by simp, by simp⟩
          · have q' : ¬ ((upL x).length : Int) = 1 := by omega
            simp (disch := omega) only [decide_true, decide_false, i64_of, chk_and, chk_dec, chk_true, dec_t, dec_f, if_true, if_false, Bool.false_eq_true, Bool.not_true, Bool.not_false, Bool.and_self, Bool.and_false, Bool.false_and, Bool.and_true, Bool.true_and, Bool.or_false, Bool.false_or, Bool.or_true, Bool.true_or, bind_some, Int.toNat_natCast, q, q']; exact Ok.ret ⟨by simp, by simp⟩
    · have hf : (decide (0 ≤ n) && decide (n ≤ (x.length : Int) - 1)) = false := by
        rw [Bool.and_eq_false_iff, decide_eq_false_iff_not, decide_eq_false_iff_not]; omega
      simp (disch := omega) only [decide_true, decide_false, i64_of, chk_and, chk_dec, chk_true, dec_t, dec_f, if_true, if_false, Bool.false_eq_true, Bool.not_true, Bool.not_false, Bool.and_self, Bool.and_false, Bool.false_and, Bool.and_true, Bool.true_and, Bool.or_false, Bool.false_or, Bool.or_true, Bool.true_or, bind_some, Int.toNat_natCast, hX, c1.1, c1.2, hs1, hf, n51, n52]
      exact Ok.ret ⟨by simp, by simp⟩
  · have hf : (decide (0 ≤ s) && decide (s ≤ (c.sh.length : Int) - 1)) = false := by
      rw [Bool.and_eq_false_iff, decide_eq_false_iff_not, decide_eq_false_iff_not]; omega
    simp (disch := omega) only [decide_true, decide_false, i64_of, chk_and, chk_dec, chk_true, dec_t, dec_f, if_true, if_false, Bool.false_eq_true, Bool.not_true, Bool.not_false, Bool.and_self, Bool.and_false, Bool.false_and, Bool.and_true, Bool.true_and, Bool.or_false, Bool.false_or, Bool.or_true, Bool.true_or, bind_some, Int.toNat_natCast, hf, n51, n52]
    exact Ok.ret ⟨by simp, by simp⟩
theorem spec_l15Step_7 {c : CS} (hl : c.sh.length ≤ 1000000000) (hx : ∀ x ∈ c.sh, x.length ≤ 1000000000) (hlive : ∀ x ∈ c.sh, 0 ≤ primL x) (s n : Int) : Ok (spec_l15Step c.sh c.dr c.rc 7 s n) (SpecOk c 7 s n) := by
  have e3 := spec_l15All_eq hl hx c.dr c.rc
  have f3 := allBad_free hlive
  have k3 : ¬ (7 : Int) = 3 := by decide
  have k4 : ¬ (7 : Int) = 4 := by decide
  have k6 : ¬ (7 : Int) = 6 := by decide
  have n21 : ¬ (2 : Int) = 1 := by decide
  have n51 : ¬ (5 : Int) = 1 := by decide
  have n52 : ¬ (5 : Int) = 2 := by decide
  have n71 : ¬ (7 : Int) = 1 := by decide
  have n72 : ¬ (7 : Int) = 2 := by decide
  have n75 : ¬ (7 : Int) = 5 := by decide
  have ho : (if (decide (c.dr = (0 : Int))) then (decide (c.rc = (0 : Int))) else false) = c.opn := by unfold CS.opn; simp only [if_f]
  unfold spec_l15Step SpecOk CS.step
  simp -zeta only [ho, k3, k4, k6, n71, n72, n75, decide_true, decide_false, Bool.false_eq_true, if_true, if_false, Bool.not_not, spec_l1In_eq, if_someB, bind_some, if_t, if_f]
  unfold CS.actOk CS.act CS.rep setR
  obtain ⟨x, hX⟩ : ∃ x, c.sh.getD s.toNat [] = x := ⟨_, rfl⟩
  by_cases c1 : 0 ≤ s ∧ s ≤ (c.sh.length : Int) - 1
  · have hxs : (c.sh.getD s.toNat []).length ≤ 1000000000 := hx _ (getD_mem (by omega) _)
    rw [hX] at hxs
    have hs1 : s < (c.sh.length : Int) := by omega
    obtain ⟨r, hR⟩ : ∃ r, x.getD n.toNat (false, 0) = r := ⟨_, rfl⟩
    by_cases c2 : 0 ≤ n ∧ n ≤ (x.length : Int) - 1
    · have hn1 : n < (x.length : Int) := by omega
      simp (disch := omega) only [decide_true, decide_false, i64_of, chk_and, chk_dec, chk_true, dec_t, dec_f, if_true, if_false, Bool.false_eq_true, Bool.not_true, Bool.not_false, Bool.and_self, Bool.and_false, Bool.false_and, Bool.and_true, Bool.true_and, Bool.or_false, Bool.false_or, Bool.or_true, Bool.true_or, bind_some, Int.toNat_natCast, hX, hR, c1.1, c1.2, c2.1, c2.2, hs1, hn1, n71, n72, n75]
      obtain ⟨d, hh⟩ := r
      cases d with
      | true => simp (disch := omega) only [decide_true, decide_false, i64_of, chk_and, chk_dec, chk_true, dec_t, dec_f, if_true, if_false, Bool.false_eq_true, Bool.not_true, Bool.not_false, Bool.and_self, Bool.and_false, Bool.false_and, Bool.and_true, Bool.true_and, Bool.or_false, Bool.false_or, Bool.or_true, Bool.true_or, bind_some, Int.toNat_natCast]; exact Ok.ret ⟨by simp, by simp⟩
      | false =>
        have hd : spec_l15Decision c.sh c.dr c.rc = some c.dec := by unfold spec_l15Decision CS.dec; by_cases h : c.dr = 0 <;> simp [h]
        have ho2 : c.opn = decide (c.dec = 0) := by unfold CS.opn CS.dec; by_cases h : c.dr = 0 <;> simp [h]
        rw [hd, ho2]
        by_cases q0 : c.dec = 0
        · simp (disch := omega) only [decide_true, decide_false, i64_of, chk_and, chk_dec, chk_true, dec_t, dec_f, if_true, if_false, Bool.false_eq_true, Bool.not_true, Bool.not_false, Bool.and_self, Bool.and_false, Bool.false_and, Bool.and_true, Bool.true_and, Bool.or_false, Bool.false_or, Bool.or_true, Bool.true_or, bind_some, Int.toNat_natCast, q0]; exact Ok.ret ⟨by simp, by simp⟩
        · by_cases q3 : hh = 3
          · simp (disch := omega) only [decide_true, decide_false, i64_of, chk_and, chk_dec, chk_true, dec_t, dec_f, if_true, if_false, Bool.false_eq_true, Bool.not_true, Bool.not_false, Bool.and_self, Bool.and_false, Bool.false_and, Bool.and_true, Bool.true_and, Bool.or_false, Bool.false_or, Bool.or_true, Bool.true_or, bind_some, Int.toNat_natCast, q0, q3]; exact Ok.ret ⟨by simp, by simp⟩
          · by_cases q4 : hh = 4
            · simp (disch := omega) only [decide_true, decide_false, i64_of, chk_and, chk_dec, chk_true, dec_t, dec_f, if_true, if_false, Bool.false_eq_true, Bool.not_true, Bool.not_false, Bool.and_self, Bool.and_false, Bool.false_and, Bool.and_true, Bool.true_and, Bool.or_false, Bool.false_or, Bool.or_true, Bool.true_or, bind_some, Int.toNat_natCast, q0, q3, q4]; exact Ok.ret ⟨by simp, by simp⟩
            · by_cases q1 : c.dec = 1
              · simp (disch := omega) only [decide_true, decide_false, i64_of, chk_and, chk_dec, chk_true, dec_t, dec_f, if_true, if_false, Bool.false_eq_true, Bool.not_true, Bool.not_false, Bool.and_self, Bool.and_false, Bool.false_and, Bool.and_true, Bool.true_and, Bool.or_false, Bool.false_or, Bool.or_true, Bool.true_or, bind_some, Int.toNat_natCast, q0, q3, q4, q1, n71]; exact Ok.ret ⟨by simp, by simp⟩
              · simp (disch := omega) only [decide_true, decide_false, i64_of, chk_and, chk_dec, chk_true, dec_t, dec_f, if_true, if_false, Bool.false_eq_true, Bool.not_true, Bool.not_false, Bool.and_self, Bool.and_false, Bool.false_and, Bool.and_true, Bool.true_and, Bool.or_false, Bool.false_or, Bool.or_true, Bool.true_or, bind_some, Int.toNat_natCast, q0, q3, q4, q1]; exact Ok.ret ⟨by simp, by simp⟩
    · have hf : (decide (0 ≤ n) && decide (n ≤ (x.length : Int) - 1)) = false := by
        rw [Bool.and_eq_false_iff, decide_eq_false_iff_not, decide_eq_false_iff_not]; omega
      simp (disch := omega) only [decide_true, decide_false, i64_of, chk_and, chk_dec, chk_true, dec_t, dec_f, if_true, if_false, Bool.false_eq_true, Bool.not_true, Bool.not_false, Bool.and_self, Bool.and_false, Bool.false_and, Bool.and_true, Bool.true_and, Bool.or_false, Bool.false_or, Bool.or_true, Bool.true_or, bind_some, Int.toNat_natCast, hX, c1.1, c1.2, hs1, hf, n71, n72, n75]
      exact Ok.ret ⟨by simp, by simp⟩
  · have hf : (decide (0 ≤ s) && decide (s ≤ (c.sh.length : Int) - 1)) = false := by
      rw [Bool.and_eq_false_iff, decide_eq_false_iff_not, decide_eq_false_iff_not]; omega
    simp (disch := omega) only [decide_true, decide_false, i64_of, chk_and, chk_dec, chk_true, dec_t, dec_f, if_true, if_false, Bool.false_eq_true, Bool.not_true, Bool.not_false, Bool.and_self, Bool.and_false, Bool.false_and, Bool.and_true, Bool.true_and, Bool.or_false, Bool.false_or, Bool.or_true, Bool.true_or, bind_some, Int.toNat_natCast, hf, n71, n72, n75]
    exact Ok.ret ⟨by simp, by simp⟩
theorem spec_l15Step_ok {c : CS} (hl : c.sh.length ≤ 1000000000) (hx : ∀ x ∈ c.sh, x.length ≤ 1000000000) (hlive : ∀ x ∈ c.sh, 0 ≤ primL x) (k s n : Int) : Ok (spec_l15Step c.sh c.dr c.rc k s n) (SpecOk c k s n) := by
  have e1 := spec_l15Copies_eq hl hx c.dr c.rc true
  have e2 := spec_l15Copies_eq hl hx c.dr c.rc false
  have e3 := spec_l15All_eq hl hx c.dr c.rc
  have f1 : (c.sh.any (cpBad true)) = c.sh.any tellBad := by congr 1; funext x; exact cpBad_tell x
  have f2 : (c.sh.any (cpBad false)) = c.sh.any recBad := by congr 1; funext x; exact cpBad_rec x
  rw [f1] at e1; rw [f2] at e2
  have ho : (if (decide (c.dr = (0 : Int))) then (decide (c.rc = (0 : Int))) else false) = c.opn := by unfold CS.opn; simp only [if_f]
  have hk1 := spec_l15Step_1 hl hx hlive s n
  have hk2 := spec_l15Step_2 hl hx hlive s n
  have hk5 := spec_l15Step_5 hl hx hlive s n
  have hk7 := spec_l15Step_7 hl hx hlive s n
  by_cases kk : k = 1 ∨ k = 2 ∨ k = 5 ∨ k = 7
  · rcases kk with rfl | rfl | rfl | rfl
    · exact hk1
    · exact hk2
    · exact hk5
    · exact hk7
  unfold spec_l15Step SpecOk CS.step
  simp -zeta only [ho]
  by_cases k3 : k = 3
  · subst k3
    simp only [decide_true, if_true, e1, Bool.not_not]
    cases c.opn with
    | false => exact Ok.ret ⟨by simp, by simp⟩
    | true => cases c.sh.any tellBad <;> exact Ok.ret ⟨by simp, by simp⟩
  · by_cases k4 : k = 4
    · subst k4
      simp only [k3, decide_true, decide_false, Bool.false_eq_true, if_true, if_false]
      cases c.opn <;> exact Ok.ret ⟨by simp, by simp⟩
    · by_cases k6 : k = 6
      · subst k6
        simp only [k3, k4, decide_true, decide_false, Bool.false_eq_true, if_true, if_false, e2]
        by_cases q : c.rc = 0
        · by_cases q2 : c.dr = 0
          · cases c.sh.any recBad <;> simp only [q, q2, decide_true, decide_false, Bool.not_true, Bool.not_false, Bool.false_eq_true, if_true, if_false, bind_some] <;> exact Ok.ret ⟨by simp, by simp⟩
          · simp only [q, q2, decide_true, decide_false, Bool.not_true, Bool.not_false, Bool.false_eq_true, if_true, if_false, bind_some]
            exact Ok.ret ⟨by simp, by simp⟩
        · simp only [q, decide_true, decide_false, Bool.not_true, Bool.not_false, Bool.false_eq_true, if_true, if_false, bind_some]
          exact Ok.ret ⟨by simp, by simp⟩
      · have g1 : ¬ k = 1 := fun h => kk (.inl h)
        have g2 : ¬ k = 2 := fun h => kk (.inr (.inl h))
        have g5 : ¬ k = 5 := fun h => kk (.inr (.inr (.inl h)))
        have g7 : ¬ k = 7 := fun h => kk (.inr (.inr (.inr h)))
        refine Ok.mono (P := fun r => r.2.2.2 = false) ?_ ?_
        · simp -zeta only [k3, k4, k6, decide_false, Bool.false_eq_true, if_false, Bool.not_not, spec_l1In_eq, if_someB, bind_some, if_t, if_f]
          by_cases c1 : 0 ≤ s ∧ s ≤ (c.sh.length : Int) - 1
          · have hs1 : s < (c.sh.length : Int) := by omega
            by_cases c2 : 0 ≤ n ∧ n ≤ ((c.sh.getD s.toNat []).length : Int) - 1
            · have hxs : (c.sh.getD s.toNat []).length ≤ 1000000000 := hx _ (getD_mem (by omega) _)
              have hn1 : n < ((c.sh.getD s.toNat []).length : Int) := by omega
              simp (disch := omega) only [decide_true, decide_false, i64_of, chk_and, chk_dec, chk_true, dec_t, dec_f, if_true, if_false, Bool.false_eq_true, Bool.not_true, Bool.not_false, Bool.and_self, Bool.and_false, Bool.false_and, Bool.and_true, Bool.true_and, Bool.or_false, Bool.false_or, Bool.or_true, Bool.true_or, bind_some, Int.toNat_natCast, c1.1, c1.2, c2.1, c2.2, hs1, hn1, g1, g2, g5, g7]
              cases ((c.sh.getD s.toNat []).getD n.toNat (false, 0)).1 <;> exact Ok.ret rfl
            · have hxs : (c.sh.getD s.toNat []).length ≤ 1000000000 := hx _ (getD_mem (by omega) _)
              have hf : (decide (0 ≤ n) && decide (n ≤ ((c.sh.getD s.toNat []).length : Int) - 1)) = false := by
                rw [Bool.and_eq_false_iff, decide_eq_false_iff_not, decide_eq_false_iff_not]; omega
              simp (disch := omega) only [decide_true, decide_false, i64_of, chk_and, chk_dec, chk_true, dec_t, dec_f, if_true, if_false, Bool.false_eq_true, Bool.not_true, Bool.not_false, Bool.and_self, Bool.and_false, Bool.false_and, Bool.and_true, Bool.true_and, Bool.or_false, Bool.false_or, Bool.or_true, Bool.true_or, bind_some, Int.toNat_natCast, c1.1, c1.2, hs1, hf]
              exact Ok.ret rfl
          · have hf : (decide (0 ≤ s) && decide (s ≤ (c.sh.length : Int) - 1)) = false := by
              rw [Bool.and_eq_false_iff, decide_eq_false_iff_not, decide_eq_false_iff_not]; omega
            simp (disch := omega) only [decide_true, decide_false, i64_of, chk_and, chk_dec, chk_true, dec_t, dec_f, if_true, if_false, Bool.false_eq_true, Bool.not_true, Bool.not_false, Bool.and_self, Bool.and_false, Bool.false_and, Bool.and_true, Bool.true_and, Bool.or_false, Bool.false_or, Bool.or_true, Bool.true_or, bind_some, Int.toNat_natCast, hf]
            exact Ok.ret rfl
        · intro r hr
          simp only [k3, k4, k6, kk, if_false]
          exact ⟨by rw [hr]; rfl, fun y hy => by cases hy⟩
end Sh
