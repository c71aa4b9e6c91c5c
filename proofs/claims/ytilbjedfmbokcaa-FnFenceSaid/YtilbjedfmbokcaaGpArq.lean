/- Gp: array variables of plain elements, read whole; whether two are equal. -/
import Derived.Test.YtilbjedfmbokcaaGpCv
set_option linter.unusedVariables false
set_option linter.unusedSimpArgs false
namespace Gp
open Go
section
variable {tab : Tab} {Γ : Gam} {ρ : Env} {tm : Array Value} {w w' : World} {C : Ctx} {kn : Kn} {Wr : CS} {w0 : World} {P : Program} {I : Nat → List T → List T → Prop} {G : Grd} {nx no : Nat}

theorem loop_arr (hT : TabOk P tab) {e : TypeId} {te : TI} (hte : tab.get e = some te) (ha : te.agg = false) (h1 : te.size = 1) {d : Nat} (hq : eqT tab 1 e = true) {ck : CK} (hck : te.cks = [ck]) {xs ys : List Value} :
    ∀ (m s : Nat), PairsOf (List.replicate m ck) (xs.drop s) (ys.drop s) → s + m = xs.length →
    (forIn (m := Sem) (List.range' s m 1) ((none, ()) : Option Bool × Unit) fun i __s => do
            let a ← part e xs.toArray (i * 1)
            let b ← part e ys.toArray (i * 1)
            let c ← Op.equalIn (d + 1) e a b
            if (!c) = true then pure (ForInStep.done (some false, ())) else pure (ForInStep.yield (none, ()))).run P w = .ok (if allV (xs.drop s) (ys.drop s) then (none, ()) else (some false, ())) w
  | 0, s, hp, hs => by
    simp only [List.range'_zero, List.forIn_nil, Sem.run_pure]
    have : xs.drop s = [] := List.drop_eq_nil_of_le (by omega)
    rw [this]; rfl
  | m + 1, s, hp, hs => by
    have hl := hp.len
    have hlx : s < xs.length := by omega
    have hly : s < ys.length := by
      have := hl.2; simp at this; omega
    have ex := run_part_agg (w := w) hT hte xs s (by omega) (fun _ => h1)
    have ey := run_part_agg (w := w) hT hte ys s (by omega) (fun _ => h1)
    rw [List.drop_eq_getElem_cons hlx, List.drop_eq_getElem_cons hly] at hp ⊢
    rw [List.replicate_succ] at hp
    rw [h1] at ex ey
    rw [List.drop_eq_getElem_cons hlx] at ex
    rw [List.drop_eq_getElem_cons hly] at ey
    have eq := eqT_run (w := w) hT 1 (d + 1) e te [xs[s]] [ys[s]] (by omega) hq hte (by rw [hck]; exact ⟨hp.1, trivial⟩)
    have ih := loop_arr hT hte ha h1 hq hck (d := d) (xs := xs) (ys := ys) m (s + 1) hp.2 (by omega)
    simp only [List.range'_succ, List.forIn_cons, Sem.run_bind, Nat.mul_one, ex, ey, Result.andThen_ok, List.take_succ_cons, List.take_zero, eq, Sem.run_ite, allV, Bool.and_true]
    rcases Bool.eq_false_or_eq_true (vEq xs[s] ys[s]) with hv | hv
    · simp only [hv, Bool.not_true, Bool.false_eq_true, if_false, Sem.run_pure, Result.andThen_ok, Bool.true_and]
      simpa only [Nat.mul_one, Sem.run_bind, Sem.run_ite, Sem.run_pure] using ih
    · simp only [hv, Bool.not_false, if_true, Sem.run_pure, Result.andThen_ok, Bool.false_and, Bool.false_eq_true, if_false]

theorem run_equalIn_arr (hT : TabOk P tab) {t e : TypeId} {n : Nat} {te : TI} {d : Nat} {ck : CK} {xs ys : List Value} (hu : P.underlying t = some (.array n e)) (hte : tab.get e = some te) (ha : te.agg = false) (h1 : te.size = 1)
    (hq : eqT tab 1 e = true) (hck : te.cks = [ck]) (hp : PairsOf (List.replicate n ck) xs ys) :
    (Op.equalIn (d + 2) t (.agg xs.toArray) (.agg ys.toArray)).run P w = .ok (allV xs ys) w := by
  have hl := hp.len
  have := loop_arr (w := w) hT hte ha h1 hq hck (d := d) (xs := xs) (ys := ys) n 0 (by simpa using hp) (by simp at hl; omega)
  obtain ⟨D, hD⟩ : ∃ D, D = d + 1 := ⟨_, rfl⟩
  rw [← hD] at this
  rw [show d + 2 = D + 1 by omega]
  simp only [Op.equalIn, Sem.run_bind, run_underlying hu, Result.andThen_ok, run_sizeOf hT hte, h1]
  rw [Std.Legacy.Range.forIn_eq_forIn_range']
  have hr : List.range' (Std.Legacy.Range.start [:n]) (Std.Legacy.Range.size [:n]) (Std.Legacy.Range.step [:n]) = List.range' 0 n 1 := by
    simp [Std.Legacy.Range.size]
  rw [hr]
  rw [this]
  simp only [List.drop_zero, Result.andThen_ok]
  cases allV xs ys <;> simp only [if_true, Bool.false_eq_true, if_false, Sem.run_pure]

def anBinA (tab : Tab) (Γ : Gam) (G : Grd) (nx no : Nat) (o : BinOp) (xt : TypeId) (x y : Operand) : Option Res :=
  match opd Γ G x, opd Γ G y, tab.get xt with
  | some (.s (.agg as)), some (.s (.agg bs)), some ti => match ti.td with
    | .array n e => match tab.get e with
      | some te => match te.cks with
        | [ck] => if eqT tab 1 e && (!te.agg && (Nat.beq te.size 1 && (ti.eqa && leavesFit (List.replicate n ck) as))) then match leavesEq as bs, o with
            | some es, .eql => some ⟨.s (.one (.bool (conjE es))), [], [], nx, no⟩
            | some es, .neq => some ⟨.s (.one (.bool (.un .not (conjE es)))), [], [], nx, no⟩
            | _, _ => none
          else none
        | _ => none
      | none => none
    | _ => none
  | _, _, _ => none
theorem anBinA_sound (hT : TabOk P tab) (h : Rel tab Γ ρ tm w C kn Wr w0) (hG : holdsG ρ G) {o : BinOp} {xt yt : TypeId} {x y : Operand} {r : Res} (hr : anBinA tab Γ G nx no o xt x y = some r) {ds : List Deferred}
    {dst : Option Tmp} {ty : TypeId} {pos : String} {aft : Array Edge} {gd : Option (Nat × Bool)} :
    Yield P (execOp (Act.eval ⟨tm, ds⟩) ⟨dst, .binOp o xt x y yt, ty, pos, aft, gd⟩) w fun v w' => Post tab Γ ρ tm C kn Wr w0 nx no r v w' := by
  unfold anBinA at hr
  split at hr
  case h_2 => cases hr
  rename_i as bs ti hx hy hti
  split at hr
  case h_2 => cases hr
  rename_i n e htd
  split at hr
  case h_2 => cases hr
  rename_i te hte
  split at hr
  case h_2 => cases hr
  rename_i ck hck
  split at hr
  case isFalse => cases hr
  rename_i hc
  simp only [Bool.and_eq_true, Bool.not_eq_true'] at hc
  obtain ⟨c1, c2, c3, c4, c5⟩ := hc
  have c3 := Nat.eq_of_beq_eq_true c3
  have hu := und_array hT hti htd
  have hgd : P.eqGuardType P.depth xt = false := (hT xt ti hti).gda c4
  obtain ⟨us, hus, hu1, hu2⟩ := opd_sound h hG hx (ds := ds)
  obtain ⟨vs, hvs, hv1, hv2⟩ := opd_sound h hG hy (ds := ds)
  have main : ∀ es, leavesEq as bs = some es → (Op.equalIn 10000 xt (.agg us) (.agg vs)).run P w = .ok (allV us.toList vs.toList) w ∧ den ρ (conjE es) = .bool (allV us.toList vs.toList) := by
    intro es hes
    obtain ⟨p1, p2⟩ := leavesEq_sound (us := us.toList) (vs := vs.toList) hes c5 (by simpa using hu1) (by simpa using hv1) (fun i l hl => by simpa using hu2 i l hl) (fun i l hl => by simpa using hv2 i l hl)
    have hl := p1.len
    refine ⟨?_, conj_den p2 (by omega)⟩
    have := run_equalIn_arr (w := w) hT hu hte c2 c3 c1 hck p1 (d := 9998)
    simpa using this
  unfold Yield
  simp only [execOp, hus, hvs, Sem.run_bind, run_eqGuard_agg w o xt x y us vs hgd, Result.andThen_ok, Sem.run_pure]
  split at hr
  · rename_i es hes
    cases hr
    obtain ⟨m1, m2⟩ := main es hes
    simp only [run_eql_struct, m1, Result.andThen_ok]
    exact ⟨_, _, rfl, Post.pure h rfl (mk_bool m2)⟩
  · rename_i es hes
    cases hr
    obtain ⟨m1, m2⟩ := main es hes
    simp only [run_neq_struct, m1, Result.andThen_ok]
    exact ⟨_, _, rfl, Post.pure h rfl (mk_bool (by simp only [den, U.den, m2, T.not]))⟩
  · cases hr

/-! ### An array variable read whole -/
def scalLeaf : CK → Exp → Leaf
  | .int k, e => .int k e
  | .bool, e => .bool e
  | .str, e => .str e
  | _, _ => .dead
def anLoadA (tab : Tab) (Γ : Gam) (G : Grd) (nx no : Nat) (t : TypeId) (x : Operand) : Option Res :=
  match opd Γ G x, arrOf tab t, tab.get t with
  | some (.s (.one (.pe o et (.int 0) 0))), some (n, e, ck), some ti => match Γ.obj o with
    | some ([], .row true et' d) => if Nat.beq e et && (Nat.beq et' et && ti.agg) then
        some ⟨.s (.agg ((List.range n).map fun (k : Nat) => scalLeaf ck (.bin .idx d (.int (k : Int))))), [], [(G, .chk (.bin (.cmp .eql) (.un .len d) (.int n)))], nx, no⟩ else none
    | _ => none
  | _, _, _ => none
theorem anLoadA_sound (hT : TabOk P tab) (h : Rel tab Γ ρ tm w C kn Wr w0) (hG : holdsG ρ G) {t : TypeId} {x : Operand} {r : Res} (hr : anLoadA tab Γ G nx no t x = some r) (hS : HoldsS I ρ r.sis) {ds : List Deferred}
    {dst : Option Tmp} {ty : TypeId} {pos : String} {aft : Array Edge} {gd : Option (Nat × Bool)} :
    Yield P (execOp (Act.eval ⟨tm, ds⟩) ⟨dst, .load t x, ty, pos, aft, gd⟩) w fun v w' => Post tab Γ ρ tm C kn Wr w0 nx no r v w' := by
  unfold anLoadA at hr
  split at hr
  case h_2 => cases hr
  rename_i x1 x2 x3 o et n e ck ti hx harr hti
  split at hr
  case h_2 => cases hr
  rename_i et' d hob
  split at hr
  case isFalse => cases hr
  rename_i hc
  simp only [Bool.and_eq_true] at hc
  obtain ⟨c1, c2, c3⟩ := hc
  have c1 := Nat.eq_of_beq_eq_true c1
  have c2 := Nat.eq_of_beq_eq_true c2
  subst c1; subst c2
  cases hr
  obtain ⟨ti', te, q1, q2, q3, q4, q5, q6, q7, q8, q9⟩ := arrOf_sound harr
  rw [hti] at q1; cases q1
  obtain ⟨⟨hk, m, b, base, hm, hmN, hA, hv⟩, _⟩ := opd_sound h hG hx (ds := ds)
  have hm0 : m = 0 := by
    have : (T.int 0) = .int m := hm
    simp only [T.int.injEq] at this; omega
  subst hm0
  obtain ⟨rows, hrows, hD⟩ := (h.obs o [] _ hob).2.2 trivial
  have hlen : rows.length = n := by
    have := hS (G, .chk (.bin (.cmp .eql) (.un .len d) (.int n))) (by simp) hG
    simp only [SIok, den, B.den, U.den, hrows, T.len, T.cmp, T.cmpI, T.bool.injEq, beq_iff_eq] at this
    omega
  have hsv : svOf ti.agg ((List.range n).map fun (k : Nat) => scalLeaf ck (.bin .idx d (.int (k : Int)))) = some (.s (.agg ((List.range n).map fun (k : Nat) => scalLeaf ck (.bin .idx d (.int (k : Int)))))) := by
    unfold svOf; rw [if_pos c3]
  rw [hA] at hD
  obtain ⟨v, hrun, hrel⟩ := run_load_leaves (w := w) (C := C) (ρ := ρ) (k := kn.o) hT hti (b := b) (o := base) hsv (by simp [q6]) (fun j l hj => by
    rw [List.getElem?_map] at hj
    cases hjr : (List.range n)[j]? with
    | none => rw [hjr] at hj; cases hj
    | some j' =>
      have hjn : j < n := by
        have := (List.getElem?_eq_some_iff.1 hjr).1
        simpa using this
      have hje : j' = j := by
        rw [List.getElem?_range hjn] at hjr
        exact (Option.some.inj hjr).symm
      subst hje
      rw [hjr] at hj
      simp only [Option.map_some, Option.some.injEq] at hj
      subst hj
      cases hD with
      | @sl _ ti2 _ _ _ _ b2 off2 vs Fs F hti2 hsz hn hc' ha hwf hcell hrel hown hdis hdr hF =>
        rw [q3] at hti2; cases hti2
        have hj2 : j' < C.N o := by omega
        rcases ha with ha | ha
        · cases ha
          refine ⟨vs j' 0, ?_, ?_⟩
          · have := hcell j' 0 hj2 (by omega)
            rw [q5] at this
            simpa using this
          · have hr := hrel j' 0 ck hj2 (by rw [q4]; rfl)
            have e1 : cellT te.size rows j' 0 = den ρ (.bin .idx d (.int j')) := by
              unfold cellT
              rw [if_pos q5]
              simp only [den, B.den, hrows, T.idx]
              rw [if_neg (by omega), Int.toNat_natCast]
            rw [e1] at hr
            cases ck <;> simp only [scalCk, Bool.false_eq_true] at q9
            · exact hr.leafInt
            · exact hr.leafBool
            · exact hr.leafStr
        · omega)
  unfold Yield
  have hv' : (Act.eval ⟨tm, ds⟩ x) = .pointer (some ⟨b, base, none⟩) := by rw [hv]; simp
  simp only [execOp, hv', Sem.run_bind, hrun, Result.andThen_ok, Sem.run_pure]
  exact ⟨_, _, rfl, Post.pure h rfl hrel⟩
end
end Gp
