/- Gp, part 7: operators, addresses, parts: operations that turn no memory. -/
import Derived.Test.YtbifjnccebhmkaaGpOp1
set_option linter.unusedVariables false
set_option linter.unusedSimpArgs false
namespace Gp
open Go
section
variable {tab : Tab} {Γ : Gam} {ρ : Env} {tm : Array Value} {w : World} {C : Ctx} {kn : Kn} {Wr : CS} {w0 : World} {P : Program} {I : Nat → List T → List T → Prop} {G : Grd} {nx no : Nat}

theorem one_int {k : IntKind} {e : Exp} {v : Value} (h : SVRel tab C kn.o ρ (.s (.one (.int k e))) v) : ∃ n, den ρ e = .int n ∧ v = .int k n := h.1
theorem one_bool {e : Exp} {v : Value} (h : SVRel tab C kn.o ρ (.s (.one (.bool e))) v) : ∃ n, den ρ e = .bool n ∧ v = .bool n := h.1
theorem one_str {e : Exp} {v : Value} (h : SVRel tab C kn.o ρ (.s (.one (.str e))) v) : ∃ n, den ρ e = .str n ∧ v = .string n := h.1
theorem mk_int {k : IntKind} {e : Exp} {n : Int} (h : den ρ e = .int n) : SVRel tab C kn.o ρ (.s (.one (.int k e))) (.int k n) := ⟨⟨n, h, rfl⟩, fun cs => by simp⟩
theorem mk_bool {e : Exp} {n : Bool} (h : den ρ e = .bool n) : SVRel tab C kn.o ρ (.s (.one (.bool e))) (.bool n) := ⟨⟨n, h, rfl⟩, fun cs => by simp⟩
theorem mk_str {e : Exp} {n : ByteArray} (h : den ρ e = .str n) : SVRel tab C kn.o ρ (.s (.one (.str e))) (.string n) := ⟨⟨n, h, rfl⟩, fun cs => by simp⟩

def isArith : BinOp → Bool
  | .add | .sub | .mul | .and | .or | .xor | .andNot => true
  | _ => false
def isCmp : BinOp → Bool
  | .eql | .neq | .lss | .leq | .gtr | .geq => true
  | _ => false
def nonZero : Exp → Bool
  | .int n => n != 0
  | _ => false
def nonNeg : Exp → Bool
  | .int n => decide (0 ≤ n)
  | _ => false

def anBin (tab : Tab) (Γ : Gam) (G : Grd) (nx no : Nat) (o : BinOp) (xt : TypeId) (x y : Operand) : Option Res :=
  match opd Γ G x, opd Γ G y with
  | some (.s (.one (.int k a))), some (.s (.one (.int k' b))) =>
    match o with
    | .shl | .shr => some ⟨.s (.one (.int k (.bin (.ar o k) a b))), [], if nonNeg b then [] else [(G, .chk (.bin (.cmp .geq) b (.int 0)))], nx, no⟩
    | .quo | .rem => if k = k' then some ⟨.s (.one (.int k (.bin (.ar o k) a b))), [], if nonZero b then [] else [(G, .chk (.bin (.cmp .neq) b (.int 0)))], nx, no⟩ else none
    | .eql | .neq | .lss | .leq | .gtr | .geq => if k = k' then some ⟨.s (.one (.bool (.bin (.cmp o) a b))), [], [], nx, no⟩ else none
    | _ => if k = k' then some ⟨.s (.one (.int k (.bin (.ar o k) a b))), [], [], nx, no⟩ else none
  | some (.s (.one (.bool a))), some (.s (.one (.bool b))) =>
    match o, tab.get xt with
    | .eql, some ti | .neq, some ti => match ti.td with
      | .bool => some ⟨.s (.one (.bool (.bin (.bcmp o) a b))), [], [], nx, no⟩
      | _ => none
    | _, _ => none
  | some (.s (.one (.str a))), some (.s (.one (.str b))) =>
    if isCmp o then some ⟨.s (.one (.bool (.bin (.scmp o) a b))), [], [], nx, no⟩
    else match o with
    | .add => some ⟨.s (.one (.str (.var nx))), [], [(G, .set nx (.bin .scat a b)), (G, .chk (.bin (.cmp .leq) (.un .slen (.var nx)) (.int 4611686018427387904)))], nx + 1, no⟩
    | _ => none
  | _, _ => none

theorem eqGuard_int {P : Program} {w : World} {o : BinOp} {t : TypeId} {x y : Operand} {k k' : IntKind} {a b : Int} : (eqGuard o t x y (.int k a) (.int k' b)).run P w = .ok () w := by
  unfold eqGuard; cases o <;> rfl
theorem eqGuard_str {P : Program} {w : World} {o : BinOp} {t : TypeId} {x y : Operand} {a b : ByteArray} : (eqGuard o t x y (.string a) (.string b)).run P w = .ok () w := by
  unfold eqGuard; cases o <;> rfl
theorem eqGuard_bool {P : Program} {w : World} {o : BinOp} {t : TypeId} {x y : Operand} {a b : Bool} : (eqGuard o t x y (.bool a) (.bool b)).run P w = .ok () w := by
  unfold eqGuard; cases o <;> rfl

theorem equalIn_bool {t : TypeId} {a b : Bool} (d : Nat) (hu : P.underlying t = some .bool) : (Op.equalIn (d + 1) t (.bool a) (.bool b)).run P w = .ok (a == b) w := by
  simp only [Op.equalIn, Sem.run_bind, underlying, run_program, Result.andThen_ok, hu, Sem.run_pure]
theorem equal_bool {t : TypeId} {a b : Bool} (hu : P.underlying t = some .bool) : (Op.equal t (.bool a) (.bool b)).run P w = .ok (a == b) w := equalIn_bool 9999 hu
theorem binOp_eql_bool {t : TypeId} {a b : Bool} (hu : P.underlying t = some .bool) : (binOp .eql t (.bool a) (.bool b)).run P w = .ok (.bool (a == b)) w := by
  show ((Op.equal t (.bool a) (.bool b)) >>= fun x => pure (Value.bool x)).run P w = _
  rw [Sem.run_bind, equal_bool hu]; rfl
theorem binOp_neq_bool {t : TypeId} {a b : Bool} (hu : P.underlying t = some .bool) : (binOp .neq t (.bool a) (.bool b)).run P w = .ok (.bool (!(a == b))) w := by
  show ((Op.equal t (.bool a) (.bool b)) >>= fun x => pure (Value.bool (!x))).run P w = _
  rw [Sem.run_bind, equal_bool hu]; rfl

theorem nonZero_sound {b : Exp} {n : Int} (h : HoldsS I ρ (if nonZero b then [] else [(G, .chk (.bin (.cmp .neq) b (.int 0)))])) (hG : holdsG ρ G) (hb : den ρ b = .int n) : n ≠ 0 := by
  by_cases hz : nonZero b = true
  · cases b <;> simp [nonZero] at hz
    simp [den] at hb; subst hb; exact hz
  · rw [if_neg hz] at h
    have := h _ (List.mem_singleton_self _) hG
    simp only [SIok, den, B.den, hb, T.cmp, T.cmpI, T.bool.injEq] at this
    simpa using this
theorem nonNeg_sound {b : Exp} {n : Int} (h : HoldsS I ρ (if nonNeg b then [] else [(G, .chk (.bin (.cmp .geq) b (.int 0)))])) (hG : holdsG ρ G) (hb : den ρ b = .int n) : 0 ≤ n := by
  by_cases hz : nonNeg b = true
  · cases b <;> simp [nonNeg] at hz
    simp [den] at hb; subst hb; exact hz
  · rw [if_neg hz] at h
    have := h _ (List.mem_singleton_self _) hG
    simp only [SIok, den, B.den, hb, T.cmp, T.cmpI, T.bool.injEq, decide_eq_true_eq] at this
    exact this

theorem anBin_sound (hT : TabOk P tab) (h : Rel tab Γ ρ tm w C kn Wr w0) (hG : holdsG ρ G) {o : BinOp} {xt yt : TypeId} {x y : Operand} {r : Res} (hr : anBin tab Γ G nx no o xt x y = some r) (hS : HoldsS I ρ r.sis) {ds : List Deferred}
    {dst : Option Tmp} {ty : TypeId} {pos : String} {aft : Array Edge} {gd : Option (Nat × Bool)} :
    Yield P (execOp (Act.eval ⟨tm, ds⟩) ⟨dst, .binOp o xt x y yt, ty, pos, aft, gd⟩) w fun v w' => Post tab Γ ρ tm C kn Wr w0 nx no r v w' := by
  unfold anBin at hr
  split at hr
  · rename_i k a k' b hx hy
    obtain ⟨m, hm, hvm⟩ := one_int (opd_sound h hG hx (ds := ds))
    obtain ⟨n, hn, hvn⟩ := one_int (opd_sound h hG hy (ds := ds))
    unfold Yield
    simp only [execOp, hvm, hvn, Sem.run_bind, eqGuard_int, Result.andThen_ok, Sem.run_pure]
    cases o <;> simp only [] at hr
    case shl =>
      cases hr
      have h0 := nonNeg_sound hS hG hn
      simp only [binOp, Op.shift, if_neg (show ¬ n < 0 by omega), Sem.run_pure, Result.andThen_ok]
      exact ⟨_, _, rfl, Post.pure h rfl (mk_int (by simp [den, B.den, hm, hn, T.ar, T.arI]))⟩
    case shr =>
      cases hr
      have h0 := nonNeg_sound hS hG hn
      simp only [binOp, Op.shift, if_neg (show ¬ n < 0 by omega), Sem.run_pure, Result.andThen_ok]
      exact ⟨_, _, rfl, Post.pure h rfl (mk_int (by simp [den, B.den, hm, hn, T.ar, T.arI]))⟩
    case quo =>
      split at hr
      · rename_i hk; subst hk; cases hr
        have h0 := nonZero_sound hS hG hn
        simp only [binOp, Op.intDiv, if_neg h0, ne_eq, not_true_eq_false, if_false, Sem.run_pure, Result.andThen_ok]
        exact ⟨_, _, rfl, Post.pure h rfl (mk_int (by simp [den, B.den, hm, hn, T.ar, T.arI]))⟩
      · cases hr
    case rem =>
      split at hr
      · rename_i hk; subst hk; cases hr
        have h0 := nonZero_sound hS hG hn
        simp only [binOp, Op.intDiv, if_neg h0, ne_eq, not_true_eq_false, if_false, Sem.run_pure, Result.andThen_ok]
        exact ⟨_, _, rfl, Post.pure h rfl (mk_int (by simp [den, B.den, hm, hn, T.ar, T.arI]))⟩
      · cases hr
    all_goals
      split at hr
      · rename_i hk; subst hk; cases hr
        simp only [binOp, Op.intArith, Op.intBits, Op.intCmp, ne_eq, not_true_eq_false, if_false, Sem.run_pure, Result.andThen_ok]
        first
          | exact ⟨_, _, rfl, Post.pure h rfl (mk_int (by simp [den, B.den, hm, hn, T.ar, T.arI]))⟩
          | exact ⟨_, _, rfl, Post.pure h rfl (mk_bool (by simp [den, B.den, hm, hn, T.cmp, T.cmpI]))⟩
      · cases hr
  · rename_i a b hx hy
    obtain ⟨m, hm, hvm⟩ := one_bool (opd_sound h hG hx (ds := ds))
    obtain ⟨n, hn, hvn⟩ := one_bool (opd_sound h hG hy (ds := ds))
    have key : ∀ ti, tab.get xt = some ti → ti.td = .bool → P.underlying xt = some .bool := by
      intro ti hti htd
      obtain ⟨d, h1, h2, _⟩ := (hT xt ti hti).und
      rw [htd] at h2
      cases d <;> simp [tdChk] at h2
      exact h1
    unfold Yield
    simp only [execOp, hvm, hvn, Sem.run_bind, eqGuard_bool, Result.andThen_ok, Sem.run_pure]
    split at hr
    · rename_i ti hti
      split at hr
      · rename_i htd
        cases hr
        simp only [binOp_eql_bool (key ti hti htd), Result.andThen_ok]
        exact ⟨_, _, rfl, Post.pure h rfl (mk_bool (by simp [den, B.den, hm, hn, T.bcmp]))⟩
      · cases hr
    · rename_i ti hti
      split at hr
      · rename_i htd
        cases hr
        simp only [binOp_neq_bool (key ti hti htd), Result.andThen_ok]
        exact ⟨_, _, rfl, Post.pure h rfl (mk_bool (by simp only [den, B.den, hm, hn, T.bcmp]; cases m <;> cases n <;> rfl))⟩
      · cases hr
    · cases hr
  · rename_i a b hx hy
    obtain ⟨m, hm, hvm⟩ := one_str (opd_sound h hG hx (ds := ds))
    obtain ⟨n, hn, hvn⟩ := one_str (opd_sound h hG hy (ds := ds))
    unfold Yield
    simp only [execOp, hvm, hvn, Sem.run_bind, eqGuard_str, Result.andThen_ok, Sem.run_pure]
    split at hr
    · rename_i hc
      cases hr
      cases o <;> simp [isCmp] at hc <;>
        (simp only [binOp, Op.stringOp, Sem.run_pure, Result.andThen_ok]
         exact ⟨_, _, rfl, Post.pure h rfl (mk_bool (by simp [den, B.den, hm, hn, T.scmp, T.scmpS]))⟩)
    · split at hr
      · cases hr
        have h1 := hS (G, .set nx (.bin .scat a b)) (by simp) hG
        have h2 := hS (G, .chk (.bin (.cmp .leq) (.un .slen (.var nx)) (.int 4611686018427387904))) (by simp) hG
        simp only [SIok, den, B.den, hm, hn, T.scat] at h1
        simp only [SIok, den, B.den, U.den, h1, T.slen, T.cmp, T.cmpI, T.bool.injEq, decide_eq_true_eq] at h2
        have h3 : ¬ (((m.size + n.size : Nat) : Int) > IntKind.i64.max) := by
          rw [ByteArray.size_append] at h2
          have : IntKind.i64.max = 9223372036854775807 := by decide
          omega
        simp only [binOp, Op.stringOp, if_neg h3, Sem.run_pure, Result.andThen_ok]
        exact ⟨_, _, rfl, Post.pure h rfl (mk_str (by simp [den, h1]))⟩
      · cases hr
  · cases hr

def anUn (Γ : Gam) (G : Grd) (nx no : Nat) (o : UnOp) (x : Operand) : Option Res :=
  match o, opd Γ G x with
  | .not, some (.s (.one (.bool a))) => some ⟨.s (.one (.bool (.un .not a))), [], [], nx, no⟩
  | .neg, some (.s (.one (.int k a))) => some ⟨.s (.one (.int k (.un (.neg k) a))), [], [], nx, no⟩
  | _, _ => none
theorem anUn_sound (h : Rel tab Γ ρ tm w C kn Wr w0) (hG : holdsG ρ G) {o : UnOp} {xt : TypeId} {x : Operand} {r : Res} (hr : anUn Γ G nx no o x = some r) {ds : List Deferred}
    {dst : Option Tmp} {ty : TypeId} {pos : String} {aft : Array Edge} {gd : Option (Nat × Bool)} :
    Yield P (execOp (Act.eval ⟨tm, ds⟩) ⟨dst, .unOp o xt x, ty, pos, aft, gd⟩) w fun v w' => Post tab Γ ρ tm C kn Wr w0 nx no r v w' := by
  unfold anUn at hr
  split at hr
  · rename_i a hx
    obtain ⟨m, hm, hvm⟩ := one_bool (opd_sound h hG hx (ds := ds))
    cases hr
    unfold Yield
    simp only [execOp, hvm, Op.unary, Sem.run_bind, Sem.run_pure, Result.andThen_ok]
    exact ⟨_, _, rfl, Post.pure h rfl (mk_bool (by simp [den, U.den, hm, T.not]))⟩
  · rename_i k a hx
    obtain ⟨m, hm, hvm⟩ := one_int (opd_sound h hG hx (ds := ds))
    cases hr
    unfold Yield
    simp only [execOp, hvm, Op.unary, Op.intArith, Sem.run_bind, Sem.run_pure, Result.andThen_ok]
    exact ⟨_, _, rfl, Post.pure h rfl (mk_int (by simp [den, U.den, hm, T.neg]))⟩
  · cases hr

def anConv (tab : Tab) (Γ : Gam) (G : Grd) (nx no : Nat) (src dst : TypeId) (x : Operand) : Option Res :=
  match opd Γ G x, tab.get src, tab.get dst with
  | some (.s (.one (.int _ a))), some _, some ti => match ti.td with
    | .int k => some ⟨.s (.one (.int k (.un (.conv k) a))), [], [], nx, no⟩
    | _ => none
  | _, _, _ => none
theorem anConv_sound (hT : TabOk P tab) (h : Rel tab Γ ρ tm w C kn Wr w0) (hG : holdsG ρ G) {src ds' : TypeId} {x : Operand} {r : Res} (hr : anConv tab Γ G nx no src ds' x = some r) {ds : List Deferred}
    {dst : Option Tmp} {ty : TypeId} {pos : String} {aft : Array Edge} {gd : Option (Nat × Bool)} :
    Yield P (execOp (Act.eval ⟨tm, ds⟩) ⟨dst, .convert src ds' x, ty, pos, aft, gd⟩) w fun v w' => Post tab Γ ρ tm C kn Wr w0 nx no r v w' := by
  unfold anConv at hr
  split at hr
  case h_2 => cases hr
  rename_i a ts td hx hs hd
  split at hr
  case h_2 => cases hr
  rename_i k hk
  cases hr
  obtain ⟨m, hm, hvm⟩ := one_int (opd_sound h hG hx (ds := ds))
  obtain ⟨d1, u1, _, _⟩ := (hT _ _ hs).und
  obtain ⟨d2, u2, u3, _⟩ := (hT _ _ hd).und
  rw [hk] at u3
  cases d2 <;> simp [tdChk] at u3
  subst u3
  unfold Yield
  simp only [execOp, hvm, convert, underlying, Sem.run_bind, run_program, Result.andThen_ok, u1, u2, Sem.run_pure]
  cases d1 <;>
    (simp only [Conv.intToInt, Sem.run_pure, Result.andThen_ok]
     exact ⟨_, _, rfl, Post.pure h rfl (mk_int (by simp [den, U.den, hm, T.conv]))⟩)
end
end Gp
