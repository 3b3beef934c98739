/- Contracts of the first edition (flat data alone) hold in the second one. -/
import Derived.Test.YtialgmhhkbdegaaZb
import Derived.Test.YtialgmhhkbdegaaVB
import Derived.Test.YtialgmhhkbdegaaEA
import Derived.Test.YtialgmhhkbdegaaVC
import Derived.Test.YtialgmhhkbdegaaTA
namespace Go.Proofs.Ytialgmhhkbdegaa
open Go.RowKit
namespace V

mutual
def olds : (c : TC) → TCT c → List Ev.AV
  | .b, x => [.bool x]
  | .i k, n => [.int k n]
  | .s, x => [.val (.string x)]
  | .sl _, _ => []
  | .st cs, x => oldss cs x
def oldss : (cs : List TC) → TCTs cs → List Ev.AV
  | [], _ => []
  | c :: cs, x => olds c x.1 ++ oldss cs x.2
end
def oldA : (c : TC) → TCT c → Ev.AV
  | .b, x => .bool x
  | .i k, n => .int k n
  | .s, x => .val (.string x)
  | .sl _, _ => .top
  | .st cs, x => .agg (oldss cs x)
def oldAs : (cs : List TC) → TCTs cs → List Ev.AV
  | [], _ => []
  | c :: cs, x => oldA c x.1 :: oldAs cs x.2
def oldTup : List Ev.AV → Ev.AV
  | [x] => x
  | l => .tup l
def oldR (rs : List TC) (y : TCTs rs) : Ev.AV := oldTup (oldAs rs y)

theorem oldL_app {σ : Nat → Option Nat} : ∀ {xs ys : List Ev.AV} {us vs : List Value}, Ev.RepL σ xs us → Ev.RepL σ ys vs → Ev.RepL σ (xs ++ ys) (us ++ vs)
  | [], ys, us, vs, h, k => by simp only [Ev.RepL] at h; subst h; exact k
  | x :: xs, ys, us, vs, h, k => by
    simp only [Ev.RepL] at h
    obtain ⟨v, us', rfl, h1, h2⟩ := h
    simp only [List.cons_append, Ev.RepL]
    exact ⟨v, us' ++ vs, rfl, h1, oldL_app h2 k⟩
theorem oldL_split {σ : Nat → Option Nat} : ∀ {xs ys : List Ev.AV} {ws : List Value}, Ev.RepL σ (xs ++ ys) ws → ∃ us vs, ws = us ++ vs ∧ Ev.RepL σ xs us ∧ Ev.RepL σ ys vs
  | [], ys, ws, h => ⟨[], ws, rfl, by simp only [Ev.RepL], h⟩
  | x :: xs, ys, ws, h => by
    simp only [List.cons_append, Ev.RepL] at h
    obtain ⟨v, us', rfl, h1, h2⟩ := h
    obtain ⟨a, b, rfl, k1, k2⟩ := oldL_split h2
    exact ⟨v :: a, b, rfl, by simp only [Ev.RepL]; exact ⟨v, a, rfl, h1, k1⟩, k2⟩
mutual
theorem olds_rep {m : Nat → Nat → Option Value} {σ : Nat → Option Nat} : ∀ (c : TC) (x : TCT c) (vs : List Value), c.noSl = true → RepD m c x vs → Ev.RepL σ (olds c x) vs
  | .b, x, vs, _, h => by simp only [RepD] at h; subst h; simp only [olds, Ev.RepL, Ev.Rep]; exact ⟨_, _, rfl, rfl, rfl⟩
  | .i k, x, vs, _, h => by simp only [RepD] at h; obtain ⟨rfl, h⟩ := h; simp only [olds, Ev.RepL, Ev.Rep]; exact ⟨_, _, rfl, ⟨rfl, h⟩, rfl⟩
  | .s, x, vs, _, h => by simp only [RepD] at h; subst h; simp only [olds, Ev.RepL, Ev.Rep]; exact ⟨_, _, rfl, rfl, rfl⟩
  | .sl c, x, vs, hn, _ => by simp [TC.noSl] at hn
  | .st cs, x, vs, hn, h => by simp only [RepD] at h; simp only [olds]; exact oldss_rep cs x vs (by simpa only [TC.noSl] using hn) h
theorem oldss_rep {m : Nat → Nat → Option Value} {σ : Nat → Option Nat} : ∀ (cs : List TC) (x : TCTs cs) (vs : List Value), noSls cs = true → RepDs m cs x vs → Ev.RepL σ (oldss cs x) vs
  | [], x, vs, _, h => by simp only [RepDs] at h; subst h; simp only [oldss, Ev.RepL]
  | c :: cs, x, vs, hn, h => by
    simp only [noSls, Bool.and_eq_true] at hn
    simp only [RepDs] at h
    obtain ⟨a, b, rfl, h1, h2⟩ := h
    simp only [oldss]
    exact oldL_app (olds_rep c x.1 a hn.1 h1) (oldss_rep cs x.2 b hn.2 h2)
end
mutual
theorem olds_repD {m : Nat → Nat → Option Value} {σ : Nat → Option Nat} : ∀ (c : TC) (x : TCT c) (vs : List Value), c.noSl = true → Ev.RepL σ (olds c x) vs → RepD m c x vs
  | .b, x, vs, _, h => by
    simp only [olds, Ev.RepL, Ev.Rep] at h
    obtain ⟨_, _, rfl, rfl, rfl⟩ := h
    simp only [RepD]
  | .i k, x, vs, _, h => by
    simp only [olds, Ev.RepL, Ev.Rep] at h
    obtain ⟨_, _, rfl, ⟨rfl, h⟩, rfl⟩ := h
    simp only [RepD]; exact ⟨trivial, h⟩
  | .s, x, vs, _, h => by
    simp only [olds, Ev.RepL, Ev.Rep] at h
    obtain ⟨_, _, rfl, rfl, rfl⟩ := h
    simp only [RepD]
  | .sl c, x, vs, hn, _ => by simp [TC.noSl] at hn
  | .st cs, x, vs, hn, h => by simp only [olds] at h; simp only [RepD]; exact oldss_repD cs x vs (by simpa only [TC.noSl] using hn) h
theorem oldss_repD {m : Nat → Nat → Option Value} {σ : Nat → Option Nat} : ∀ (cs : List TC) (x : TCTs cs) (vs : List Value), noSls cs = true → Ev.RepL σ (oldss cs x) vs → RepDs m cs x vs
  | [], x, vs, _, h => by simp only [oldss, Ev.RepL] at h; subst h; simp only [RepDs]
  | c :: cs, x, vs, hn, h => by
    simp only [noSls, Bool.and_eq_true] at hn
    simp only [oldss] at h
    obtain ⟨a, b, rfl, h1, h2⟩ := oldL_split h
    simp only [RepDs]
    exact ⟨a, b, rfl, olds_repD c x.1 a hn.1 h1, oldss_repD cs x.2 b hn.2 h2⟩
end
theorem oldA_rep {m : Nat → Nat → Option Value} {σ : Nat → Option Nat} (c : TC) (x : TCT c) (v : Value) (hn : c.noSl = true) (h : RepD m c x v.cells.toList) (hc : (∃ cs, c = .st cs) → ∃ vs : Array Value, v = .agg vs) (hc' : (∀ cs, c ≠ .st cs) → v.oneCell' = true) : Ev.Rep σ (oldA c x) v := by
  cases c with
  | st cs =>
    obtain ⟨vs, rfl⟩ := hc ⟨cs, rfl⟩
    simp only [RepD] at h
    simp only [oldA, Ev.Rep]
    exact ⟨vs.toList, oldss_rep cs x _ (by simpa only [TC.noSl] using hn) h, by simp⟩
  | sl c => simp [TC.noSl] at hn
  | _ =>
    rw [one_cells (hc' (by simp))] at h
    have := olds_rep (σ := σ) _ x _ hn h
    simp only [olds, Ev.RepL, List.cons.injEq] at this
    obtain ⟨v', us, ⟨rfl, _⟩, hr, _⟩ := this
    exact hr
theorem oldA_enc {σ : Nat → Option Nat} {τ : Env} (c : TC) (x : TCT c) (v : Value) (hn : c.noSl = true) (h : Ev.Rep σ (oldA c x) v) : Rep τ (encA c x) v := by
  cases c with
  | st cs =>
    simp only [oldA, Ev.Rep] at h
    obtain ⟨vs, h, rfl⟩ := h
    simp only [encA, Rep]
    exact ⟨vs, encs_rep cs x _ (oldss_repD cs x vs (by simpa only [TC.noSl] using hn) h), rfl⟩
  | sl c => simp [TC.noSl] at hn
  | b => simp only [oldA, Ev.Rep] at h; subst h; simp only [encA, Rep]
  | i k => simp only [oldA, Ev.Rep] at h; simp only [encA, Rep]; exact h
  | s => simp only [oldA, Ev.Rep] at h; subst h; simp only [encA, Rep]
theorem oldAs_rep {σ' : Nat → Option Nat} {σ : Env} : ∀ (cs : List TC) (xs : List AV) (us : List Value) (y : TCTs cs), noSls cs = true → decAs cs xs = some y → RepL σ xs us → Ev.RepL σ' (oldAs cs y) us
  | [], xs, us, y, _, h, k => by
    cases xs with
    | nil => simp only [RepL] at k; subst k; simp only [oldAs, Ev.RepL]
    | cons x xs => simp [decAs] at h
  | c :: cs, xs, us, y, hn, h, k => by
    simp only [noSls, Bool.and_eq_true] at hn
    cases xs with
    | nil => simp [decAs] at h
    | cons x xs =>
      simp only [decAs] at h
      split at h <;> try (simp at h; done)
      rename_i z zs hz hzs
      simp only [Option.some.injEq] at h
      subst h
      simp only [RepL] at k
      obtain ⟨v, us', rfl, k1, k2⟩ := k
      obtain ⟨h1, h2, h3⟩ := decA_rep hz k1
      simp only [oldAs, Ev.RepL]
      exact ⟨v, us', rfl, oldA_rep c z v hn.1 h1 h2 h3, oldAs_rep cs xs us' zs hn.2 hzs k2⟩
theorem oldAs_enc {σ : Nat → Option Nat} {τ : Env} : ∀ (cs : List TC) (y : TCTs cs) (us : List Value), noSls cs = true → Ev.RepL σ (oldAs cs y) us → RepL τ (encAs cs y) us
  | [], y, us, _, h => by simp only [oldAs, Ev.RepL] at h; subst h; simp only [encAs, RepL]
  | c :: cs, y, us, hn, h => by
    simp only [noSls, Bool.and_eq_true] at hn
    simp only [oldAs, Ev.RepL] at h
    obtain ⟨v, us', rfl, h1, h2⟩ := h
    simp only [encAs, RepL]
    exact ⟨v, us', rfl, oldA_enc c y.1 v hn.1 h1, oldAs_enc cs y.2 us' hn.2 h2⟩
theorem oldR_enc {σ : Nat → Option Nat} {τ : Env} : ∀ (rs : List TC) (y : TCTs rs) (v : Value), noSls rs = true → Ev.Rep σ (oldR rs y) v → Rep τ (encR rs y) v
  | [], y, v, _, h => by
    simp only [oldR, oldAs, oldTup, Ev.Rep, Ev.RepL] at h
    obtain ⟨_, rfl, rfl⟩ := h
    simp only [encR, encAs, tupA, Rep, RepL]
    exact ⟨[], rfl, rfl⟩
  | [c], y, v, hn, h => by
    simp only [noSls, Bool.and_true] at hn
    exact oldA_enc c y.1 v hn h
  | c :: d :: rs, y, v, hn, h => by
    have h' : Ev.Rep σ (.tup (oldAs (c :: d :: rs) y)) v := h
    simp only [Ev.Rep] at h'
    obtain ⟨vs, h1, rfl⟩ := h'
    show Rep τ (.tup (encAs (c :: d :: rs) y)) _
    simp only [Rep]
    exact ⟨vs, oldAs_enc _ y vs hn h1, rfl⟩
/-- a contract of the first edition is one of the second -/
theorem bridge {P : Program} {f : FuncId} {g : Ev.PureT} (hp : Ev.PureOk P f g) (cs rs : List TC) {ok : TCTs cs → Bool} {F : TCTs cs → TCTs rs} (hns : (noSls cs && noSls rs) = true)
    (hg : ∀ y, g (oldAs cs y) = some (ok y, oldR rs (F y))) : PureOk P f (spec cs rs ok F) := by
  intro σ w xs us r _ hm hu h
  simp only [Bool.and_eq_true] at hns
  simp only [spec] at h
  cases hd : decAs cs xs with
  | none => simp [hd] at h
  | some y =>
    simp only [hd, Option.some.injEq, Prod.mk.injEq] at h
    obtain ⟨hok, rfl⟩ := h
    refine Calls.mono (hp (fun _ => none) w _ us _ (oldAs_rep cs xs us y hns.1 hd hu) (by rw [hg y, hok])) ?_
    rintro e w' ⟨v, rfl, h1, h2⟩
    refine ⟨trivial, v, σ.mem, rfl, hm.keep fun n o u hv => h2.block n (cell_lt (hm n o u hv)), fun _ _ _ k => k, fun _ _ _ k => .inl k, fun _ => oldR_enc rs _ v hns.2 h1, fun _ τ _ => oldR_enc rs _ v hns.2 h1, h2⟩
end V
end Go.Proofs.Ytialgmhhkbdegaa
/- Contracts of turf, in the second edition: by bridges from the first. -/
namespace Go.Proofs.Ytialgmhhkbdegaa
open Go.RowKit
section
open Ev
theorem u_is_Check : FnIs Try.prog (61, Try.f61) := ⟨Try.func61, by kernel_rfl, by kernel_rfl⟩
def u_ck (x y : Int) : Int := bif fpt x y then 0 else 2
def u_Check : PureT
  | [.agg [.int .i64 ax, .int .i64 ay]] => some (true, .int .i64 (u_ck ax ay))
  | _ => none
theorem u_p_Check : PureOk Try.prog 61 u_Check := by
  refine pureOk_of_ev (ctx_ok mixed puOk_nil (fns_cons u_is_Check (fns_cons is_fits fns_nil))) 3 fun xs x hw h => ?_
  unfold u_Check at h
  split at h
  · rename_i ax ay
    simp only [Option.some.injEq, Prod.mk.injEq, true_and] at h
    subst h
    simp only [WFL, WF, and_true] at hw
    obtain ⟨a1, a2⟩ := hw
    refine ⟨rfl, ?_⟩
    have e : evFn (ctx Try.prog [] [(61, Try.f61), (24, Try.f24)]) 3 61 [.agg [.int .i64 ax, .int .i64 ay]] noHeap 0 outK = bif fitC ax ay then .leaf (.int .i64 2) else bif fitD ax ay then .leaf (.int .i64 2) else .leaf (.int .i64 0) := by kernel_rfl
    rw [e]
    refine fit_sat a1 a2 (fun k => ?_) (fun k => ?_) <;> (refine sat_leaf ?_; unfold u_ck; rw [k]; rfl)
  · simp at h
def u_cdOk (x y r : Int) : Bool := fpt x y && !outB r 1 65536
def u_cd (x y r : Int) : Int := bif u_cdOk x y r then 0 else 2
def u_CheckDisc : PureT
  | [.agg [.int .i64 px, .int .i64 py, .int .i64 r]] => some (true, .int .i64 (u_cd px py r))
  | _ => none
theorem u_p_CheckDisc : PureOk Try.prog 33 u_CheckDisc := by
  refine pureOk_of_ev (ctx_ok mixed puOk_nil (fns_cons is_CheckDisc (fns_cons is_fits fns_nil))) 3 fun xs x hw h => ?_
  unfold u_CheckDisc at h
  split at h
  · rename_i px py r
    simp only [Option.some.injEq, Prod.mk.injEq, true_and] at h
    subst h
    simp only [WFL, WF, and_true] at hw
    obtain ⟨a1, a2, a3⟩ := hw
    refine ⟨rfl, ?_⟩
    have e : evFn (ctx Try.prog [] [(33, Try.f33), (24, Try.f24)]) 3 33 [.agg [.int .i64 px, .int .i64 py, .int .i64 r]] noHeap 0 outK = bif fitC px py then .leaf (.int .i64 2) else bif fitD px py then .leaf (.int .i64 2) else
      bif decide (r < 1) then .leaf (.int .i64 2) else bif decide (r > 65536) then .leaf (.int .i64 2) else .leaf (.int .i64 0) := by kernel_rfl
    rw [e]
    refine fit_sat a1 a2 (fun k => ?_) (fun k1 => sat_cond (fun k => ?_) (fun k2 => sat_cond (fun k => ?_) (fun k3 => ?_)))
    · refine sat_leaf ?_
      unfold u_cd u_cdOk; rw [k]; rfl
    · refine sat_leaf ?_
      unfold u_cd u_cdOk outB; rw [k1, k]; rfl
    · have k' : decide (65536 < r) = true := k
      refine sat_leaf ?_
      unfold u_cd u_cdOk outB; rw [k1, k2, k']; rfl
    · have k' : decide (65536 < r) = false := k3
      refine sat_leaf ?_
      unfold u_cd u_cdOk outB; rw [k1, k2, k']; rfl
  · simp at h
end
namespace V
/-! codes -/
abbrev cPt : TC := .st [.i .i64, .i .i64]
abbrev cDisc : TC := .st [cPt, .i .i64]
abbrev s_Check : PureT := spec [cPt] [cI] (fun _ => true) (fun x => (u_ck x.1.1 x.1.2.1, ()))
theorem q_Check : PureOk Try.prog 61 s_Check := bridge u_p_Check _ _ rfl (fun _ => rfl)
abbrev s_CheckDisc : PureT := spec [cDisc] [cI] (fun _ => true) (fun x => (u_cd x.1.1.1 x.1.1.2.1 x.1.2.1, ()))
theorem q_CheckDisc : PureOk Try.prog 33 s_CheckDisc := bridge u_p_CheckDisc _ _ rfl (fun _ => rfl)
abbrev s_Valid : PureT := spec [cPt] [.b] (fun _ => true) (fun x => (fpt x.1.1 x.1.2.1, ()))
abbrev s_Divide : PureT := spec [cI, cI] [.st [cI, cI], cI] (fun _ => true) (fun x => ((DvW x.1 x.2.1, DvR x.1 x.2.1, ()), DvE x.1 x.2.1, ()))
theorem q_Divide : PureOk Try.prog 20 s_Divide := bridge p_Divide _ _ rfl (fun _ => rfl)
abbrev s_Parted : PureT := spec [cI, cI] [.st [cI, cI]] (fun x => dvOk x.1 x.2.1) (fun x => ((DW x.1 x.2.1, DR x.1 x.2.1, ()), ()))
abbrev s_Root : PureT := spec [cI] [cI, cI] (fun _ => true) (fun x => (RtV x.1, RtE x.1, ()))
abbrev s_Sqrt : PureT := spec [cI] [cI] (fun x => decide (0 ≤ x.1 ∧ x.1 ≤ 4611686018427387904)) (fun x => (rt x.1, ()))
abbrev s_Square : PureT := spec [cPt, cPt] [cI, cI] (fun _ => true) (fun x => ((SqR x.1.1 x.1.2.1 x.2.1.1 x.2.1.2.1).1, (SqR x.1.1 x.1.2.1 x.2.1.1 x.2.1.2.1).2, ()))
abbrev s_Far : PureT := spec [cPt, cPt] [cI] (fun x => fpt x.1.1 x.1.2.1 && fpt x.2.1.1 x.2.1.2.1) (fun x => (sq x.1.1 x.1.2.1 x.2.1.1 x.2.1.2.1, ()))
end V
end Go.Proofs.Ytialgmhhkbdegaa
