/- The green: its check, its posts, what is in the way on it. -/
import Derived.Test.YtialgmhhkbdegaaWa
namespace Go.Proofs.Ytialgmhhkbdegaa
open Go.RowKit
namespace V
abbrev HoopT : Type := Int × Int × Int × Int × Bool × Unit
mutual
/-- data are compared -/
def decT : (c : TC) → (x y : TCT c) → Decidable (x = y)
  | .b, x, y => instDecidableEqBool x y
  | .i _, x, y => Int.instDecidableEq x y
  | .s, x, y => ByteArray.instDecidableEq x y
  | .sl c, x, y => @instDecidableEqList _ (fun a b => decT c a b) x y
  | .st cs, x, y => decTs cs x y
def decTs : (cs : List TC) → (x y : TCTs cs) → Decidable (x = y)
  | [], (), () => isTrue rfl
  | c :: cs, (a, b), (d, e) => match decT c a d with
    | isTrue h => match decTs cs b e with
      | isTrue k => isTrue (by rw [h, k])
      | isFalse k => isFalse fun e => k (Prod.mk.inj e).2
    | isFalse h => isFalse fun e => h (Prod.mk.inj e).1
end
/-- the green, its first hoop turned or not -/
def gr (t : Bool) : TCT cLawn := (⟨#[103, 114, 101, 101, 110]⟩, 100000, 200000, 5000, [(50000, 40000, 6000, 500, t, ()), (30000, 100000, 6200, 500, true, ())], ((50000, 100000, ()), 1200, ()), 1, 1, [(100, 0, 0, ())], ())
def isGrT (t : Bool) (l : TCT cLawn) : Bool := match decT cLawn l (gr t) with
  | isTrue _ => true
  | isFalse _ => false
theorem isGrT_eq {t : Bool} {l : TCT cLawn} (h : isGrT t l = true) : l = gr t := by
  unfold isGrT at h
  split at h
  · assumption
  · cases h
def isGr (l : TCT cLawn) : Bool := isGrT true l || isGrT false l
theorem isGr_eq {l : TCT cLawn} (h : isGr l = true) : l = gr true ∨ l = gr false := by
  unfold isGr at h
  rw [Bool.or_eq_true] at h
  exact h.imp isGrT_eq isGrT_eq
/-- whether its first hoop is turned -/
def trnd (l : TCT cLawn) : Bool := (getA (l.2.2.2.2.1 : List HoopT) 0 (0, 0, 0, 0, false, ())).2.2.2.2.1
/-! Check -/
abbrev s_lCheck : PureT := spec [cLawn] [cI] (fun x => isGr x.1) (fun _ => (0, ()))
noncomputable def X_lC : Ctx := ctxU 20 Try.prog plA1 allF
theorem X_lC_ok : CtxOk X_lC := ctxU_ok mixed puA1 allF_ok
noncomputable def T_lC (x : TCTs [cLawn]) : Tree (TCTs [cI]) := evFn X_lC 40 (.fn 27) (encAs [cLawn] x) noHeap 0 (outK X_lC.P [cI])
theorem T_lC_def (x : TCTs [cLawn]) : evFn X_lC 40 (.fn 27) (encAs [cLawn] x) noHeap 0 (outK X_lC.P [cI]) = T_lC x := by kernel_rfl
theorem T_lC_t : T_lC (gr true, ()) = .leaf (0, ()) := by kernel_rfl
theorem T_lC_f : T_lC (gr false, ()) = .leaf (0, ()) := by kernel_rfl
theorem T_lC_eq (x : TCTs [cLawn]) (h : isGr x.1 = true) : T_lC x = .leaf (0, ()) := by
  obtain ⟨l, ⟨⟩⟩ := x
  have h : isGr l = true := h
  cases isGr_eq h with
  | inl e => rw [e]; exact T_lC_t
  | inr e => rw [e]; exact T_lC_f
theorem q_lCheck : PureOk Try.prog 27 s_lCheck := q_by2 X_lC_ok 40 T_lC (fun _ => .leaf (0, ())) T_lC_def T_lC_eq fun _ _ _ => rfl
/-! Posts -/
def plG1 : List (Nat × PureT) := (27, s_lCheck) :: plTf
theorem puG1 : PuOk Try.prog plG1 := puOk_cons is_lCheck.plain q_lCheck puTf
abbrev Pst : Type := Int × Int × Int
def iwP (t : Bool) : List Pst := bif t then [(50000, 36500, 500), (50000, 43500, 500), (30000, 96400, 500), (30000, 103600, 500), (50000, 100000, 1200)] else [(46500, 40000, 500), (53500, 40000, 500), (30000, 96400, 500), (30000, 103600, 500), (50000, 100000, 1200)]
def pstD (p : Pst) : TCT cDisc := ((p.1, p.2.1, ()), p.2.2, ())
def postsL (t : Bool) : List (TCT cDisc) := (iwP t).map pstD
theorem is_lPosts : FnIs Try.prog (13, Try.f13) := ⟨Try.func13, by kernel_rfl, by kernel_rfl⟩
abbrev s_Posts : PureT := spec [cLawn] [.sl cDisc, cI] (fun x => isGr x.1) (fun x => (postsL (trnd x.1), 0, ()))
noncomputable def X_lP : Ctx := ctxU 20 Try.prog plG1 allF
theorem X_lP_ok : CtxOk X_lP := ctxU_ok mixed puG1 allF_ok
noncomputable def T_lP (x : TCTs [cLawn]) : Tree (TCTs [.sl cDisc, cI]) := evFn X_lP 40 (.fn 13) (encAs [cLawn] x) noHeap 0 (outK X_lP.P [.sl cDisc, cI])
theorem T_lP_def (x : TCTs [cLawn]) : evFn X_lP 40 (.fn 13) (encAs [cLawn] x) noHeap 0 (outK X_lP.P [.sl cDisc, cI]) = T_lP x := by kernel_rfl
theorem T_lP_t : T_lP (gr true, ()) = .leaf (postsL true, 0, ()) := by kernel_rfl
theorem T_lP_f : T_lP (gr false, ()) = .leaf (postsL false, 0, ()) := by kernel_rfl
theorem T_lP_eq (x : TCTs [cLawn]) (h : isGr x.1 = true) : T_lP x = .leaf (postsL (trnd x.1), 0, ()) := by
  obtain ⟨l, ⟨⟩⟩ := x
  have h : isGr l = true := h
  cases isGr_eq h with
  | inl e => rw [e]; exact T_lP_t
  | inr e => rw [e]; exact T_lP_f
theorem q_Posts : PureOk Try.prog 13 s_Posts := q_by2 X_lP_ok 40 T_lP (fun x => .leaf (postsL (trnd x.1), 0, ())) T_lP_def T_lP_eq fun _ _ _ => rfl
/-! InWay -/
theorem is_lInWay : FnIs Try.prog (14, Try.f14) := ⟨Try.func14, by kernel_rfl, by kernel_rfl⟩
def iwIn {α : Type} (f : Pst → Bool) : List Pst → Int → List Int → (List Int → Tree α) → Tree α
  | [], _, acc, K => K acc
  | p :: ps, i, acc, K => bif f p then iwIn f ps (i + 1) (acc ++ [i]) K else iwIn f ps (i + 1) acc K
def iwT (ax ay bx bY r : Int) (p : Pst) : Bool := decide ((LsR ax ay bx bY p.1 p.2.1 (W64 (r + p.2.2))).1 < 0)
def iwF (f : Pst → Bool) : List Pst → Int → List Int
  | [], _ => []
  | p :: ps, i => bif f p then i :: iwF f ps (i + 1) else iwF f ps (i + 1)
def iwE (ax ay bx bY r : Int) : Int := bif u_ck ax ay != 0 then 2 else bif u_ck bx bY != 0 then 2 else bif decide (1 ≤ r ∧ r ≤ 16384) then 0 else 3
def nilB {α : Type} : List α → Bool
  | [] => true
  | _ :: _ => false
def iwV (t : Bool) (ax ay bx bY r : Int) : List Int := bif iwE ax ay bx bY r == 0 then iwF (iwT ax ay bx bY r) (iwP t) 0 else []
abbrev s_InWay : PureT := spec [cLawn, cPt, cPt, cI, .sl cDisc] [.sl cI, cI] (fun x => isGr x.1 && nilB x.2.2.2.2.1) (fun x => (iwV (trnd x.1) x.2.1.1 x.2.1.2.1 x.2.2.1.1 x.2.2.1.2.1 x.2.2.2.1, iwE x.2.1.1 x.2.1.2.1 x.2.2.1.1 x.2.2.1.2.1 x.2.2.2.1, ()))
noncomputable def T_lI (x : TCTs [cLawn, cPt, cPt, cI, .sl cDisc]) : Tree (TCTs [.sl cI, cI]) := evFn X_lP 40 (.fn 14) (encAs [cLawn, cPt, cPt, cI, .sl cDisc] x) noHeap 0 (outK X_lP.P [.sl cI, cI])
theorem T_lI_def (x : TCTs [cLawn, cPt, cPt, cI, .sl cDisc]) : evFn X_lP 40 (.fn 14) (encAs [cLawn, cPt, cPt, cI, .sl cDisc] x) noHeap 0 (outK X_lP.P [.sl cI, cI]) = T_lI x := by kernel_rfl
def T_iw (t : Bool) (ax ay bx bY r : Int) : Tree (TCTs [.sl cI, cI]) := bif u_ck ax ay != 0 then .leaf ([], 2, ()) else bif u_ck bx bY != 0 then .leaf ([], 2, ()) else bif decide (r ≥ 1) then bif !decide (r ≤ 16384) then .leaf ([], 3, ()) else
  iwIn (iwT ax ay bx bY r) (iwP t) 0 [] (fun L => .leaf (L, 0, ())) else .leaf ([], 3, ())
theorem T_lI_t (ax ay bx bY r : Int) : T_lI (gr true, (ax, ay, ()), (bx, bY, ()), r, [], ()) = T_iw true ax ay bx bY r := by kernel_rfl
theorem T_lI_f (ax ay bx bY r : Int) : T_lI (gr false, (ax, ay, ()), (bx, bY, ()), r, [], ()) = T_iw false ax ay bx bY r := by kernel_rfl
theorem iwIn_sat {α : Type} {R : α → Prop} (f : Pst → Bool) (K : List Int → Tree α) : ∀ (ps : List Pst) (i : Int) (acc : List Int), (K (acc ++ iwF f ps i)).sat R → (iwIn f ps i acc K).sat R
  | [], i, acc, h => by rw [iwF, List.append_nil] at h; exact h
  | p :: ps, i, acc, h => by
    unfold iwF at h
    unfold iwIn
    cases hp : f p with
    | true =>
      rw [hp, cond_true] at h
      exact iwIn_sat f K ps (i + 1) (acc ++ [i]) (by rw [List.append_assoc]; exact h)
    | false =>
      rw [hp, cond_false] at h
      exact iwIn_sat f K ps (i + 1) acc h
theorem T_iw_ok (t : Bool) (ax ay bx bY r : Int) : (T_iw t ax ay bx bY r).sat (fun y => y = (iwV t ax ay bx bY r, iwE ax ay bx bY r, ())) := by
  unfold T_iw iwV iwE
  cases u_ck ax ay != 0 with
  | true => exact rfl
  | false =>
    cases u_ck bx bY != 0 with
    | true => exact rfl
    | false =>
      by_cases h1 : r ≥ 1
      · by_cases h2 : r ≤ 16384
        · rw [decide_eq_true h1, decide_eq_true h2, decide_eq_true (show 1 ≤ r ∧ r ≤ 16384 from ⟨h1, h2⟩)]
          exact iwIn_sat _ _ _ _ _ rfl
        · rw [decide_eq_true h1, decide_eq_false h2, decide_eq_false (show ¬ (1 ≤ r ∧ r ≤ 16384) by omega)]
          exact rfl
      · rw [decide_eq_false h1, decide_eq_false (show ¬ (1 ≤ r ∧ r ≤ 16384) by omega)]
        exact rfl
theorem nilB_eq {α : Type} {l : List α} (h : nilB l = true) : l = [] := by
  cases l with
  | nil => rfl
  | cons _ _ => cases h
theorem sat_eqE {α : Type} {t u : Tree α} {R : α → Prop} (e : t = u) (h : u.sat R) : t.sat R := by subst e; exact h
theorem T_lI_eq (x : TCTs [cLawn, cPt, cPt, cI, .sl cDisc]) (h : (isGr x.1 && nilB x.2.2.2.2.1) = true) : T_lI x = T_iw (trnd x.1) x.2.1.1 x.2.1.2.1 x.2.2.1.1 x.2.2.1.2.1 x.2.2.2.1 := by
  obtain ⟨l, ⟨ax, ay, ⟨⟩⟩, ⟨bx, bY, ⟨⟩⟩, r, o, ⟨⟩⟩ := x
  rw [Bool.and_eq_true] at h
  have ho : o = [] := nilB_eq h.2
  have h1 : isGr l = true := h.1
  rw [ho]
  cases isGr_eq h1 with
  | inl e => rw [e]; exact T_lI_t ax ay bx bY r
  | inr e => rw [e]; exact T_lI_f ax ay bx bY r
theorem q_InWay : PureOk Try.prog 14 s_InWay := q_by2 X_lP_ok 40 T_lI (fun x => T_iw (trnd x.1) x.2.1.1 x.2.1.2.1 x.2.2.1.1 x.2.2.1.2.1 x.2.2.2.1) T_lI_def T_lI_eq fun _ _ _ => T_iw_ok _ _ _ _ _ _
end V
end Go.Proofs.Ytialgmhhkbdegaa
