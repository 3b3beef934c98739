/- Chapter 11: places: the sort: short lists; a step. -/
import Derived.Test.YtgchccljmjmibaaGjg
import Derived.Test.YtgchccljmjmibaaZw
namespace Go.Proofs.Ytgchccljmjmibaa
open Go.RowKit
namespace V
namespace Ev
theorem is_ipdq : FnIs Try.prog (104, Try.f104) := ⟨Try.func104, by kernel_rfl, by kernel_rfl⟩
theorem is_icp : FnIs Try.prog (110, Try.f110) := ⟨Try.func110, by kernel_rfl, by kernel_rfl⟩
theorem is_imed : FnIs Try.prog (119, Try.f119) := ⟨Try.func119, by kernel_rfl, by kernel_rfl⟩
theorem is_io2 : FnIs Try.prog (120, Try.f120) := ⟨Try.func120, by kernel_rfl, by kernel_rfl⟩
abbrev nPd : Nat := 104
abbrev nIs : Nat := 107
noncomputable def lb_pd : Code := (loopsOf (bodyOf Try.f104)).getD 0 .skip
abbrev ks_pd : List SK := [kDat, .d cI, .d cI, .d cI, kCmp, .d .b, .d .b]
abbrev GPd := SKTs ks_pd × BTs bs_so
def L_d0 : Lay := { keys := [0, 1, 2, 3, 4, 10, 11], ks := ks_pd, bs := bs_so, n := 148, nx := 9000, marks := [] }
def R_d0 : Lay := { keys := [0], ks := [kDat], bs := bs_so, n := 148, nx := 9000, marks := [] }
def E_d0 : XE → Lay := fun _ => R_d0
def L_d1 : Lay := { keys := [0, 1, 2, 3, 4, 10, 11], ks := ks_pd, bs := bs_so, n := 148, nx := 1000, marks := [] }
def R_d1 : Lay := { keys := [0], ks := [kDat], bs := bs_so, n := 148, nx := 1000, marks := [] }
def E_d1 : XE → Lay := fun _ => R_d1
noncomputable def s_i0 : St → Tree (XE × St) := loopSum L_i0 E_i0 (finX [.exit 0] st_i0 fu_i0)
theorem spCp : ∀ p ∈ [(82, fspec probeC FL_cp FE_cp fin_cp)], Plain Try.prog p.1 ∧ SpecOk Try.prog p.1 p.2 := fun p hp => by
  simp only [List.mem_singleton] at hp
  subst hp
  exact ⟨is_pl5.plain, sp_cp⟩
noncomputable def XD0 : Ctx := { ctxS Try.prog [] [(107, Try.f107)] [((nIs, 1), s_i0)] [(82, fspec probeC FL_cp FE_cp fin_cp)] with u := 0 }
theorem XD0_ok0 : CtxOk (ctxS Try.prog [] [(107, Try.f107)] [((nIs, 1), s_i0)] [(82, fspec probeC FL_cp FE_cp fin_cp)]) := ctxS_ok mixed puOk_nil (fns_cons is_isort fns_nil) (loops_cons (loops_of (ds := [lb_is 0, lb_is 1]) (by kernel_rfl) ⟨one_key (k := 1) (by kernel_rfl) rfl l_i0, no_key (k := 4) (by kernel_rfl) rfl, trivial⟩) loops_nil) spCp
theorem XD0_ok : CtxOk XD0 := ⟨XD0_ok0.mix, XD0_ok0.pures, XD0_ok0.fns, XD0_ok0.specs⟩
def hd_pd (z : BAm) (d : Rows) (a b lim : Int) (wb wp : Bool) : GPd := ((d, a, b, lim, ((), ((), ())), wb, wp, ()), bsO z)
def ex_d0 (z : BAm) (d : Rows) : Left' E_d0 := ⟨.ret, ((d, ()), bsO z)⟩
def ex_d1 (z : BAm) (d : Rows) : Left' E_d1 := ⟨.ret, ((d, ()), bsO z)⟩
section
variable {β : Type}
/-- insertion sort -/
def isT (z : BAm) (d : Rows) (a b : Int) (K : BAm → Rows → Tree β) : Tree β := bif isE (.exit 0) (iter st_i0 (b.toNat + 1) (hd_i0 z a b d (W64 (a + 1)))) then K (zO (valE (E := E_i0) (.exit 0) (iter st_i0 (b.toNat + 1) (hd_i0 z a b d (W64 (a + 1))))).2) (valE (E := E_i0) (.exit 0) (iter st_i0 (b.toNat + 1) (hd_i0 z a b d (W64 (a + 1))))).1.1 else .fail
end
def sm_d0 (z : BAm) (d : Rows) (a b lim : Int) (wb : Bool) : Tree (GPd ⊕ Left' E_d0) := bif decide (W64 (b - a) ≤ 12) then isT z d a b fun z d => .leaf (.inr (ex_d0 z d)) else bif lim == 0 then .fail else bif !wb then .fail else .fail
def st_d0 (g : GPd) : Tree (GPd ⊕ Left' E_d0) := sm_d0 (zO g.2) g.1.1 g.1.2.1 g.1.2.2.1 g.1.2.2.2.1 g.1.2.2.2.2.2.1
theorem e_d0 (g : L_d0.T) : evC Try.prog (evFn XD0 6) XD0.pures nPd XD0.u (fun _ => none) lb_pd (L_d0.of g) (stepOut L_d0 E_d0) = st_d0 g := by kernel_rfl
noncomputable def s_d0 : St → Tree (XE × St) := loopSum L_d0 E_d0 (finX [.ret] st_d0 (fun _ => 1))
theorem l_d0 : LoopOk Try.prog nPd lb_pd s_d0 := loopOk_x0 XD0_ok 6 _ L_d0 E_d0 (fun _ => Nat.le_refl _) [.ret] st_d0 (fun _ => 1) e_d0
/-! a step -/
abbrev cD1 := GPd ⊕ Left' E_d1
section
variable {β : Type}
def moU (n : Int) : Int := IntKind.wrap .u64 (1 * 2 ^ min (Int.toNat (blF (Int.toNat (IntKind.wrap .u64 n)))) (IntKind.bits .u64))
def hb_d1 (z : BAm) (d : Rows) (a b : Int) : L_bp.T := hd_bp z a (W64 (b - a)) (moU (W64 (b - a))) d (IntKind.wrap .u64 (W64 (b - a))) (W64 (W64 (a + W64 (W64 (Int.tdiv (W64 (b - a)) 4) * 2)) - 1))
/-- patterns are broken -/
def bpT (z : BAm) (d : Rows) (a b : Int) (K : BAm → Rows → Tree β) : Tree β := bif decide (W64 (b - a) ≥ 8) then (bif decide (0 ≤ IntKind.wrap .u64 (W64 (b - a)) ∧ IntKind.wrap .u64 (W64 (b - a)) ≤ 64) then (bif decide (0 ≤ blF (Int.toNat (IntKind.wrap .u64 (W64 (b - a))))) then (bif isE (.exit 0) (iter st_bp 4 (hb_d1 z d a b)) then K (zO (valE (E := E_bp) (.exit 0) (iter st_bp 4 (hb_d1 z d a b))).2) (valE (E := E_bp) (.exit 0) (iter st_bp 4 (hb_d1 z d a b))).1.1 else .fail) else .fail) else .fail) else K z d
def o2T (z : BAm) (d : Rows) (a b : Int) (s : Nat) (K : Int → Int → Nat → Tree β) : Tree β := cpT z d b a fun c => bif c then K b a (s + 1) else K a b s
def mdT (z : BAm) (d : Rows) (a b c : Int) (K : Int → Nat → Tree β) : Tree β := o2T z d a b 0 fun a b s => o2T z d b c s fun b _ s => o2T z d a b s fun _ b s => K b s
/-- a pivot -/
def cvT (z : BAm) (d : Rows) (a b : Int) (K : Int → Bool → Tree β) : Tree β := bif decide (W64 (b - a) ≥ 8) then (bif decide (W64 (b - a) ≥ 50) then .fail else mdT z d (W64 (a + W64 (W64 (Int.tdiv (W64 (b - a)) 4) * 1))) (W64 (a + W64 (W64 (Int.tdiv (W64 (b - a)) 4) * 2))) (W64 (a + W64 (W64 (Int.tdiv (W64 (b - a)) 4) * 3))) fun p s => K p (Nat.beq s 0)) else K (W64 (a + W64 (W64 (Int.tdiv (W64 (b - a)) 4) * 2))) true
end
theorem cpT_or (z : BAm) (d : Rows) (i j : Int) : (∀ (β : Type) (K : Bool → Tree β), cpT z d i j K = .fail) ∨ ∃ c, ∀ (β : Type) (K : Bool → Tree β), cpT z d i j K = K c := by
  unfold cpT inO lnO
  cases decide (0 ≤ i ∧ i < (d.length : Int)) with
  | false => exact .inl fun _ _ => rfl
  | true => cases decide (Int.toNat i < d.length) with
    | false => exact .inl fun _ _ => rfl
    | true => cases decide (0 ≤ j ∧ j < (d.length : Int)) with
      | false => exact .inl fun _ _ => rfl
      | true => cases decide (Int.toNat j < d.length) with
        | false => exact .inl fun _ _ => rfl
        | true => cases decide ((z.1.length : Int) ≤ 100) with
          | false => exact .inl fun _ _ => rfl
          | true => exact .inr ⟨_, fun _ _ => rfl⟩
theorem o2T_or (z : BAm) (d : Rows) (a b : Int) (s : Nat) : (∀ (β : Type) (K : Int → Int → Nat → Tree β), o2T z d a b s K = .fail) ∨ ∃ x y t, ∀ (β : Type) (K : Int → Int → Nat → Tree β), o2T z d a b s K = K x y t := by
  unfold o2T
  rcases cpT_or z d b a with h | ⟨c, h⟩
  · exact .inl fun β K => h β _
  · cases c with
    | true => exact .inr ⟨b, a, s + 1, fun β K => h β _⟩
    | false => exact .inr ⟨a, b, s, fun β K => h β _⟩
theorem mdT_or (z : BAm) (d : Rows) (a b c : Int) : (∀ (β : Type) (K : Int → Nat → Tree β), mdT z d a b c K = .fail) ∨ ∃ p t, ∀ (β : Type) (K : Int → Nat → Tree β), mdT z d a b c K = K p t := by
  unfold mdT
  rcases o2T_or z d a b 0 with h | ⟨x, y, s, h⟩
  · exact .inl fun β K => h β _
  · rcases o2T_or z d y c s with h2 | ⟨u, v, s2, h2⟩
    · exact .inl fun β K => (h β _).trans (h2 β _)
    · rcases o2T_or z d x u s2 with h3 | ⟨p, q, s3, h3⟩
      · exact .inl fun β K => (h β _).trans ((h2 β _).trans (h3 β _))
      · exact .inr ⟨q, s3, fun β K => (h β _).trans ((h2 β _).trans (h3 β _))⟩
theorem cvT_or (z : BAm) (d : Rows) (a b : Int) : (∀ (β : Type) (K : Int → Bool → Tree β), cvT z d a b K = .fail) ∨ ∃ p h, ∀ (β : Type) (K : Int → Bool → Tree β), cvT z d a b K = K p h := by
  unfold cvT
  cases decide (W64 (b - a) ≥ 8) with
  | false => exact .inr ⟨_, _, fun _ _ => rfl⟩
  | true => cases decide (W64 (b - a) ≥ 50) with
    | true => exact .inl fun _ _ => rfl
    | false =>
      rcases mdT_or z d (W64 (a + W64 (W64 (Int.tdiv (W64 (b - a)) 4) * 1))) (W64 (a + W64 (W64 (Int.tdiv (W64 (b - a)) 4) * 2))) (W64 (a + W64 (W64 (Int.tdiv (W64 (b - a)) 4) * 3))) with h | ⟨p, t, h⟩
      · exact .inl fun β K => h β _
      · exact .inr ⟨p, Nat.beq t 0, fun β K => h β _⟩
def hI (h : Bool) : Int := bif h then 1 else 0
/-- the pivot, and a hint -/
def cvV (z : BAm) (d : Rows) (a b : Int) : Option (Int × Int) := (cvT z d a b fun p h => .leaf (p, hI h)).run
abbrev nCv : Nat := 110
def FL_cv : FLay := { ks := [.w 5 76 cRow, .d cI, .d cI, .f 82 [] [.p 0 0 0 0]], bs := bs_cp, nx := 6 }
def FE_cv : FLay := { ks := [.d cI, .d cI, .w 5 76 cRow], bs := bs_cp, nx := 6 }
def probeV (hp : Heap) (args : List AV) : Option (List Nat) := match args with
  | [.own o, _, _, .fn _ _ [.ptr i r s c]] => match probeC hp [.top, .top, .ptr i r s c] with
    | some l => some (l ++ [o])
    | none => none
  | _ => none
noncomputable def X_cv : Ctx := ctxS Try.prog [] [(110, Try.f110), (119, Try.f119), (120, Try.f120)] [] [(82, fspec probeC FL_cp FE_cp fin_cp)]
theorem X_cv_ok : CtxOk X_cv := ctxS_ok mixed puOk_nil (fns_cons is_icp (fns_cons is_imed (fns_cons is_io2 fns_nil))) (fun _ _ _ _ _ h => by cases h) spCp
abbrev TCv := Tree FE_cv.T
def lf_cv (z : BTs bs_cp) (d : Rows) (p h : Int) : TCv := .leaf ((p, h, d, ()), z)
def T_cv (z : BAm) (d : Rows) (a b : Int) : TCv := cvT z d a b fun p h => lf_cv (bsC z) d p (hI h)
def g_cv (z : BAm) (d : Rows) (a b : Int) : FL_cv.T := ((d, a, b, ((), ((), ())), ()), bsC z)
theorem T_cv_eq (z : BAm) (d : Rows) (a b : Int) : evBody X_cv (evFn X_cv 6) nCv (ofKs FL_cv.ks (g_cv z d a b).1 FL_cv.nx) (FL_cv.lay.hp (g_cv z d a b)) (FL_cv.lay.of (g_cv z d a b)).nx (foutKK (takeA 1 (ofKs FL_cv.ks (g_cv z d a b).1 FL_cv.nx)) FE_cv) = T_cv z d a b := by kernel_rfl
def fin_cv (g : FL_cv.T) : TCv := .br (cvV (zC g.2) g.1.1 g.1.2.1 g.1.2.2.1).isSome (lf_cv g.2 g.1.1 ((cvV (zC g.2) g.1.1 g.1.2.1 g.1.2.2.1).getD (0, 0)).1 ((cvV (zC g.2) g.1.1 g.1.2.1 g.1.2.2.1).getD (0, 0)).2) .fail
theorem sp_cv : SpecOk Try.prog nCv (fspecK 2 probeV FL_cv FE_cv fin_cv) := by
  refine fspecK_ok (X := X_cv) (L := FL_cv) (E := FE_cv) (fin := fin_cv) X_cv_ok 6 2 1 (Nat.le_refl 6) rfl (by decide) fun g R hw hf => ?_
  obtain ⟨⟨d, a, b, ⟨u1, ⟨u2, u8⟩⟩, u9⟩, ⟨v0, v1, ⟨rows, u3⟩, ⟨n, u4, u5⟩, ⟨m, u6⟩, u7⟩⟩ := g
  have hs : (fin_cv (g_cv (rows, n, m) d a b)).sat R := hf
  refine (T_cv_eq (rows, n, m) d a b).symm ▸ ?_
  have hv : fin_cv (g_cv (rows, n, m) d a b) = .br (cvV (rows, n, m) d a b).isSome (lf_cv (bsC (rows, n, m)) d ((cvV (rows, n, m) d a b).getD (0, 0)).1 ((cvV (rows, n, m) d a b).getD (0, 0)).2) .fail := rfl
  rw [hv] at hs
  have ht : T_cv (rows, n, m) d a b = cvT (rows, n, m) d a b fun p h => lf_cv (bsC (rows, n, m)) d p (hI h) := rfl
  rw [ht]
  rcases cvT_or (rows, n, m) d a b with h | ⟨p, h, hk⟩
  · have : cvV (rows, n, m) d a b = none := by unfold cvV; rw [h]; rfl
    rw [this] at hs
    exact (hs.2 rfl).elim
  · have : cvV (rows, n, m) d a b = some (p, hI h) := by unfold cvV; rw [hk]; rfl
    rw [this] at hs
    rw [hk]
    exact fun _ => hs.1 rfl
section
variable {β : Type}
/-- a pivot is chosen -/
def cvN (z : BAm) (d : Rows) (a b : Int) (K : Int → Int → Tree β) : Tree β := bif (cvV z d a b).isSome then K ((cvV z d a b).getD (0, 0)).1 ((cvV z d a b).getD (0, 0)).2 else .fail
/-- a run in order -/
def piT (z : BAm) (d : Rows) (a b : Int) (K : BAm → Rows → Bool → Tree β) : Tree β := bif isE .ret (iter st_q0 1 (hd_pi z a b d (W64 (a + 1)) 0)) then K (zO (valE (E := E_q0) .ret (iter st_q0 1 (hd_pi z a b d (W64 (a + 1)) 0))).2) (valE (E := E_q0) .ret (iter st_q0 1 (hd_pi z a b d (W64 (a + 1)) 0))).1.1 (valE (E := E_q0) .ret (iter st_q0 1 (hd_pi z a b d (W64 (a + 1)) 0))).1.2.1 else .fail
def pT2 (z : BAm) (d : Rows) (a i j : Int) (K : BAm → Rows → Int → Bool → Tree β) : Tree β := bif decide (i > j) then swT d j a fun d => K z d j true else swT d i j fun d =>
  bif isE (.exit 4) (iter st_p2 (fu_pt (hd_pt z a d (W64 (i + 1)) (W64 (j - 1)))) (hd_pt z a d (W64 (i + 1)) (W64 (j - 1)))) then
    (fun (g : (E_p2 (.exit 4)).T) => swT g.1.1 g.1.2.2.1 g.1.2.1 fun d => K (zO g.2) d g.1.2.2.1 false) (valE (E := E_p2) (.exit 4) (iter st_p2 (fu_pt (hd_pt z a d (W64 (i + 1)) (W64 (j - 1)))) (hd_pt z a d (W64 (i + 1)) (W64 (j - 1)))))
  else .fail
def pT1 (g : GPt) (K : BAm → Rows → Int → Bool → Tree β) : Tree β := bif isE (.exit 2) (iter (st_dn ex_p1) (fu_pt g) g) then (fun (g : GPt) => pT2 (zO g.2) g.1.1 g.1.2.1 g.1.2.2.2.1 g.1.2.2.2.2.1 K) (valE (E := E_p1) (.exit 2) (iter (st_dn ex_p1) (fu_pt g) g)) else .fail
def pT0 (g : GPt) (K : BAm → Rows → Int → Bool → Tree β) : Tree β := bif isE (.exit 0) (iter (st_up ex_p0) (fu_pt g) g) then pT1 (valE (E := E_p0) (.exit 0) (iter (st_up ex_p0) (fu_pt g) g)) K else .fail
/-- a partition -/
def ptT (z : BAm) (d : Rows) (a b p : Int) (K : BAm → Rows → Int → Bool → Tree β) : Tree β := swT d a p fun d => pT0 (hd_pt z a d (W64 (a + 1)) (W64 (b - 1))) K
/-- a part is sorted -/
def rcT (z : BAm) (d : Rows) (a b lim : Int) (K : BAm → Rows → Tree β) : Tree β := bif isE .ret (iter st_d0 1 (hd_pd z d a b lim true true)) then K (zO (valE (E := E_d0) .ret (iter st_d0 1 (hd_pd z d a b lim true true))).2) (valE (E := E_d0) .ret (iter st_d0 1 (hd_pd z d a b lim true true))).1.1 else .fail
end
/-- both parts -/
def bo_d1 (a b lim : Int) (z : BAm) (d : Rows) (mid : Int) (al : Bool) : Tree cD1 := bif decide (W64 (mid - a) < W64 (b - mid)) then rcT z d a mid lim fun z d => .leaf (.inl (hd_pd z d (W64 (mid + 1)) b lim (decide (W64 (mid - a) ≥ W64 (Int.tdiv (W64 (b - a)) 8))) al)) else rcT z d (W64 (mid + 1)) b lim fun z d => .leaf (.inl (hd_pd z d a mid lim (decide (W64 (b - mid) ≥ W64 (Int.tdiv (W64 (b - a)) 8))) al))
def pa_d1 (a b lim p : Int) (z : BAm) (d : Rows) : Tree cD1 := bif decide (a > 0) then cpT z d (W64 (a - 1)) p fun c => bif !c then .fail else ptT z d a b p (bo_d1 a b lim) else ptT z d a b p (bo_d1 a b lim)
def ru_d1 (a b lim : Int) (wb wp : Bool) (z : BAm) (d : Rows) : Tree cD1 := cvN z d a b fun p h => bif h == 2 then .fail else bif wb then (bif wp then (bif h == 1 then piT z d a b fun z d c => bif c then .leaf (.inr (ex_d1 z d)) else pa_d1 a b lim p z d else pa_d1 a b lim p z d) else pa_d1 a b lim p z d) else pa_d1 a b lim p z d
def sm_d1 (z : BAm) (d : Rows) (a b lim : Int) (wb wp : Bool) : Tree cD1 := bif decide (W64 (b - a) ≤ 12) then isT z d a b fun z d => .leaf (.inr (ex_d1 z d)) else bif lim == 0 then .fail else bif !wb then bpT z d a b (ru_d1 a b (W64 (lim - 1)) wb wp) else ru_d1 a b lim wb wp z d
def st_d1 (g : GPd) : Tree cD1 := sm_d1 (zO g.2) g.1.1 g.1.2.1 g.1.2.2.1 g.1.2.2.2.1 g.1.2.2.2.2.2.1 g.1.2.2.2.2.2.2.1
noncomputable abbrev plPd : List (Nat × PureT) := [(57, s_bl)]
noncomputable abbrev fnPd : List (Nat × Func) := [(104, Try.f104), (107, Try.f107), (109, Try.f109), (112, Try.f112), (114, Try.f114), (116, Try.f116)]
noncomputable abbrev loPd : List ((Nat × Nat) × (St → Tree (XE × St))) := [((nPd, 2), s_d0), ((nIs, 1), s_i0), ((nBp, 5), s_bp), ((nPi, 3), s_q0), ((nPt, 3), s_p0), ((nPt, 5), s_p1), ((nPt, 1013), s_p2)]
theorem spCv : ∀ p ∈ [(82, fspec probeC FL_cp FE_cp fin_cp), (nCv, fspecK 2 probeV FL_cv FE_cv fin_cv)], Plain Try.prog p.1 ∧ SpecOk Try.prog p.1 p.2 := fun p hp => by
  rcases List.mem_cons.1 hp with rfl | hp
  · exact ⟨is_pl5.plain, sp_cp⟩
  · simp only [List.mem_singleton] at hp
    subst hp
    exact ⟨is_icp.plain, sp_cv⟩
noncomputable def XD1 : Ctx := { ctxS Try.prog plPd fnPd loPd [(82, fspec probeC FL_cp FE_cp fin_cp), (nCv, fspecK 2 probeV FL_cv FE_cv fin_cv)] with u := 0 }
end Ev
end V
end Go.Proofs.Ytgchccljmjmibaa
