/- Chapter 11: the sides of all matches: loops. -/
import Derived.Test.YtgchccljmjmibaaEh
namespace Go.Proofs.Ytgchccljmjmibaa
open Go.RowKit
namespace V
namespace Ev
theorem is_sides : FnIs Try.prog (69, Try.f69) := ⟨Try.func69, by kernel_rfl, by kernel_rfl⟩
theorem is_clone : FnIs Try.prog (63, Try.f63) := ⟨Try.func63, by kernel_rfl, by kernel_rfl⟩
theorem is_eSides : FnIs Try.prog (33, Try.f33) := ⟨Try.func33, by kernel_rfl, by kernel_rfl⟩
theorem is_eChamp : FnIs Try.prog (35, Try.f35) := ⟨Try.func35, by kernel_rfl, by kernel_rfl⟩
theorem is_eAll : FnIs Try.prog (68, Try.f68) := ⟨Try.func68, by kernel_rfl, by kernel_rfl⟩
theorem is_rsides : FnIs Try.prog (71, Try.f71) := ⟨Try.func71, by kernel_rfl, by kernel_rfl⟩
theorem is_rwin : FnIs Try.prog (72, Try.f72) := ⟨Try.func72, by kernel_rfl, by kernel_rfl⟩
theorem is_rSides : FnIs Try.prog (34, Try.f34) := ⟨Try.func34, by kernel_rfl, by kernel_rfl⟩
theorem is_rChamp : FnIs Try.prog (36, Try.f36) := ⟨Try.func36, by kernel_rfl, by kernel_rfl⟩
theorem is_rboth : FnIs Try.prog (70, Try.f70) := ⟨Try.func70, by kernel_rfl, by kernel_rfl⟩
abbrev cPq : TC := .st [cI, cI]
noncomputable def lb_si : Code := (loopsOf (bodyOf Try.f69)).getD 0 .skip
def L_si : Lay := { keys := [6, 7, 8, 9], ks := [.q 1, .o 3 cI, .o 45 cPq, .d cI], bs := [(1, 0, [.m cI cSc])], n := 83, nx := 3000, marks := [] }
def R_si : Lay := { keys := [7, 8], ks := [.o 3 cI, .o 45 cPq], bs := [], n := 83, nx := 3000, marks := [] }
def E_si : XE → Lay := fun _ => R_si
abbrev cSi := L_si.T ⊕ Left' E_si
noncomputable def lb_wi : Code := (loopsOf (bodyOf Try.f72)).getD 0 .skip
noncomputable def lb_rs0 : Code := (loopsOf (bodyOf Try.f71)).getD 0 .skip
noncomputable def lb_rs1 : Code := (loopsOf (bodyOf Try.f71)).getD 1 .skip
def hd_si (m : cMp) (line : List Int) (out : List (TCT cPq)) (i : Int) : L_si.T := (((), line, out, i, ()), (m, ()), ())
def ex_si (line : List Int) (out : List (TCT cPq)) : Left' E_si := ⟨.exit 0, ((line, out, ()), ())⟩
def pu_si (m : cMp) (line : List Int) (out : List (TCT cPq)) (i a b w : Int) : Tree cSi := bif appOk line [w] 8 then .leaf (.inl (hd_si m (line ++ [w]) (out ++ [(a, b, ())]) (W64 (i + 2)))) else .fail
def wi_si (m : cMp) (line : List Int) (out : List (TCT cPq)) (i a b : Int) (o : Option (TCT cSc)) : Tree cSi :=
  bif a == -1 then pu_si m line out i a b b else bif b == -1 then pu_si m line out i a b a else bif o.isSome then (bif a != -2 then (bif b != -2 then (bif decide ((or0 o).2.2.1 = 0) then pu_si m line out i a b a else bif decide ((or0 o).2.2.1 = 1) then pu_si m line out i a b b else .fail) else pu_si m line out i a b (-2)) else pu_si m line out i a b (-2)) else pu_si m line out i a b (-2)
def ab_si (m : cMp) (line : List Int) (out : List (TCT cPq)) (i a b : Int) : Tree cSi := bif appOk out [(a, b, ())] 16 then wi_si m line out i a b (m (out.length : Int)) else .fail
def sm_si (m : cMp) (line : List Int) (out : List (TCT cPq)) (i : Int) : Tree cSi := bif decide (W64 (i + 1) < (line.length : Int)) then inO line.length i (inO line.length (W64 (i + 1)) (ab_si m line out i (getA line (Int.toNat i) 0) (getA line (Int.toNat (W64 (i + 1))) 0))) else .leaf (.inr (ex_si line out))
def st_si (g : L_si.T) : Tree cSi := sm_si g.2.1.1 g.1.2.1 g.1.2.2.1 g.1.2.2.2.1
def fu_si (g : L_si.T) : Nat := (g.1.2.1 : List Int).length + 1
theorem e_si (g : L_si.T) : evC Try.prog (evFn XCo 6) XCo.pures 69 XCo.u (fun _ => none) lb_si (L_si.of g) (stepOut L_si E_si) = st_si g := by kernel_rfl
/-- who goes on -/
def winV (o : Option (TCT cSc)) (a b : Int) : Int := bif a == -1 then b else bif b == -1 then a else bif o.isSome && (a != -2 && b != -2) then (bif decide ((or0 o).2.2.1 = 0) then a else b) else -2
/-- matches one after another: those who wait, and the sides -/
def siQ (m : cMp) : Nat → List Int → List (TCT cPq) → List Int × List (TCT cPq)
  | 0, q, out => (q, out)
  | d + 1, a :: b :: r, out => siQ m d (r ++ [winV (m (out.length : Int)) a b]) (out ++ [(a, b, ())])
  | _ + 1, q, out => (q, out)
theorem siQ_len (m : cMp) : ∀ (d : Nat) (q : List Int) (out : List (TCT cPq)), q.length = d + 1 → (siQ m d q out).1.length = 1 ∧ (siQ m d q out).2.length = out.length + d
  | 0, q, out, h => ⟨h, rfl⟩
  | d + 1, a :: b :: r, out, h => by
    have := siQ_len m d (r ++ [winV (m (out.length : Int)) a b]) (out ++ [(a, b, ())]) (by simp at h ⊢; omega)
    refine ⟨this.1, ?_⟩
    rw [show siQ m (d + 1) (a :: b :: r) out = siQ m d (r ++ [winV (m (out.length : Int)) a b]) (out ++ [(a, b, ())]) from rfl, this.2]
    simp; omega
  | d + 1, [a], out, h => by simp at h
  | d + 1, [], out, h => by simp at h
/-- sheets whose winner is a side -/
def W01 (m : cMp) : Prop := ∀ k s, m k = some s → s.2.2.1 = 0 ∨ s.2.2.1 = 1
theorem wi_run {m : cMp} (hm : W01 m) (line : List Int) (out : List (TCT cPq)) (i a b : Int) (hl : line.length ≤ 1000) :
    (wi_si m line out i a b (m (out.length : Int))).run = some (.inl (hd_si m (line ++ [winV (m (out.length : Int)) a b]) (out ++ [(a, b, ())]) (W64 (i + 2)))) := by
  have pu : ∀ w, (pu_si m line out i a b w).run = some (.inl (hd_si m (line ++ [w]) (out ++ [(a, b, ())]) (W64 (i + 2)))) := by
    intro w
    unfold pu_si
    rw [app_ok (by simp; omega) (by omega)]
    rfl
  unfold wi_si winV
  cases a == -1 with
  | true => exact pu _
  | false =>
    simp only [cond_false]
    cases b == -1 with
    | true => exact pu _
    | false =>
      simp only [cond_false]
      cases ho : m (out.length : Int) with
      | none => exact pu _
      | some s =>
        simp only [Option.isSome_some, cond_true, Bool.true_and]
        cases a != -2 with
        | false => exact pu _
        | true =>
          cases b != -2 with
          | false => exact pu _
          | true =>
            simp only [cond_true, Bool.and_self]
            rcases hm _ _ ho with h | h
            · rw [show (or0 (some s)).2.2.1 = s.2.2.1 from rfl, h]
              exact pu _
            · rw [show (or0 (some s)).2.2.1 = s.2.2.1 from rfl, h]
              exact pu _
theorem si_run {m : cMp} (hm : W01 m) : ∀ (d : Nat) (line : List Int) (out : List (TCT cPq)) (fuel : Nat), line.length = 2 * out.length + (d + 1) → line.length + d ≤ 1000 → d < fuel →
    ∃ line', line'.length = 2 * (out.length + d) + 1 ∧ line'.drop (2 * (out.length + d)) = (siQ m d (line.drop (2 * out.length)) out).1 ∧ iter st_si fuel (hd_si m line out (2 * out.length : Nat)) = some (ex_si line' (siQ m d (line.drop (2 * out.length)) out).2)
  | 0, line, out, fuel + 1, hl, hs, _ => by
    refine ⟨line, by omega, rfl, iter_out ?_⟩
    show (sm_si m line out (2 * out.length : Nat)).run = _
    unfold sm_si
    rw [W64_id (n := ((2 * out.length : Nat) : Int) + 1) (by omega) (by omega), decide_eq_false (show ¬ (((2 * out.length : Nat) : Int) + 1 < (line.length : Int)) by omega)]
    rfl
  | d + 1, line, out, fuel + 1, hl, hs, hf => by
    have h0 : 2 * out.length < line.length := by omega
    have h1 : 2 * out.length + 1 < line.length := by omega
    have hd : line.drop (2 * out.length) = line[2 * out.length] :: line[2 * out.length + 1] :: line.drop (2 * out.length + 2) := by
      rw [List.drop_eq_getElem_cons h0, List.drop_eq_getElem_cons h1]
    have hrun : (st_si (hd_si m line out (2 * out.length : Nat))).run = some (.inl (hd_si m (line ++ [winV (m (out.length : Int)) line[2 * out.length] line[2 * out.length + 1]]) (out ++ [(line[2 * out.length], line[2 * out.length + 1], ())]) (2 * (out ++ [(line[2 * out.length], line[2 * out.length + 1], ())]).length : Nat))) := by
      show (sm_si m line out (2 * out.length : Nat)).run = _
      unfold sm_si
      rw [W64_id (n := ((2 * out.length : Nat) : Int) + 1) (by omega) (by omega), decide_eq_true (show (((2 * out.length : Nat) : Int) + 1 < (line.length : Int)) by omega), inO_ok (by omega), inO_ok (by omega)]
      simp only [cond_true]
      rw [show Int.toNat ((2 * out.length : Nat) : Int) = 2 * out.length by omega, show Int.toNat (((2 * out.length : Nat) : Int) + 1) = 2 * out.length + 1 by omega, getA_lt h0, getA_lt h1]
      unfold ab_si
      rw [app_ok (by simp; omega) (by omega)]
      simp only [cond_true]
      rw [wi_run hm _ _ _ _ _ (by omega), W64_id (n := ((2 * out.length : Nat) : Int) + 2) (by omega) (by omega)]
      rw [show ((2 * out.length : Nat) : Int) + 2 = ((2 * (out ++ [(line[2 * out.length], line[2 * out.length + 1], ())]).length : Nat) : Int) by simp; omega]
    obtain ⟨line', q1, q2, q3⟩ := si_run hm d (line ++ [winV (m (out.length : Int)) line[2 * out.length] line[2 * out.length + 1]]) (out ++ [(line[2 * out.length], line[2 * out.length + 1], ())]) fuel (by simp; omega) (by simp; omega) (by omega)
    have e : (line ++ [winV (m (out.length : Int)) line[2 * out.length] line[2 * out.length + 1]]).drop (2 * (out ++ [(line[2 * out.length], line[2 * out.length + 1], ())]).length) = line.drop (2 * out.length + 2) ++ [winV (m (out.length : Int)) line[2 * out.length] line[2 * out.length + 1]] := by
      rw [show 2 * (out ++ [(line[2 * out.length], line[2 * out.length + 1], ())]).length = 2 * out.length + 2 by simp; omega, List.drop_append_of_le_length (by omega)]
    rw [e] at q2 q3
    rw [hd, show siQ m (d + 1) (line[2 * out.length] :: line[2 * out.length + 1] :: line.drop (2 * out.length + 2)) out = siQ m d (line.drop (2 * out.length + 2) ++ [winV (m (out.length : Int)) line[2 * out.length] line[2 * out.length + 1]]) (out ++ [(line[2 * out.length], line[2 * out.length + 1], ())]) from rfl]
    refine ⟨line', by rw [q1]; simp; omega, ?_, ?_⟩
    · rw [← q2]; congr 1; simp; omega
    · rw [iter_in hrun]; exact q3
end Ev
end V
end Go.Proofs.Ytgchccljmjmibaa
/-! Chapter 11: Sides and Champion. -/
namespace Go.Proofs.Ytgchccljmjmibaa
open Go.RowKit
namespace V
namespace Ev
theorem cnt_all {P : TCT cSc → Prop} : ∀ (l : List (TCT cSc)) (m : cMp), (∀ k s, m k = some s → P s) → (∀ s ∈ l, P s) → ∀ k s, l.foldl cntS m k = some s → P s
  | [], m, h, _, k, s, hs => h k s hs
  | x :: l, m, h, hl, k, s, hs => by
    rw [List.foldl_cons] at hs
    refine cnt_all l (cntS m x) ?_ (fun s hs => hl s (List.mem_cons_of_mem _ hs)) k s hs
    intro k' s' h'
    unfold cntS at h'
    cases hc : (!(m x.1).isSome || laB x (or0 (m x.1))) with
    | false => rw [hc] at h'; exact h k' s' h'
    | true =>
      rw [hc] at h'
      by_cases hk : k' = x.1
      · subst hk
        rw [cond_true, upd_same] at h'
        cases h'
        exact hl _ (List.mem_cons_self ..)
      · rw [cond_true, upd_other _ _ hk] at h'
        exact h k' s' h'
theorem chk_any {l : List (TCT cSc)} (h : (chkV l == 0) = true) : l.any badS = false := by
  unfold chkV at h
  cases h1 : decide ((l.length : Int) > 400) with
  | true => rw [h1] at h; cases h
  | false =>
    rw [h1] at h
    cases h2 : l.any badS with
    | true => rw [h2] at h; cases h
    | false => rfl
theorem w01 {w : Int} (h1 : ¬ w < 0) (h2 : ¬ w > 1) : w = 0 ∨ w = 1 := by omega
theorem good_W {s : TCT cSc} (hw : WFD cSc s) (h : badS s = false) : s.2.2.1 = 0 ∨ s.2.2.1 = 1 := by
  rw [badS_or s hw] at h
  simp only [Bool.or_eq_false_iff, decide_eq_false_iff_not] at h
  exact w01 h.2.1 h.2.2.1
theorem W01_cnt {l : List (TCT cSc)} (hw : WFD (.sl cSc) l) (h : (chkV l == 0) = true) : W01 (cntM l) := by
  have ha := chk_any h
  rw [List.any_eq_false] at ha
  exact fun k s hs => cnt_all (P := fun s => s.2.2.1 = 0 ∨ s.2.2.1 = 1) l (fun _ => none) (fun _ _ h => by cases h) (fun s hs => good_W (hw.2 s hs) (by simpa using ha s hs)) k s hs
/-- the sides of all matches, and who wins the last one -/
def sdO (s : List Int) (l : List (TCT cSc)) : List (TCT cPq) := (siQ (cntM l) (s.length - 1) s []).2
def sdW (s : List Int) (l : List (TCT cSc)) : Int := getA (siQ (cntM l) (s.length - 1) s []).1 0 0
def sdB (s : List Int) (l : List (TCT cSc)) : Bool := decide (1 ≤ s.length ∧ s.length ≤ 64) && (chkV l == 0)
abbrev s_sides : PureT := spec [.sl cI, .sl cSc] [.sl cPq, cI] (fun x => sdB x.1 x.2.1) (fun x => (sdO x.1 x.2.1, sdW x.1 x.2.1, ()))
theorem l_si : LoopOk Try.prog 69 lb_si (loopSum L_si E_si (finX [.exit 0] st_si fu_si)) := loopOk_x0 XCo_ok 6 _ L_si E_si (fun _ => Nat.le_refl _) [.exit 0] _ fu_si e_si
noncomputable def X_si : Ctx := ctxL Try.prog plCo [(69, Try.f69), (65, Try.f65), (63, Try.f63)] [((65, 4), loopSum (L_co 0) (E_co 0) (finX [.exit 0] st_co0 fu_co0)), ((69, 5), loopSum L_si E_si (finX [.exit 0] st_si fu_si))]
theorem X_si_ok : CtxOk X_si := ctxL_ok mixed puCo (fns_cons is_sides (fns_cons is_cnt (fns_cons is_clone fns_nil))) (loops_cons (loops_of (ds := [lb_si]) (by kernel_rfl) ⟨one_key (k := 5) (by kernel_rfl) rfl l_si, trivial⟩) (loops_cons (loops_of (ds := [lb_co]) (by kernel_rfl) ⟨one_key (k := 4) (by kernel_rfl) rfl l_co0, trivial⟩) (loops_cons (loops_none (by kernel_rfl)) loops_nil)))
abbrev TSd := Tree (TCTs [.sl cPq, cI])
def Z_si (line : List Int) (out : List (TCT cPq)) : TSd := inO line.length (W64 ((line.length : Int) - 1)) (.leaf (out, getA line (Int.toNat (W64 ((line.length : Int) - 1))) 0, ()))
def Y_si (y : Option (Left' E_si)) : TSd := bif isE (.exit 0) y then Z_si (valE (.exit 0) y).1.1 (valE (.exit 0) y).1.2.1 else .fail
def U_si (s : List Int) (m : cMp) : TSd := bif !s.isEmpty then bif appOk ([] : List Int) s 8 then Y_si (iter st_si (s.length + 1) (hd_si m s [] 0)) else .fail else .fail
def V_si (s : List Int) (y : Option (Left' (E_co 0))) : TSd := bif isE (.exit 0) y then U_si s (valE (.exit 0) y).2.1.1 else .fail
def T_si (s : List Int) (l : List (TCT cSc)) : TSd := V_si s (iter st_co0 (l.length + 1) (hd_co0 l l.length 0 (fun _ => none)))
theorem T_si_ok (s : List Int) (l : List (TCT cSc)) (hw : WFD (.sl cSc) l) (hb : sdB s l = true) : (T_si s l).sat (fun y => y = (sdO s l, sdW s l, ())) := by
  unfold sdB at hb
  rw [Bool.and_eq_true, decide_eq_true_iff] at hb
  obtain ⟨⟨h1, h2⟩, h3⟩ := hb
  unfold T_si
  rw [co_run (st := st_co0) (hd_co0 l l.length) ex_co0 l hw.1 (fun _ _ => rfl)]
  show (U_si s (cntM l)).sat _
  unfold U_si
  refine sat_must (by cases s with | nil => simp at h1 | cons => rfl) (sat_must (app_ok (by simp; omega) (by omega)) ?_)
  obtain ⟨line', q1, q2, q3⟩ := si_run (W01_cnt hw h3) (s.length - 1) s [] (s.length + 1) (by simp; omega) (by omega) (by omega)
  rw [show hd_si (cntM l) s [] 0 = hd_si (cntM l) s [] ((2 * ([] : List (TCT cPq)).length : Nat) : Int) from rfl, q3]
  simp only [List.length_nil, Nat.mul_zero, List.drop_zero, Nat.zero_add] at q1 q2 ⊢
  show (Z_si line' (siQ (cntM l) (s.length - 1) s []).2).sat _
  unfold Z_si
  rw [W64_id (n := (line'.length : Int) - 1) (by omega) (by omega), inO_ok (by omega)]
  show _ = _
  rw [show sdO s l = (siQ (cntM l) (s.length - 1) s []).2 from rfl, show sdW s l = getA (siQ (cntM l) (s.length - 1) s []).1 0 0 from rfl, ← q2, show Int.toNat ((line'.length : Int) - 1) = 2 * (s.length - 1) by omega]
  congr 2
  rw [getA_lt (by omega), getA_lt (by simp; omega)]
  simp
theorem q_sides : PureOk Try.prog 69 s_sides := q_by X_si_ok 6 (fun x => T_si x.1 x.2.1) (fun x => by kernel_rfl) fun x h hw => T_si_ok x.1 x.2.1 hw.2.1 h
/-! the functions that are asked -/
def alV (s : List Int) (l : List (TCT cSc)) : Int := bif drV s != 0 then drV s else chkV l
theorem dr_len {s : List Int} (h : (drV s != 0) = false) : 1 ≤ s.length ∧ s.length ≤ 64 := by
  unfold drV at h
  cases h1 : decide ((s.length : Int) > 64) with
  | true => rw [h1] at h; cases h
  | false =>
    rw [h1] at h
    cases h2 : powB (s.length : Int) with
    | false => rw [h2] at h; cases h
    | true =>
      rw [h2] at h
      cases h3 : decide ((s.length : Int) < 2) with
      | true => rw [h3] at h; cases h
      | false =>
        have h1 := of_decide_eq_false h1
        have h3 := of_decide_eq_false h3
        omega
theorem al_sd {s : List Int} {l : List (TCT cSc)} (h : (alV s l != 0) = false) : sdB s l = true := by
  unfold alV at h
  cases h1 : (drV s != 0) with
  | true => rw [h1] at h; rw [cond_true] at h; rw [h1] at h; cases h
  | false =>
    rw [h1] at h
    unfold sdB
    rw [decide_eq_true (dr_len h1), Bool.true_and]
    have : (chkV l != 0) = false := h
    unfold bne at this
    simpa using this
noncomputable def plSd : List (Nat × PureT) := (69, s_sides) :: (21, s_draw) :: plCc
theorem puSd : PuOk Try.prog plSd := puOk_cons is_sides.plain q_sides (puOk_cons is_eCD.plain q_draw puCc)
def sidV (s : List Int) (l : List (TCT cSc)) : List (TCT cPq) × Int := bif alV s l != 0 then ([], alV s l) else (sdO s l, 0)
def chaV (s : List Int) (l : List (TCT cSc)) : Int × Int := bif alV s l != 0 then (0, alV s l) else bif sdW s l == -2 then (0, 5) else (sdW s l, 0)
abbrev s_Sides : PureT := spec [.sl cI, .sl cSc] [.sl cPq, cI] (fun _ => true) (fun x => ((sidV x.1 x.2.1).1, (sidV x.1 x.2.1).2, ()))
abbrev s_Champ : PureT := spec [.sl cI, .sl cSc] [cI, cI] (fun _ => true) (fun x => ((chaV x.1 x.2.1).1, (chaV x.1 x.2.1).2, ()))
def Q_Sides (s : List Int) (l : List (TCT cSc)) : Tree (TCTs [.sl cPq, cI]) := bif sdB s l then .leaf (sdO s l, 0, ()) else .fail
def T_Sides (s : List Int) (l : List (TCT cSc)) : Tree (TCTs [.sl cPq, cI]) := bif drV s != 0 then (bif drV s != 0 then .leaf ([], drV s, ()) else Q_Sides s l) else (bif chkV l != 0 then .leaf ([], chkV l, ()) else Q_Sides s l)
theorem T_Sides_ok (s : List Int) (l : List (TCT cSc)) : (T_Sides s l).sat (fun y => y = ((sidV s l).1, (sidV s l).2, ())) := by
  unfold T_Sides sidV
  have hs := @al_sd s l
  unfold alV at hs ⊢
  cases h1 : (drV s != 0) with
  | true => simp only [cond_true]; rw [h1]; exact rfl
  | false =>
    rw [h1] at hs
    simp only [cond_false] at hs ⊢
    cases h2 : (chkV l != 0) with
    | true => exact rfl
    | false =>
      unfold Q_Sides
      rw [hs h2]
      exact rfl
theorem q_Sides : PureOk Try.prog 33 s_Sides := q_by (ctx_ok mixed puSd (fns_cons is_eSides (fns_cons is_eAll fns_nil))) 6 (fun x => T_Sides x.1 x.2.1) (fun x => by kernel_rfl) fun x _ _ => T_Sides_ok x.1 x.2.1
def Q_Champ (s : List Int) (l : List (TCT cSc)) : Tree (TCTs [cI, cI]) := bif sdB s l then (bif sdW s l == -2 then .leaf (0, 5, ()) else .leaf (sdW s l, 0, ())) else .fail
def T_Champ (s : List Int) (l : List (TCT cSc)) : Tree (TCTs [cI, cI]) := bif drV s != 0 then (bif drV s != 0 then .leaf (0, drV s, ()) else Q_Champ s l) else (bif chkV l != 0 then .leaf (0, chkV l, ()) else Q_Champ s l)
theorem T_Champ_ok (s : List Int) (l : List (TCT cSc)) : (T_Champ s l).sat (fun y => y = ((chaV s l).1, (chaV s l).2, ())) := by
  unfold T_Champ chaV
  have hs := @al_sd s l
  unfold alV at hs ⊢
  cases h1 : (drV s != 0) with
  | true => simp only [cond_true]; rw [h1]; exact rfl
  | false =>
    rw [h1] at hs
    simp only [cond_false] at hs ⊢
    cases h2 : (chkV l != 0) with
    | true => exact rfl
    | false =>
      unfold Q_Champ
      rw [hs h2]
      simp only [cond_true, cond_false]
      cases sdW s l == -2 <;> exact rfl
theorem q_Champ : PureOk Try.prog 35 s_Champ := q_by (ctx_ok mixed puSd (fns_cons is_eChamp (fns_cons is_eAll fns_nil))) 6 (fun x => T_Champ x.1 x.2.1) (fun x => by kernel_rfl) fun x _ _ => T_Champ_ok x.1 x.2.1
end Ev
end V
end Go.Proofs.Ytgchccljmjmibaa
