/- The law TacticsBest: for all arguments it returns true. -/
import Derived.Test.YtdblbofagfhlbaaJm
import Derived.Test.YtdblbofagfhlbaaHf
namespace Go.Proofs.Ytdblbofagfhlbaa
open Go.RowKit
namespace V
/-- what the law has found after some acts -/
def RelB (b : TCT cB) (p : TCT cP) (pre : List (TCT cA)) (s : Sbt) (t : Sw) (v : TCT cC) : Prop :=
  (pre = [] ∧ s = (-1, -1, -1) ∧ t = (zA, false, 0) ∧ v = zC) ∨
  (t.2.1 = true ∧ 0 ≤ s.1 ∧ s.1.toNat < pre.length ∧ pre[s.1.toNat]? = some t.1 ∧ s.2.1 = t.2.2 ∧ 0 ≤ s.2.1 ∧ 0 ≤ s.2.2 ∧ v = (s.2.1, s.2.2, ()))
theorem rel_step {b : TCT cB} {p : TCT cP} {pre : List (TCT cA)} {s : Sbt} {t : Sw} {v : TCT cC} (h : RelB b p pre s t v) {a : TCT cA} (hw : 0 ≤ vLo (wF (Val b) b p a) ∧ 0 ≤ vHi (wF (Val b) b p a)) :
    RelB b p (pre ++ [a]) (stepB s (pre.length : Int) (wF (Val b) b p a)) (stW b p t a) (maxC v (wF (Val b) b p a)) := by
  have hL : (wF (Val b) b p a).1 = wL b p a := rfl
  have hw1 : 0 ≤ wL b p a := hw.1
  right
  rcases h with ⟨rfl, rfl, rfl, rfl⟩ | ⟨h1, h2, h3, h4, h5, h6, h7, rfl⟩
  · have e1 : stepB (-1, -1, -1) (([] : List (TCT cA)).length : Int) (wF (Val b) b p a) = (0, wL b p a, vHi (wF (Val b) b p a)) := by
      unfold stepB
      rw [hL, decide_eq_true (show wL b p a > (-1 : Int) by omega)]
      show ((0 : Int), max (-1) (wL b p a), max (-1) (vHi (wF (Val b) b p a))) = _
      rw [show max (-1) (wL b p a) = wL b p a by omega, show max (-1) (vHi (wF (Val b) b p a)) = vHi (wF (Val b) b p a) by omega]
    have e2 : stW b p (zA, false, 0) a = (a, true, wL b p a) := rfl
    have e3 : maxC zC (wF (Val b) b p a) = (wL b p a, vHi (wF (Val b) b p a), ()) := by
      show ((max 0 (wL b p a), max 0 (vHi (wF (Val b) b p a)), ()) : TCT cC) = _
      rw [show max 0 (wL b p a) = wL b p a by omega, show max 0 (vHi (wF (Val b) b p a)) = vHi (wF (Val b) b p a) by omega]
    rw [e1, e2, e3]
    exact ⟨rfl, Int.le_refl _, by simp, rfl, rfl, hw1, hw.2, rfl⟩
  · have e3 : maxC (s.2.1, s.2.2, ()) (wF (Val b) b p a) = (max s.2.1 (wL b p a), max s.2.2 (vHi (wF (Val b) b p a)), ()) := rfl
    unfold stepB stW
    rw [h1, e3, hL, ← h5]
    simp only [Bool.not_true, cond_false]
    by_cases hd : wL b p a > s.2.1
    · rw [decide_eq_true hd]
      refine ⟨rfl, by show (0 : Int) ≤ (pre.length : Int); omega, ?_, ?_, ?_, ?_, ?_, rfl⟩
      · show ((pre.length : Int)).toNat < _
        rw [List.length_append, List.length_singleton]; omega
      · show (pre ++ [a])[((pre.length : Int)).toNat]? = some a
        rw [show ((pre.length : Int)).toNat = pre.length by omega]
        simp
      · show max s.2.1 (wL b p a) = wL b p a
        omega
      · show 0 ≤ max s.2.1 (wL b p a)
        omega
      · show 0 ≤ max s.2.2 (vHi (wF (Val b) b p a))
        omega
    · rw [decide_eq_false hd]
      refine ⟨h1, h2, ?_, ?_, ?_, ?_, ?_, rfl⟩
      · show s.1.toNat < _
        rw [List.length_append]; omega
      · show (pre ++ [a])[s.1.toNat]? = some t.1
        rw [List.getElem?_append_left h3]; exact h4
      · show max s.2.1 (wL b p a) = t.2.2
        omega
      · show 0 ≤ max s.2.1 (wL b p a)
        omega
      · show 0 ≤ max s.2.2 (vHi (wF (Val b) b p a))
        omega
theorem all_bt_rel {b : TCT cB} {x : TCT cSc} {L : List (TCT cA)} (hok : ∀ a ∈ L, okAct b x a = true ∧ worthV b x a = wF (Val b) b (placeF x) a ∧ 0 ≤ vLo (wF (Val b) b (placeF x) a) ∧ 0 ≤ vHi (wF (Val b) b (placeF x) a)) :
    ∀ (n k : Nat) (s : Sbt) (t : Sw) (v : TCT cC), k + n = L.length → RelB b (placeF x) (L.take k) s t v →
      ∃ s', foldX (g_bt b x L) ((List.range L.length).drop k) s = some (.inl s') ∧ RelB b (placeF x) L s' ((L.drop k).foldl (stW b (placeF x)) t) ((L.drop k).foldl (fun s a => maxC s (wF (Val b) b (placeF x) a)) v)
  | 0, k, s, t, v, hk, hr => by
    have : k = L.length := by omega
    subst this
    rw [List.take_length] at hr
    refine ⟨s, ?_, ?_⟩
    · rw [List.drop_eq_nil_of_le (by simp)]; rfl
    · rw [List.drop_length]; exact hr
  | n + 1, k, s, t, v, hk, hr => by
    have hlt : k < L.length := by omega
    obtain ⟨h1, h2, h3⟩ := hok _ (List.getElem_mem hlt)
    have e1 : (List.range L.length).drop k = k :: (List.range L.length).drop (k + 1) := by
      rw [List.drop_eq_getElem_cons (by simpa using hlt)]
      simp
    have eg : g_bt b x L s k = some (.inl (stepB s (k : Int) (wF (Val b) b (placeF x) L[k]))) := by
      unfold g_bt
      rw [getA_lt hlt, h1, h2]; rfl
    have hrel := rel_step hr h3
    have el : (L.take k).length = k := by simp; omega
    have et : L.take k ++ [L[k]] = L.take (k + 1) := by simp
    rw [el, et] at hrel
    obtain ⟨s', q1, q2⟩ := all_bt_rel hok n (k + 1) _ _ _ (by omega) hrel
    refine ⟨s', ?_, ?_⟩
    · rw [e1]
      unfold foldX
      rw [eg]
      exact q1
    · rw [List.drop_eq_getElem_cons hlt]
      exact q2
theorem eqC {v w : TCT cC} (h : v = w) : (v.1 == w.1 && (v.2.1 == w.2.1 && true)) = true := by
  rw [h]; simp
theorem acts_len {b : TCT cB} (hb : OkB b) {p : TCT cP} (hp : OkP b p) : (actsF b p).length ≤ 201 := by
  unfold actsF
  cases p.2.1 == (b.2.2.1.length : Int) with
  | true => exact Nat.zero_le _
  | false =>
    have hl := rows_len hb (q := cellsP p) hp.n.2
    have hl : (rowsA b (cellsP p) p.2.2.1).length ≤ 200 := hl
    rw [cond_false, List.length_cons]
    omega
theorem acts_nil {b : TCT cB} {p : TCT cP} (h : actsF b p = []) : (p.2.1 == (b.2.2.1.length : Int)) = true := by
  unfold actsF at h
  cases hh : p.2.1 == (b.2.2.1.length : Int) with
  | true => rfl
  | false => rw [hh] at h; cases h
theorem T_tb_ok (b : TCT cB) (x : TCT cSc) : (T_tb b x).sat (fun _ => True) := by
  unfold T_tb
  refine sat_cond (fun _ => trivial) fun _ => sat_cond (fun _ => trivial) fun _ => sat_cond (fun _ => trivial) fun h => ?_
  have h0 : sceneE b x = 0 := by simpa using h
  obtain ⟨hb, hp⟩ := scene0 h0
  have hB := okB_of hb
  have hP := place_okP hp
  rw [h]
  simp only [cond_false]
  have eL : actsV b x = actsF b (placeF x) := by unfold actsV; rw [hb, hp]; rfl
  have eV : valF b x = Val b (placeF x) := by unfold valF; rw [hb, hp]; rfl
  have eA : bestA b x = (bestW b (placeF x)).1 := by unfold bestA; rw [hb, hp]; rfl
  have eW : bestV b x = bif (bestW b (placeF x)).2.1 then wF (Val b) b (placeF x) (bestW b (placeF x)).1 else zC := by unfold bestV; rw [hb, hp]; rfl
  have eQ : Val b (placeF x) = bestF (Val b) b (placeF x) (actsF b (placeF x)) zC := Val_eq hB hP
  have hlen := acts_len hB hP
  cases hn : actsF b (placeF x) with
  | nil =>
    have hbw : bestW b (placeF x) = (zA, false, 0) := by unfold bestW; rw [hn]; rfl
    have hv : Val b (placeF x) = zC := by rw [eQ, hn]; rfl
    have hh := acts_nil hn
    have hh : (x.2.1 == (b.2.2.1.length : Int)) = true := hh
    rw [eL, hn, eA, eW, eV, hbw, hv, hh]
    trivial
  | cons a0 l0 =>
    have hne : ((((actsF b (placeF x)).length : Nat) : Int) == 0) = false := by rw [hn]; simp; omega
    rw [eL, hne, cond_false]
    obtain ⟨s', q1, q2⟩ := all_bt_rel (b := b) (x := x) (L := actsF b (placeF x)) (fun a ha => by
      have hl := legal_of hB hP ha
      obtain ⟨e1, e2, _⟩ := act_facts hb hp ha
      obtain ⟨_, q, _⟩ := legal_step hB hP hl
      have hu := w_upto hB hP hl (Val_upto hB q)
      exact ⟨okAct_of hb hp ha, e2, hu.1, Int.le_trans hu.1 hu.2.1⟩) (actsF b (placeF x)).length 0 s0_bt (zA, false, 0) zC (by omega) (by rw [List.take_zero]; exact .inl ⟨rfl, rfl, rfl, rfl⟩)
    rw [List.drop_zero] at q1
    rw [List.drop_zero] at q2
    have er : rs_bt b x = some (.inl s') := by
      unfold rs_bt all_bt
      rw [eL]; exact q1
    have hs : shortA (actsF b (placeF x)) 0 = true := decide_eq_true ⟨rfl, by omega⟩
    rw [hs, er]
    show (post_bt (actsF b (placeF x)) (valF b x) (bestV b x) (bestA b x) s').sat _
    have q2 : RelB b (placeF x) (actsF b (placeF x)) s' (bestW b (placeF x)) (Val b (placeF x)) := by rw [eQ]; exact q2
    rcases q2 with ⟨h1, _⟩ | ⟨h1, h2, h3, h4, h5, h6, h7, h8⟩
    · rw [hn] at h1; cases h1
    · unfold post_bt
      have hbf := best_facts (b := b) (p := placeF x)
      rcases hbf with ⟨hx, _⟩ | ⟨_, _, hlo, _⟩
      · rw [hn] at hx; cases hx
      have hat : getA (actsF b (placeF x)) s'.1.toNat (dflt cA) = (bestW b (placeF x)).1 := by
        rw [getA_lt h3]
        rw [List.getElem?_eq_getElem h3] at h4
        exact Option.some.inj h4
      have hw : (bestV b x).1 = (valF b x).1 := by
        rw [eW, h1, eV, h8]
        show wL b (placeF x) (bestW b (placeF x)).1 = s'.2.1
        rw [h5, hlo]
      have hv1 : (valF b x).1 = s'.2.1 := by rw [eV, h8]
      have hv2 : (valF b x).2.1 = s'.2.2 := by rw [eV, h8]
      rw [hw, hv1, hv2, eA, hat, eqAct_iff.2 rfl, decide_eq_true (show 0 ≤ s'.1 ∧ s'.1 < ((actsF b (placeF x)).length : Int) by omega)]
      simp only [beq_self_eq_true, Bool.and_self, cond_true]
      trivial
theorem X_tacticsBest_ok : CtxOk X_tacticsBest := ctxL_ok mixed puJl (fns_cons is_TacticsBest fns_nil) (loops_one (lb := lb_bt) (by kernel_rfl) (by kernel_rfl) l_bt)
theorem tacticsBest_sat : LawSat X_tacticsBest 11 cs_tacticsBest 8 := lawSat 8 TY_tb TY_tb_eq (fun _ _ => T_tb_ok _ _)
end V
end Go.Proofs.Ytdblbofagfhlbaa
