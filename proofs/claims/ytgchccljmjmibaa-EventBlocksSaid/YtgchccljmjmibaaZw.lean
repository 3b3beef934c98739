/- Contracts of functions that leave the lists, which they are handed, where they are: the first arguments are kept. -/
import Derived.Test.YtgchccljmjmibaaBag
namespace Go.Proofs.Ytgchccljmjmibaa
open Go.RowKit
namespace V
/-- how a function ends that returns several values; the arguments that are kept stand behind them -/
def foutKK (ex : List AV) (E : FLay) (v : Out) (hp : Heap) (nx : Nat) : Tree E.T :=
  match v with
  | .ret (.tup l) => match E.lay.to (slotsSt (l ++ ex) hp nx) with
    | some g => .leaf g
    | none => .fail
  | _ => .fail
def fspecK (k : Nat) (probe : Heap → List AV → Option (List Nat)) (L E : FLay) (fin : L.T → Tree E.T) (hp : Heap) (nx : Nat) (args : List AV) : Tree (Out × Heap × Nat) :=
  match probe hp args with
  | none => .fail
  | some ids => bif nodupB ids && (ids.all (fun i => Nat.blt i nx) && Nat.ble (lenA ids) L.nx) then
      match L.lay.to (slotsSt (renL (idxOf ids) args) (cutHp ids hp) (lenA ids)) with
      | none => .fail
      | some g => (fin g).map fun z => (.ret (.tup (takeA k (renL (fun k => some (unren ids nx k)) (ofKs E.ks z.1 E.nx)))), backHp ids nx hp (E.lay.hp z), nx + ((E.lay.of z).nx - lenA ids))
    else .fail
theorem fspecK_ok {X : Ctx} (hX : CtxOk X) {f : FuncId} (m k j : Nat) {probe : Heap → List AV → Option (List Nat)} {L E : FLay} (hE : L.nx ≤ E.nx) (hk : E.ks.length = k + j) (hj : j ≤ L.ks.length) {fin : L.T → Tree E.T}
    (h : ∀ g R, L.lay.WF g → (fin g).sat R → (evBody X (evFn X m) f (ofKs L.ks g.1 L.nx) (L.lay.hp g) (L.lay.of g).nx (foutKK (takeA j (ofKs L.ks g.1 L.nx)) E)).sat (fun z => E.lay.WF z → R z)) : SpecOk X.P f (fspecK k probe L E fin) := by
  intro w0 σ hp nx w xs us R hh hb hu hs
  unfold fspecK at hs
  cases hp1 : probe hp xs with
  | none => rw [hp1] at hs; exact hs.elim
  | some ids =>
    rw [hp1] at hs
    simp only at hs
    cases hok : (nodupB ids && (ids.all (fun i => Nat.blt i nx) && Nat.ble (lenA ids) L.nx)) with
    | false => rw [hok] at hs; exact hs.elim
    | true =>
      rw [hok, cond_true] at hs
      simp only [Bool.and_eq_true, List.all_eq_true, blt_t, Nat.ble_eq, lenA_eq] at hok
      obtain ⟨hn, hlt, hle⟩ := hok
      have hnd := nodupB_spec hn
      cases hg : L.lay.to (slotsSt (renL (idxOf ids) xs) (cutHp ids hp) (lenA ids)) with
      | none => rw [hg] at hs; exact hs.elim
      | some g =>
        rw [hg] at hs
        simp only [sat_map] at hs
        have hu1 := renL_rep (cutEnv_ren (ids := ids) σ hp w) xs us hu
        have hS := slots_sat (lenA_eq ids ▸ hh.cut hnd) hb hu1
        obtain ⟨hwf, rs, hF⟩ := hS.forget L.lay hg
        have hul : us.length = L.ks.length := by rw [← hu1.length]; exact lay_len hg
        have hargs := slots_args hul hF
        obtain ⟨_, hcalls⟩ := body_sound hX (evFn_sound hX _ m) hF.h hF.bl hargs (h g _ hwf hs)
        have e1 : Ext (cutEnv ids σ hp w) (cutE L.nx (cutEnv ids σ hp w) rs) := cutE_ext (Ext.refl _) fun i hi => cutEnv_free (Nat.le_trans hle hi)
        refine hcalls.mono ?_
        rintro e w' ⟨y, τ, hp2, nx2, k1, k2, k3, k4, k5⟩
        have e2 := e1.trans k1
        cases y with
        | pan x => exact k5.elim
        | ret x =>
          cases e with
          | returned v =>
            have hx : Rep τ x v := k4
            cases x with
            | tup l =>
              simp only [foutKK] at k5
              split at k5 <;> try (exact k5.elim)
              rename_i g2 hg2
              simp only [Rep] at hx
              obtain ⟨vs, h1, rfl⟩ := hx
              have hex : RepL τ (takeA j (ofKs L.ks g.1 L.nx)) (us.take j) := by
                rw [takeA_eq]
                exact (RepL.mono k1 _ _ hargs).take j
              have h2 := h1.append hex
              obtain ⟨wf2, rs2, hF2⟩ := (slots_sat k2 k3 h2).forget E.lay hg2
              have hvl : (vs ++ us.take j).length = E.ks.length := by rw [← h2.length]; exact lay_len hg2
              have hvk : vs.length = k := by
                rw [List.length_append, List.length_take] at hvl
                omega
              have hout := slots_args hvl hF2
              have e3 : Ext (cutEnv ids σ hp w) (cutE E.nx τ rs2) := cutE_ext e2 fun i hi => cutEnv_free (Nat.le_trans hle (Nat.le_trans hE hi))
              have hnx : ids.length ≤ (E.lay.of g2).nx := Nat.le_trans hle (Nat.le_trans hE (Nat.le_add_right _ _))
              obtain ⟨f1, f2⟩ := hh.back hnd hlt e3 hF2.h hnx
              have hout' := renL_rep (backEnv_ren hnd hlt σ (cutE E.nx τ rs2)) _ _ hout
              refine ⟨_, _, _, _, f1, f2, k3, ?_, by rw [← lenA_eq ids]; exact k5 wf2⟩
              show Rep _ (.tup _) _
              simp only [Rep]
              refine ⟨vs, ?_, rfl⟩
              have e5 : (vs ++ us.take j).take k = vs := by rw [List.take_append_of_le_length (by omega), List.take_of_length_le (by omega)]
              have := hout'.take k
              rw [e5] at this
              rw [takeA_eq]
              exact this
            | _ => exact k5.elim
          | panicked c => exact k4.elim
          | outgrown => exact k4.elim
end V
end Go.Proofs.Ytgchccljmjmibaa
