/- The law TurfTowards: plain part, and its walk by the evaluator. For all arguments the law returns true. -/
import Derived.Test.YthgmpjljlpacgaaTd
import Derived.Test.YthgmpjljlpacgaaLb
namespace Go.Proofs.Ythgmpjljlpacgaa
open Go.RowKit Ev
theorem is_TurfTowards : FnIs Try.prog (5, Try.f5) := ⟨Try.func5, by kernel_rfl, by kernel_rfl⟩
def pl_tow : List (Nat × PureT) := [(15, g_at), (18, g_Towards), (19, g_Square), (14, g_fine)]
theorem pu_tow : PuOk Try.prog pl_tow := puOk_cons is_at.plain p_at (puOk_cons is_Towards.plain p_Towards (puOk_cons is_Square.plain p_Square (puOk_cons is_fine.plain p_fine puOk_nil)))

def end_tow (px py qx qy n tx ty : Int) : Tree Unit :=
  bif decide (IntKind.i64.wrap (256 * (SqR px py qx qy).1) < IntKind.i64.wrap (n * n)) then .leaf () else
  bif (SqR tx ty qx qy).2 == 0 then
    bif decide ((SqR tx ty qx qy).1 ≥ IntKind.i64.wrap (max 0 (IntKind.i64.wrap (n - 2)) * max 0 (IntKind.i64.wrap (n - 2)))) then
      bif decide ((SqR tx ty qx qy).1 ≤ IntKind.i64.wrap (IntKind.i64.wrap (n + 2) * IntKind.i64.wrap (n + 2))) then
        bif decide (n < 4) then .leaf () else
        bif decide (IntKind.i64.wrap (IntKind.i64.wrap (IntKind.i64.wrap (tx - qx) * IntKind.i64.wrap (px - qx)) + IntKind.i64.wrap (IntKind.i64.wrap (ty - qy) * IntKind.i64.wrap (py - qy))) > 0) then .leaf () else .fail
      else .fail
    else .fail
  else .fail
def t_tow (px py qx qy n : Int) : Tree Unit :=
  bif px == qx && (py == qy && true) then bif (TwR px py qx qy n).2 == 9 then .leaf () else .fail else
  bif (SqR px py qx qy).2 != 0 then .fail else
  bif (TwR px py qx qy n).2 != 0 then bif (TwR px py qx qy n).2 != 4 then .fail else
    bif (TwR px py qx qy n).2 == 4 then .leaf () else end_tow px py qx qy n (TwR px py qx qy n).1.1 (TwR px py qx qy n).1.2
  else bif (TwR px py qx qy n).2 == 4 then .leaf () else end_tow px py qx qy n (TwR px py qx qy n).1.1 (TwR px py qx qy n).1.2

theorem tow_law (px py qx qy n : Int) (s1 : smol px) (s2 : smol py) (s3 : smol qx) (s4 : smol qy) (hn1 : 0 ≤ n) (hn2 : n < 2097152) : (t_tow px py qx qy n).sat (fun _ => True) := by
  have f1 := smol_fpt s1 s2
  have f2 := smol_fpt s3 s4
  have o1 : outB n 0 4194304 = false := by unfold outB; simp; omega
  have hS : SqR px py qx qy = (sq px py qx qy, 0) := by unfold SqR; rw [f1, f2]; rfl
  have b0 := sq_bd f1 f2
  unfold t_tow
  rw [hS]
  refine sat_cond (fun k => ?_) (fun k => sat_cond (fun k => by simp at k) (fun _ => ?_))
  · rw [Bool.and_true] at k
    have hT : TwR px py qx qy n = ((0, 0), 9) := by unfold TwR; rw [f1, f2, o1, k]; rfl
    rw [hT]
    exact trivial
  · rw [Bool.and_true] at k
    have hne : ¬ (px = qx ∧ py = qy) := by
      intro hh; simp [hh.1, hh.2] at k
    have hT : TwR px py qx qy n = bif fpt (ToX px qx (dTo px py qx qy) n) (ToX py qy (dTo px py qx qy) n) then ((ToX px qx (dTo px py qx qy) n, ToX py qy (dTo px py qx qy) n), 0) else ((0, 0), 4) := by
      unfold TwR; rw [f1, f2, o1, k]; rfl
    cases hf : fpt (ToX px qx (dTo px py qx qy) n) (ToX py qy (dTo px py qx qy) n) with
    | false =>
      rw [hf, cond_false] at hT
      rw [hT]
      exact trivial
    | true =>
      rw [hf, cond_true] at hT
      rw [hT]
      refine sat_cond (fun k => by simp at k) (fun _ => sat_cond (fun k => by simp at k) (fun _ => ?_))
      have b1 := mul_bd (a := n) (b := n) (A := 2097152) (B := 2097152) (by omega) (by omega) (by omega) (by omega)
      have b2 := mul_bd (a := n + 2) (b := n + 2) (A := 2097154) (B := 2097154) (by omega) (by omega) (by omega) (by omega)
      have b3 := mul_bd (a := max 0 (n - 2)) (b := max 0 (n - 2)) (A := 2097154) (B := 2097154) (by omega) (by omega) (by omega) (by omega)
      have hSt : SqR (ToX px qx (dTo px py qx qy) n) (ToX py qy (dTo px py qx qy) n) qx qy = (sq (ToX px qx (dTo px py qx qy) n) (ToX py qy (dTo px py qx qy) n) qx qy, 0) := by unfold SqR; rw [hf, f2]; rfl
      have c1 := fpt_bd hf
      unfold smol at s1 s2 s3 s4
      have b4 := mul_bd (a := ToX px qx (dTo px py qx qy) n - qx) (b := px - qx) (A := 8388608) (B := 8388608) (by omega) (by omega) (by omega) (by omega)
      have b5 := mul_bd (a := ToX py qy (dTo px py qx qy) n - qy) (b := py - qy) (A := 8388608) (B := 8388608) (by omega) (by omega) (by omega) (by omega)
      unfold end_tow
      rw [hS, hSt]
      dsimp only
      rw [wrap_id (n := 256 * sq px py qx qy) (by omega) (by omega), wrap_id (n := n * n) (by omega) (by omega), wrap_id (n := n - 2) (by omega) (by omega), wrap_id (n := n + 2) (by omega) (by omega), wrap_id (n := (n + 2) * (n + 2)) (by omega) (by omega), wrap_id (n := max 0 (n - 2) * max 0 (n - 2)) (by omega) (by omega),
        wrap_id (n := ToX px qx (dTo px py qx qy) n - qx) (by omega) (by omega), wrap_id (n := ToX py qy (dTo px py qx qy) n - qy) (by omega) (by omega), wrap_id (n := px - qx) (by omega) (by omega), wrap_id (n := py - qy) (by omega) (by omega),
        wrap_id (n := (ToX px qx (dTo px py qx qy) n - qx) * (px - qx)) (by omega) (by omega), wrap_id (n := (ToX py qy (dTo px py qx qy) n - qy) * (py - qy)) (by omega) (by omega), wrap_id (n := (ToX px qx (dTo px py qx qy) n - qx) * (px - qx) + (ToX py qy (dTo px py qx qy) n - qy) * (py - qy)) (by omega) (by omega)]
      refine sat_cond (fun _ => trivial) (fun hfar => ?_)
      have hfar' := of_decide_eq_false hfar
      have hsp := sq_pos hne
      obtain ⟨r1, r2, r3⟩ := rt_spec (sq px py qx qy * 4096) (by omega)
      have hq : (px - qx) * (px - qx) + (py - qy) * (py - qy) = sq px py qx qy := by unfold sq; grind
      have hd64 : 8 ≤ dTo px py qx qy := by
        unfold dTo
        rcases Int.lt_or_le (rt (sq px py qx qy * 4096)) 8 with x | x
        · have := sq_le_of_le (a := rt (sq px py qx qy * 4096) + 1) (b := 8) (by omega) (by omega)
          omega
        · exact x
      have hd4 : 4 * n ≤ dTo px py qx qy := by
        unfold dTo
        rcases Int.lt_or_le (rt (sq px py qx qy * 4096)) (4 * n) with x | x
        · have := sq_le_of_le (a := rt (sq px py qx qy * 4096) + 1) (b := 4 * n) (by omega) (by omega)
          have g : 4 * n * (4 * n) = 16 * (n * n) := by grind
          omega
        · exact x
      obtain ⟨t1, t2, t3⟩ := tow (px - qx) (py - qy) n (dTo px py qx qy) (by rw [hq]; unfold dTo; omega) (by rw [hq]; unfold dTo; omega) hn1 hd4 (by omega) hd64
      have eX : ToX px qx (dTo px py qx qy) n - qx = DW (64 * n * (px - qx)) (dTo px py qx qy) := by unfold ToX; omega
      have eY : ToX py qy (dTo px py qx qy) n - qy = DW (64 * n * (py - qy)) (dTo px py qx qy) := by unfold ToX; omega
      have hsq : sq (ToX px qx (dTo px py qx qy) n) (ToX py qy (dTo px py qx qy) n) qx qy = DW (64 * n * (px - qx)) (dTo px py qx qy) * DW (64 * n * (px - qx)) (dTo px py qx qy) + DW (64 * n * (py - qy)) (dTo px py qx qy) * DW (64 * n * (py - qy)) (dTo px py qx qy) := by
        rw [← eX, ← eY]; unfold sq; grind
      rw [hsq, eX, eY]
      refine sat_cond (fun _ => sat_cond (fun _ => sat_cond (fun _ => sat_cond (fun _ => trivial) (fun h4 => sat_cond (fun _ => trivial) (fun h => ?_))) (fun h => ?_)) (fun h => ?_)) (fun h => by simp at h)
      · have h' := of_decide_eq_false h
        have h4' := of_decide_eq_false h4
        have := t3 (by omega)
        omega
      · have h' := of_decide_eq_false h
        omega
      · have h' := of_decide_eq_false h
        rcases Int.lt_or_le n 2 with x | x
        · have e0 : max 0 (n - 2) = 0 := by omega
          rw [e0] at h'
          have z1 := self_nn (DW (64 * n * (px - qx)) (dTo px py qx qy))
          have z2 := self_nn (DW (64 * n * (py - qy)) (dTo px py qx qy))
          omega
        · have e0 : max 0 (n - 2) = n - 2 := by omega
          rw [e0] at h'
          have := t2 x
          omega

theorem tow_walk (px py qx qy s l : Int) (h1 : inK .i16 px) (h2 : inK .i16 py) (h3 : inK .i16 qx) (h4 : inK .i16 qy) (hs : inK .u8 s) (hl : inK .u32 l) (w : World) :
    Calls Try.prog 5 #[.agg #[.int .i16 px, .int .i16 py], .agg #[.int .i16 qx, .int .i16 qy], .int .u8 s, .int .u32 l] w fun e w' => e = .returned (.bool true) ∧ Below w.heap.size w w' := by
  have e : evFn (ctx Try.prog pl_tow [(5, Try.f5)]) 3 5 [.agg [.int .i16 px, .int .i16 py], .agg [.int .i16 qx, .int .i16 qy], .int .u8 s, .int .u32 l] noHeap 0 lawK =
      t_tow (px * sc s) (py * sc s) (qx * sc s) (qy * sc s) ((IntKind.i64.wrap l).tmod 2097152) := by kernel_rfl
  refine law_calls (xs := [.agg [.int .i16 px, .int .i16 py], .agg [.int .i16 qx, .int .i16 qy], .int .u8 s, .int .u32 l])
    (us := [.agg #[.int .i16 px, .int .i16 py], .agg #[.int .i16 qx, .int .i16 qy], .int .u8 s, .int .u32 l]) (ctx_ok mixed pu_tow (fns_cons is_TurfTowards fns_nil)) 3 ?_ ?_
  · simp only [repL_consI, repL_nilI, rep_aggI, rep_intI, and_true]
    exact ⟨⟨h1, h2⟩, ⟨h3, h4⟩, hs, hl⟩
  · have hl' : 0 ≤ l ∧ l ≤ 4294967295 := hl
    have k1 := tm_bd l 2097152 (by omega)
    have k2 := Int.tmod_nonneg 2097152 hl'.1
    rw [e, wrap_id (n := l) (by omega) (by omega)]
    exact tow_law _ _ _ _ _ (smol_sc h1 hs) (smol_sc h2 hs) (smol_sc h3 hs) (smol_sc h4 hs) k2 (by omega)
end Go.Proofs.Ythgmpjljlpacgaa
