/- The statement TurfNearSaid: for every input the law TurfNear returns true, and each argument reads as it did. No condition. -/
import Derived.Test.YthgmpjljlpacgaaLh
import Derived.Test.YthgmpjljlpacgaaEm
import Derived.WalkKit
import Derived.ProofKit
import Derived.OpenShut
namespace Go.Proofs.Ythgmpjljlpacgaa.turfNear
open Go.ChangeShapes Go.WideShapes Go.ChangeAt Go.RowKit Ev

theorem own : ownKnob Try.prog.godebug = none := by kernel_rfl

set_option maxRecDepth 100000 in
theorem lifted (os : Os) (started : os.Started) (H : Type) (enc : TypeId × Value → H) :
    ReturnsInHanded {} Try.checked os 9 .any (Rows.turfNearSpec.pre6 enc Try.prog Try.f9 Rows.turfNearRow.domain false) (Rows.turfNearSpec.post enc Try.prog Try.f9 false true false false) := by
  refine returnsInHanded_of_change (C := Try.checked) own started (by kernel_rfl) Try.func9
    (ChangeSpec.witness6 (enc := enc) (C := Try.checked) false ⟨#[], #[.agg #[.int .i16 0, .int .i16 0], .agg #[.int .i16 0, .int .i16 0], .agg #[.int .i16 0, .int .i16 0], .int .u8 0, .int .u16 0, .int .u8 0, .agg #[.int .i16 0, .int .i16 0]], []⟩ 8 (by kernel_rfl) (by kernel_rfl) (by kernel_rfl) (by kernel_rfl)) ?_
  intro W base args ds gs before hval0 hW hcnd _
  have hval : ∀ (j : Nat) t v, Try.f9.params[j]? = some t → args[j]? = some v → Value.okWide Try.prog W .any base t v := hval0
  have hW' := hW
  obtain ⟨p, q, hA0, hV, rfl, hfz, hnd⟩ := hW
  have hA : DataW.TrodAll enc Try.prog W 0 (fun _ => true) true Try.f9.params.toList args.toList ds p := hA0
  rw [Try.params9] at hA hval
  obtain ⟨v0, vs0, d0, ds0, p0, q0, hargs, rfl, rfl, h0, r0⟩ := trodAll_cons hA
  obtain ⟨v1, vs1, d1, ds1, p1, q1, rfl, rfl, rfl, h1, r1⟩ := trodAll_cons r0
  obtain ⟨v2, vs2, d2, ds2, p2, q2, rfl, rfl, rfl, h2, r2⟩ := trodAll_cons r1
  obtain ⟨v3, vs3, d3, ds3, p3, q3, rfl, rfl, rfl, h3, r3⟩ := trodAll_cons r2
  obtain ⟨v4, vs4, d4, ds4, p4, q4, rfl, rfl, rfl, h4, r4⟩ := trodAll_cons r3
  obtain ⟨v5, vs5, d5, ds5, p5, q5, rfl, rfl, rfl, h5, r5⟩ := trodAll_cons r4
  obtain ⟨v6, vs6, d6, ds6, p6, q6, rfl, rfl, rfl, h6, r6⟩ := trodAll_cons r5
  obtain ⟨rfl, rfl, rfl⟩ := trodAll_nil r6
  obtain rfl : args = #[v0, v1, v2, v3, v4, v5, v6] := by cases args; simp_all
  obtain ⟨rfl, rfl⟩ := trodVars_none hV
  obtain ⟨u0, rfl, c0, rfl, s0⟩ := open_flat (d := 6) (ks := [.i .i16, .i .i16]) (by kernel_rfl) Try.underlying32 (hval 0 32 v0 rfl rfl) h0
  simp only [CKok] at c0
  obtain ⟨x0_0, _, rfl, k0_0, x0_1, _, rfl, k0_1, rfl⟩ := c0
  obtain ⟨u1, rfl, c1, rfl, s1⟩ := open_flat (d := 6) (ks := [.i .i16, .i .i16]) (by kernel_rfl) Try.underlying32 (hval 1 32 v1 rfl rfl) h1
  simp only [CKok] at c1
  obtain ⟨x1_0, _, rfl, k1_0, x1_1, _, rfl, k1_1, rfl⟩ := c1
  obtain ⟨u2, rfl, c2, rfl, s2⟩ := open_flat (d := 6) (ks := [.i .i16, .i .i16]) (by kernel_rfl) Try.underlying32 (hval 2 32 v2 rfl rfl) h2
  simp only [CKok] at c2
  obtain ⟨x2_0, _, rfl, k2_0, x2_1, _, rfl, k2_1, rfl⟩ := c2
  obtain ⟨a3, rfl, rfl, rfl, w3⟩ := open_int Try.underlying5 (hval 3 5 v3 rfl rfl) h3
  obtain ⟨a4, rfl, rfl, rfl, w4⟩ := open_int Try.underlying33 (hval 4 33 v4 rfl rfl) h4
  obtain ⟨a5, rfl, rfl, rfl, w5⟩ := open_int Try.underlying5 (hval 5 5 v5 rfl rfl) h5
  obtain ⟨u6, rfl, c6, rfl, s6⟩ := open_flat (d := 6) (ks := [.i .i16, .i .i16]) (by kernel_rfl) Try.underlying32 (hval 6 32 v6 rfl rfl) h6
  simp only [CKok] at c6
  obtain ⟨x6_0, _, rfl, k6_0, x6_1, _, rfl, k6_1, rfl⟩ := c6
  clear hA0 hval0
  simp only [List.append_nil] at hW'
  refine (near_walk x0_0 x0_1 x1_0 x1_1 x2_0 x2_1 a3 a4 a5 x6_0 x6_1 k0_0 k0_1 k1_0 k1_1 k2_0 k2_1 (wf_in w3) (wf_in w4) (wf_in w5) k6_0 k6_1 W).mono fun e W' ⟨he, hb⟩ => ?_
  subst he
  exact ⟨_, rfl, post_law (pa := []) (pv := []) hW' (fun _ _ _ => (trodAll_cons_mk (shut_bool Try.underlying4 _) trodAll_mk0)) (fun sp _ => (trodAll_cons_mk (s0 _ _ _ _) (trodAll_cons_mk (s1 _ _ _ _) (trodAll_cons_mk (s2 _ _ _ _) (trodAll_cons_mk (shut_int Try.underlying5 w3) (trodAll_cons_mk (shut_int Try.underlying33 w4) (trodAll_cons_mk (shut_int Try.underlying5 w5) (trodAll_cons_mk (s6 _ _ _ _) trodAll_mk0)))))))) (fun _ _ => rfl) rfl
    hb (ok_one (by kernel_rfl) rfl (okWide_bool_mk Try.underlying4 _))⟩

theorem proved : Rows.TurfNearSaid :=
  OpenClaim.holds_of_wide 9 Try.f9 rfl rfl rfl rfl rfl rfl rfl ⟨rfl, rfl, rfl, rfl, rfl⟩ rfl rfl rfl rfl rfl (by kernel_rfl) Try.func9 (by kernel_rfl)
    (of_decide_eq_true (by kernel_rfl)) (by unfold Func.isWrapper; first | (rw [if_pos (by decide +kernel)]; kernel_rfl) | (rw [if_neg (by decide +kernel)]; exact ⟨rfl, rfl⟩))
    (fun os started H enc _ => lifted os started H enc)
#print axioms proved
end Go.Proofs.Ythgmpjljlpacgaa.turfNear
