import Derived.Test.YtkiaifmbbnnliaaGreatSb
namespace Go.Proofs.YtkiaifmbbnnliaaGreat
open Go.RowKit
namespace V
noncomputable def Asi : Ib := fun k => bif Nat.beq k 4 then some (Fr O3 Wt A35) else none
def cmO (g : P1.T) : Cm := ⟨g.2.1.1.1, g.2.1.2.1.1, g.2.1.2.1.2.1, g.2.1.2.2.1.1, g.2.1.2.2.2.1.1, g.2.1.2.2.2.2.1.1, g.2.1.2.2.2.2.2.2.2.1.1⟩
def ssO (g : P1.T) : SS := (g.2.1.2.2.2.2.2.1.1, g.2.1.2.2.2.2.2.2.1.1)
def A7i (n j : Int) (c : Cm) (s : SS) : Tree (P1.T ⊕ Df Zh) :=
 bif decide (j < n) then
  .need (Gp [Lm]) (bif okI j (W64 (j + 1)) c s then
   bif okS (inR c.l c.re c.dr j.toNat (c.m - W64 (j + 1)).toNat (W64 (j + 1)).toNat s) then .need (Gp [Lm]) (.leaf (.inl (Og n (W64 (j + 1)) c (O2 (inR c.l c.re c.dr j.toNat (c.m - W64 (j + 1)).toNat (W64 (j + 1)).toNat s)))))
   else .need (Gp [A10]) (.leaf (.inr ⟨.ret, Rs 4⟩)) else .fail)
 else .need (Gp [Lm]) (.leaf (.inr ⟨.exit 0, Og n j c s⟩))
theorem Bih (g : P1.T) : evC Tryz.prog (C4 A2m 7) A2m.pures 178 A2m.u Asi A7f (P1.of g) (Fq P1 Zh) = A7i g.1.2.2.1 g.1.2.2.2.1 (cmO g) (ssO g) := by kernel_rfl
def okO (n j : Int) (c : Cm) (s : SS) : Bool := decide (0 ≤ j ∧ j ≤ n ∧ n = c.m ∧ c.m = (c.l.length : Int) ∧ c.l.length ≤ 1000 ∧ s.1.length = c.l.length ∧ s.2.length + (n - j).toNat * 1000 ≤ 1000000)
def Azj (n j : Int) (c : Cm) (s : SS) : Tree (Df Zh) :=
 .br (okO n j c s) (.br (okS (Fo c.l c.re c.dr (n - j).toNat j.toNat s)) (.leaf ⟨.exit 0, Og n n c (O2 (Fo c.l c.re c.dr (n - j).toNat j.toNat s))⟩) (.leaf ⟨.ret, Rs 4⟩)) .fail
def Ac5 (g : P1.T) : Tree (Df Zh) := Azj g.1.2.2.1 g.1.2.2.2.1 (cmO g) (ssO g)
theorem Rt (l : List (TCT A4)) (re dr : Int) (i : Nat) (s : SS) : Fo l re dr 0 i s = some s := rfl
theorem K6 (l : List (TCT A4)) (re dr : Int) (f i : Nat) (s : SS) : Fo l re dr (f + 1) i s = (inR l re dr i (l.length - (i + 1)) (i + 1) s).bind fun s' => Fo l re dr f (i + 1) s' := rfl
theorem Azk {step : P1.T → Tree (P1.T ⊕ Df Zh)} (hs : ∀ n j c s, step (Og n j c s) = A7i n j c s) (R : Df Zh → Prop) (n : Int) (c : Cm) (hn : n = c.m) (hm : c.m = (c.l.length : Int)) (hl : c.l.length ≤ 1000) (f : Nat) :
  ∀ (j : Int) (s : SS), 0 ≤ j → n - j = f → s.1.length = c.l.length → s.2.length + f * 1000 ≤ 1000000 → (okS (Fo c.l c.re c.dr f j.toNat s) = true → R ⟨.exit 0, Og n n c (O2 (Fo c.l c.re c.dr f j.toNat s))⟩) →
   (okS (Fo c.l c.re c.dr f j.toNat s) = false → R ⟨.ret, Rs 4⟩) → Td P1 Zh step R (f + 1) (Og n j c s) := by
 induction f with
 | zero =>
  intro j s _ hk _ _ h1 _
  have e : j = n := by omega
  subst e
  intro _
  rw [hs]
  unfold A7i
  rw [decide_eq_false (show ¬ j < j by omega)]
  exact ⟨Ch _, fun _ => h1 rfl⟩
 | succ f ih =>
  intro j s hj hk hsl hsh h1 h2
  intro _
  rw [hs]
  unfold A7i
  rw [K6] at h1 h2
  have hjt : (j + 1).toNat = j.toNat + 1 := by omega
  have hmk : (c.m - (j + 1)).toNat = c.l.length - (j.toNat + 1) := by omega
  have hok : okI j (j + 1) c s = true := decide_eq_true ⟨hj, by omega, by omega, by omega, hm, hl, hsl, by omega⟩
  rw [show W64 (j + 1) = j + 1 from A5 (by omega) (by omega), decide_eq_true (show j < n by omega), hok, hjt, hmk]
  refine ⟨Ch _, ?_⟩
  cases he : inR c.l c.re c.dr j.toNat (c.l.length - (j.toNat + 1)) (j.toNat + 1) s with
  | none =>
   rw [he] at h2
   exact ⟨Ch _, fun _ => h2 rfl⟩
  | some s' =>
   rw [he, Option.bind_some] at h1 h2
   have hlen := A34 _ _ _ _ he
   refine ⟨Ch _, ih (j + 1) s' (by omega) (by omega) (hlen.1.trans hsl) (by omega) ?_ ?_⟩
   ·rw [hjt]; exact h1
   ·rw [hjt]; exact h2
theorem Bii : Ae Tryz.prog 178 A7f (Fr P1 Zh Ac5) := by
 refine Pe Ago 7 178 Asi ?_ P1 Zh (fun e => by cases e <;> first | exact Nat.le_refl _ | exact (show 900 ≤ 1000 by omega)) Ac5 (fun g => A7i g.1.2.2.1 g.1.2.2.2.1 (cmO g) (ssO g)) Bih ?_
 ·intro d hd f hf
  have hl : A8 A7f = [A11] := by kernel_rfl
  rw [hl, List.mem_singleton] at hd
  subst hd
  have hk : keyOf A11 = 4 := by kernel_rfl
  rw [hk] at hf
  have : Asi 4 = some (Fr O3 Wt A35) := rfl
  rw [this, Option.some.injEq] at hf
  subst hf
  exact Big
 intro g R _ hf
 obtain ⟨hf, h0⟩ := hf
 cases hc : okO g.1.2.2.1 g.1.2.2.2.1 (cmO g) (ssO g) with
 | false => exact (h0 hc).elim
 | true =>
  obtain ⟨h1, h2⟩ := hf hc
  obtain ⟨k1, k2, k3, k4, k5, k6, k7⟩ := of_decide_eq_true hc
  exact ⟨_, Azk (fun _ _ _ _ => rfl) R g.1.2.2.1 (cmO g) k3 k4 k5 (g.1.2.2.1 - g.1.2.2.2.1).toNat g.1.2.2.2.1 (ssO g) k1 (Int.toNat_of_nonneg (Int.sub_nonneg.2 k2)).symm k6 k7 h1 h2⟩
theorem is_Settle : FnIs Tryz.prog (114, Tryz.f114) := ⟨Tryz.func114, by kernel_rfl, by kernel_rfl⟩
theorem is_pairs : FnIs Tryz.prog (152, Tryz.f152) := ⟨Tryz.func152, by kernel_rfl, by kernel_rfl⟩
theorem is_pairs1 : FnIs Tryz.prog (178, Tryz.f178) := ⟨Tryz.func178, by kernel_rfl, by kernel_rfl⟩
abbrev Ajb := TCTs [.sl Aj, .sl Eg, cI]
def C3 (l : List (TCT A4)) (s : List (TCT Aj)) (re dr : Int) : Ajb :=
 bif J3 l s != 0 then ([], [], J3 l s, ()) else bif !Hr re dr then ([], [], 2, ()) else
 bif okS (Fo l re dr l.length 0 (s, [])) then ((O2 (Fo l re dr l.length 0 (s, []))).1, (O2 (Fo l re dr l.length 0 (s, []))).2, 0, ()) else ([], [], 4, ())
def B3q : List (Nat × PureT) := (151, Q5) :: (79, E9) :: B8h
theorem Beq : By Tryz.prog B3q := A0 is_lcheck.plain Asf (A0 is_CheckBounce.plain Jy Bep)
noncomputable def A7j : Ctx := Gu Tryz.prog B3q [(114, Tryz.f114), (152, Tryz.f152), (178, Tryz.f178)] [((178, 1), Fr P1 Zh Ac5)]
def Q6 (l : List (TCT A4)) (s : List (TCT Aj)) (re dr : Int) : Tree Ajb :=
 bif J3 l s != 0 then .leaf ([], [], J3 l s, ()) else bif okE (Hr re dr) != 0 then .leaf ([], [], okE (Hr re dr), ()) else
 bif Ex ([] : List (TCT Aj)) s 48 then
  .need (Gp [Lm]) (bif okO (l.length : Int) 0 ⟨l, re, dr, [], [], 0, (l.length : Int)⟩ (s, []) then
   bif okS (Fo l re dr ((l.length : Int) - 0).toNat (0 : Int).toNat (s, [])) then .leaf ((O2 (Fo l re dr ((l.length : Int) - 0).toNat (0 : Int).toNat (s, []))).1, (O2 (Fo l re dr ((l.length : Int) - 0).toNat (0 : Int).toNat (s, []))).2, 0, ()) else .leaf ([], [], 4, ()) else .fail) else .fail
theorem A7k (x : TCTs [.sl A4, .sl Aj, D5]) : C4 A7j 7 (.fn 114) (Ce [.sl A4, .sl Aj, D5] x) Be 0 (Ft Tryz.prog [.sl Aj, .sl Eg, cI]) = Q6 x.1 x.2.1 x.2.2.1.1 x.2.2.1.2.1 := by kernel_rfl
theorem Ac6 {l : List (TCT A4)} {s : List (TCT Aj)} (h : J3 l s = 0) : l.length ≤ 8 ∧ l.length = s.length ∧ (l.zip s).all Iv = true := by
 unfold J3 at h
 cases h1 : decide ((l.length : Int) > 8) with
 | true => rw [h1] at h; simp at h
 | false =>
  rw [h1, cond_false] at h
  cases h2 : ((l.length : Int) != (s.length : Int)) with
  | true => rw [h2] at h; simp at h
  | false =>
   rw [h2, cond_false] at h
   have k1 := of_decide_eq_false h1
   have k2 : (l.length : Int) = (s.length : Int) := by simpa using h2
   refine ⟨by omega, by omega, ?_⟩
   cases h3 : (l.zip s).all Iv with
   | true => rfl
   | false => rw [h3] at h; simp [okE] at h
theorem A7l (l : List (TCT A4)) (s : List (TCT Aj)) (re dr : Int) : (Q6 l s re dr).sat (fun y => y = C3 l s re dr) := by
 unfold Q6 C3
 cases hc : J3 l s != 0 with
 | true => exact Eq.refl _
 | false =>
  have hc' : J3 l s = 0 := by simpa using hc
  obtain ⟨k1, k2, _⟩ := Ac6 hc'
  unfold okE
  cases hb : Hr re dr with
  | false => exact Eq.refl _
  | true =>
   have ha : Ex ([] : List (TCT Aj)) s 48 = true := by
    rw [Ke]; refine decide_eq_true ?_; simp only [List.length_nil]; omega
   have ho : okO (l.length : Int) 0 ⟨l, re, dr, [], [], 0, (l.length : Int)⟩ (s, []) = true := decide_eq_true ⟨by omega, by omega, rfl, rfl, by show l.length ≤ 1000; omega, k2.symm, by show 0 + ((l.length : Int) - 0).toNat * 1000 ≤ 1000000; omega⟩
   rw [ha, ho, show ((l.length : Int) - 0).toNat = l.length by omega, show (0 : Int).toNat = 0 from rfl]
   refine ⟨Ch _, ?_⟩
   cases okS (Fo l re dr l.length 0 (s, [])) <;> exact Eq.refl _
theorem A7m : CtxOk A7j := by
 refine Bx Ab Beq (fns_cons is_Settle (fns_cons is_pairs (fns_cons is_pairs1 A2))) ?_
 intro p hp d hd g hg
 simp only [List.mem_cons, List.not_mem_nil, or_false] at hp
 rcases hp with rfl | rfl | rfl
 ·simp only [Bn] at hg
  rw [show Nat.beq 178 114 = false from rfl, Bool.false_and] at hg
  cases hg
 ·simp only [Bn] at hg
  rw [show Nat.beq 178 152 = false from rfl, Bool.false_and] at hg
  cases hg
 ·have hl : A8 (bodyOf Tryz.f178) = [A7f, A11] := by kernel_rfl
  simp only at hd hg
  rw [hl] at hd
  simp only [List.mem_cons, List.not_mem_nil, or_false] at hd
  rcases hd with rfl | rfl
  ·have hk : keyOf A7f = 1 := by kernel_rfl
   rw [hk] at hg
   simp [Bn] at hg
   subst hg
   exact Bii
  ·have hk : keyOf A11 = 4 := by kernel_rfl
   rw [hk] at hg
   simp only [Bn] at hg
   rw [show Nat.beq 1 4 = false from rfl, Bool.and_false] at hg
   cases hg
abbrev Q7 : PureT := B9 [.sl A4, .sl Aj, D5] [.sl Aj, .sl Eg, cI] (fun _ => true) (fun x => ((C3 x.1 x.2.1 x.2.2.1.1 x.2.2.1.2.1).1, (C3 x.1 x.2.1 x.2.2.1.1 x.2.2.1.2.1).2.1, (C3 x.1 x.2.1 x.2.2.1.1 x.2.2.1.2.1).2.2.1, ()))
theorem A7n : A7 Tryz.prog 114 Q7 := B6 A7m 7 (fun x => Q6 x.1 x.2.1 x.2.2.1.1 x.2.2.1.2.1) (fun x => A7k x) fun _ _ _ => A7l _ _ _ _
end V
end Go.Proofs.YtkiaifmbbnnliaaGreat
