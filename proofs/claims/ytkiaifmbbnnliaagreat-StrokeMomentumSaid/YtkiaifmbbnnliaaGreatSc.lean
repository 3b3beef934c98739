import Derived.Test.YtkiaifmbbnnliaaGreatSb
namespace Go.Proofs.YtkiaifmbbnnliaaGreat
open Go.RowKit
namespace V
noncomputable def Ang : Jh := fun k => bif Nat.beq k 4 then some (J2 O1 Vu A1y) else none
def cmO (g : Ow.T) : Cm := ⟨g.2.1.1.1, g.2.1.2.1.1, g.2.1.2.1.2.1, g.2.1.2.2.1.1, g.2.1.2.2.2.1.1, g.2.1.2.2.2.2.1.1, g.2.1.2.2.2.2.2.2.2.1.1⟩
def ssO (g : Ow.T) : SS := (g.2.1.2.2.2.2.2.1.1, g.2.1.2.2.2.2.2.2.1.1)
def A61 (n j : Int) (c : Cm) (s : SS) : Tree (Ow.T ⊕ F7 Yf) :=
 bif decide (j < n) then
  .need (Mo [Lf]) (bif okI j (W64 (j + 1)) c s then
   bif okS (inR c.l c.re c.dr j.toNat (c.m - W64 (j + 1)).toNat (W64 (j + 1)).toNat s) then .need (Mo [Lf]) (.leaf (.inl (Og n (W64 (j + 1)) c (O0 (inR c.l c.re c.dr j.toNat (c.m - W64 (j + 1)).toNat (W64 (j + 1)).toNat s)))))
   else .need (Mo [Zv]) (.leaf (.inr ⟨.ret, Rs 4⟩)) else .fail)
 else .need (Mo [Lf]) (.leaf (.inr ⟨.exit 0, Og n j c s⟩))
theorem B9u (g : Ow.T) : evC Tryz.prog (Ch A1e 7) A1e.pures 178 A1e.u Ang A5y (Ow.of g) (J1 Ow Yf) = A61 g.1.2.2.1 g.1.2.2.2.1 (cmO g) (ssO g) := by kernel_rfl
def okO (n j : Int) (c : Cm) (s : SS) : Bool := decide (0 ≤ j ∧ j ≤ n ∧ n = c.m ∧ c.m = (c.l.length : Int) ∧ c.l.length ≤ 1000 ∧ s.1.length = c.l.length ∧ s.2.length + (n - j).toNat * 1000 ≤ 1000000)
def Aug (n j : Int) (c : Cm) (s : SS) : Tree (F7 Yf) :=
 .br (okO n j c s) (.br (okS (Em c.l c.re c.dr (n - j).toNat j.toNat s)) (.leaf ⟨.exit 0, Og n n c (O0 (Em c.l c.re c.dr (n - j).toNat j.toNat s))⟩) (.leaf ⟨.ret, Rs 4⟩)) .fail
def Aa0 (g : Ow.T) : Tree (F7 Yf) := Aug g.1.2.2.1 g.1.2.2.2.1 (cmO g) (ssO g)
theorem Ib (l : List (TCT A3)) (re dr : Int) (i : Nat) (s : SS) : Em l re dr 0 i s = some s := rfl
theorem Gp (l : List (TCT A3)) (re dr : Int) (f i : Nat) (s : SS) : Em l re dr (f + 1) i s = (inR l re dr i (l.length - (i + 1)) (i + 1) s).bind fun s' => Em l re dr f (i + 1) s' := rfl
theorem Auh {step : Ow.T → Tree (Ow.T ⊕ F7 Yf)} (hs : ∀ n j c s, step (Og n j c s) = A61 n j c s) (R : F7 Yf → Prop) (n : Int) (c : Cm) (hn : n = c.m) (hm : c.m = (c.l.length : Int)) (hl : c.l.length ≤ 1000) (f : Nat) :
  ∀ (j : Int) (s : SS), 0 ≤ j → n - j = f → s.1.length = c.l.length → s.2.length + f * 1000 ≤ 1000000 → (okS (Em c.l c.re c.dr f j.toNat s) = true → R ⟨.exit 0, Og n n c (O0 (Em c.l c.re c.dr f j.toNat s))⟩) →
   (okS (Em c.l c.re c.dr f j.toNat s) = false → R ⟨.ret, Rs 4⟩) → A7f Ow Yf step R (f + 1) (Og n j c s) := by
 induction f with
 | zero =>
  intro j s _ hk _ _ h1 _
  have e : j = n := by omega
  subst e
  intro _
  rw [hs]
  unfold A61
  rw [decide_eq_false (show ¬ j < j by omega)]
  exact ⟨F6 _, fun _ => h1 rfl⟩
 | succ f ih =>
  intro j s hj hk hsl hsh h1 h2
  intro _
  rw [hs]
  unfold A61
  rw [Gp] at h1 h2
  have hjt : (j + 1).toNat = j.toNat + 1 := by omega
  have hmk : (c.m - (j + 1)).toNat = c.l.length - (j.toNat + 1) := by omega
  have hok : okI j (j + 1) c s = true := decide_eq_true ⟨hj, by omega, by omega, by omega, hm, hl, hsl, by omega⟩
  rw [show W64 (j + 1) = j + 1 from A6 (by omega) (by omega), decide_eq_true (show j < n by omega), hok, hjt, hmk]
  refine ⟨F6 _, ?_⟩
  cases he : inR c.l c.re c.dr j.toNat (c.l.length - (j.toNat + 1)) (j.toNat + 1) s with
  | none =>
   rw [he] at h2
   exact ⟨F6 _, fun _ => h2 rfl⟩
  | some s' =>
   rw [he, Option.bind_some] at h1 h2
   have hlen := A1x _ _ _ _ he
   refine ⟨F6 _, ih (j + 1) s' (by omega) (by omega) (hlen.1.trans hsl) (by omega) ?_ ?_⟩
   ·rw [hjt]; exact h1
   ·rw [hjt]; exact h2
theorem B9v : Aj Tryz.prog 178 A5y (J2 Ow Yf Aa0) := by
 refine X8 Ade 7 178 Ang ?_ Ow Yf (fun e => by cases e <;> first | exact Nat.le_refl _ | exact (show 900 ≤ 1000 by omega)) Aa0 (fun g => A61 g.1.2.2.1 g.1.2.2.2.1 (cmO g) (ssO g)) B9u ?_
 ·intro d hd f hf
  have hl : A8 A5y = [Zw] := by kernel_rfl
  rw [hl, List.mem_singleton] at hd
  subst hd
  have hk : keyOf Zw = 4 := by kernel_rfl
  rw [hk] at hf
  have : Ang 4 = some (J2 O1 Vu A1y) := rfl
  rw [this, Option.some.injEq] at hf
  subst hf
  exact B9t
 intro g R _ hf
 obtain ⟨hf, h0⟩ := hf
 cases hc : okO g.1.2.2.1 g.1.2.2.2.1 (cmO g) (ssO g) with
 | false => exact (h0 hc).elim
 | true =>
  obtain ⟨h1, h2⟩ := hf hc
  obtain ⟨k1, k2, k3, k4, k5, k6, k7⟩ := of_decide_eq_true hc
  exact ⟨_, Auh (fun _ _ _ _ => rfl) R g.1.2.2.1 (cmO g) k3 k4 k5 (g.1.2.2.1 - g.1.2.2.2.1).toNat g.1.2.2.2.1 (ssO g) k1 (Int.toNat_of_nonneg (Int.sub_nonneg.2 k2)).symm k6 k7 h1 h2⟩
theorem is_Settle : FnIs Tryz.prog (114, Tryz.f114) := ⟨Tryz.func114, by kernel_rfl, by kernel_rfl⟩
theorem is_pairs : FnIs Tryz.prog (152, Tryz.f152) := ⟨Tryz.func152, by kernel_rfl, by kernel_rfl⟩
theorem is_pairs1 : FnIs Tryz.prog (178, Tryz.f178) := ⟨Tryz.func178, by kernel_rfl, by kernel_rfl⟩
abbrev Anh := TCTs [.sl Ai, .sl Ea, cI]
def Bi (l : List (TCT A3)) (s : List (TCT Ai)) (re dr : Int) : Anh :=
 bif I4 l s != 0 then ([], [], I4 l s, ()) else bif !Gh re dr then ([], [], 2, ()) else
 bif okS (Em l re dr l.length 0 (s, [])) then ((O0 (Em l re dr l.length 0 (s, []))).1, (O0 (Em l re dr l.length 0 (s, []))).2, 0, ()) else ([], [], 4, ())
def Axt : List (Nat × PureT) := (151, Py) :: (79, Dl) :: B1k
theorem B6k : Bu Tryz.prog Axt := A0 is_lcheck.plain And (A0 is_CheckBounce.plain Ju B6j)
noncomputable def A62 : Ctx := Hk Tryz.prog Axt [(114, Tryz.f114), (152, Tryz.f152), (178, Tryz.f178)] [((178, 1), J2 Ow Yf Aa0)]
def Pz (l : List (TCT A3)) (s : List (TCT Ai)) (re dr : Int) : Tree Anh :=
 bif I4 l s != 0 then .leaf ([], [], I4 l s, ()) else bif okE (Gh re dr) != 0 then .leaf ([], [], okE (Gh re dr), ()) else
 bif Ey ([] : List (TCT Ai)) s 48 then
  .need (Mo [Lf]) (bif okO (l.length : Int) 0 ⟨l, re, dr, [], [], 0, (l.length : Int)⟩ (s, []) then
   bif okS (Em l re dr ((l.length : Int) - 0).toNat (0 : Int).toNat (s, [])) then .leaf ((O0 (Em l re dr ((l.length : Int) - 0).toNat (0 : Int).toNat (s, []))).1, (O0 (Em l re dr ((l.length : Int) - 0).toNat (0 : Int).toNat (s, []))).2, 0, ()) else .leaf ([], [], 4, ()) else .fail) else .fail
theorem A63 (x : TCTs [.sl A3, .sl Ai, Dz]) : Ch A62 7 (.fn 114) (Co [.sl A3, .sl Ai, Dz] x) Bl 0 (Hn Tryz.prog [.sl Ai, .sl Ea, cI]) = Pz x.1 x.2.1 x.2.2.1.1 x.2.2.1.2.1 := by kernel_rfl
theorem A1z {l : List (TCT A3)} {s : List (TCT Ai)} (h : I4 l s = 0) : l.length ≤ 8 ∧ l.length = s.length ∧ (l.zip s).all Iu = true := by
 unfold I4 at h
 cases h1 : decide ((l.length : Int) > 8) with
 | true => rw [h1] at h; simp at h
 | false =>
  rw [h1, cond_false] at h
  cases h2 : ((l.length : Int) != (s.length : Int)) with
  | true => rw [h2] at h; simp at h
  | false =>
   rw [h2, cond_false] at h
   have k1 := of_decide_eq_false h1
   have k2 : (l.length : Int) = (s.length : Int) := by simpa using h2
   refine ⟨by omega, by omega, ?_⟩
   cases h3 : (l.zip s).all Iu with
   | true => rfl
   | false => rw [h3] at h; simp [okE] at h
theorem A64 (l : List (TCT A3)) (s : List (TCT Ai)) (re dr : Int) : (Pz l s re dr).sat (fun y => y = Bi l s re dr) := by
 unfold Pz Bi
 cases hc : I4 l s != 0 with
 | true => exact Eq.refl _
 | false =>
  have hc' : I4 l s = 0 := by simpa using hc
  obtain ⟨k1, k2, _⟩ := A1z hc'
  unfold okE
  cases hb : Gh re dr with
  | false => exact Eq.refl _
  | true =>
   have ha : Ey ([] : List (TCT Ai)) s 48 = true := by
    rw [Ka]; refine decide_eq_true ?_; simp only [List.length_nil]; omega
   have ho : okO (l.length : Int) 0 ⟨l, re, dr, [], [], 0, (l.length : Int)⟩ (s, []) = true := decide_eq_true ⟨by omega, by omega, rfl, rfl, by show l.length ≤ 1000; omega, k2.symm, by show 0 + ((l.length : Int) - 0).toNat * 1000 ≤ 1000000; omega⟩
   rw [ha, ho, show ((l.length : Int) - 0).toNat = l.length by omega, show (0 : Int).toNat = 0 from rfl]
   refine ⟨F6 _, ?_⟩
   cases okS (Em l re dr l.length 0 (s, [])) <;> exact Eq.refl _
theorem A65 : CtxOk A62 := by
 refine Bw Ab B6k (fns_cons is_Settle (fns_cons is_pairs (fns_cons is_pairs1 A2))) ?_
 intro p hp d hd g hg
 simp only [List.mem_cons, List.not_mem_nil, or_false] at hp
 rcases hp with rfl | rfl | rfl
 ·simp only [Bo] at hg
  rw [show Nat.beq 178 114 = false from rfl, Bool.false_and] at hg
  cases hg
 ·simp only [Bo] at hg
  rw [show Nat.beq 178 152 = false from rfl, Bool.false_and] at hg
  cases hg
 ·have hl : A8 (bodyOf Tryz.f178) = [A5y, Zw] := by kernel_rfl
  simp only at hd hg
  rw [hl] at hd
  simp only [List.mem_cons, List.not_mem_nil, or_false] at hd
  rcases hd with rfl | rfl
  ·have hk : keyOf A5y = 1 := by kernel_rfl
   rw [hk] at hg
   simp [Bo] at hg
   subst hg
   exact B9v
  ·have hk : keyOf Zw = 4 := by kernel_rfl
   rw [hk] at hg
   simp only [Bo] at hg
   rw [show Nat.beq 1 4 = false from rfl, Bool.and_false] at hg
   cases hg
abbrev Q0 : PureT := B4 [.sl A3, .sl Ai, Dz] [.sl Ai, .sl Ea, cI] (fun _ => true) (fun x => ((Bi x.1 x.2.1 x.2.2.1.1 x.2.2.1.2.1).1, (Bi x.1 x.2.1 x.2.2.1.1 x.2.2.1.2.1).2.1, (Bi x.1 x.2.1 x.2.2.1.1 x.2.2.1.2.1).2.2.1, ()))
theorem A66 : A7 Tryz.prog 114 Q0 := B2 A65 7 (fun x => Pz x.1 x.2.1 x.2.2.1.1 x.2.2.1.2.1) (fun x => A63 x) fun _ _ _ => A64 _ _ _ _
end V
end Go.Proofs.YtkiaifmbbnnliaaGreat
