import Derived.Test.YtcfanlgpkefogaaGreatSb
namespace Go.Proofs.YtcfanlgpkefogaaGreat
open Go.RowKit
namespace V
noncomputable def Clx : Bi2 := fun k => bif Nat.beq k 4 then some (Bhm Bm9 Btm Bze) else none
def cmO (g : Bmy.T) : Cm := ⟨g.2.1.1.1, g.2.1.2.1.1, g.2.1.2.1.2.1, g.2.1.2.2.1.1, g.2.1.2.2.2.1.1, g.2.1.2.2.2.2.1.1, g.2.1.2.2.2.2.2.2.2.1.1⟩
def ssO (g : Bmy.T) : SS := (g.2.1.2.2.2.2.2.1.1, g.2.1.2.2.2.2.2.2.1.1)
def C37 (n j : Int) (c : Cm) (s : SS) : Tree (Bmy.T ⊕ Beo Bw3) :=
 bif decide (j < n) then
  .need (Bl6 [Bk5]) (bif okI j (W64 (j + 1)) c s then
   bif okS (inR c.l c.re c.dr j.toNat (c.m - W64 (j + 1)).toNat (W64 (j + 1)).toNat s) then .need (Bl6 [Bk5]) (.leaf (.inl (Og n (W64 (j + 1)) c (Bzc (inR c.l c.re c.dr j.toNat (c.m - W64 (j + 1)).toNat (W64 (j + 1)).toNat s)))))
   else .need (Bl6 [Bx8]) (.leaf (.inr ⟨.ret, Rs 4⟩)) else .fail)
 else .need (Bl6 [Bk5]) (.leaf (.inr ⟨.exit 0, Og n j c s⟩))
theorem D7n (g : Bmy.T) : evC Tryz.prog (Bcv Bz0 7) Bz0.pures 152 Bz0.u Clx C35 (Bmy.of g) (Bhl Bmy Bw3) = C37 g.1.2.2.1 g.1.2.2.2.1 (cmO g) (ssO g) := by kernel_rfl
def okO (n j : Int) (c : Cm) (s : SS) : Bool := decide (0 ≤ j ∧ j ≤ n ∧ n = c.m ∧ c.m = (c.l.length : Int) ∧ c.l.length ≤ 1000 ∧ s.1.length = c.l.length ∧ s.2.length + (n - j).toNat * 1000 ≤ 1000000)
def Ct8 (n j : Int) (c : Cm) (s : SS) : Tree (Beo Bw3) :=
 .br (okO n j c s) (.br (okS (Bfq c.l c.re c.dr (n - j).toNat j.toNat s)) (.leaf ⟨.exit 0, Og n n c (Bzc (Bfq c.l c.re c.dr (n - j).toNat j.toNat s))⟩) (.leaf ⟨.ret, Rs 4⟩)) .fail
def C7a (g : Bmy.T) : Tree (Beo Bw3) := Ct8 g.1.2.2.1 g.1.2.2.2.1 (cmO g) (ssO g)
theorem Biv (l : List (TCT No)) (re dr : Int) (i : Nat) (s : SS) : Bfq l re dr 0 i s = some s := rfl
theorem Bh3 (l : List (TCT No)) (re dr : Int) (f i : Nat) (s : SS) : Bfq l re dr (f + 1) i s = (inR l re dr i (l.length - (i + 1)) (i + 1) s).bind fun s' => Bfq l re dr f (i + 1) s' := rfl
theorem Ct9 {step : Bmy.T → Tree (Bmy.T ⊕ Beo Bw3)} (hs : ∀ n j c s, step (Og n j c s) = C37 n j c s) (R : Beo Bw3 → Prop) (n : Int) (c : Cm) (hn : n = c.m) (hm : c.m = (c.l.length : Int)) (hl : c.l.length ≤ 1000) (f : Nat) :
  ∀ (j : Int) (s : SS), 0 ≤ j → n - j = f → s.1.length = c.l.length → s.2.length + f * 1000 ≤ 1000000 → (okS (Bfq c.l c.re c.dr f j.toNat s) = true → R ⟨.exit 0, Og n n c (Bzc (Bfq c.l c.re c.dr f j.toNat s))⟩) →
   (okS (Bfq c.l c.re c.dr f j.toNat s) = false → R ⟨.ret, Rs 4⟩) → C4c Bmy Bw3 step R (f + 1) (Og n j c s) := by
 induction f with
 | zero =>
  intro j s _ hk _ _ h1 _
  have e : j = n := by omega
  subst e
  intro _
  rw [hs]
  unfold C37
  rw [decide_eq_false (show ¬ j < j by omega)]
  exact ⟨Ben _, fun _ => h1 rfl⟩
 | succ f ih =>
  intro j s hj hk hsl hsh h1 h2
  intro _
  rw [hs]
  unfold C37
  rw [Bh3] at h1 h2
  have hjt : (j + 1).toNat = j.toNat + 1 := by omega
  have hmk : (c.m - (j + 1)).toNat = c.l.length - (j.toNat + 1) := by omega
  have hok : okI j (j + 1) c s = true := decide_eq_true ⟨hj, by omega, by omega, by omega, hm, hl, hsl, by omega⟩
  rw [show W64 (j + 1) = j + 1 from Bag (by omega) (by omega), decide_eq_true (show j < n by omega), hok, hjt, hmk]
  refine ⟨Ben _, ?_⟩
  cases he : inR c.l c.re c.dr j.toNat (c.l.length - (j.toNat + 1)) (j.toNat + 1) s with
  | none =>
   rw [he] at h2
   exact ⟨Ben _, fun _ => h2 rfl⟩
  | some s' =>
   rw [he, Option.bind_some] at h1 h2
   have hlen := Cb1 _ _ _ _ he
   refine ⟨Ben _, ih (j + 1) s' (by omega) (by omega) (hlen.1.trans hsl) (by omega) ?_ ?_⟩
   ·rw [hjt]; exact h1
   ·rw [hjt]; exact h2
theorem D7o : Baz Tryz.prog 152 C35 (Bhm Bmy Bw3 C7a) := by
 refine Bv0 puSe_ok 7 152 Clx ?_ Bmy Bw3 (fun e => by cases e <;> first | exact Nat.le_refl _ | exact (show 900 ≤ 1000 by omega)) C7a (fun g => C37 g.1.2.2.1 g.1.2.2.2.1 (cmO g) (ssO g)) D7n ?_
 ·intro d hd f hf
  have hl : Bak C35 = [Bx9] := by kernel_rfl
  rw [hl, List.mem_singleton] at hd
  subst hd
  have hk : keyOf Bx9 = 4 := by kernel_rfl
  rw [hk] at hf
  have : Clx 4 = some (Bhm Bm9 Btm Bze) := rfl
  rw [this, Option.some.injEq] at hf
  subst hf
  exact D7m
 intro g R _ hf
 obtain ⟨hf, h0⟩ := hf
 cases hc : okO g.1.2.2.1 g.1.2.2.2.1 (cmO g) (ssO g) with
 | false => exact (h0 hc).elim
 | true =>
  obtain ⟨h1, h2⟩ := hf hc
  obtain ⟨k1, k2, k3, k4, k5, k6, k7⟩ := of_decide_eq_true hc
  exact ⟨_, Ct9 (fun _ _ _ _ => rfl) R g.1.2.2.1 (cmO g) k3 k4 k5 (g.1.2.2.1 - g.1.2.2.2.1).toNat g.1.2.2.2.1 (ssO g) k1 (Int.toNat_of_nonneg (Int.sub_nonneg.2 k2)).symm k6 k7 h1 h2⟩
theorem is_Settle : FnIs Tryz.prog (99, Tryz.f99) := ⟨Tryz.func99, by kernel_rfl, by kernel_rfl⟩
theorem is_pairs : FnIs Tryz.prog (135, Tryz.f135) := ⟨Tryz.func135, by kernel_rfl, by kernel_rfl⟩
theorem is_pairs1 : FnIs Tryz.prog (152, Tryz.f152) := ⟨Tryz.func152, by kernel_rfl, by kernel_rfl⟩
abbrev Cta := TCTs [.sl Bau, .sl Bfj, cI]
def Bbr (l : List (TCT No)) (s : List (TCT Bau)) (re dr : Int) : Cta :=
 bif Bjf l s != 0 then ([], [], Bjf l s, ()) else bif !Bfi re dr then ([], [], 2, ()) else
 bif okS (Bfq l re dr l.length 0 (s, [])) then ((Bzc (Bfq l re dr l.length 0 (s, []))).1, (Bzc (Bfq l re dr l.length 0 (s, []))).2, 0, ()) else ([], [], 4, ())
def plSet : List (Nat × PureT) := (134, C32) :: (126, Bdr) :: plBn
theorem puSet : Bc7 Tryz.prog plSet := puOk_cons is_lcheck.plain Clu (puOk_cons is_CheckBounce.plain Bik puBn)
noncomputable def C38 : Ctx := Bgo Tryz.prog plSet [(99, Tryz.f99), (135, Tryz.f135), (152, Tryz.f152)] [((152, 1), Bhm Bmy Bw3 C7a)]
def Bo9 (l : List (TCT No)) (s : List (TCT Bau)) (re dr : Int) : Tree Cta :=
 bif Bjf l s != 0 then .leaf ([], [], Bjf l s, ()) else bif okE (Bfi re dr) != 0 then .leaf ([], [], okE (Bfi re dr), ()) else
 bif Bd8 ([] : List (TCT Bau)) s 48 then
  .need (Bl6 [Bk5]) (bif okO (l.length : Int) 0 ⟨l, re, dr, [], [], 0, (l.length : Int)⟩ (s, []) then
   bif okS (Bfq l re dr ((l.length : Int) - 0).toNat (0 : Int).toNat (s, [])) then .leaf ((Bzc (Bfq l re dr ((l.length : Int) - 0).toNat (0 : Int).toNat (s, []))).1, (Bzc (Bfq l re dr ((l.length : Int) - 0).toNat (0 : Int).toNat (s, []))).2, 0, ()) else .leaf ([], [], 4, ()) else .fail) else .fail
theorem C39 (x : TCTs [.sl No, .sl Bau, Bbw]) : Bcv C38 7 (.fn 99) (Bde [.sl No, .sl Bau, Bbw] x) Bbv 0 (Bgq Tryz.prog [.sl Bau, .sl Bfj, cI]) = Bo9 x.1 x.2.1 x.2.2.1.1 x.2.2.1.2.1 := by kernel_rfl
theorem C7b {l : List (TCT No)} {s : List (TCT Bau)} (h : Bjf l s = 0) : l.length ≤ 8 ∧ l.length = s.length ∧ (l.zip s).all Bmx = true := by
 unfold Bjf at h
 cases h1 : decide ((l.length : Int) > 8) with
 | true => rw [h1] at h; simp at h
 | false =>
  rw [h1, cond_false] at h
  cases h2 : ((l.length : Int) != (s.length : Int)) with
  | true => rw [h2] at h; simp at h
  | false =>
   rw [h2, cond_false] at h
   have k1 := of_decide_eq_false h1
   have k2 : (l.length : Int) = (s.length : Int) := by simpa using h2
   refine ⟨by omega, by omega, ?_⟩
   cases h3 : (l.zip s).all Bmx with
   | true => rfl
   | false => rw [h3] at h; simp [okE] at h
theorem C3a (l : List (TCT No)) (s : List (TCT Bau)) (re dr : Int) : (Bo9 l s re dr).sat (fun y => y = Bbr l s re dr) := by
 unfold Bo9 Bbr
 cases hc : Bjf l s != 0 with
 | true => exact Eq.refl _
 | false =>
  have hc' : Bjf l s = 0 := by simpa using hc
  obtain ⟨k1, k2, _⟩ := C7b hc'
  unfold okE
  cases hb : Bfi re dr with
  | false => exact Eq.refl _
  | true =>
   have ha : Bd8 ([] : List (TCT Bau)) s 48 = true := by
    rw [Be0]; refine decide_eq_true ?_; simp only [List.length_nil]; omega
   have ho : okO (l.length : Int) 0 ⟨l, re, dr, [], [], 0, (l.length : Int)⟩ (s, []) = true := decide_eq_true ⟨by omega, by omega, rfl, rfl, by show l.length ≤ 1000; omega, k2.symm, by show 0 + ((l.length : Int) - 0).toNat * 1000 ≤ 1000000; omega⟩
   rw [ha, ho, show ((l.length : Int) - 0).toNat = l.length by omega, show (0 : Int).toNat = 0 from rfl]
   refine ⟨Ben _, ?_⟩
   cases okS (Bfq l re dr l.length 0 (s, [])) <;> exact Eq.refl _
theorem C3b : CtxOk C38 := by
 refine Bc8 Ban puSet (fns_cons is_Settle (fns_cons is_pairs (fns_cons is_pairs1 Fq))) ?_
 intro p hp d hd g hg
 simp only [List.mem_cons, List.not_mem_nil, or_false] at hp
 rcases hp with rfl | rfl | rfl
 ·simp only [Bbx] at hg
  rw [show Nat.beq 152 99 = false from rfl, Bool.false_and] at hg
  cases hg
 ·simp only [Bbx] at hg
  rw [show Nat.beq 152 135 = false from rfl, Bool.false_and] at hg
  cases hg
 ·have hl : Bak (bodyOf Tryz.f152) = [C35, Bx9] := by kernel_rfl
  simp only at hd hg
  rw [hl] at hd
  simp only [List.mem_cons, List.not_mem_nil, or_false] at hd
  rcases hd with rfl | rfl
  ·have hk : keyOf C35 = 1 := by kernel_rfl
   rw [hk] at hg
   simp [Bbx] at hg
   subst hg
   exact D7o
  ·have hk : keyOf Bx9 = 4 := by kernel_rfl
   rw [hk] at hg
   simp only [Bbx] at hg
   rw [show Nat.beq 1 4 = false from rfl, Bool.and_false] at hg
   cases hg
abbrev C3c : PureT := Bbb [.sl No, .sl Bau, Bbw] [.sl Bau, .sl Bfj, cI] (fun _ => true) (fun x => ((Bbr x.1 x.2.1 x.2.2.1.1 x.2.2.1.2.1).1, (Bbr x.1 x.2.1 x.2.2.1.1 x.2.2.1.2.1).2.1, (Bbr x.1 x.2.1 x.2.2.1.1 x.2.2.1.2.1).2.2.1, ()))
theorem Cly : Bai Tryz.prog 99 C3c := Bbd C3b 7 (fun x => Bo9 x.1 x.2.1 x.2.2.1.1 x.2.2.1.2.1) (fun x => C39 x) fun _ _ _ => C3a _ _ _ _
end V
end Go.Proofs.YtcfanlgpkefogaaGreat
