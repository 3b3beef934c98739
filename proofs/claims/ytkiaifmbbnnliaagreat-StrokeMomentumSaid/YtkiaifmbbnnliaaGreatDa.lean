import Derived.Test.YtkiaifmbbnnliaaGreatCA
namespace Go.Proofs.YtkiaifmbbnnliaaGreat
open Go.RowKit
namespace V
namespace St
theorem is_bs : FnIs Tryz.prog (27, Tryz.f27) := ⟨Tryz.func27, by kernel_rfl, by kernel_rfl⟩
theorem is_bt : FnIs Tryz.prog (20, Tryz.f20) := ⟨Tryz.func20, by kernel_rfl, by kernel_rfl⟩
theorem is_bu : FnIs Tryz.prog (119, Tryz.f119) := ⟨Tryz.func119, by kernel_rfl, by kernel_rfl⟩
abbrev B07 : List (Nat × PureT) := (74, Zg) :: (71, Pr) :: (72, A2r) :: (126, A2n) :: (127, A2p) :: (120, Q0) :: (125, Pp) :: Arw
theorem B5i : Bu Tryz.prog B07 := A0 is_aV.plain Aww (A0 is_aS.plain Af0 (A0 is_rSlow.plain Avf (A0 is_rStep.plain Avd (A0 is_rBump.plain Ave (A0 is_rSettle.plain Afr (A0 is_aO.plain Aje Ayz))))))
noncomputable def B9d : Ctx := ctx Tryz.prog B07 [(119, Tryz.f119)]
theorem At6 : CtxOk B9d := Ad Ab B5i (fns_cons is_bu A2)
abbrev bsR : List BK := [(4, 34, kGr), (5, 38, kSo), (6, 38, kSo)]
abbrev kKn : SK := .o 57 cKn
def B9e (i nx : Nat) : Lay := { keys := [2, 3, 4, 8, 10, 11, i], ks := [.p 4 0 0 0, .p 5 0 0 0, .p 6 0 0 0, .d (.sl Al), kKn, .d cI, .d cI], bs := bsR, n := 233, nx := nx, marks := [] }
structure RT where
 g : SKTs kGr
 z : SKTs kSt
 w : Int
 fl : Int
 t : Int
 ps : Dss
 st : Int
def bR (c : RT) (s : S2) : SKTs kGr × SKTs kSo × SKTs kSt × Unit := (c.g, (s.1, s.2.1, c.w, c.fl, c.t, ()), c.z, ())
def rs (i nx : Nat) (g : (B9e i nx).T) : S2 := (g.2.2.1.1, g.2.2.1.2.1, g.1.2.2.2.2.1)
def nB (c : RT) : Nat := (blX c.g).length
def A1n (m : TCT Ai) : Bool := m.2.1.1 == 0 && (m.2.1.2.1 == 0 && true)
def cQ (g : SKTs kGr) (z : SKTs kSt) (w fl t : Int) : RT := ⟨g, z, w, fl, t, [], 0⟩
noncomputable def Ax7 : Code := (A8 (bodyOf Tryz.f27)).getD 0 .skip
abbrev B5j : List BK := [(5, 38, kSo), (6, 38, kSo)]
abbrev B9f : List BK := (4, 34, kGr) :: B5j
def A59 : Lay := { keys := [2, 3, 4, 6], ks := [.p 4 0 0 0, .p 5 0 0 0, .p 6 0 0 0, .d cI], bs := B9f, n := 90, nx := 3000, marks := [] }
def B9g : Lay := { keys := [3, 4], ks := [.p 5 0 0 0, .p 6 0 0 0], bs := B5j, n := 90, nx := 3000, marks := [] }
def B5k : Lay := { keys := [4, 5], ks := [.p 6 0 0 0, .d cI], bs := [(6, 38, kSo)], n := 90, nx := 3000, marks := [] }
def Yc : XE → Lay := fun e => match e with | .ret => B5k | _ => B9g
theorem At7 (e : XE) : A59.nx ≤ (Yc e).nx := by cases e <;> exact Nat.le_refl _
def Sn (c : RT) (os : List Bool) (i : Int) (ms : Ae) : A59.T := (((), (), (), i, ()), bR c (ms, os, []))
def Ax8 (c : RT) (os : List Bool) (ms : Ae) : A1 Yc := ⟨.exit 0, (((), (), ()), ((ms, os, c.w, c.fl, c.t, ()), c.z, ()))⟩
def Ax9 : A1 Yc := ⟨.ret, (((), 4, ()), (r0, ()))⟩
abbrev TRw := Tree (A59.T ⊕ A1 Yc)
def szX {β : Type} (g : SKTs kGr) (k : Tree β) : Tree β := bif decide ((g.1.size : Int) ≤ As .i64) then k else .fail
def Alq (c : RT) (os : List Bool) (i : Int) (ms : Ae) : TRw := szX c.g (bif (Ln (lwG c.g) (Ag ms (Int.toNat i))).2.1 != 0 then .leaf (.inr Ax9) else inO ms.length i (.leaf (.inl (Sn c os (W64 (i + 1)) (B1 ms (Int.toNat i) (A92 (lwG c.g) (Ag ms (Int.toNat i))))))))
def Vg (c : RT) (os : List Bool) (i : Int) (ms : Ae) : TRw := bif decide (i < (nB c : Int)) then inO ms.length i (inO os.length i (bif Aq os (Int.toNat i) (Ao .b) then .leaf (.inl (Sn c os (W64 (i + 1)) ms)) else
 bif A1n (Ag ms (Int.toNat i)) then .leaf (.inl (Sn c os (W64 (i + 1)) ms)) else bif i == c.w then bif decide (c.fl > 0) then .leaf (.inl (Sn c os (W64 (i + 1)) ms)) else Alq c os i ms else Alq c os i ms)) else .leaf (.inr (Ax8 c os ms))
def A5a (g : A59.T) : TRw := Vg (cQ g.2.1 g.2.2.2.1 g.2.2.1.2.2.1 g.2.2.1.2.2.2.1 g.2.2.1.2.2.2.2.1) g.2.2.1.2.1 g.1.2.2.2.1 g.2.2.1.1
def Alr (g : A59.T) : Nat := (blX g.2.1).length + 1
theorem B9h : Aj Tryz.prog 27 Ax7 (Ac A59 Yc (C3 [.ret, .exit 0] A5a Alr)) := Ay At6 7 _ A59 Yc At7 [.ret, .exit 0] A5a Alr (fun g => by kernel_rfl)
def srE (l : TCT An) (os : List Bool) (w fl : Int) (i : Nat) (ms : Ae) : Ae ⊕ Int :=
 bif !C2 ms os i || Eg w fl i then .inl ms else bif (Ln l (Ag ms i)).2.1 != 0 then .inr 4 else .inl (B1 ms i (A92 l (Ag ms i)))
def Vh (c : RT) (os : List Bool) : Ae ⊕ Int → A1 Yc
 | .inl ms => Ax8 c os ms
 | .inr _ => Ax9
theorem B08 {l : TCT An} {os : List Bool} {w fl : Int} {n : Nat} (i : Nat) (s s' : Ae) (_ : i < n) (hi : s.length = n) (h : srE l os w fl i s = .inl s') : s'.length = n := by
 unfold srE at h
 cases h1 : !C2 s os i || Eg w fl i with
 | true => rw [h1] at h; cases h; exact hi
 | false =>
  rw [h1] at h
  cases h3 : (Ln l (Ag s i)).2.1 != 0 with
  | true => rw [h3] at h; cases h
  | false => rw [h3] at h; cases h; rw [Be]; exact hi
theorem B5l {c : RT} {os : List Bool} {ms : Ae} (hsz : (c.g.1.size : Int) ≤ As .i64) (hn8 : nB c ≤ 8) (hm : ms.length = nB c) (ho : os.length = nB c) : iter A5a (nB c + 1) (Sn c os 0 ms) = some (Vh c os (Ar (srE (lwG c.g) os c.w c.fl) 0 (nB c) ms)) := by
 have hn : (nB c : Int) ≤ As .i64 := by show (nB c : Int) ≤ 9223372036854775807; omega
 refine G8 (nB c) (fun i s => Sn c os i s) (srE (lwG c.g) os c.w c.fl) (Vh c os) (fun _ s => s.length = nB c) (fun i s hi hl => ?_) B08 (fun s hl => ?_) (nB c) 0 ms (by omega) hm
 ·show (Vg c os i s).run = _
  unfold Vg Alq srE C2 Eg szX
  rw [decide_eq_true (show (i : Int) < (nB c : Int) by omega), E3 (by omega), E3 (by omega), E3 (by omega), decide_eq_true hsz, show Int.toNat (i : Int) = i from rfl, Cj hi hn]
  show Tree.run (bif Aq os i (Ao .b) then _ else bif A1n (Ag s i) then _ else _ : TRw) = some (Awx (fun i s => Sn c os (i : Nat) s) (Vh c os) i (bif !(!Aq os i (Ao .b) && !A1n (Ag s i)) || _ then .inl s else _))
  cases Aq os i (Ao .b) with
  | true => rfl
  | false =>
   cases A1n (Ag s i) with
   | true => rfl
   | false =>
    simp only [Bool.not_false, Bool.and_self, Bool.not_true, cond_false, Bool.false_or, cond_true]
    cases (i : Int) == c.w with
    | false =>
     simp only [Bool.false_and, cond_false]
     cases (Ln (lwG c.g) (Ag s i)).2.1 != 0 <;> rfl
    | true =>
     simp only [Bool.true_and, cond_true]
     cases decide (c.fl > 0) with
     | true => rfl
     | false =>
      simp only [cond_false]
      cases (Ln (lwG c.g) (Ag s i)).2.1 != 0 <;> rfl
 ·show (Vg c os (nB c) s).run = _
  unfold Vg
  rw [decide_eq_false (show ¬ (nB c : Int) < (nB c : Int) by omega)]
  rfl
end St
def B09 {E : Bool → FLay} {A : Type} (y : Option (A ⊕ Int)) (er : Int → (E true).T) : List Int → Tree (Bx E)
 | [] => .fail
 | e :: es => .br (isR y && gR 0 y == e) (.leaf ⟨true, er e⟩) (B09 y er es)
theorem A5b {E : Bool → FLay} {A : Type} {y : Option (A ⊕ Int)} {er : Int → (E true).T} {R : Bx E → Prop} : ∀ {es : List Int}, (B09 y er es).sat R → ∃ e, y = some (.inr e) ∧ R ⟨true, er e⟩
 | [], h => h.elim
 | e :: es, h => by
  obtain ⟨h1, h2⟩ := h
  cases hb : isR y && gR 0 y == e with
  | false => exact A5b (h2 hb)
  | true =>
   rw [Bool.and_eq_true] at hb
   cases hy : y with
   | none => rw [hy] at hb; exact absurd hb.1 (by simp [isR])
   | some z =>
    cases z with
    | inl a => rw [hy] at hb; exact absurd hb.1 (by simp [isR])
    | inr x =>
     rw [hy] at hb
     have : x = e := beq_iff_eq.1 hb.2
     subst this
     refine ⟨x, rfl, h1 ?_⟩
     rw [hy, Bool.and_eq_true]
     exact hb
def Als {L : FLay} {E : Bool → FLay} {A : Type} (Y : L.T → Option (A ⊕ Int)) (mk : L.T → A → ((E true).T → Tree (Bx E)) → Tree (Bx E)) (er : Int → (E true).T) (es : List Int) (d : A) (g : L.T) : Tree (Bx E) :=
 .br (isL (Y g)) (mk g (gL d (Y g)) fun y => .leaf ⟨true, y⟩) (B09 (Y g) er es)
def B0a {L : FLay} {E : Bool → FLay} {A : Type} (mk0 : L.T → A → (E true).T) (er : Int → (E true).T) (g : L.T) : A ⊕ Int → Bx E
 | .inl a => ⟨true, mk0 g a⟩
 | .inr e => ⟨true, er e⟩
theorem At8 {X : Ctx} (hX : CtxOk X) {f : FuncId} (m : Nat) {probe : Aa → List AV → Option (List Nat)} {L : FLay} {E : Bool → FLay} (hE : ∀ b, L.nx ≤ (E b).nx) {A : Type} (Y : L.T → Option (A ⊕ Int)) (mk : L.T → A → ((E true).T → Tree (Bx E)) → Tree (Bx E)) (mk0 : L.T → A → (E true).T) (hmk : ∀ g a k, mk g a k = k (mk0 g a)) (er : Int → (E true).T) (es : List Int) (d : A) (T : L.T → Tree (Bx E))
  (he : ∀ g, Kv X (Ch X m) f (ofKs L.ks g.1 L.nx) (L.lay.hp g) (L.lay.of g).nx (Qz E) = T g)
  (h : ∀ g z, L.lay.WF g → Y g = some z → (T g).run = some (B0a mk0 er g z)) : Bb X.P f (Hy probe L E (Als Y mk er es d)) :=
 Xf hX m hE fun g R hw hf => by
  rw [he]
  unfold Als at hf
  obtain ⟨h1, h2⟩ := hf
  cases hl : isL (Y g) with
  | true =>
   cases hY : Y g with
   | none => rw [hY] at hl; cases hl
   | some z =>
    cases z with
    | inr e => rw [hY] at hl; cases hl
    | inl a =>
     have h1' := h1 hl
     rw [hY, hmk] at h1'
     exact Kk (Tree.sat_run (h g _ hw hY) h1') fun x hx _ => hx
  | false =>
   obtain ⟨e, hY, hr⟩ := A5b (h2 hl)
   exact Kk (Tree.sat_run (h g _ hw hY) hr) fun x hx _ => hx
def thL {A β : Type} (y : Option (A ⊕ Int)) (d : A) (pn : Int → Tree β) (k : A → Tree β) : List Int → Tree β
 | es => bif isL y then k (gL d y) else (es.foldr (fun e t => bif isR y && gR 0 y == e then pn e else t) .fail)
theorem B5m {A β : Type} {y : Option (A ⊕ Int)} {d a : A} {pn : Int → Tree β} {k : A → Tree β} {es : List Int} (h : y = some (.inl a)) : thL y d pn k es = k a := by rw [h]; rfl
namespace St
def cS (g : TCT cGr) (w fl t : Int) : RT := cQ (Ee g) r0 w fl t
def Io : FLay := { ks := [.d cGr, .d cSt], bs := [], nx := 4 }
def B5n : FLay := { ks := [.ag kSo, .d cI], bs := [], nx := 1000 }
def O6 (b : Bool) : FLay := bif b then B5n else FN
theorem Alt (b : Bool) : 4 ≤ (O6 b).nx := by cases b <;> exact (by decide : (4 : Nat) ≤ 1000)
def B0b (_ : Aa) (_ : List AV) : Option (List Nat) := some []
def erW (e : Int) : (O6 true).T := ((([], [], 0, 0, 0, ()), e, ()), ())
abbrev TRW := Tree (Bx O6)
def B5o (y : Option (A1 Yc)) : TRW := bif isE .ret y then .leaf ⟨true, (((C0 .ret y).2.1, (C0 .ret y).1.2.1, ()), ())⟩ else bif isE (.exit 0) y then .leaf ⟨true, (((C0 (.exit 0) y).2.1, 0, ()), ())⟩ else .fail
def B5p (g : TCT cGr) (s : TCT cSt) : Option (A1 Yc) := iter A5a ((A4 g).length + 1) (Sn (cS g s.2.2.1 s.2.2.2.1 s.2.2.2.2.1) ([] ++ osT s) 0 ([] ++ msT s))
def At9 (g : TCT cGr) (s : TCT cSt) : TRW := acT (msT s) 48 (acT (osT s) 1 (B5o (B5p g s)))
def Alu (g : TCT cGr) (s : TCT cSt) : Bool := decide ((g.1.1.size : Int) ≤ As .i64) && (decide ((msT s).length = (A4 g).length) && (decide ((osT s).length = (A4 g).length) && decide ((A4 g).length ≤ 8)))
def Nz (x : Io.T) : Option (Ae ⊕ Int) := bif Alu x.1.1 x.1.2.1 then some (Ar (srE x.1.1.1 (osT x.1.2.1) x.1.2.1.2.2.1 x.1.2.1.2.2.2.1) 0 (A4 x.1.1).length (msT x.1.2.1)) else none
def Alv (x : Io.T) (a : Ae) (k : (O6 true).T → TRW) : TRW := match x.1.2.1 with
 | (_, os, w, fl, t, _) => k (((a, os, w, fl, t, ()), 0, ()), ())
def A1o (x : Io.T) (a : Ae) : (O6 true).T := (((a, x.1.2.1.2), 0, ()), ())
theorem Alw (x : Io.T) (a : Ae) (k : (O6 true).T → TRW) : Alv x a k = k (A1o x a) := rfl
noncomputable def Alx : Ctx := S7 Tryz.prog B07 [(27, Tryz.f27), (20, Tryz.f20)] [((27, 3), Ac A59 Yc (C3 [.ret, .exit 0] A5a Alr))] []
theorem Aly : CtxOk Alx := Fj Ab B5i (fns_cons is_bs (fns_cons is_bt A2)) (E4 (Lx (ds := [Ax7]) (by kernel_rfl) ⟨I0 (k := 3) (by kernel_rfl) rfl B9h, trivial⟩) (E4 (Om (by kernel_rfl)) Ia)) (fun p hp => nomatch hp)
theorem B9i (x : Io.T) : Kv Alx (Ch Alx 6) 27 (ofKs Io.ks x.1 Io.nx) (Io.lay.hp x) (Io.lay.of x).nx (Qz O6) = At9 x.1.1 x.1.2.1 := by kernel_rfl
theorem Ata {l : TCT An} {os : List Bool} {w fl : Int} {i : Nat} {ms : Ae} {e : Int} (h : srE l os w fl i ms = .inr e) : e = 4 := by
 unfold srE at h
 cases h1 : !C2 ms os i || Eg w fl i with
 | true => rw [h1] at h; cases h
 | false =>
  rw [h1] at h
  cases h3 : (Ln l (Ag ms i)).2.1 != 0 with
  | true => rw [h3] at h; cases h; rfl
  | false => rw [h3] at h; cases h
theorem B0c {x : Io.T} {z : Ae ⊕ Int} (h : Nz x = some z) : (At9 x.1.1 x.1.2.1).run = some (B0a (L := Io) (E := O6) A1o erW x z) := by
 obtain ⟨⟨g, s, ⟨⟩⟩, ⟨⟩⟩ := x
 obtain ⟨ms, os, w, fl, t, ⟨⟩⟩ := s
 unfold Nz at h
 simp only at h
 cases ho : Alu g (ms, os, w, fl, t, ()) with
 | false => rw [ho] at h; cases h
 | true =>
  rw [ho] at h
  cases h
  unfold Alu at ho
  simp only [Bool.and_eq_true, decide_eq_true_eq] at ho
  obtain ⟨hsz, hm, hos, hn8⟩ := ho
  have hm' : (ms : Ae).length = (A4 g).length := hm
  have hos' : (os : List Bool).length = (A4 g).length := hos
  unfold At9
  rw [Ot (l := msT (ms, os, w, fl, t, ())) (by rw [hm]; omega) (by decide), Ot (l := osT (ms, os, w, fl, t, ())) (by rw [hos]; omega) (by decide)]
  rw [show B5p g (ms, os, w, fl, t, ()) = some (Vh (cS g w fl t) os (Ar (srE g.1 os w fl) 0 (A4 g).length ms)) from B5l (c := cS g w fl t) (os := os) (ms := ms) hsz hn8 hm' hos']
  show (B5o (some (Vh (cS g w fl t) os (Ar (srE g.1 os w fl) 0 (A4 g).length ms)))).run = some (B0a (L := Io) (E := O6) A1o erW _ (Ar (srE g.1 os w fl) 0 (A4 g).length ms))
  cases hf : Ar (srE g.1 os w fl) 0 (A4 g).length ms with
  | inl a => rfl
  | inr e =>
   obtain ⟨j, u, hj⟩ := Fx _ _ _ _ hf
   rw [Ata hj]
   rfl
abbrev B5q (Y : Io.T → Option (Ae ⊕ Int)) : SPf := Hy B0b Io O6 (Als Y Alv erW [4] [])
theorem B5r : Bb Tryz.prog 27 (B5q Nz) := At8 Aly 6 Alt Nz Alv A1o Alw erW [4] _ (fun x => At9 x.1.1 x.1.2.1) B9i fun _ _ _ h => B0c h
def B5s : FLay := { ks := [.ag kSo, kKn, .d cI], bs := [], nx := 1000 }
def Alz (b : Bool) : FLay := bif b then B5s else FN
def erT (e : Int) : (Alz true).T := ((([], [], 0, 0, 0, ()), [], e, ()), ())
end St
theorem So {S B : Type} {f g : Nat → S → S ⊕ B} {Inv : Nat → S → Prop} {n : Nat} (h1 : ∀ i s, i < n → Inv i s → f i s = g i s) (h2 : ∀ i s s', i < n → Inv i s → f i s = .inl s' → Inv (i + 1) s') : ∀ (k i : Nat) (s : S), i + k = n → Inv i s → Ar f i k s = Ar g i k s
 | 0, _, _, _, _ => rfl
 | k + 1, i, s, hk, hi => by
  unfold Ar
  rw [← h1 i s (by omega) hi]
  cases hf : f i s with
  | inl s' => exact So h1 h2 k (i + 1) s' (by omega) (h2 i s s' (by omega) hi hf)
  | inr b => rfl
theorem Zo {α : Type} {d : α} : ∀ (l : List α) (i j : Nat) (x : α), i < l.length → Aq (B1 l i x) j d = if j = i then x else Aq l j d
 | [], i, _, _, h => absurd h (Nat.not_lt_zero i)
 | _ :: l, 0, 0, x, _ => rfl
 | _ :: l, 0, j + 1, x, _ => rfl
 | _ :: l, i + 1, 0, x, _ => by rw [if_neg (by omega)]; rfl
 | _ :: l, i + 1, j + 1, x, h => by
  show Aq (B1 l i x) j d = _
  rw [Zo l i j x (by simpa using h)]
  by_cases e : j = i
  ·rw [if_pos e, if_pos (by omega)]
  ·rw [if_neg e, if_neg (by omega)]; rfl
namespace St
theorem A5c {α : Type} {ok : Nat → α → Bool} {d : α} : ∀ (l : List α) (i : Nat), Gm ok i l = true → ∀ j, j < l.length → ok (i + j) (Aq l j d) = true
 | [], _, _, j, hj => absurd hj (Nat.not_lt_zero j)
 | x :: l, i, h, j, hj => by
  simp only [Gm, Bool.and_eq_true] at h
  cases j with
  | zero => exact h.1
  | succ j =>
   have := A5c (d := d) l (i + 1) h.2 j (by simpa using hj)
   rw [show i + (j + 1) = i + 1 + j by omega]
   exact this
theorem B0d {x y w g : Int} (hx : 0 ≤ x) (hy : 0 ≤ y) (hxw : x ≤ w) (hyg : y ≤ g) (hw : w ≤ 4194304) (hg : g ≤ 4194304) : fpt x y = true := by
 unfold fpt
 exact decide_eq_true ⟨by omega, by omega, by omega, by omega⟩
theorem B0e {l : TCT An} {p : TCT cPt} (hl : C8 l = 0) (h : onB l p = true) : G7 l p = 0 := by
 have a := Ajh hl
 have hw := a.w
 have hg := a.lg
 unfold G7 Pq
 unfold onB inR at h
 simp only [Bool.and_eq_true, decide_eq_true_eq] at h
 rw [hl, B0d h.1.1 h.2.1 h.1.2 h.2.2 hw.2 hg.2]
 show (bif onB l p then 0 else 5 : Int) = 0
 rw [show onB l p = true by unfold onB inR; simp only [Bool.and_eq_true, decide_eq_true_eq]; exact h]
 rfl
def onA (l : TCT An) (os : List Bool) (n : Nat) (ms : Ae) : Prop := ms.length = n ∧ ∀ j, j < n → Aq os j (Ao .b) = false → G7 l (Ag ms j).1 = 0
theorem Am0 {l : TCT An} {os : List Bool} {w fl : Int} {n i : Nat} {s s' : Ae} (hi : i < n) (h : onA l os n s) (h2 : slE l os w fl i s = .inl s') : onA l os n s' := by
 unfold slE at h2
 cases h3 : !C2 s os i || Eg w fl i with
 | true => rw [h3] at h2; cases h2; exact h
 | false =>
  rw [h3] at h2
  simp only [cond_false] at h2
  cases h4 : G7 l (Ag s i).1 != 0 with
  | true => rw [h4] at h2; cases h2
  | false =>
   rw [h4] at h2
   simp only [cond_false] at h2
   cases h5 : (Ln l (Ag s i)).2.1 != 0 with
   | true => rw [h5] at h2; cases h2
   | false =>
    rw [h5] at h2
    cases h2
    refine ⟨by rw [Be]; exact h.1, fun j hj ho => ?_⟩
    unfold Ag
    rw [Zo s i j _ (by rw [h.1]; exact hi)]
    by_cases e : j = i
    ·rw [if_pos e]
     subst e
     exact h.2 j hj ho
    ·rw [if_neg e]; exact h.2 j hj ho
theorem B5t {l : TCT An} {os : List Bool} {w fl : Int} {n : Nat} {ms : Ae} (h : onA l os n ms) : Ar (slE l os w fl) 0 n ms = Ar (srE l os w fl) 0 n ms := by
 refine So (n := n) (Inv := fun _ s => onA l os n s) (fun i s hi hl => ?_) (fun i s s' hi hl h2 => Am0 hi hl h2) n 0 ms (by omega) h
 unfold slE srE
 cases h3 : !C2 s os i || Eg w fl i with
 | true => rfl
 | false =>
  have ho : Aq os i (Ao .b) = false := by
   rw [Bool.or_eq_false_iff] at h3
   have := h3.1
   unfold C2 at this
   cases hg : Aq os i (Ao .b) with
   | false => rfl
   | true => rw [hg] at this; cases this
  rw [hl.2 i hi ho]
  rfl
theorem Atb {g : TCT cGr} {s : TCT cSt} (h : StaOk g s) : C8 g.1 = 0 := by
 have k := h.gr
 unfold groE at k
 cases h1 : C8 g.1 != 0 with
 | true => rw [h1, cond_true] at k; exact k
 | false => exact bne_eq_false_iff_eq.1 h1
theorem B0f {g : TCT cGr} {s : TCT cSt} (h : StaOk g s) : onA g.1 (osT s) (A4 g).length (msT s) := by
 refine ⟨h.m, fun j hj ho => ?_⟩
 have hm := h.m
 have a := A5c (d := Ao Ai) (msT s) 0 h.ok j (by omega)
 rw [Nat.zero_add] at a
 unfold okS okO at a
 rw [ho] at a
 simp only [Bool.and_eq_true, cond_false] at a
 exact B0e (Atb h) a.2
def flR (fl : Int) : Int := bif decide (fl > 0) then W64 (fl - 1) else fl
def B0g (s : SKTs kSo) (r : S2) : (Alz true).T := (((r.1, r.2.1, s.2.2.1, flR s.2.2.2.1, W64 (s.2.2.2.2.1 + 1), ()), r.2.2, 0, ()), ())
def toR (s : SKTs kSo) : S2 ⊕ Int → Bx Alz
 | .inl r => ⟨true, B0g s r⟩
 | .inr e => ⟨true, erT e⟩
end St
end V
end Go.Proofs.YtkiaifmbbnnliaaGreat
