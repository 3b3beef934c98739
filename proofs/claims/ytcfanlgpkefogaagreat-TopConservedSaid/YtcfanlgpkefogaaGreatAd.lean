import Derived.Test.YtcfanlgpkefogaaGreatAc
import Derived.Test.YtcfanlgpkefogaaGreatCA
namespace Go.Proofs.YtcfanlgpkefogaaGreat
open Go.RowKit
namespace V
open St
theorem is_InWay : FnIs Tryz.prog (24, Tryz.f24) := ⟨Tryz.func24, by kernel_rfl, by kernel_rfl⟩
theorem is_InWay1 : FnIs Tryz.prog (71, Tryz.f71) := ⟨Tryz.func71, by kernel_rfl, by kernel_rfl⟩
theorem is_Touched : FnIs Tryz.prog (37, Tryz.f37) := ⟨Tryz.func37, by kernel_rfl, by kernel_rfl⟩
theorem is_May : FnIs Tryz.prog (41, Tryz.f41) := ⟨Tryz.func41, by kernel_rfl, by kernel_rfl⟩
abbrev kP6 : List SK := [.d cI, .d cI]
abbrev Brg (p : SKTs kP6) : TCT cPt := (p.1, p.2.1, ())
def iwD (a b : TCT cPt) (r : Int) (d : TCT Baf) : Bool := decide ((LsR a.1 a.2.1 b.1 b.2.1 d.1.1 d.1.2.1 (W64 (r + d.2.1))).1 < 0)
def iwF (p : TCT Baf → Bool) : List (TCT Baf) → Int → List Int
 | [], _ => []
 | d :: ds, i => bif p d then i :: iwF p ds (i + 1) else iwF p ds (i + 1)
noncomputable def D18 : Code := (Bak (bodyOf Tryz.f24)).getD 0 .skip
def D5c : List BK := [(1, 31, kP6), (2, 31, kP6), (3, 2, [.d cI])]
def C0k : Lay := { keys := [14, 15, 37, 38, 39], ks := [.f 71 [] [.p 1 0 0 0, .p 2 0 0 0, .p 3 0 0 0], .o 3 cI, .d (.sl Baf), .d cI, .d cI], bs := D5c, n := 53, nx := 1000, marks := [] }
def D5d : Lay := { keys := [15], ks := [.o 3 cI], bs := [], n := 53, nx := 1000, marks := [] }
def C5a : XE → Lay := fun _ => D5d
structure QIw where
 a : SKTs kP6
 b : SKTs kP6
 r : SKTs [.d cI]
 n : Int
 ds : List (TCT Baf)
def C0l (q : QIw) (i : Int) (o : List Int) : C0k.T := ((((), (), (), (), ()), o, q.ds, q.n, i, ()), (q.a, q.b, q.r, ()))
def C0m (o : List Int) : Fp C5a := ⟨.exit 0, ((o, ()), ())⟩
def C0n (q : QIw) (i : Int) (o : List Int) : Tree (C0k.T ⊕ Fp C5a) :=
 bif decide (i < q.n) then bif decide (0 ≤ i ∧ i < (q.ds.length : Int)) then bif iwD (Brg q.a) (Brg q.b) q.r.1 (Bat q.ds (Int.toNat i) (Bar Baf)) then bif Bd8 o [i] 8 then .leaf (.inl (C0l q (W64 (i + 1)) (o ++ [i]))) else .fail else .leaf (.inl (C0l q (W64 (i + 1)) o)) else .fail else .leaf (.inr (C0m o))
def Bwe (x : C0k.T) : Tree (C0k.T ⊕ Fp C5a) := C0n ⟨x.2.1, x.2.2.1, x.2.2.2.1, x.1.2.2.2.1, x.1.2.2.1⟩ x.1.2.2.2.2.1 x.1.2.1
def Cfv (x : C0k.T) : Nat := (x.1.2.2.1 : List (TCT Baf)).length + 1
noncomputable def D19 : Ctx := ctx Tryz.prog [(72, Cfk)] [(71, Tryz.f71)]
theorem Cfw : CtxOk D19 := Bap Ban (puOk_cons is_Lies.plain Cwo puOk_nil) (fns_cons is_InWay1 Fq)
theorem D5e : Baz Tryz.prog 24 D18 (Bav C0k C5a (Bcn [.exit 0] Bwe Cfv)) := Bbc Cfw 7 _ C0k C5a (fun _ => Nat.le_refl _) [.exit 0] Bwe Cfv (fun g => by kernel_rfl)
theorem C8s {E : Type} (p : TCT Baf → Bool) (ex : List Int → E) : ∀ (l : List (TCT Baf)) (i : Nat) (s : List Int), Bni (fun i x s => some (.inl (bif p x then s ++ [(i : Int)] else s))) (fun s => some (ex s)) i l s = some (ex (s ++ iwF p l (i : Int)))
 | [], _, s => by simp only [Bni, iwF, List.append_nil]
 | x :: l, i, s => by
  simp only [Bni]
  rw [C8s p ex l (i + 1)]
  rw [show ((i + 1 : Nat) : Int) = (i : Int) + 1 from rfl, show iwF p (x :: l) (i : Int) = (bif p x then (i : Int) :: iwF p l ((i : Int) + 1) else iwF p l ((i : Int) + 1)) from rfl]
  cases p x with
  | true => simp only [cond_true, List.append_assoc, List.singleton_append]
  | false => simp only [cond_false]
theorem D5f {o : List Int} {i : Int} (h : o.length ≤ 100000) : Bd8 o [i] 8 = true := by
 rw [Be0]; exact decide_eq_true (by simp only [List.length_cons, List.length_nil]; omega)
theorem D1a {q : QIw} (hn : q.n = (q.ds.length : Int)) (hl : q.ds.length ≤ 60000) : iter Bwe (q.ds.length + 1) (C0l q 0 []) = some (C0m (iwF (iwD (Brg q.a) (Brg q.b) q.r.1) q.ds 0)) := by
 have key := Bds (st := Bwe) q.ds (fun i o => C0l q (i : Int) o) (fun i x o => some (.inl (bif iwD (Brg q.a) (Brg q.b) q.r.1 x then o ++ [(i : Int)] else o))) (fun o => some (C0m o)) (fun i o => o.length ≤ i)
  (fun i o hi hI => by
   simp only
   refine ⟨?_, ?_⟩
   ·show (C0n q (i : Int) o).run = _
    unfold C0n
    rw [hn, decide_eq_true (show (i : Int) < (q.ds.length : Int) by omega), decide_eq_true (show 0 ≤ (i : Int) ∧ (i : Int) < (q.ds.length : Int) by omega), show Int.toNat (i : Int) = i by omega, Bcl hi, Bba (n := (i : Int) + 1) (by omega) (by omega), D5f (by omega)]
    simp only [cond_true]
    cases iwD (Brg q.a) (Brg q.b) q.r.1 q.ds[i] <;> rfl
   ·cases iwD (Brg q.a) (Brg q.b) q.r.1 q.ds[i] with
    | true => simp only [cond_true, List.length_append, List.length_singleton]; omega
    | false => simp only [cond_false]; omega)
  (fun o e hI he => by
   cases he
   show (C0n q (q.ds.length : Int) o).run = _
   unfold C0n
   rw [hn, decide_eq_false (show ¬ (q.ds.length : Int) < (q.ds.length : Int) by omega)]
   rfl)
  q.ds.length 0 [] (C0m (iwF (iwD (Brg q.a) (Brg q.b) q.r.1) q.ds 0)) (q.ds.length + 1) (by omega) (by omega) (Nat.zero_le _) (by rw [List.drop_zero, C8s, List.nil_append]; rfl)
 exact key
def Bj6 (l : TCT Bao) (a b : TCT cPt) (r : Int) (o : List (TCT Baf)) : Int := bif Bc1 l != 0 then Bc1 l else bif Bfr a.1 a.2.1 != 0 then 2 else bif Bfr b.1 b.2.1 != 0 then 2 else cbE r o
def Brh (l : TCT Bao) (a b : TCT cPt) (r : Int) (o : List (TCT Baf)) : List Int := bif Bj6 l a b r o == 0 then iwF (iwD a b r) (Bbk l ++ o) 0 else []
abbrev Cok : PureT := Bbb [Bao, cPt, cPt, cI, .sl Baf] [.sl cI, cI] (fun x => decide ((x.1.1.size : Int) ≤ Bb2 .i64)) (fun x => (Brh x.1 x.2.1 x.2.2.1 x.2.2.2.1 x.2.2.2.2.1, Bj6 x.1 x.2.1 x.2.2.1 x.2.2.2.1 x.2.2.2.2.1, ()))
def plIw : List (Nat × PureT) := (75, Bqm) :: (74, Bjb) :: (43, Bhz) :: (70, C0i) :: (73, C0f) :: []
theorem puIw : Bc7 Tryz.prog plIw := puOk_cons is_lCheck.plain Bnw (puOk_cons is_lposts.plain Byj (puOk_cons Bhf.plain Bjg (puOk_cons is_ckBall.plain Cfu (puOk_cons is_Concat.plain Cfq puOk_nil))))
abbrev TIw := Tree (TCTs [.sl cI, cI])
def Cwp (a b : TCT cPt) (r : Int) (ds : List (TCT Baf)) : Option (Fp C5a) := iter Bwe (ds.length + 1) (C0l ⟨a, b, (r, ()), (ds.length : Int), ds⟩ 0 [])
def Col (l : TCT Bao) (a b : TCT cPt) (r : Int) (o : List (TCT Baf)) : TIw := bif cbE r o != 0 then .leaf ([], cbE r o, ()) else bif decide ((Bay l).length ≤ 1000) then bif cc2 [Bbk l, o] then bif isE (.exit 0) (Cwp a b r (ccV [Bbk l, o])) then .leaf ((Bc4 (.exit 0) (Cwp a b r (ccV [Bbk l, o]))).1.1, 0, ()) else .fail else .fail else .fail
def Cwq (l : TCT Bao) (a b : TCT cPt) (r : Int) (o : List (TCT Baf)) : TIw := szT l (bif Bc1 l != 0 then bif Bc1 l != 0 then .leaf ([], Bc1 l, ()) else Col l a b r o else bif Bfr a.1 a.2.1 != 0 then .leaf ([], 2, ()) else bif Bfr b.1 b.2.1 != 0 then .leaf ([], 2, ()) else Col l a b r o)
noncomputable def D5g : Ctx := Bgo Tryz.prog plIw [(24, Tryz.f24), (57, Tryz.f57)] [((24, 10), Bav C0k C5a (Bcn [.exit 0] Bwe Cfv))]
theorem Con : CtxOk D5g := Bc8 Ban puIw (fns_cons is_InWay (fns_cons is_lchk Fq)) (Bdz (Bbt (by kernel_rfl) (by kernel_rfl) D5e (24, Tryz.f24) (List.mem_singleton.2 rfl)) (Bdz (fun d _ g hg => nomatch (show none = some g from hg)) Bis))
theorem Cfx {l : TCT Bao} (h : Bc1 l = 0) : (Bbk l).length ≤ 25 := by
 have := (Bny h).1
 unfold Bbk
 rw [List.length_append, Bnu]
 simp only [List.length_singleton]
 omega
theorem Cwr {r : Int} {o : List (TCT Baf)} (h : cbE r o = 0) : o.length ≤ 12 := by
 unfold cbE at h
 cases h1 : !St.inR r 1 16384 with
 | true => rw [h1] at h; cases h
 | false =>
  cases h2 : decide ((o.length : Int) > 12) with
  | true => rw [h1, h2] at h; cases h
  | false =>
   have := of_decide_eq_false h2
   omega
theorem Coo {l : TCT Bao} {a b : TCT cPt} {r : Int} {o : List (TCT Baf)} (h : Bc1 l = 0) (ha : Bfr a.1 a.2.1 = 0) (hb : Bfr b.1 b.2.1 = 0) : (Col l a b r o).sat (fun y => y = (Brh l a b r o, Bj6 l a b r o, ())) := by
 have e : Bj6 l a b r o = cbE r o := by unfold Bj6; rw [h, ha, hb]; rfl
 unfold Col Brh
 rw [e]
 have h12 := (Bny h).1
 have hp := Cfx h
 cases hc : cbE r o != 0 with
 | true =>
  have hc' : (cbE r o == 0) = false := by simpa using hc
  rw [hc']
  exact Bal rfl
 | false =>
  have hc' := bne_eq_false_iff_eq.1 hc
  have hl := Cwr hc'
  rw [cond_false, decide_eq_true (show (Bay l).length ≤ 1000 by omega), show cc2 [Bbk l, o] = true from decide_eq_true (show (Bbk l).length + o.length ≤ 60000 by omega), cond_true, cond_true]
  have hv : ccV [Bbk l, o] = Bbk l ++ o := rfl
  have hll : (Bbk l ++ o).length ≤ 60000 := by rw [List.length_append]; omega
  have hy : Cwp a b r (ccV [Bbk l, o]) = some (C0m (iwF (iwD a b r) (Bbk l ++ o) 0)) := by
   rw [hv]
   exact D1a (q := ⟨a, b, (r, ()), ((Bbk l ++ o).length : Int), Bbk l ++ o⟩) rfl hll
  rw [hy, hc']
  exact Bal rfl
theorem Cop {l : TCT Bao} {a b : TCT cPt} {r : Int} {o : List (TCT Baf)} (hs : (l.1.size : Int) ≤ Bb2 .i64) : (Cwq l a b r o).sat (fun y => y = (Brh l a b r o, Bj6 l a b r o, ())) := by
 unfold Cwq
 rw [Bco hs]
 cases h : Bc1 l != 0 with
 | true =>
  have e : Bj6 l a b r o = Bc1 l := by unfold Bj6; rw [h]; rfl
  have h' : (Bc1 l == 0) = false := by simpa using h
  unfold Brh
  rw [e, h']
  exact Bal rfl
 | false =>
  have h' := bne_eq_false_iff_eq.1 h
  rw [cond_false]
  cases ha : Bfr a.1 a.2.1 != 0 with
  | true =>
   have e : Bj6 l a b r o = 2 := by unfold Bj6; rw [h, ha]; rfl
   unfold Brh
   rw [e]
   exact Bal rfl
  | false =>
   rw [cond_false]
   cases hb : Bfr b.1 b.2.1 != 0 with
   | true =>
    have e : Bj6 l a b r o = 2 := by unfold Bj6; rw [h, ha, hb]; rfl
    unfold Brh
    rw [e]
    exact Bal rfl
   | false => exact Coo h' (bne_eq_false_iff_eq.1 ha) (bne_eq_false_iff_eq.1 hb)
theorem Coq : Bai Tryz.prog 24 Cok := Bbd Con 10 (fun x => Cwq x.1 x.2.1 x.2.2.1 x.2.2.2.1 x.2.2.2.2.1) (fun x => by kernel_rfl) fun x hok _ => Cop (of_decide_eq_true hok)
abbrev Cce : PureT := Bbb [Bao, cPt, cI, .sl Baf] [.sl cI, cI] (fun x => decide ((x.1.1.size : Int) ≤ Bb2 .i64)) (fun x => (Brh x.1 x.2.1 x.2.1 x.2.2.1 x.2.2.2.1, Bj6 x.1 x.2.1 x.2.1 x.2.2.1 x.2.2.2.1, ()))
theorem Ccf : Bai Tryz.prog 37 Cce := Bbd (Bap Ban (puOk_cons is_InWay.plain Coq puOk_nil) (fns_cons is_Touched Fq)) 5 (fun x => szT x.1 (.leaf (Brh x.1 x.2.1 x.2.1 x.2.2.1 x.2.2.2.1, Bj6 x.1 x.2.1 x.2.1 x.2.2.1 x.2.2.2.1, ()))) (fun x => by kernel_rfl) fun x hok _ => by
  rw [Bco (of_decide_eq_true hok)]; exact Bal rfl
def C5b (l : TCT Bao) (p : TCT cPt) (r : Int) (o : List (TCT Baf)) : Int := Bj6 l p p r o
def C5c (l : TCT Bao) (p : TCT cPt) (r : Int) (o : List (TCT Baf)) : Bool := bif Bj6 l p p r o != 0 then false else ((Brh l p p r o).length : Int) == 0 && onB l p
abbrev Cuu : PureT := Bbb [Bao, cPt, cI, .sl Baf] [.b, cI] (fun x => decide ((x.1.1.size : Int) ≤ Bb2 .i64)) (fun x => (C5c x.1 x.2.1 x.2.2.1 x.2.2.2.1, C5b x.1 x.2.1 x.2.2.1 x.2.2.2.1, ()))
abbrev D5h := Tree (TCTs [.b, cI])
def Cfy (l : TCT Bao) (p : TCT cPt) (r : Int) (o : List (TCT Baf)) : D5h := szT l (bif Bj6 l p p r o != 0 then .leaf (false, Bj6 l p p r o, ()) else bif ((Brh l p p r o).length : Int) == 0 then bif St.inR p.1 0 l.2.1 then .leaf (St.inR p.2.1 0 l.2.2.1, 0, ()) else .leaf (false, 0, ()) else .leaf (false, 0, ()))
theorem Cfz {l : TCT Bao} {p : TCT cPt} {r : Int} {o : List (TCT Baf)} (hs : (l.1.size : Int) ≤ Bb2 .i64) : (Cfy l p r o).sat (fun y => y = (C5c l p r o, C5b l p r o, ())) := by
 unfold Cfy C5c C5b
 rw [Bco hs]
 cases h : Bj6 l p p r o != 0 with
 | true => exact Bal rfl
 | false =>
  have h' := bne_eq_false_iff_eq.1 h
  rw [h']
  cases ((Brh l p p r o).length : Int) == 0 with
  | false => exact Bal rfl
  | true =>
   unfold onB
   cases St.inR p.1 0 l.2.1 <;> exact Bal rfl
theorem D1b : Bai Tryz.prog 41 Cuu := Bbd (Bap Ban (puOk_cons is_Touched.plain Ccf (puOk_cons is_between2.plain q_between2 puOk_nil)) (fns_cons is_May (fns_cons is_lon Fq))) 5 (fun x => Cfy x.1 x.2.1 x.2.2.1 x.2.2.2.1) (fun x => by kernel_rfl) fun x hok _ => Cfz (of_decide_eq_true hok)
end V
end Go.Proofs.YtcfanlgpkefogaaGreat
