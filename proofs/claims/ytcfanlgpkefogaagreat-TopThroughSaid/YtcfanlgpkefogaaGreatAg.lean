import Derived.Test.YtcfanlgpkefogaaGreatAb
import Derived.Test.YtcfanlgpkefogaaGreatCA
namespace Go.Proofs.YtcfanlgpkefogaaGreat
open Go.RowKit
namespace V
theorem is_cB1:FnIs Tryz.prog (111,Tryz.f111):=⟨Tryz.func111,by kernel_rfl,by kernel_rfl⟩
theorem is_vBall:FnIs Tryz.prog (77,Tryz.f77):=⟨Tryz.func77,by kernel_rfl,by kernel_rfl⟩
theorem is_ckBall:FnIs Tryz.prog (70,Tryz.f70):=⟨Tryz.func70,by kernel_rfl,by kernel_rfl⟩
def cbP (d:TCT A6):Bool:=Hy d.1.1 d.1.2.1 != 0||!St.inR d.2.1 1 16384
abbrev B5f:PureT:=Bz [A6] [.b] (fun _=>true) (fun x=>(cbP x.1,()))
def plCb0:List (Nat×PureT):=[(43,K2),(105,St.s_inR)]
theorem puCb0:De Tryz.prog plCb0:=puOk_cons Ir.plain Lm (puOk_cons St.is_between2.plain St.q_between2 puOk_nil)
theorem Bdc:A5 Tryz.prog 111 B5f:=C5 (B6 Aw puCb0 (fns_cons is_cB1 (fns_cons is_vBall A1))) 4 (fun x=>bif Hy x.1.1.1 x.1.1.2.1 != 0 then .leaf (true,()) else .leaf (!St.inR x.1.2.1 1 16384,())) (fun x=>by kernel_rfl) fun x _ _=>by
 show (bif Hy x.1.1.1 x.1.1.2.1 != 0 then Tree.leaf (true,()) else Tree.leaf (!St.inR x.1.2.1 1 16384,())).sat (fun y=>y=(Hy x.1.1.1 x.1.1.2.1 != 0||!St.inR x.1.2.1 1 16384,()))
 cases Hy x.1.1.1 x.1.1.2.1 != 0 <;> exact rfl
def plCb:List (Nat×PureT):=[(111,B5f)]
theorem puCb:De Tryz.prog plCb:=puOk_cons is_cB1.plain Bdc puOk_nil
theorem is_ixDsc:FnIs Tryz.prog (131,Tryz.f131):=⟨Tryz.func131,by kernel_rfl,by kernel_rfl⟩
theorem is_cfDsc:FnIs Tryz.prog (89,Tryz.f89):=⟨Tryz.func89,by kernel_rfl,by kernel_rfl⟩
abbrev M3:List SK:=[]
def Gw (k:SKTs M3) (x:TCT (A6)):Bool:=cbP x
noncomputable def A7g:Code:=(Ak (bodyOf Tryz.f131)).getD 0 .skip
def N2:Lay:={ keys:=[0,1,7,8],ks:=[.d (.sl (A6)),.f 111 [] M3,.d cI,.d cI],bs:=[],n:=19,nx:=1000,marks:=[] }
def Aoj:Lay:={ keys:=[4],ks:=[.d cI],bs:=[],n:=19,nx:=1000,marks:=[] }
def Aok:Lay:={ keys:=[],ks:=[],bs:=[],n:=19,nx:=1000,marks:=[] }
def Le:XE→Lay
 | .ret=>Aoj
 | _=>Aok
def A7h (k:SKTs M3) (l:List (TCT (A6))) (n i:Int):N2.T:=((l,((),k),n,i,()),())
def Xj (i:Int):A0 Le:=⟨.ret,((i,()),())⟩
def Xk:A0 Le:=⟨.exit 0,((),())⟩
def N3 (k:SKTs M3) (l:List (TCT (A6))) (n:Int) (x:TCT (A6)) (i:Int):Tree (N2.T⊕A0 Le):=bif Gw k x then .leaf (.inr (Xj i)) else .leaf (.inl (A7h k l n (W64 (i+1))))
def Aol (k:SKTs M3) (l:List (TCT (A6))) (n i:Int):Tree (N2.T⊕A0 Le) :=
 bif decide (i<n) then bif decide (0≤i∧i<(l.length:Int)) then N3 k l n (B7 l i.toNat (B9 (A6))) i else .fail else .leaf (.inr Xk)
def Ur (g:N2.T):Tree (A0 Le) :=
 .br (Jt g.1.2.2.1 g.1.2.2.2.1 g.1.1) (.br (g.1.1.any (Gw g.1.2.1.2)) (.leaf (Xj (g.1.1.findIdx (Gw g.1.2.1.2)))) (.leaf Xk)) .fail
theorem Ayj:Bc Tryz.prog 131 A7g (Bd N2 Le Ur):=by
 refine G7 (X:=ctx Tryz.prog plCb []) (B6 Aw puCb A1) 7 131 (fun _=>none) (fun _ _ f h=>by simp at h) N2 Le (fun e=>by cases e <;> exact Nat.le_refl _) Ur (fun g=>Aol g.1.2.1.2 g.1.1 g.1.2.2.1 g.1.2.2.2.1) (fun g=>by kernel_rfl) ?_
 rintro ⟨⟨l,⟨⟨⟩,k⟩,n,i,⟨⟩⟩,⟨⟩⟩ R hw hf
 obtain ⟨hf,h0⟩:=hf
 by_cases hc:n=(l.length:Int)∧i=0
 ·obtain ⟨rfl,rfl⟩:=hc
  have hf:=hf (decide_eq_true ⟨rfl,rfl⟩)
  refine Any l (B9 (A6)) (G3 hw.1.1) (fun n i _=>A7h k l n i) (fun x i (_:Unit)=>bif Gw k x then .inr (Xj i) else .inl ()) (fun _=>Xk) (fun _=>True) (fun x i _=>N3 k l l.length x i) (fun i _=>rfl) ?_ () trivial ?_
  ·intro i _ hi Q _ _ hw1 hQ
   show (N3 k l l.length l[i] i).sat Q
   unfold N3
   rw [hw1]
   cases hp:Gw k l[i] with
   | true=>rw [hp] at hQ;exact hQ
   | false=>rw [hp] at hQ;exact hQ trivial
  ·rw [O0 (Gw k) (fun i=>Xj i) Xk l 0,Nat.zero_add]
   cases ha:l.any (Gw k) with
   | true=>exact hf.1 ha
   | false=>exact hf.2 ha
 ·exact (h0 (decide_eq_false hc)).elim
abbrev Ayk:PureT:=K0 [.d (.sl (A6)),.f 111 [] M3] [cI] (fun _=>true) (fun x=>(bif x.1.any (Gw x.2.1.2) then (x.1.findIdx (Gw x.2.1.2):Int) else -1,()))
noncomputable def Ayl:Ctx:=Ie Tryz.prog plCb [(131,Tryz.f131)] [((131,keyOf A7g),Bd N2 Le Ur)]
theorem Acj:CtxOk Ayl:=D6 Aw puCb (fns_cons is_ixDsc A1) (Cl rfl (by kernel_rfl) Ayj)
def Agi (k:SKTs M3) (l:List (TCT (A6))):Tree (Int×Unit):=bif Jt (l.length:Int) 0 l then bif l.any (Gw k) then .leaf ((l.findIdx (Gw k):Int),()) else .leaf (-1,()) else .fail
theorem Ack (k:SKTs M3) (l:List (TCT (A6))):(Agi k l).sat (fun y=>y=(bif l.any (Gw k) then (l.findIdx (Gw k):Int) else -1,())):=by
 refine Mz (decide_eq_true ⟨rfl,rfl⟩) ?_
 cases l.any (Gw k) <;> exact rfl
theorem Aym:A5 Tryz.prog 131 Ayk:=O9 Acj 8 (fun x=>Agi x.2.1.2 x.1) (fun x=>by kernel_rfl) fun x _ _=>Ack _ _
abbrev Agj:PureT:=K0 [.d (.sl (A6)),.f 111 [] M3] [.b] (fun _=>true) (fun x=>(x.1.any (Gw x.2.1.2),()))
theorem Acl (k:SKTs M3) (l:List (TCT (A6))):(Tree.leaf (decide ((bif l.any (Gw k) then (l.findIdx (Gw k):Int) else -1)≥0),()):Tree (Bool×Unit)).sat (fun y=>y=(l.any (Gw k),())):=by
 rw [Qh];exact rfl
theorem Ayn:A5 Tryz.prog 89 Agj:=O9 (B6 Aw (puOk_cons is_ixDsc.plain Aym puOk_nil) (fns_cons is_cfDsc A1)) 8 (fun x=>.leaf (decide ((bif x.1.any (Gw x.2.1.2) then (x.1.findIdx (Gw x.2.1.2):Int) else -1)≥0),())) (fun x=>by kernel_rfl) fun x _ _=>Acl _ _
def cbE (r:Int) (o:List (TCT A6)):Int:=bif !St.inR r 1 16384 then 3 else bif decide ((o.length:Int)>12) then 6 else bif o.any cbP then 2 else 0
abbrev A7i:PureT:=Bz [cI,.sl A6] [cI] (fun _=>true) (fun x=>(cbE x.1 x.2.1,()))
def plCb2:List (Nat×PureT):=[(105,St.s_inR),(89,Agj)]
theorem puCb2:De Tryz.prog plCb2:=puOk_cons St.is_between2.plain St.q_between2 (puOk_cons is_cfDsc.plain Ayn puOk_nil)
def Y6 (r:Int) (o:List (TCT A6)):Tree (TCTs [cI]):=bif !St.inR r 1 16384 then .leaf (3,()) else bif decide ((o.length:Int)>12) then .leaf (6,()) else bif o.any (Gw ()) then .leaf (2,()) else .leaf (0,())
theorem A7j (r:Int) (o:List (TCT A6)):(Y6 r o).sat (fun y=>y=(cbE r o,())):=by
 unfold Y6 cbE
 show (bif !St.inR r 1 16384 then .leaf (3,()) else bif decide ((o.length:Int)>12) then .leaf (6,()) else bif o.any cbP then .leaf (2,()) else .leaf (0,()):Tree (TCTs [cI])).sat _
 cases !St.inR r 1 16384 <;> cases decide ((o.length:Int)>12) <;> cases o.any cbP <;> exact rfl
theorem Aom:A5 Tryz.prog 70 A7i:=C5 (B6 Aw puCb2 (fns_cons is_ckBall (fns_cons is_vBall A1))) 5 (fun x=>Y6 x.1 x.2.1) (fun x=>by kernel_rfl) fun _ _ _=>A7j _ _
end V
end Go.Proofs.YtcfanlgpkefogaaGreat
namespace Go.Proofs.YtcfanlgpkefogaaGreat
open Go.RowKit
namespace V
open St
theorem is_InWay:FnIs Tryz.prog (24,Tryz.f24):=⟨Tryz.func24,by kernel_rfl,by kernel_rfl⟩
theorem is_InWay1:FnIs Tryz.prog (71,Tryz.f71):=⟨Tryz.func71,by kernel_rfl,by kernel_rfl⟩
theorem is_Touched:FnIs Tryz.prog (37,Tryz.f37):=⟨Tryz.func37,by kernel_rfl,by kernel_rfl⟩
theorem is_May:FnIs Tryz.prog (41,Tryz.f41):=⟨Tryz.func41,by kernel_rfl,by kernel_rfl⟩
abbrev kP6:List SK:=[.d cI,.d cI]
abbrev X9 (p:SKTs kP6):TCT cPt:=(p.1,p.2.1,())
def iwD (a b:TCT cPt) (r:Int) (d:TCT A6):Bool:=decide ((LsR a.1 a.2.1 b.1 b.2.1 d.1.1 d.1.2.1 (W64 (r+d.2.1))).1<0)
def iwF (p:TCT A6→Bool):List (TCT A6)→Int→List Int
 | [],_=>[]
 | d::ds,i=>bif p d then i::iwF p ds (i+1) else iwF p ds (i+1)
noncomputable def Bdd:Code:=(Ak (bodyOf Tryz.f24)).getD 0 .skip
def Bid:List BK:=[(1,31,kP6),(2,31,kP6),(3,2,[.d cI])]
def A7k:Lay:={ keys:=[14,15,37,38,39],ks:=[.f 71 [] [.p 1 0 0 0,.p 2 0 0 0,.p 3 0 0 0],.o 3 cI,.d (.sl A6),.d cI,.d cI],bs:=Bid,n:=53,nx:=1000,marks:=[] }
def Bie:Lay:={ keys:=[15],ks:=[.o 3 cI],bs:=[],n:=53,nx:=1000,marks:=[] }
def Acm:XE→Lay:=fun _=>Bie
structure QIw where
 a:SKTs kP6
 b:SKTs kP6
 r:SKTs [.d cI]
 n:Int
 ds:List (TCT A6)
def A7l (q:QIw) (i:Int) (o:List Int):A7k.T:=((((),(),(),(),()),o,q.ds,q.n,i,()),(q.a,q.b,q.r,()))
def A7m (o:List Int):A0 Acm:=⟨.exit 0,((o,()),())⟩
def A7n (q:QIw) (i:Int) (o:List Int):Tree (A7k.T⊕A0 Acm) :=
 bif decide (i<q.n) then bif decide (0≤i∧i<(q.ds.length:Int)) then bif iwD (X9 q.a) (X9 q.b) q.r.1 (B7 q.ds (Int.toNat i) (B9 A6)) then bif Eu o [i] 8 then .leaf (.inl (A7l q (W64 (i+1)) (o++[i]))) else .fail else .leaf (.inl (A7l q (W64 (i+1)) o)) else .fail else .leaf (.inr (A7m o))
def A2u (x:A7k.T):Tree (A7k.T⊕A0 Acm):=A7n ⟨x.2.1,x.2.2.1,x.2.2.2.1,x.1.2.2.2.1,x.1.2.2.1⟩ x.1.2.2.2.2.1 x.1.2.1
def Aon (x:A7k.T):Nat:=(x.1.2.2.1:List (TCT A6)).length+1
noncomputable def Bde:Ctx:=ctx Tryz.prog [(72,Aoc)] [(71,Tryz.f71)]
theorem Aoo:CtxOk Bde:=B6 Aw (puOk_cons is_Lies.plain B82 puOk_nil) (fns_cons is_InWay1 A1)
theorem Bif:Bc Tryz.prog 24 Bdd (Bd A7k Acm (E5 [.exit 0] A2u Aon)):=Bv Aoo 7 _ A7k Acm (fun _=>Nat.le_refl _) [.exit 0] A2u Aon (fun g=>by kernel_rfl)
theorem Agk {E:Type} (p:TCT A6→Bool) (ex:List Int→E):∀ (l:List (TCT A6)) (i:Nat) (s:List Int),Sg (fun i x s=>some (.inl (bif p x then s++[(i:Int)] else s))) (fun s=>some (ex s)) i l s=some (ex (s++iwF p l (i:Int)))
 | [],_,s=>by simp only [Sg,iwF,List.append_nil]
 | x::l,i,s=>by
  simp only [Sg]
  rw [Agk p ex l (i+1)]
  rw [show ((i+1:Nat):Int)=(i:Int)+1 from rfl,show iwF p (x::l) (i:Int)=(bif p x then (i:Int)::iwF p l ((i:Int)+1) else iwF p l ((i:Int)+1)) from rfl]
  cases p x with
  | true=>simp only [cond_true,List.append_assoc,List.singleton_append]
  | false=>simp only [cond_false]
theorem Bih {o:List Int} {i:Int} (h:o.length≤100000):Eu o [i] 8=true:=by
 rw [Gf];exact decide_eq_true (by simp only [List.length_cons,List.length_nil];omega)
theorem Bdf {q:QIw} (hn:q.n=(q.ds.length:Int)) (hl:q.ds.length≤60000):iter A2u (q.ds.length+1) (A7l q 0 [])=some (A7m (iwF (iwD (X9 q.a) (X9 q.b) q.r.1) q.ds 0)):=by
 have key:=G8 (st:=A2u) q.ds (fun i o=>A7l q (i:Int) o) (fun i x o=>some (.inl (bif iwD (X9 q.a) (X9 q.b) q.r.1 x then o++[(i:Int)] else o))) (fun o=>some (A7m o)) (fun i o=>o.length≤i)
  (fun i o hi hI=>by
   simp only
   refine ⟨?_,?_⟩
   ·show (A7n q (i:Int) o).run=_
    unfold A7n
    rw [hn,decide_eq_true (show (i:Int)<(q.ds.length:Int) by omega),decide_eq_true (show 0≤(i:Int)∧(i:Int)<(q.ds.length:Int) by omega),show Int.toNat (i:Int)=i by omega,E8 hi,Bi (n:=(i:Int)+1) (by omega) (by omega),Bih (by omega)]
    simp only [cond_true]
    cases iwD (X9 q.a) (X9 q.b) q.r.1 q.ds[i] <;> rfl
   ·cases iwD (X9 q.a) (X9 q.b) q.r.1 q.ds[i] with
    | true=>simp only [cond_true,List.length_append,List.length_singleton];omega
    | false=>simp only [cond_false];omega)
  (fun o e hI he=>by
   cases he
   show (A7n q (q.ds.length:Int) o).run=_
   unfold A7n
   rw [hn,decide_eq_false (show ¬ (q.ds.length:Int)<(q.ds.length:Int) by omega)]
   rfl)
  q.ds.length 0 [] (A7m (iwF (iwD (X9 q.a) (X9 q.b) q.r.1) q.ds 0)) (q.ds.length+1) (by omega) (by omega) (Nat.zero_le _) (by rw [List.drop_zero,Agk,List.nil_append];rfl)
 exact key
def N4 (l:TCT A9) (a b:TCT cPt) (r:Int) (o:List (TCT A6)):Int:=bif Co l != 0 then Co l else bif Hy a.1 a.2.1 != 0 then 2 else bif Hy b.1 b.2.1 != 0 then 2 else cbE r o
def Xa (l:TCT A9) (a b:TCT cPt) (r:Int) (o:List (TCT A6)):List Int:=bif N4 l a b r o==0 then iwF (iwD a b r) (Cd l++o) 0 else []
abbrev Ayo:PureT:=Bz [A9,cPt,cPt,cI,.sl A6] [.sl cI,cI] (fun x=>decide ((x.1.1.size:Int)≤Bo .i64)) (fun x=>(Xa x.1 x.2.1 x.2.2.1 x.2.2.2.1 x.2.2.2.2.1,N4 x.1 x.2.1 x.2.2.1 x.2.2.2.1 x.2.2.2.2.1,()))
def plIw:List (Nat×PureT):=(75,Oo)::(74,N9)::(43,K2)::(70,A7i)::(73,A7f)::[]
theorem puIw:De Tryz.prog plIw:=puOk_cons is_lCheck.plain Mf (puOk_cons is_lposts.plain A5b (puOk_cons Ir.plain Lm (puOk_cons is_ckBall.plain Aom (puOk_cons is_Concat.plain Aoi puOk_nil))))
abbrev TIw:=Tree (TCTs [.sl cI,cI])
def B83 (a b:TCT cPt) (r:Int) (ds:List (TCT A6)):Option (A0 Acm):=iter A2u (ds.length+1) (A7l ⟨a,b,(r,()),(ds.length:Int),ds⟩ 0 [])
def Ayp (l:TCT A9) (a b:TCT cPt) (r:Int) (o:List (TCT A6)):TIw:=bif cbE r o != 0 then .leaf ([],cbE r o,()) else bif decide ((Be l).length≤1000) then bif cc2 [Cd l,o] then bif isE (.exit 0) (B83 a b r (ccV [Cd l,o])) then .leaf ((D4 (.exit 0) (B83 a b r (ccV [Cd l,o]))).1.1,0,()) else .fail else .fail else .fail
def B84 (l:TCT A9) (a b:TCT cPt) (r:Int) (o:List (TCT A6)):TIw:=szT l (bif Co l != 0 then bif Co l != 0 then .leaf ([],Co l,()) else Ayp l a b r o else bif Hy a.1 a.2.1 != 0 then .leaf ([],2,()) else bif Hy b.1 b.2.1 != 0 then .leaf ([],2,()) else Ayp l a b r o)
noncomputable def Bii:Ctx:=Ie Tryz.prog plIw [(24,Tryz.f24),(57,Tryz.f57)] [((24,10),Bd A7k Acm (E5 [.exit 0] A2u Aon))]
theorem Ayq:CtxOk Bii:=D6 Aw puIw (fns_cons is_InWay (fns_cons is_lchk A1)) (Bj (Cl (by kernel_rfl) (by kernel_rfl) Bif (24,Tryz.f24) (List.mem_singleton.2 rfl)) (Bj (fun d _ g hg=>nomatch (show none=some g from hg)) Gk))
theorem Aop {l:TCT A9} (h:Co l=0):(Cd l).length≤25:=by
 have:=(Sz h).1
 unfold Cd
 rw [List.length_append,Sw]
 simp only [List.length_singleton]
 omega
theorem B85 {r:Int} {o:List (TCT A6)} (h:cbE r o=0):o.length≤12:=by
 unfold cbE at h
 cases h1:!St.inR r 1 16384 with
 | true=>rw [h1] at h;cases h
 | false =>
  cases h2:decide ((o.length:Int)>12) with
  | true=>rw [h1,h2] at h;cases h
  | false =>
   have:=of_decide_eq_false h2
   omega
theorem Ayr {l:TCT A9} {a b:TCT cPt} {r:Int} {o:List (TCT A6)} (h:Co l=0) (ha:Hy a.1 a.2.1=0) (hb:Hy b.1 b.2.1=0):(Ayp l a b r o).sat (fun y=>y=(Xa l a b r o,N4 l a b r o,())):=by
 have e:N4 l a b r o=cbE r o:=by unfold N4;rw [h,ha,hb];rfl
 unfold Ayp Xa
 rw [e]
 have h12:=(Sz h).1
 have hp:=Aop h
 cases hc:cbE r o != 0 with
 | true =>
  have hc':(cbE r o==0)=false:=by simpa using hc
  rw [hc']
  exact As rfl
 | false =>
  have hc':=bne_eq_false_iff_eq.1 hc
  have hl:=B85 hc'
  rw [cond_false,decide_eq_true (show (Be l).length≤1000 by omega),show cc2 [Cd l,o]=true from decide_eq_true (show (Cd l).length+o.length≤60000 by omega),cond_true,cond_true]
  have hv:ccV [Cd l,o]=Cd l++o:=rfl
  have hll:(Cd l++o).length≤60000:=by rw [List.length_append];omega
  have hy:B83 a b r (ccV [Cd l,o])=some (A7m (iwF (iwD a b r) (Cd l++o) 0)):=by
   rw [hv]
   exact Bdf (q:=⟨a,b,(r,()),((Cd l++o).length:Int),Cd l++o⟩) rfl hll
  rw [hy,hc']
  exact As rfl
theorem Ays {l:TCT A9} {a b:TCT cPt} {r:Int} {o:List (TCT A6)} (hs:(l.1.size:Int)≤Bo .i64):(B84 l a b r o).sat (fun y=>y=(Xa l a b r o,N4 l a b r o,())):=by
 unfold B84
 rw [Dh hs]
 cases h:Co l != 0 with
 | true =>
  have e:N4 l a b r o=Co l:=by unfold N4;rw [h];rfl
  have h':(Co l==0)=false:=by simpa using h
  unfold Xa
  rw [e,h']
  exact As rfl
 | false =>
  have h':=bne_eq_false_iff_eq.1 h
  rw [cond_false]
  cases ha:Hy a.1 a.2.1 != 0 with
  | true =>
   have e:N4 l a b r o=2:=by unfold N4;rw [h,ha];rfl
   unfold Xa
   rw [e]
   exact As rfl
  | false =>
   rw [cond_false]
   cases hb:Hy b.1 b.2.1 != 0 with
   | true =>
    have e:N4 l a b r o=2:=by unfold N4;rw [h,ha,hb];rfl
    unfold Xa
    rw [e]
    exact As rfl
   | false=>exact Ayr h' (bne_eq_false_iff_eq.1 ha) (bne_eq_false_iff_eq.1 hb)
theorem Ayt:A5 Tryz.prog 24 Ayo:=C5 Ayq 10 (fun x=>B84 x.1 x.2.1 x.2.2.1 x.2.2.2.1 x.2.2.2.2.1) (fun x=>by kernel_rfl) fun x hok _=>Ays (of_decide_eq_true hok)
abbrev Akw:PureT:=Bz [A9,cPt,cI,.sl A6] [.sl cI,cI] (fun x=>decide ((x.1.1.size:Int)≤Bo .i64)) (fun x=>(Xa x.1 x.2.1 x.2.1 x.2.2.1 x.2.2.2.1,N4 x.1 x.2.1 x.2.1 x.2.2.1 x.2.2.2.1,()))
theorem Akx:A5 Tryz.prog 37 Akw:=C5 (B6 Aw (puOk_cons is_InWay.plain Ayt puOk_nil) (fns_cons is_Touched A1)) 5 (fun x=>szT x.1 (.leaf (Xa x.1 x.2.1 x.2.1 x.2.2.1 x.2.2.2.1,N4 x.1 x.2.1 x.2.1 x.2.2.1 x.2.2.2.1,()))) (fun x=>by kernel_rfl) fun x hok _=>by
  rw [Dh (of_decide_eq_true hok)];exact As rfl
def Acn (l:TCT A9) (p:TCT cPt) (r:Int) (o:List (TCT A6)):Int:=N4 l p p r o
def Aco (l:TCT A9) (p:TCT cPt) (r:Int) (o:List (TCT A6)):Bool:=bif N4 l p p r o != 0 then false else ((Xa l p p r o).length:Int)==0&&onB l p
abbrev B5g:PureT:=Bz [A9,cPt,cI,.sl A6] [.b,cI] (fun x=>decide ((x.1.1.size:Int)≤Bo .i64)) (fun x=>(Aco x.1 x.2.1 x.2.2.1 x.2.2.2.1,Acn x.1 x.2.1 x.2.2.1 x.2.2.2.1,()))
abbrev Bij:=Tree (TCTs [.b,cI])
def Aoq (l:TCT A9) (p:TCT cPt) (r:Int) (o:List (TCT A6)):Bij:=szT l (bif N4 l p p r o != 0 then .leaf (false,N4 l p p r o,()) else bif ((Xa l p p r o).length:Int)==0 then bif St.inR p.1 0 l.2.1 then .leaf (St.inR p.2.1 0 l.2.2.1,0,()) else .leaf (false,0,()) else .leaf (false,0,()))
theorem Aor {l:TCT A9} {p:TCT cPt} {r:Int} {o:List (TCT A6)} (hs:(l.1.size:Int)≤Bo .i64):(Aoq l p r o).sat (fun y=>y=(Aco l p r o,Acn l p r o,())):=by
 unfold Aoq Aco Acn
 rw [Dh hs]
 cases h:N4 l p p r o != 0 with
 | true=>exact As rfl
 | false =>
  have h':=bne_eq_false_iff_eq.1 h
  rw [h']
  cases ((Xa l p p r o).length:Int)==0 with
  | false=>exact As rfl
  | true =>
   unfold onB
   cases St.inR p.1 0 l.2.1 <;> exact As rfl
theorem Bdg:A5 Tryz.prog 41 B5g:=C5 (B6 Aw (puOk_cons is_Touched.plain Akx (puOk_cons is_between2.plain q_between2 puOk_nil)) (fns_cons is_May (fns_cons is_lon A1))) 5 (fun x=>Aoq x.1 x.2.1 x.2.2.1 x.2.2.2.1) (fun x=>by kernel_rfl) fun x hok _=>Aor (of_decide_eq_true hok)
end V
end Go.Proofs.YtcfanlgpkefogaaGreat
namespace Go.Proofs.YtcfanlgpkefogaaGreat
open Go.RowKit
namespace V
namespace Tp
open St
theorem is_green:FnIs Tryz.prog (26,Tryz.f26):=⟨Tryz.func26,by kernel_rfl,by kernel_rfl⟩
theorem is_round:FnIs Tryz.prog (16,Tryz.f16):=⟨Tryz.func16,by kernel_rfl,by kernel_rfl⟩
theorem is_spot:FnIs Tryz.prog (22,Tryz.f22):=⟨Tryz.func22,by kernel_rfl,by kernel_rfl⟩
theorem is_blow:FnIs Tryz.prog (12,Tryz.f12):=⟨Tryz.func12,by kernel_rfl,by kernel_rfl⟩
theorem is_set:FnIs Tryz.prog (10,Tryz.f10):=⟨Tryz.func10,by kernel_rfl,by kernel_rfl⟩
abbrev Bdh:TC:=.i .u16
abbrev F7:TC:=.st [Bdh,Bdh]
def B5h:TCT Bt:=(50000,40000,6000,500,false,())
def Aos:TCT Bt:=(30000,100000,6200,500,true,())
def Bdi:TCT A6:=((50000,100000,()),1200,())
def nameG:ByteArray:=⟨#[103,114,101,101,110]⟩
def grn (d s:Int):TCT A9:=(nameG,100000,200000,5000,[B5h,Aos],Bdi,1,1,[(d,s,0,())],())
abbrev Agl:PureT:=Bz [cI,cI] [A9] (fun _=>true) (fun x=>(grn x.1 x.2.1,()))
theorem Ayu:A5 Tryz.prog 26 Agl:=C5 (B6 Aw puOk_nil (fns_cons is_green A1)) 5 (fun x=>.leaf (grn x.1 x.2.1,())) (fun x=>by kernel_rfl) fun _ _ _=>As rfl
def Us:TCT A2:=(450,2946,())
abbrev Agm:PureT:=Bz [] [A2] (fun _=>true) (fun _=>(Us,()))
theorem Ayv:A5 Tryz.prog 16 Agm:=C5 (B6 Aw puOk_nil (fns_cons is_round A1)) 5 (fun x=>.leaf (Us,())) (fun x=>by kernel_rfl) fun _ _ _=>As rfl
def spt (d:TCT F7):TCT cPt:=(W64 (Int.tdiv (W64 (W64 d.1*3)) 2),W64 (W64 d.2.1*3),())
abbrev Aot:PureT:=Bz [F7] [cPt] (fun _=>true) (fun x=>(spt x.1,()))
theorem B86:A5 Tryz.prog 22 Aot:=C5 (B6 Aw puOk_nil (fns_cons is_spot A1)) 5 (fun x=>.leaf (spt x.1,())) (fun x=>by kernel_rfl) fun _ _ _=>As rfl
end Tp
end V
end Go.Proofs.YtcfanlgpkefogaaGreat
namespace Go.Proofs.YtcfanlgpkefogaaGreat
open Go.RowKit
namespace V
namespace Tp
open St
abbrev kGb:List SK:=[.d .s,.d cI,.d cI,.d cI,.d (.sl Bt),.d cI,.d cI,.d cI,.d cI,.d cI,.d (.sl Dc),.o 70 A2,.d cI,.d cI]
noncomputable def B87:Code:=(Ak (bodyOf Tryz.f10)).getD 0 .skip
def B5i:List BK:=[(1,41,kGr),(2,45,kSt),(8,41,kGb)]
def Sj:Lay:={ keys:=[2,8,9,11,12,13,14],ks:=[.d (.sl F7),.p 1 0 0 0,.p 2 0 0 0,.p 8 0 0 0,.o 31 cPt,.o 33 A6,.d cI],bs:=B5i,n:=97,nx:=1000,marks:=[] }
def Bdj:Lay:={ keys:=[2,8,9,11,12],ks:=[.d (.sl F7),.p 1 0 0 0,.p 2 0 0 0,.p 8 0 0 0,.o 31 cPt],bs:=B5i,n:=97,nx:=1000,marks:=[] }
def B88:Lay:={ keys:=[8,9,10],ks:=[.p 1 0 0 0,.p 2 0 0 0,.d .b],bs:=[(1,41,kGb),(2,45,kSt)],n:=97,nx:=1000,marks:=[] }
def Of:XE→Lay:=fun e=>match e with | .ret=>B88 | _=>Bdj
def plSet5:List (Nat×PureT):=(41,B5g)::(26,Agl)::(16,Agm)::(22,Aot)::(28,B66)::[]
theorem puSet5:De Tryz.prog plSet5:=puOk_cons is_May.plain Bdg (puOk_cons is_green.plain Ayu (puOk_cons is_round.plain Ayv (puOk_cons is_spot.plain B86 (puOk_cons is_sLie.plain B67 puOk_nil))))
noncomputable def B89:Ctx:=ctx Tryz.prog plSet5 []
theorem Aky:CtxOk B89:=B6 Aw puSet5 A1
abbrev GbT:Type:=SKTs kGb
def lwb (g:GbT):TCT A9:=(g.1,g.2.1,g.2.2.1,g.2.2.2.1,g.2.2.2.2.1,((g.2.2.2.2.2.1,g.2.2.2.2.2.2.1,()),g.2.2.2.2.2.2.2.1,()),g.2.2.2.2.2.2.2.2.1,g.2.2.2.2.2.2.2.2.2.1,g.2.2.2.2.2.2.2.2.2.2.1,())
def blb (g:GbT):List (TCT A2):=g.2.2.2.2.2.2.2.2.2.2.2.1
def wbl (g:GbT) (b:List (TCT A2)):GbT:=(g.1,g.2.1,g.2.2.1,g.2.2.2.1,g.2.2.2.2.1,g.2.2.2.2.2.1,g.2.2.2.2.2.2.1,g.2.2.2.2.2.2.2.1,g.2.2.2.2.2.2.2.2.1,g.2.2.2.2.2.2.2.2.2.1,g.2.2.2.2.2.2.2.2.2.2.1,b,g.2.2.2.2.2.2.2.2.2.2.2.2.1,g.2.2.2.2.2.2.2.2.2.2.2.2.2.1,())
structure QSt where
 l:List (TCT F7)
 g0:SKTs kGr
 s0:SKTs kSt
def Oh (p:TCT cPt):TCT A6:=((p.1,p.2.1,()),2946,())
def A4v (q:QSt) (g:GbT) (i:Int) (ps:List (TCT cPt)) (os:List (TCT A6)):Sj.T:=((q.l,(),(),(),ps,os,i,()),(q.g0,q.s0,g,()))
def A4w (q:QSt) (g:GbT) (ps:List (TCT cPt)):A0 Of:=⟨.exit 0,((q.l,(),(),(),ps,()),(q.g0,q.s0,g,()))⟩
def Acp (g:GbT):A0 Of:=⟨.ret,(((),(),false,()),(g,([],[],0,0,0,()),()))⟩
def Acr (q:QSt) (g:GbT) (i:Int) (ps:List (TCT cPt)) (os:List (TCT A6)) (p:TCT cPt):Tree (Sj.T⊕A0 Of) :=
 bif Acn (lwb g) p 2946 os != 0 then .leaf (.inr (Acp g)) else bif !Aco (lwb g) p 2946 os then .leaf (.inr (Acp g)) else
 bif Eu (blb g) [Us] 16 then bif Eu ps [p] 16 then bif Eu os [Oh p] 24 then .leaf (.inl (A4v q (wbl g (blb g++[Us])) (W64 (i+1)) (ps++[p]) (os++[Oh p]))) else .fail else .fail else .fail
def Y7 (q:QSt) (g:GbT) (i:Int) (ps:List (TCT cPt)) (os:List (TCT A6)):Tree (Sj.T⊕A0 Of) :=
 bif decide (i<(q.l.length:Int)) then inN q.l.length i (szT (lwb g) (Acr q g i ps os (spt (B7 q.l (Int.toNat i) (B9 F7))))) else .leaf (.inr (A4w q g ps))
def Ut (x:Sj.T):Tree (Sj.T⊕A0 Of):=Y7 ⟨x.1.1,x.2.1,x.2.2.1⟩ x.2.2.2.1 x.1.2.2.2.2.2.2.1 x.1.2.2.2.2.1 x.1.2.2.2.2.2.1
def Acs (x:Sj.T):Nat:=(x.1.1:List (TCT F7)).length+1
theorem Bdk:Bc Tryz.prog 10 B87 (Bd Sj Of (E5 [.ret,.exit 0] Ut Acs)):=Bv Aky 7 _ Sj Of (fun e=>by cases e <;> exact Nat.le_refl _) [.ret,.exit 0] Ut Acs (fun g=>by kernel_rfl)
def setF (w:TCT A9) (l:List (TCT F7)) (i:Nat) (ps:List (TCT cPt)):List (TCT cPt)⊕List (TCT cPt) :=
 bif Acn w (spt (B7 l i (B9 F7))) 2946 (ps.map Oh)!=0 then .inr ps else bif !Aco w (spt (B7 l i (B9 F7))) 2946 (ps.map Oh) then .inr ps else .inl (ps++[spt (B7 l i (B9 F7))])
def gbN (g:GbT) (n:Nat):GbT:=wbl g (List.replicate n Us)
def Y8 (q:QSt) (g:GbT):List (TCT cPt)⊕List (TCT cPt)→A0 Of
 | .inl ps=>A4w q (gbN g ps.length) ps
 | .inr ps=>Acp (gbN g ps.length)
theorem B8a {q:QSt} {g:GbT} (hl:q.l.length≤1000) (hs:((lwb g).1.size:Int)≤Bo .i64):iter Ut (q.l.length+1) (A4v q (gbN g 0) 0 [] [])=some (Y8 q g (B8 (setF (lwb g) q.l) 0 q.l.length [])):=by
 have key:=Hk (st:=Ut) q.l.length (fun i ps=>A4v q (gbN g i) (i:Int) ps (ps.map Oh)) (setF (lwb g) q.l) (Y8 q g) (fun i ps=>ps.length=i)
  (fun i ps hi hI=>by
   show (Y7 q (gbN g i) (i:Int) ps (ps.map Oh)).run=_
   unfold Y7 inN
   rw [decide_eq_true (show (i:Int)<(q.l.length:Int) by omega),decide_eq_true (show 0≤(i:Int)∧(i:Int)<(q.l.length:Int) by omega),show Int.toNat (i:Int)=i by omega]
   show (szT (lwb g) (Acr q (gbN g i) (i:Int) ps (ps.map Oh) (spt (B7 q.l i (B9 F7)))):Tree _).run=_
   rw [Dh hs]
   unfold Acr setF
   rw [show lwb (gbN g i)=lwb g from rfl]
   generalize spt (B7 q.l i (B9 F7))=p
   cases Acn (lwb g) p 2946 (ps.map Oh)!=0 with
   | true=>simp only [cond_true,Ary,Y8,hI];rfl
   | false =>
    cases !Aco (lwb g) p 2946 (ps.map Oh) with
    | true=>simp only [cond_true,cond_false,Ary,Y8,hI];rfl
    | false =>
     rw [Bi (n:=(i:Int)+1) (by omega) (by omega)]
     have e1:Eu (blb (gbN g i)) [Us] 16=true:=by
      rw [Gf];exact decide_eq_true (by show (((List.replicate i Us).length+[Us].length:Nat):Int)*16≤_;rw [List.length_replicate];simp only [List.length_singleton];omega)
     have e2:Eu ps [p] 16=true:=by rw [Gf];exact decide_eq_true (by simp only [List.length_singleton];omega)
     have e3:Eu (ps.map Oh) [Oh p] 24=true:=by rw [Gf];exact decide_eq_true (by simp only [List.length_singleton,List.length_map];omega)
     have e4:wbl (gbN g i) (blb (gbN g i)++[Us])=gbN g (i+1):=by
      show wbl g (List.replicate i Us++[Us])=wbl g (List.replicate (i+1) Us)
      rw [List.replicate_succ']
     have e5:ps.map Oh++[Oh p]=(ps++[p]).map Oh:=by rw [List.map_append];rfl
     rw [e1,e2,e3,e4,e5]
     rfl)
  (fun i ps ps' _ hI h=>by
   unfold setF at h
   cases h1:Acn (lwb g) (spt (B7 q.l i (B9 F7))) 2946 (ps.map Oh)!=0 with
   | true=>rw [h1] at h;cases h
   | false =>
    cases h2:!Aco (lwb g) (spt (B7 q.l i (B9 F7))) 2946 (ps.map Oh) with
    | true=>rw [h1,h2] at h;cases h
    | false =>
     rw [h1,h2] at h
     cases h
     rw [List.length_append,List.length_singleton,hI])
  (fun ps hI=>by
   show (Y7 q (gbN g q.l.length) (q.l.length:Int) ps (ps.map Oh)).run=_
   unfold Y7
   rw [decide_eq_false (show ¬ (q.l.length:Int)<(q.l.length:Int) by omega)]
   show some (Sum.inr (A4w q (gbN g q.l.length) ps))=some (Sum.inr (A4w q (gbN g ps.length) ps))
   rw [hI]) q.l.length 0 [] (by omega) rfl
 exact key
noncomputable def Aou:Ctx:=Ie Tryz.prog plSet5 [(10,Tryz.f10)] [((10,5),Bd Sj Of (E5 [.ret,.exit 0] Ut Acs))]
theorem Aov:CtxOk Aou:=D6 Aw puSet5 (fns_cons is_set A1) (Cl (by kernel_rfl) (by kernel_rfl) Bdk)
def gb0 (d s:Int) (x:TCT D3):GbT:=(nameG,100000,200000,5000,[B5h,Aos],50000,100000,1200,1,1,[(d,s,0,())],[],x.1,x.2.1,())
def g00:SKTs kGr:=(⟨#[]⟩,0,0,0,[],0,0,0,0,0,[],[],0,0,())
def s00:SKTs kSt:=([],[],0,0,0,())
def Agn (d s:Int) (l:List (TCT F7)) (x:TCT D3):Option (A0 Of):=iter Ut (l.length+1) (A4v ⟨l,g00,s00⟩ (gb0 d s x) 0 [] [])
abbrev Ayw:=Tree (TCTs [cGr,cSt,.b])
def grb (g:GbT):TCT cGr:=(lwb g,blb g,(g.2.2.2.2.2.2.2.2.2.2.2.2.1,g.2.2.2.2.2.2.2.2.2.2.2.2.2.1,()),())
def Aow (l:List (TCT F7)) (r:TCTs [cSt,cI]):Bool:=r.2.1==0&&(((msT r.1).length:Int)==(l.length:Int)&&((osT r.1).length:Int)==(l.length:Int))
def Aox (l:List (TCT F7)) (g:GbT) (r:TCTs [cSt,cI]):Ayw:=bif r.2.1==0 then bif ((msT r.1).length:Int)==(l.length:Int) then .leaf (grb g,St.etaS r.1,((osT r.1).length:Int)==(l.length:Int),()) else .leaf (grb g,St.etaS r.1,false,()) else .leaf (grb g,St.etaS r.1,false,())
def Aoy (g:GbT) (l:List (TCT F7)) (ps:List (TCT cPt)):Ayw:=szT (lwb g) (Aox l g (Gj (grb g) ps))
def Aoz (y:Option (A0 Of)):Ayw:=bif isE .ret y then .leaf (grb (D4 .ret y).2.1,(D4 .ret y).2.2.1,(D4 .ret y).1.2.2.1,()) else bif isE (.exit 0) y then Aoy (D4 (.exit 0) y).2.2.2.1 (D4 (.exit 0) y).1.1 (D4 (.exit 0) y).1.2.2.2.2.1 else .fail
theorem Ap0 (x:TCTs [cI,cI,.sl F7,D3]):E1 Aou 7 (.fn 10) (Eg [cI,cI,.sl F7,D3] x) Ck 0 (If Aou.P [cGr,cSt,.b])=Aoz (Agn x.1 x.2.1 x.2.2.1 x.2.2.2.1):=by kernel_rfl
def gN (d s:Int) (x:TCT D3) (n:Nat):TCT cGr:=(grn d s,List.replicate n Us,(x.1,x.2.1,()),())
abbrev Ayx:Type:=List (TCT cPt)⊕List (TCT cPt)
def Uu (d s:Int) (l:List (TCT F7)):Ayx:=B8 (setF (grn d s) l) 0 l.length []
def sN:Ayx→Nat
 | .inl p=>p.length
 | .inr p=>p.length
def sS (d s:Int) (x:TCT D3):Ayx→TCT cSt
 | .inl p=>St.etaS (Gj (gN d s x p.length) p).1
 | .inr _=>zS
def sB (d s:Int) (x:TCT D3) (l:List (TCT F7)):Ayx→Bool
 | .inl p=>Aow l (Gj (gN d s x p.length) p)
 | .inr _=>false
abbrev B5j:PureT:=Bz [cI,cI,.sl F7,D3] [cGr,cSt,.b] (fun x=>decide (x.2.2.1.length≤1000)) (fun x=>(gN x.1 x.2.1 x.2.2.2.1 (sN (Uu x.1 x.2.1 x.2.2.1)),sS x.1 x.2.1 x.2.2.2.1 (Uu x.1 x.2.1 x.2.2.1),sB x.1 x.2.1 x.2.2.2.1 x.2.2.1 (Uu x.1 x.2.1 x.2.2.1),()))
theorem Y9 (d s:Int):((grn d s).1.size:Int)≤Bo .i64:=by
 show ((nameG.size:Nat):Int)≤_
 decide
theorem Ap1 {d s:Int} {l:List (TCT F7)} {x:TCT D3} (hl:l.length≤1000):(Aoz (Agn d s l x)).sat (fun y=>y=(gN d s x (sN (Uu d s l)),sS d s x (Uu d s l),sB d s x l (Uu d s l),())):=by
 have e:Agn d s l x=some (Y8 ⟨l,g00,s00⟩ (gb0 d s x) (Uu d s l)):=B8a (q:=⟨l,g00,s00⟩) (g:=gb0 d s x) hl (Y9 d s)
 rw [e]
 cases Uu d s l with
 | inr ps=>exact As rfl
 | inl ps =>
  show (Aoy (gbN (gb0 d s x) ps.length) l ps).sat _
  unfold Aoy
  rw [Dh (show (((lwb (gbN (gb0 d s x) ps.length)).1.size:Nat):Int)≤_ from Y9 d s)]
  show (Aox l (gbN (gb0 d s x) ps.length) (Gj (gN d s x ps.length) ps)).sat _
  unfold Aox
  show (bif (Gj (gN d s x ps.length) ps).2.1==0 then bif ((msT (Gj (gN d s x ps.length) ps).1).length:Int)==(l.length:Int) then .leaf (gN d s x ps.length,St.etaS (Gj (gN d s x ps.length) ps).1,((osT (Gj (gN d s x ps.length) ps).1).length:Int)==(l.length:Int),()) else .leaf (gN d s x ps.length,St.etaS (Gj (gN d s x ps.length) ps).1,false,()) else .leaf (gN d s x ps.length,St.etaS (Gj (gN d s x ps.length) ps).1,false,()):Ayw).sat (fun y=>y=(gN d s x ps.length,St.etaS (Gj (gN d s x ps.length) ps).1,Aow l (Gj (gN d s x ps.length) ps),()))
  unfold Aow
  cases (Gj (gN d s x ps.length) ps).2.1==0 <;> cases ((msT (Gj (gN d s x ps.length) ps).1).length:Int)==(l.length:Int) <;> exact As rfl
theorem B5k:A5 Tryz.prog 10 B5j:=C5 Aov 7 (fun x=>Aoz (Agn x.1 x.2.1 x.2.2.1 x.2.2.2.1)) Ap0 fun x hok _=>Ap1 (of_decide_eq_true hok)
end Tp
end V
end Go.Proofs.YtcfanlgpkefogaaGreat
namespace Go.Proofs.YtcfanlgpkefogaaGreat
open Go.RowKit
namespace V
namespace Tp
open St
theorem is_works05:FnIs Tryz.prog (9,Tryz.f9):=⟨Tryz.func9,by kernel_rfl,by kernel_rfl⟩
theorem is_works04:FnIs Tryz.prog (17,Tryz.f17):=⟨Tryz.func17,by kernel_rfl,by kernel_rfl⟩
abbrev Pu:PureT:=Bz [] [.b] (fun _=>true) (fun _=>(true,()))
noncomputable def plWk:List (Nat×PureT):=[(43,K2),(10,B5j),(75,Oo)]
theorem puWk:De Tryz.prog plWk:=puOk_cons Ir.plain Lm (puOk_cons is_set.plain B5k (puOk_cons is_lCheck.plain Mf puOk_nil))
theorem Uv:A5 Tryz.prog 9 Pu:=A79 (Qi (u:=20) Aw puWk Aho) 40 (fun _=>by kernel_rfl)
theorem Akz:A5 Tryz.prog 17 Pu:=A79 (Qi (u:=20) Aw puWk Aho) 40 (fun _=>by kernel_rfl)
abbrev Qk:TC:=.st [.i .i16,.i .i16,.i .u32,.i .u8]
def Ic (w:TCT Qk) (b:Int):TCT cBl:=(b,(W64 w.1,(bif W64 w.1==0&&(W64 w.2.1==0&&true) then 1 else W64 w.2.1),()),W64 (1+Int.tmod (W64 w.2.2.1) 2097152),Int.tmod (W64 w.2.2.2.1) 5,())
abbrev B8b:PureT:=Bz [Qk,cI] [cBl] (fun _=>true) (fun x=>(Ic x.1 x.2.1,()))
def Ap2 (w:TCT Qk) (b:Int):Tree (TCTs [cBl]):=bif W64 w.1==0&&(W64 w.2.1==0&&true) then .leaf ((b,(W64 w.1,1,()),W64 (1+Int.tmod (W64 w.2.2.1) 2097152),Int.tmod (W64 w.2.2.2.1) 5,()),()) else .leaf ((b,(W64 w.1,W64 w.2.1,()),W64 (1+Int.tmod (W64 w.2.2.1) 2097152),Int.tmod (W64 w.2.2.2.1) 5,()),())
theorem Ap3 (w:TCT Qk) (b:Int):(Ap2 w b).sat (fun y=>y=(Ic w b,())):=by
 unfold Ap2 Ic
 cases W64 w.1==0&&(W64 w.2.1==0&&true) <;> exact As rfl
theorem B8c:A5 Tryz.prog 12 B8b:=C5 (B6 Aw puOk_nil (fns_cons is_blow A1)) 5 (fun x=>Ap2 x.1 x.2.1) (fun x=>by kernel_rfl) fun x _ _=>Ap3 _ _
def B5l (g:TCT cGr):TCT cGr:=Alj (Eh g)
abbrev FGn:Type:=Int→Int→TCT D3→List (TCT F7)→TCT cGr
abbrev FSs:Type:=Int→Int→TCT D3→List (TCT F7)→TCT cSt
abbrev FBb:Type:=Int→Int→TCT D3→List (TCT F7)→Bool
abbrev FBl:Type:=TCT Qk→Int→TCT cBl
abbrev FSk:Type:=TCT cGr→TCT cSt→TCT cBl→TkR
abbrev FTk:Type:=TCT cGr→TCT cSt→TkR
abbrev FTt:Type:=TCT cGr→TCT cSt→SKTs kPt
abbrev Acu (g:TCT cGr):Bool:=decide ((g.1.1.size:Int)≤Bo .i64)
def B5m (b:TCT cBl):TCT cBl:=(b.1,(b.2.1.1,b.2.1.2.1,()),b.2.2.1,b.2.2.2.1,())
abbrev Ap4 (G:FGn) (S:FSs) (B:FBb):PureT:=Bz [cI,cI,.sl F7,D3] [cGr,cSt,.b] (fun x=>decide (x.2.2.1.length≤1000)) (fun x=>(B5l (G x.1 x.2.1 x.2.2.2.1 x.2.2.1),St.etaS (S x.1 x.2.1 x.2.2.2.1 x.2.2.1),B x.1 x.2.1 x.2.2.2.1 x.2.2.1,()))
abbrev Ap5 (W:FBl):PureT:=Bz [Qk,cI] [cBl] (fun _=>true) (fun x=>(B5m (W x.1 x.2.1),()))
abbrev B5n (F:FSk):PureT:=Bz [cGr,cSt,cBl] [cSt,.sl cKn,cI] (fun x=>Acu x.1) (fun x=>Zh (F x.1 x.2.1 x.2.2.1))
abbrev B5o (F:FTk):PureT:=Bz [cGr,cSt] [cSt,.sl cKn,cI] (fun x=>Acu x.1) (fun x=>Zh (F x.1 x.2.1))
abbrev B5p (V:FTt):PureT:=Bz [cGr,cSt] [cPt,cI] (fun x=>Acu x.1) (fun x=>(((V x.1 x.2.1).1,(V x.1 x.2.1).2.1,()),Db x.1 x.2.1,()))
def Lf:FGn:=fun d s x l=>gN d s x (sN (Uu d s l))
def O1:FSs:=fun d s x l=>sS d s x (Uu d s l)
def Oi:FBb:=fun d s x l=>sB d s x l (Uu d s l)
theorem B8d:A5 Tryz.prog 10 (Ap4 Lf O1 Oi):=B5k
theorem B8e:A5 Tryz.prog 12 (Ap5 Ic):=B8c
end Tp
end V
end Go.Proofs.YtcfanlgpkefogaaGreat
