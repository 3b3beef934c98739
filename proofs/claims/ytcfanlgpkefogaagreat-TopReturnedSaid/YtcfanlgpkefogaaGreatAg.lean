import Derived.Test.YtcfanlgpkefogaaGreatAb
import Derived.Test.YtcfanlgpkefogaaGreatCA
namespace Go.Proofs.YtcfanlgpkefogaaGreat
open Go.RowKit
namespace V
theorem is_cB1:FnIs Tryz.prog (111,Tryz.f111):=⟨Tryz.func111,by kernel_rfl,by kernel_rfl⟩
theorem is_vBall:FnIs Tryz.prog (77,Tryz.f77):=⟨Tryz.func77,by kernel_rfl,by kernel_rfl⟩
theorem is_ckBall:FnIs Tryz.prog (70,Tryz.f70):=⟨Tryz.func70,by kernel_rfl,by kernel_rfl⟩
def cbP (d:TCT A2):Bool:=Gu d.1.1 d.1.2.1 != 0||!St.inR d.2.1 1 16384
abbrev B6i:PureT:=Bv [A2] [.b] (fun _=>true) (fun x=>(cbP x.1,()))
def plCb0:List (Nat×PureT):=[(43,J9),(105,St.s_inR)]
theorem puCb0:Db Tryz.prog plCb0:=puOk_cons Hj.plain K0 (puOk_cons St.is_between2.plain St.q_between2 puOk_nil)
theorem Be1:A7 Tryz.prog 111 B6i:=C0 (B5 Aw puCb0 (fns_cons is_cB1 (fns_cons is_vBall A0))) 4 (fun x=>bif Gu x.1.1.1 x.1.1.2.1 != 0 then .leaf (true,()) else .leaf (!St.inR x.1.2.1 1 16384,())) (fun x=>by kernel_rfl) fun x _ _=>by
 show (bif Gu x.1.1.1 x.1.1.2.1 != 0 then Tree.leaf (true,()) else Tree.leaf (!St.inR x.1.2.1 1 16384,())).sat (fun y=>y=(Gu x.1.1.1 x.1.1.2.1 != 0||!St.inR x.1.2.1 1 16384,()))
 cases Gu x.1.1.1 x.1.1.2.1 != 0 <;> exact rfl
def plCb:List (Nat×PureT):=[(111,B6i)]
theorem puCb:Db Tryz.prog plCb:=puOk_cons is_cB1.plain Be1 puOk_nil
theorem is_ixDsc:FnIs Tryz.prog (131,Tryz.f131):=⟨Tryz.func131,by kernel_rfl,by kernel_rfl⟩
theorem is_cfDsc:FnIs Tryz.prog (89,Tryz.f89):=⟨Tryz.func89,by kernel_rfl,by kernel_rfl⟩
abbrev Lr:List SK:=[]
def Gx (k:SKTs Lr) (x:TCT (A2)):Bool:=cbP x
noncomputable def A7y:Code:=(As (bodyOf Tryz.f131)).getD 0 .skip
def Mq:Lay:={ keys:=[0,1,7,8],ks:=[.d (.sl (A2)),.f 111 [] Lr,.d cI,.d cI],bs:=[],n:=19,nx:=1000,marks:=[] }
def Aph:Lay:={ keys:=[4],ks:=[.d cI],bs:=[],n:=19,nx:=1000,marks:=[] }
def Api:Lay:={ keys:=[],ks:=[],bs:=[],n:=19,nx:=1000,marks:=[] }
def Ky:XE→Lay
 | .ret=>Aph
 | _=>Api
def A7z (k:SKTs Lr) (l:List (TCT (A2))) (n i:Int):Mq.T:=((l,((),k),n,i,()),())
def Xq (i:Int):A1 Ky:=⟨.ret,((i,()),())⟩
def Xr:A1 Ky:=⟨.exit 0,((),())⟩
def Mr (k:SKTs Lr) (l:List (TCT (A2))) (n:Int) (x:TCT (A2)) (i:Int):Tree (Mq.T⊕A1 Ky):=bif Gx k x then .leaf (.inr (Xq i)) else .leaf (.inl (A7z k l n (W64 (i+1))))
def Apj (k:SKTs Lr) (l:List (TCT (A2))) (n i:Int):Tree (Mq.T⊕A1 Ky) :=
 bif decide (i<n) then bif decide (0≤i∧i<(l.length:Int)) then Mr k l n (Bc l i.toNat (B7 (A2))) i else .fail else .leaf (.inr Xr)
def Uz (g:Mq.T):Tree (A1 Ky) :=
 .br (Jt g.1.2.2.1 g.1.2.2.2.1 g.1.1) (.br (g.1.1.any (Gx g.1.2.1.2)) (.leaf (Xq (g.1.1.findIdx (Gx g.1.2.1.2)))) (.leaf Xr)) .fail
theorem Azh:Bb Tryz.prog 131 A7y (B8 Mq Ky Uz):=by
 refine G1 (X:=ctx Tryz.prog plCb []) (B5 Aw puCb A0) 7 131 (fun _=>none) (fun _ _ f h=>by simp at h) Mq Ky (fun e=>by cases e <;> exact Nat.le_refl _) Uz (fun g=>Apj g.1.2.1.2 g.1.1 g.1.2.2.1 g.1.2.2.2.1) (fun g=>by kernel_rfl) ?_
 rintro ⟨⟨l,⟨⟨⟩,k⟩,n,i,⟨⟩⟩,⟨⟩⟩ R hw hf
 obtain ⟨hf,h0⟩:=hf
 by_cases hc:n=(l.length:Int)∧i=0
 ·obtain ⟨rfl,rfl⟩:=hc
  have hf:=hf (decide_eq_true ⟨rfl,rfl⟩)
  refine Aow l (B7 (A2)) (G9 hw.1.1) (fun n i _=>A7z k l n i) (fun x i (_:Unit)=>bif Gx k x then .inr (Xq i) else .inl ()) (fun _=>Xr) (fun _=>True) (fun x i _=>Mr k l l.length x i) (fun i _=>rfl) ?_ () trivial ?_
  ·intro i _ hi Q _ _ hw1 hQ
   show (Mr k l l.length l[i] i).sat Q
   unfold Mr
   rw [hw1]
   cases hp:Gx k l[i] with
   | true=>rw [hp] at hQ;exact hQ
   | false=>rw [hp] at hQ;exact hQ trivial
  ·rw [Nx (Gx k) (fun i=>Xq i) Xr l 0,Nat.zero_add]
   cases ha:l.any (Gx k) with
   | true=>exact hf.1 ha
   | false=>exact hf.2 ha
 ·exact (h0 (decide_eq_false hc)).elim
abbrev Azi:PureT:=Jk [.d (.sl (A2)),.f 111 [] Lr] [cI] (fun _=>true) (fun x=>(bif x.1.any (Gx x.2.1.2) then (x.1.findIdx (Gx x.2.1.2):Int) else -1,()))
noncomputable def Azj:Ctx:=I7 Tryz.prog plCb [(131,Tryz.f131)] [((131,keyOf A7y),B8 Mq Ky Uz)]
theorem Ad4:CtxOk Azj:=Cp Aw puCb (fns_cons is_ixDsc A0) (Cc rfl (by kernel_rfl) Azh)
def Ahc (k:SKTs Lr) (l:List (TCT (A2))):Tree (Int×Unit):=bif Jt (l.length:Int) 0 l then bif l.any (Gx k) then .leaf ((l.findIdx (Gx k):Int),()) else .leaf (-1,()) else .fail
theorem Ad5 (k:SKTs Lr) (l:List (TCT (A2))):(Ahc k l).sat (fun y=>y=(bif l.any (Gx k) then (l.findIdx (Gx k):Int) else -1,())):=by
 refine Mk (decide_eq_true ⟨rfl,rfl⟩) ?_
 cases l.any (Gx k) <;> exact rfl
theorem Azk:A7 Tryz.prog 131 Azi:=Mo Ad4 8 (fun x=>Ahc x.2.1.2 x.1) (fun x=>by kernel_rfl) fun x _ _=>Ad5 _ _
abbrev Ahd:PureT:=Jk [.d (.sl (A2)),.f 111 [] Lr] [.b] (fun _=>true) (fun x=>(x.1.any (Gx x.2.1.2),()))
theorem Ad6 (k:SKTs Lr) (l:List (TCT (A2))):(Tree.leaf (decide ((bif l.any (Gx k) then (l.findIdx (Gx k):Int) else -1)≥0),()):Tree (Bool×Unit)).sat (fun y=>y=(l.any (Gx k),())):=by
 rw [Qg];exact rfl
theorem Azl:A7 Tryz.prog 89 Ahd:=Mo (B5 Aw (puOk_cons is_ixDsc.plain Azk puOk_nil) (fns_cons is_cfDsc A0)) 8 (fun x=>.leaf (decide ((bif x.1.any (Gx x.2.1.2) then (x.1.findIdx (Gx x.2.1.2):Int) else -1)≥0),())) (fun x=>by kernel_rfl) fun x _ _=>Ad6 _ _
def cbE (r:Int) (o:List (TCT A2)):Int:=bif !St.inR r 1 16384 then 3 else bif decide ((o.length:Int)>12) then 6 else bif o.any cbP then 2 else 0
abbrev Y9:PureT:=Bv [cI,.sl A2] [cI] (fun _=>true) (fun x=>(cbE x.1 x.2.1,()))
def plCb2:List (Nat×PureT):=[(105,St.s_inR),(89,Ahd)]
theorem puCb2:Db Tryz.prog plCb2:=puOk_cons St.is_between2.plain St.q_between2 (puOk_cons is_cfDsc.plain Azl puOk_nil)
def Yo (r:Int) (o:List (TCT A2)):Tree (TCTs [cI]):=bif !St.inR r 1 16384 then .leaf (3,()) else bif decide ((o.length:Int)>12) then .leaf (6,()) else bif o.any (Gx ()) then .leaf (2,()) else .leaf (0,())
theorem A80 (r:Int) (o:List (TCT A2)):(Yo r o).sat (fun y=>y=(cbE r o,())):=by
 unfold Yo cbE
 show (bif !St.inR r 1 16384 then .leaf (3,()) else bif decide ((o.length:Int)>12) then .leaf (6,()) else bif o.any cbP then .leaf (2,()) else .leaf (0,()):Tree (TCTs [cI])).sat _
 cases !St.inR r 1 16384 <;> cases decide ((o.length:Int)>12) <;> cases o.any cbP <;> exact rfl
theorem A81:A7 Tryz.prog 70 Y9:=C0 (B5 Aw puCb2 (fns_cons is_ckBall (fns_cons is_vBall A0))) 5 (fun x=>Yo x.1 x.2.1) (fun x=>by kernel_rfl) fun _ _ _=>A80 _ _
end V
end Go.Proofs.YtcfanlgpkefogaaGreat
namespace Go.Proofs.YtcfanlgpkefogaaGreat
open Go.RowKit
namespace V
open St
theorem is_InWay:FnIs Tryz.prog (24,Tryz.f24):=⟨Tryz.func24,by kernel_rfl,by kernel_rfl⟩
theorem is_InWay1:FnIs Tryz.prog (71,Tryz.f71):=⟨Tryz.func71,by kernel_rfl,by kernel_rfl⟩
theorem is_Touched:FnIs Tryz.prog (37,Tryz.f37):=⟨Tryz.func37,by kernel_rfl,by kernel_rfl⟩
theorem is_May:FnIs Tryz.prog (41,Tryz.f41):=⟨Tryz.func41,by kernel_rfl,by kernel_rfl⟩
abbrev kP6:List SK:=[.d cI,.d cI]
abbrev Xj (p:SKTs kP6):TCT cPt:=(p.1,p.2.1,())
def iwD (a b:TCT cPt) (r:Int) (d:TCT A2):Bool:=decide ((LsR a.1 a.2.1 b.1 b.2.1 d.1.1 d.1.2.1 (W64 (r+d.2.1))).1<0)
def iwF (p:TCT A2→Bool):List (TCT A2)→Int→List Int
 | [],_=>[]
 | d::ds,i=>bif p d then i::iwF p ds (i+1) else iwF p ds (i+1)
noncomputable def B6j:Code:=(As (bodyOf Tryz.f24)).getD 0 .skip
def Bja:List BK:=[(1,31,kP6),(2,31,kP6),(3,2,[.d cI])]
def A82:Lay:={ keys:=[14,15,37,38,39],ks:=[.f 71 [] [.p 1 0 0 0,.p 2 0 0 0,.p 3 0 0 0],.o 3 cI,.d (.sl A2),.d cI,.d cI],bs:=Bja,n:=53,nx:=1000,marks:=[] }
def Bjb:Lay:={ keys:=[15],ks:=[.o 3 cI],bs:=[],n:=53,nx:=1000,marks:=[] }
def Yp:XE→Lay:=fun _=>Bjb
structure QIw where
 a:SKTs kP6
 b:SKTs kP6
 r:SKTs [.d cI]
 n:Int
 ds:List (TCT A2)
def A83 (q:QIw) (i:Int) (o:List Int):A82.T:=((((),(),(),(),()),o,q.ds,q.n,i,()),(q.a,q.b,q.r,()))
def A84 (o:List Int):A1 Yp:=⟨.exit 0,((o,()),())⟩
def A85 (q:QIw) (i:Int) (o:List Int):Tree (A82.T⊕A1 Yp) :=
 bif decide (i<q.n) then bif decide (0≤i∧i<(q.ds.length:Int)) then bif iwD (Xj q.a) (Xj q.b) q.r.1 (Bc q.ds (Int.toNat i) (B7 A2)) then bif E8 o [i] 8 then .leaf (.inl (A83 q (W64 (i+1)) (o++[i]))) else .fail else .leaf (.inl (A83 q (W64 (i+1)) o)) else .fail else .leaf (.inr (A84 o))
def Yq (x:A82.T):Tree (A82.T⊕A1 Yp):=A85 ⟨x.2.1,x.2.2.1,x.2.2.2.1,x.1.2.2.2.1,x.1.2.2.1⟩ x.1.2.2.2.2.1 x.1.2.1
def Ahe (x:A82.T):Nat:=(x.1.2.2.1:List (TCT A2)).length+1
noncomputable def Be2:Ctx:=ctx Tryz.prog [(72,Apa)] [(71,Tryz.f71)]
theorem A86:CtxOk Be2:=B5 Aw (puOk_cons is_Lies.plain B8w puOk_nil) (fns_cons is_InWay1 A0)
theorem Bjc:Bb Tryz.prog 24 B6j (B8 A82 Yp (Dy [.exit 0] Yq Ahe)):=Br A86 7 _ A82 Yp (fun _=>Nat.le_refl _) [.exit 0] Yq Ahe (fun g=>by kernel_rfl)
theorem Ahf {E:Type} (p:TCT A2→Bool) (ex:List Int→E):∀ (l:List (TCT A2)) (i:Nat) (s:List Int),So (fun i x s=>some (.inl (bif p x then s++[(i:Int)] else s))) (fun s=>some (ex s)) i l s=some (ex (s++iwF p l (i:Int)))
 | [],_,s=>by simp only [So,iwF,List.append_nil]
 | x::l,i,s=>by
  simp only [So]
  rw [Ahf p ex l (i+1)]
  rw [show ((i+1:Nat):Int)=(i:Int)+1 from rfl,show iwF p (x::l) (i:Int)=(bif p x then (i:Int)::iwF p l ((i:Int)+1) else iwF p l ((i:Int)+1)) from rfl]
  cases p x with
  | true=>simp only [cond_true,List.append_assoc,List.singleton_append]
  | false=>simp only [cond_false]
theorem Bjd {o:List Int} {i:Int} (h:o.length≤100000):E8 o [i] 8=true:=by
 rw [Gd];exact decide_eq_true (by simp only [List.length_cons,List.length_nil];omega)
theorem Be3 {q:QIw} (hn:q.n=(q.ds.length:Int)) (hl:q.ds.length≤60000):iter Yq (q.ds.length+1) (A83 q 0 [])=some (A84 (iwF (iwD (Xj q.a) (Xj q.b) q.r.1) q.ds 0)):=by
 have key:=G2 (st:=Yq) q.ds (fun i o=>A83 q (i:Int) o) (fun i x o=>some (.inl (bif iwD (Xj q.a) (Xj q.b) q.r.1 x then o++[(i:Int)] else o))) (fun o=>some (A84 o)) (fun i o=>o.length≤i)
  (fun i o hi hI=>by
   simp only
   refine ⟨?_,?_⟩
   ·show (A85 q (i:Int) o).run=_
    unfold A85
    rw [hn,decide_eq_true (show (i:Int)<(q.ds.length:Int) by omega),decide_eq_true (show 0≤(i:Int)∧(i:Int)<(q.ds.length:Int) by omega),show Int.toNat (i:Int)=i by omega,Ed hi,Bi (n:=(i:Int)+1) (by omega) (by omega),Bjd (by omega)]
    simp only [cond_true]
    cases iwD (Xj q.a) (Xj q.b) q.r.1 q.ds[i] <;> rfl
   ·cases iwD (Xj q.a) (Xj q.b) q.r.1 q.ds[i] with
    | true=>simp only [cond_true,List.length_append,List.length_singleton];omega
    | false=>simp only [cond_false];omega)
  (fun o e hI he=>by
   cases he
   show (A85 q (q.ds.length:Int) o).run=_
   unfold A85
   rw [hn,decide_eq_false (show ¬ (q.ds.length:Int)<(q.ds.length:Int) by omega)]
   rfl)
  q.ds.length 0 [] (A84 (iwF (iwD (Xj q.a) (Xj q.b) q.r.1) q.ds 0)) (q.ds.length+1) (by omega) (by omega) (Nat.zero_le _) (by rw [List.drop_zero,Ahf,List.nil_append];rfl)
 exact key
def Ke (l:TCT A5) (a b:TCT cPt) (r:Int) (o:List (TCT A2)):Int:=bif Ck l != 0 then Ck l else bif Gu a.1 a.2.1 != 0 then 2 else bif Gu b.1 b.2.1 != 0 then 2 else cbE r o
def Rb (l:TCT A5) (a b:TCT cPt) (r:Int) (o:List (TCT A2)):List Int:=bif Ke l a b r o==0 then iwF (iwD a b r) (Bz l++o) 0 else []
abbrev Azm:PureT:=Bv [A5,cPt,cPt,cI,.sl A2] [.sl cI,cI] (fun x=>decide ((x.1.1.size:Int)≤Bl .i64)) (fun x=>(Rb x.1 x.2.1 x.2.2.1 x.2.2.2.1 x.2.2.2.2.1,Ke x.1 x.2.1 x.2.2.1 x.2.2.2.1 x.2.2.2.2.1,()))
def plIw:List (Nat×PureT):=(75,Qq)::(74,Mx)::(43,J9)::(70,Y9)::(73,A7x)::[]
theorem puIw:Db Tryz.prog plIw:=puOk_cons is_lCheck.plain M7 (puOk_cons is_lposts.plain A5k (puOk_cons Hj.plain K0 (puOk_cons is_ckBall.plain A81 (puOk_cons is_Concat.plain Apg puOk_nil))))
abbrev TIw:=Tree (TCTs [.sl cI,cI])
def B8x (a b:TCT cPt) (r:Int) (ds:List (TCT A2)):Option (A1 Yp):=iter Yq (ds.length+1) (A83 ⟨a,b,(r,()),(ds.length:Int),ds⟩ 0 [])
def Azn (l:TCT A5) (a b:TCT cPt) (r:Int) (o:List (TCT A2)):TIw:=bif cbE r o != 0 then .leaf ([],cbE r o,()) else bif decide ((Bh l).length≤1000) then bif cc2 [Bz l,o] then bif isE (.exit 0) (B8x a b r (ccV [Bz l,o])) then .leaf ((D4 (.exit 0) (B8x a b r (ccV [Bz l,o]))).1.1,0,()) else .fail else .fail else .fail
def Azo (l:TCT A5) (a b:TCT cPt) (r:Int) (o:List (TCT A2)):TIw:=szT l (bif Ck l != 0 then bif Ck l != 0 then .leaf ([],Ck l,()) else Azn l a b r o else bif Gu a.1 a.2.1 != 0 then .leaf ([],2,()) else bif Gu b.1 b.2.1 != 0 then .leaf ([],2,()) else Azn l a b r o)
noncomputable def Bje:Ctx:=I7 Tryz.prog plIw [(24,Tryz.f24),(57,Tryz.f57)] [((24,10),B8 A82 Yp (Dy [.exit 0] Yq Ahe))]
theorem Azp:CtxOk Bje:=Cp Aw puIw (fns_cons is_InWay (fns_cons is_lchk A0)) (Bn (Cc (by kernel_rfl) (by kernel_rfl) Bjc (24,Tryz.f24) (List.mem_singleton.2 rfl)) (Bn (fun d _ g hg=>nomatch (show none=some g from hg)) Gi))
theorem Apk {l:TCT A5} (h:Ck l=0):(Bz l).length≤25:=by
 have:=(Td h).1
 unfold Bz
 rw [List.length_append,Ta]
 simp only [List.length_singleton]
 omega
theorem B8y {r:Int} {o:List (TCT A2)} (h:cbE r o=0):o.length≤12:=by
 unfold cbE at h
 cases h1:!St.inR r 1 16384 with
 | true=>rw [h1] at h;cases h
 | false =>
  cases h2:decide ((o.length:Int)>12) with
  | true=>rw [h1,h2] at h;cases h
  | false =>
   have:=of_decide_eq_false h2
   omega
theorem Azq {l:TCT A5} {a b:TCT cPt} {r:Int} {o:List (TCT A2)} (h:Ck l=0) (ha:Gu a.1 a.2.1=0) (hb:Gu b.1 b.2.1=0):(Azn l a b r o).sat (fun y=>y=(Rb l a b r o,Ke l a b r o,())):=by
 have e:Ke l a b r o=cbE r o:=by unfold Ke;rw [h,ha,hb];rfl
 unfold Azn Rb
 rw [e]
 have h12:=(Td h).1
 have hp:=Apk h
 cases hc:cbE r o != 0 with
 | true =>
  have hc':(cbE r o==0)=false:=by simpa using hc
  rw [hc']
  exact Ak rfl
 | false =>
  have hc':=bne_eq_false_iff_eq.1 hc
  have hl:=B8y hc'
  rw [cond_false,decide_eq_true (show (Bh l).length≤1000 by omega),show cc2 [Bz l,o]=true from decide_eq_true (show (Bz l).length+o.length≤60000 by omega),cond_true,cond_true]
  have hv:ccV [Bz l,o]=Bz l++o:=rfl
  have hll:(Bz l++o).length≤60000:=by rw [List.length_append];omega
  have hy:B8x a b r (ccV [Bz l,o])=some (A84 (iwF (iwD a b r) (Bz l++o) 0)):=by
   rw [hv]
   exact Be3 (q:=⟨a,b,(r,()),((Bz l++o).length:Int),Bz l++o⟩) rfl hll
  rw [hy,hc']
  exact Ak rfl
theorem Ahg {l:TCT A5} {a b:TCT cPt} {r:Int} {o:List (TCT A2)} (hs:(l.1.size:Int)≤Bl .i64):(Azo l a b r o).sat (fun y=>y=(Rb l a b r o,Ke l a b r o,())):=by
 unfold Azo
 rw [Dg hs]
 cases h:Ck l != 0 with
 | true =>
  have e:Ke l a b r o=Ck l:=by unfold Ke;rw [h];rfl
  have h':(Ck l==0)=false:=by simpa using h
  unfold Rb
  rw [e,h']
  exact Ak rfl
 | false =>
  have h':=bne_eq_false_iff_eq.1 h
  rw [cond_false]
  cases ha:Gu a.1 a.2.1 != 0 with
  | true =>
   have e:Ke l a b r o=2:=by unfold Ke;rw [h,ha];rfl
   unfold Rb
   rw [e]
   exact Ak rfl
  | false =>
   rw [cond_false]
   cases hb:Gu b.1 b.2.1 != 0 with
   | true =>
    have e:Ke l a b r o=2:=by unfold Ke;rw [h,ha,hb];rfl
    unfold Rb
    rw [e]
    exact Ak rfl
   | false=>exact Azq h' (bne_eq_false_iff_eq.1 ha) (bne_eq_false_iff_eq.1 hb)
theorem Azr:A7 Tryz.prog 24 Azm:=C0 Azp 10 (fun x=>Azo x.1 x.2.1 x.2.2.1 x.2.2.2.1 x.2.2.2.2.1) (fun x=>by kernel_rfl) fun x hok _=>Ahg (of_decide_eq_true hok)
abbrev Alv:PureT:=Bv [A5,cPt,cI,.sl A2] [.sl cI,cI] (fun x=>decide ((x.1.1.size:Int)≤Bl .i64)) (fun x=>(Rb x.1 x.2.1 x.2.1 x.2.2.1 x.2.2.2.1,Ke x.1 x.2.1 x.2.1 x.2.2.1 x.2.2.2.1,()))
theorem Alw:A7 Tryz.prog 37 Alv:=C0 (B5 Aw (puOk_cons is_InWay.plain Azr puOk_nil) (fns_cons is_Touched A0)) 5 (fun x=>szT x.1 (.leaf (Rb x.1 x.2.1 x.2.1 x.2.2.1 x.2.2.2.1,Ke x.1 x.2.1 x.2.1 x.2.2.1 x.2.2.2.1,()))) (fun x=>by kernel_rfl) fun x hok _=>by
  rw [Dg (of_decide_eq_true hok)];exact Ak rfl
def Ad7 (l:TCT A5) (p:TCT cPt) (r:Int) (o:List (TCT A2)):Int:=Ke l p p r o
def Ad8 (l:TCT A5) (p:TCT cPt) (r:Int) (o:List (TCT A2)):Bool:=bif Ke l p p r o != 0 then false else ((Rb l p p r o).length:Int)==0&&onB l p
abbrev B6k:PureT:=Bv [A5,cPt,cI,.sl A2] [.b,cI] (fun x=>decide ((x.1.1.size:Int)≤Bl .i64)) (fun x=>(Ad8 x.1 x.2.1 x.2.2.1 x.2.2.2.1,Ad7 x.1 x.2.1 x.2.2.1 x.2.2.2.1,()))
abbrev Bjf:=Tree (TCTs [.b,cI])
def Apl (l:TCT A5) (p:TCT cPt) (r:Int) (o:List (TCT A2)):Bjf:=szT l (bif Ke l p p r o != 0 then .leaf (false,Ke l p p r o,()) else bif ((Rb l p p r o).length:Int)==0 then bif St.inR p.1 0 l.2.1 then .leaf (St.inR p.2.1 0 l.2.2.1,0,()) else .leaf (false,0,()) else .leaf (false,0,()))
theorem Apm {l:TCT A5} {p:TCT cPt} {r:Int} {o:List (TCT A2)} (hs:(l.1.size:Int)≤Bl .i64):(Apl l p r o).sat (fun y=>y=(Ad8 l p r o,Ad7 l p r o,())):=by
 unfold Apl Ad8 Ad7
 rw [Dg hs]
 cases h:Ke l p p r o != 0 with
 | true=>exact Ak rfl
 | false =>
  have h':=bne_eq_false_iff_eq.1 h
  rw [h']
  cases ((Rb l p p r o).length:Int)==0 with
  | false=>exact Ak rfl
  | true =>
   unfold onB
   cases St.inR p.1 0 l.2.1 <;> exact Ak rfl
theorem Be4:A7 Tryz.prog 41 B6k:=C0 (B5 Aw (puOk_cons is_Touched.plain Alw (puOk_cons is_between2.plain q_between2 puOk_nil)) (fns_cons is_May (fns_cons is_lon A0))) 5 (fun x=>Apl x.1 x.2.1 x.2.2.1 x.2.2.2.1) (fun x=>by kernel_rfl) fun x hok _=>Apm (of_decide_eq_true hok)
end V
end Go.Proofs.YtcfanlgpkefogaaGreat
namespace Go.Proofs.YtcfanlgpkefogaaGreat
open Go.RowKit
namespace V
namespace Tp
open St
theorem is_green:FnIs Tryz.prog (26,Tryz.f26):=⟨Tryz.func26,by kernel_rfl,by kernel_rfl⟩
theorem is_round:FnIs Tryz.prog (16,Tryz.f16):=⟨Tryz.func16,by kernel_rfl,by kernel_rfl⟩
theorem is_spot:FnIs Tryz.prog (22,Tryz.f22):=⟨Tryz.func22,by kernel_rfl,by kernel_rfl⟩
theorem is_blow:FnIs Tryz.prog (12,Tryz.f12):=⟨Tryz.func12,by kernel_rfl,by kernel_rfl⟩
theorem is_set:FnIs Tryz.prog (10,Tryz.f10):=⟨Tryz.func10,by kernel_rfl,by kernel_rfl⟩
abbrev Be5:TC:=.i .u16
abbrev D6:TC:=.st [Be5,Be5]
def B6l:TCT C9:=(50000,40000,6000,500,false,())
def B6m:TCT C9:=(30000,100000,6200,500,true,())
def Bjg:TCT A2:=((50000,100000,()),1200,())
def nameG:ByteArray:=⟨#[103,114,101,101,110]⟩
def grn (d s:Int):TCT A5:=(nameG,100000,200000,5000,[B6l,B6m],Bjg,1,1,[(d,s,0,())],())
abbrev Ahh:PureT:=Bv [cI,cI] [A5] (fun _=>true) (fun x=>(grn x.1 x.2.1,()))
theorem Azs:A7 Tryz.prog 26 Ahh:=C0 (B5 Aw puOk_nil (fns_cons is_green A0)) 5 (fun x=>.leaf (grn x.1 x.2.1,())) (fun x=>by kernel_rfl) fun _ _ _=>Ak rfl
def V0:TCT A3:=(450,2946,())
abbrev Ahi:PureT:=Bv [] [A3] (fun _=>true) (fun _=>(V0,()))
theorem Azt:A7 Tryz.prog 16 Ahi:=C0 (B5 Aw puOk_nil (fns_cons is_round A0)) 5 (fun x=>.leaf (V0,())) (fun x=>by kernel_rfl) fun _ _ _=>Ak rfl
def spt (d:TCT D6):TCT cPt:=(W64 (Int.tdiv (W64 (W64 d.1*3)) 2),W64 (W64 d.2.1*3),())
abbrev Apn:PureT:=Bv [D6] [cPt] (fun _=>true) (fun x=>(spt x.1,()))
theorem B8z:A7 Tryz.prog 22 Apn:=C0 (B5 Aw puOk_nil (fns_cons is_spot A0)) 5 (fun x=>.leaf (spt x.1,())) (fun x=>by kernel_rfl) fun _ _ _=>Ak rfl
end Tp
end V
end Go.Proofs.YtcfanlgpkefogaaGreat
namespace Go.Proofs.YtcfanlgpkefogaaGreat
open Go.RowKit
namespace V
namespace Tp
open St
abbrev kGb:List SK:=[.d .s,.d cI,.d cI,.d cI,.d (.sl C9),.d cI,.d cI,.d cI,.d cI,.d cI,.d (.sl De),.o 70 A3,.d cI,.d cI]
noncomputable def B90:Code:=(As (bodyOf Tryz.f10)).getD 0 .skip
def B6n:List BK:=[(1,41,kGr),(2,45,kSt),(8,41,kGb)]
def Sq:Lay:={ keys:=[2,8,9,11,12,13,14],ks:=[.d (.sl D6),.p 1 0 0 0,.p 2 0 0 0,.p 8 0 0 0,.o 31 cPt,.o 33 A2,.d cI],bs:=B6n,n:=97,nx:=1000,marks:=[] }
def Be6:Lay:={ keys:=[2,8,9,11,12],ks:=[.d (.sl D6),.p 1 0 0 0,.p 2 0 0 0,.p 8 0 0 0,.o 31 cPt],bs:=B6n,n:=97,nx:=1000,marks:=[] }
def B91:Lay:={ keys:=[8,9,10],ks:=[.p 1 0 0 0,.p 2 0 0 0,.d .b],bs:=[(1,41,kGb),(2,45,kSt)],n:=97,nx:=1000,marks:=[] }
def Od:XE→Lay:=fun e=>match e with | .ret=>B91 | _=>Be6
def plSet5:List (Nat×PureT):=(41,B6k)::(26,Ahh)::(16,Ahi)::(22,Apn)::(28,B79)::[]
theorem puSet5:Db Tryz.prog plSet5:=puOk_cons is_May.plain Be4 (puOk_cons is_green.plain Azs (puOk_cons is_round.plain Azt (puOk_cons is_spot.plain B8z (puOk_cons is_sLie.plain B7a puOk_nil))))
noncomputable def B92:Ctx:=ctx Tryz.prog plSet5 []
theorem Alx:CtxOk B92:=B5 Aw puSet5 A0
abbrev GbT:Type:=SKTs kGb
def lwb (g:GbT):TCT A5:=(g.1,g.2.1,g.2.2.1,g.2.2.2.1,g.2.2.2.2.1,((g.2.2.2.2.2.1,g.2.2.2.2.2.2.1,()),g.2.2.2.2.2.2.2.1,()),g.2.2.2.2.2.2.2.2.1,g.2.2.2.2.2.2.2.2.2.1,g.2.2.2.2.2.2.2.2.2.2.1,())
def blb (g:GbT):List (TCT A3):=g.2.2.2.2.2.2.2.2.2.2.2.1
def wbl (g:GbT) (b:List (TCT A3)):GbT:=(g.1,g.2.1,g.2.2.1,g.2.2.2.1,g.2.2.2.2.1,g.2.2.2.2.2.1,g.2.2.2.2.2.2.1,g.2.2.2.2.2.2.2.1,g.2.2.2.2.2.2.2.2.1,g.2.2.2.2.2.2.2.2.2.1,g.2.2.2.2.2.2.2.2.2.2.1,b,g.2.2.2.2.2.2.2.2.2.2.2.2.1,g.2.2.2.2.2.2.2.2.2.2.2.2.2.1,())
structure QSt where
 l:List (TCT D6)
 g0:SKTs kGr
 s0:SKTs kSt
def Oe (p:TCT cPt):TCT A2:=((p.1,p.2.1,()),2946,())
def A56 (q:QSt) (g:GbT) (i:Int) (ps:List (TCT cPt)) (os:List (TCT A2)):Sq.T:=((q.l,(),(),(),ps,os,i,()),(q.g0,q.s0,g,()))
def A57 (q:QSt) (g:GbT) (ps:List (TCT cPt)):A1 Od:=⟨.exit 0,((q.l,(),(),(),ps,()),(q.g0,q.s0,g,()))⟩
def Ad9 (g:GbT):A1 Od:=⟨.ret,(((),(),false,()),(g,([],[],0,0,0,()),()))⟩
def Ada (q:QSt) (g:GbT) (i:Int) (ps:List (TCT cPt)) (os:List (TCT A2)) (p:TCT cPt):Tree (Sq.T⊕A1 Od) :=
 bif Ad7 (lwb g) p 2946 os != 0 then .leaf (.inr (Ad9 g)) else bif !Ad8 (lwb g) p 2946 os then .leaf (.inr (Ad9 g)) else
 bif E8 (blb g) [V0] 16 then bif E8 ps [p] 16 then bif E8 os [Oe p] 24 then .leaf (.inl (A56 q (wbl g (blb g++[V0])) (W64 (i+1)) (ps++[p]) (os++[Oe p]))) else .fail else .fail else .fail
def Yr (q:QSt) (g:GbT) (i:Int) (ps:List (TCT cPt)) (os:List (TCT A2)):Tree (Sq.T⊕A1 Od) :=
 bif decide (i<(q.l.length:Int)) then inN q.l.length i (szT (lwb g) (Ada q g i ps os (spt (Bc q.l (Int.toNat i) (B7 D6))))) else .leaf (.inr (A57 q g ps))
def V1 (x:Sq.T):Tree (Sq.T⊕A1 Od):=Yr ⟨x.1.1,x.2.1,x.2.2.1⟩ x.2.2.2.1 x.1.2.2.2.2.2.2.1 x.1.2.2.2.2.1 x.1.2.2.2.2.2.1
def Adb (x:Sq.T):Nat:=(x.1.1:List (TCT D6)).length+1
theorem Be7:Bb Tryz.prog 10 B90 (B8 Sq Od (Dy [.ret,.exit 0] V1 Adb)):=Br Alx 7 _ Sq Od (fun e=>by cases e <;> exact Nat.le_refl _) [.ret,.exit 0] V1 Adb (fun g=>by kernel_rfl)
def setF (w:TCT A5) (l:List (TCT D6)) (i:Nat) (ps:List (TCT cPt)):List (TCT cPt)⊕List (TCT cPt) :=
 bif Ad7 w (spt (Bc l i (B7 D6))) 2946 (ps.map Oe)!=0 then .inr ps else bif !Ad8 w (spt (Bc l i (B7 D6))) 2946 (ps.map Oe) then .inr ps else .inl (ps++[spt (Bc l i (B7 D6))])
def gbN (g:GbT) (n:Nat):GbT:=wbl g (List.replicate n V0)
def Ys (q:QSt) (g:GbT):List (TCT cPt)⊕List (TCT cPt)→A1 Od
 | .inl ps=>A57 q (gbN g ps.length) ps
 | .inr ps=>Ad9 (gbN g ps.length)
theorem B93 {q:QSt} {g:GbT} (hl:q.l.length≤1000) (hs:((lwb g).1.size:Int)≤Bl .i64):iter V1 (q.l.length+1) (A56 q (gbN g 0) 0 [] [])=some (Ys q g (B6 (setF (lwb g) q.l) 0 q.l.length [])):=by
 have key:=Hz (st:=V1) q.l.length (fun i ps=>A56 q (gbN g i) (i:Int) ps (ps.map Oe)) (setF (lwb g) q.l) (Ys q g) (fun i ps=>ps.length=i)
  (fun i ps hi hI=>by
   show (Yr q (gbN g i) (i:Int) ps (ps.map Oe)).run=_
   unfold Yr inN
   rw [decide_eq_true (show (i:Int)<(q.l.length:Int) by omega),decide_eq_true (show 0≤(i:Int)∧(i:Int)<(q.l.length:Int) by omega),show Int.toNat (i:Int)=i by omega]
   show (szT (lwb g) (Ada q (gbN g i) (i:Int) ps (ps.map Oe) (spt (Bc q.l i (B7 D6)))):Tree _).run=_
   rw [Dg hs]
   unfold Ada setF
   rw [show lwb (gbN g i)=lwb g from rfl]
   generalize spt (Bc q.l i (B7 D6))=p
   cases Ad7 (lwb g) p 2946 (ps.map Oe)!=0 with
   | true=>simp only [cond_true,At3,Ys,hI];rfl
   | false =>
    cases !Ad8 (lwb g) p 2946 (ps.map Oe) with
    | true=>simp only [cond_true,cond_false,At3,Ys,hI];rfl
    | false =>
     rw [Bi (n:=(i:Int)+1) (by omega) (by omega)]
     have e1:E8 (blb (gbN g i)) [V0] 16=true:=by
      rw [Gd];exact decide_eq_true (by show (((List.replicate i V0).length+[V0].length:Nat):Int)*16≤_;rw [List.length_replicate];simp only [List.length_singleton];omega)
     have e2:E8 ps [p] 16=true:=by rw [Gd];exact decide_eq_true (by simp only [List.length_singleton];omega)
     have e3:E8 (ps.map Oe) [Oe p] 24=true:=by rw [Gd];exact decide_eq_true (by simp only [List.length_singleton,List.length_map];omega)
     have e4:wbl (gbN g i) (blb (gbN g i)++[V0])=gbN g (i+1):=by
      show wbl g (List.replicate i V0++[V0])=wbl g (List.replicate (i+1) V0)
      rw [List.replicate_succ']
     have e5:ps.map Oe++[Oe p]=(ps++[p]).map Oe:=by rw [List.map_append];rfl
     rw [e1,e2,e3,e4,e5]
     rfl)
  (fun i ps ps' _ hI h=>by
   unfold setF at h
   cases h1:Ad7 (lwb g) (spt (Bc q.l i (B7 D6))) 2946 (ps.map Oe)!=0 with
   | true=>rw [h1] at h;cases h
   | false =>
    cases h2:!Ad8 (lwb g) (spt (Bc q.l i (B7 D6))) 2946 (ps.map Oe) with
    | true=>rw [h1,h2] at h;cases h
    | false =>
     rw [h1,h2] at h
     cases h
     rw [List.length_append,List.length_singleton,hI])
  (fun ps hI=>by
   show (Yr q (gbN g q.l.length) (q.l.length:Int) ps (ps.map Oe)).run=_
   unfold Yr
   rw [decide_eq_false (show ¬ (q.l.length:Int)<(q.l.length:Int) by omega)]
   show some (Sum.inr (A57 q (gbN g q.l.length) ps))=some (Sum.inr (A57 q (gbN g ps.length) ps))
   rw [hI]) q.l.length 0 [] (by omega) rfl
 exact key
noncomputable def Apo:Ctx:=I7 Tryz.prog plSet5 [(10,Tryz.f10)] [((10,5),B8 Sq Od (Dy [.ret,.exit 0] V1 Adb))]
theorem App:CtxOk Apo:=Cp Aw puSet5 (fns_cons is_set A0) (Cc (by kernel_rfl) (by kernel_rfl) Be7)
def gb0 (d s:Int) (x:TCT Co):GbT:=(nameG,100000,200000,5000,[B6l,B6m],50000,100000,1200,1,1,[(d,s,0,())],[],x.1,x.2.1,())
def g00:SKTs kGr:=(⟨#[]⟩,0,0,0,[],0,0,0,0,0,[],[],0,0,())
def s00:SKTs kSt:=([],[],0,0,0,())
def Ahj (d s:Int) (l:List (TCT D6)) (x:TCT Co):Option (A1 Od):=iter V1 (l.length+1) (A56 ⟨l,g00,s00⟩ (gb0 d s x) 0 [] [])
abbrev Azu:=Tree (TCTs [cGr,cSt,.b])
def grb (g:GbT):TCT cGr:=(lwb g,blb g,(g.2.2.2.2.2.2.2.2.2.2.2.2.1,g.2.2.2.2.2.2.2.2.2.2.2.2.2.1,()),())
def Apq (l:List (TCT D6)) (r:TCTs [cSt,cI]):Bool:=r.2.1==0&&(((msT r.1).length:Int)==(l.length:Int)&&((osT r.1).length:Int)==(l.length:Int))
def Apr (l:List (TCT D6)) (g:GbT) (r:TCTs [cSt,cI]):Azu:=bif r.2.1==0 then bif ((msT r.1).length:Int)==(l.length:Int) then .leaf (grb g,St.etaS r.1,((osT r.1).length:Int)==(l.length:Int),()) else .leaf (grb g,St.etaS r.1,false,()) else .leaf (grb g,St.etaS r.1,false,())
def Aps (g:GbT) (l:List (TCT D6)) (ps:List (TCT cPt)):Azu:=szT (lwb g) (Apr l g (G3 (grb g) ps))
def Apt (y:Option (A1 Od)):Azu:=bif isE .ret y then .leaf (grb (D4 .ret y).2.1,(D4 .ret y).2.2.1,(D4 .ret y).1.2.2.1,()) else bif isE (.exit 0) y then Aps (D4 (.exit 0) y).2.2.2.1 (D4 (.exit 0) y).1.1 (D4 (.exit 0) y).1.2.2.2.2.1 else .fail
theorem Apu (x:TCTs [cI,cI,.sl D6,Co]):Dx Apo 7 (.fn 10) (E7 [cI,cI,.sl D6,Co] x) Ce 0 (J3 Apo.P [cGr,cSt,.b])=Apt (Ahj x.1 x.2.1 x.2.2.1 x.2.2.2.1):=by kernel_rfl
def gN (d s:Int) (x:TCT Co) (n:Nat):TCT cGr:=(grn d s,List.replicate n V0,(x.1,x.2.1,()),())
abbrev Azv:Type:=List (TCT cPt)⊕List (TCT cPt)
def V2 (d s:Int) (l:List (TCT D6)):Azv:=B6 (setF (grn d s) l) 0 l.length []
def sN:Azv→Nat
 | .inl p=>p.length
 | .inr p=>p.length
def sS (d s:Int) (x:TCT Co):Azv→TCT cSt
 | .inl p=>St.etaS (G3 (gN d s x p.length) p).1
 | .inr _=>zS
def sB (d s:Int) (x:TCT Co) (l:List (TCT D6)):Azv→Bool
 | .inl p=>Apq l (G3 (gN d s x p.length) p)
 | .inr _=>false
abbrev B6o:PureT:=Bv [cI,cI,.sl D6,Co] [cGr,cSt,.b] (fun x=>decide (x.2.2.1.length≤1000)) (fun x=>(gN x.1 x.2.1 x.2.2.2.1 (sN (V2 x.1 x.2.1 x.2.2.1)),sS x.1 x.2.1 x.2.2.2.1 (V2 x.1 x.2.1 x.2.2.1),sB x.1 x.2.1 x.2.2.2.1 x.2.2.1 (V2 x.1 x.2.1 x.2.2.1),()))
theorem Of (d s:Int):((grn d s).1.size:Int)≤Bl .i64:=by
 show ((nameG.size:Nat):Int)≤_
 decide
theorem Apv {d s:Int} {l:List (TCT D6)} {x:TCT Co} (hl:l.length≤1000):(Apt (Ahj d s l x)).sat (fun y=>y=(gN d s x (sN (V2 d s l)),sS d s x (V2 d s l),sB d s x l (V2 d s l),())):=by
 have e:Ahj d s l x=some (Ys ⟨l,g00,s00⟩ (gb0 d s x) (V2 d s l)):=B93 (q:=⟨l,g00,s00⟩) (g:=gb0 d s x) hl (Of d s)
 rw [e]
 cases V2 d s l with
 | inr ps=>exact Ak rfl
 | inl ps =>
  show (Aps (gbN (gb0 d s x) ps.length) l ps).sat _
  unfold Aps
  rw [Dg (show (((lwb (gbN (gb0 d s x) ps.length)).1.size:Nat):Int)≤_ from Of d s)]
  show (Apr l (gbN (gb0 d s x) ps.length) (G3 (gN d s x ps.length) ps)).sat _
  unfold Apr
  show (bif (G3 (gN d s x ps.length) ps).2.1==0 then bif ((msT (G3 (gN d s x ps.length) ps).1).length:Int)==(l.length:Int) then .leaf (gN d s x ps.length,St.etaS (G3 (gN d s x ps.length) ps).1,((osT (G3 (gN d s x ps.length) ps).1).length:Int)==(l.length:Int),()) else .leaf (gN d s x ps.length,St.etaS (G3 (gN d s x ps.length) ps).1,false,()) else .leaf (gN d s x ps.length,St.etaS (G3 (gN d s x ps.length) ps).1,false,()):Azu).sat (fun y=>y=(gN d s x ps.length,St.etaS (G3 (gN d s x ps.length) ps).1,Apq l (G3 (gN d s x ps.length) ps),()))
  unfold Apq
  cases (G3 (gN d s x ps.length) ps).2.1==0 <;> cases ((msT (G3 (gN d s x ps.length) ps).1).length:Int)==(l.length:Int) <;> exact Ak rfl
theorem B6p:A7 Tryz.prog 10 B6o:=C0 App 7 (fun x=>Apt (Ahj x.1 x.2.1 x.2.2.1 x.2.2.2.1)) Apu fun x hok _=>Apv (of_decide_eq_true hok)
end Tp
end V
end Go.Proofs.YtcfanlgpkefogaaGreat
namespace Go.Proofs.YtcfanlgpkefogaaGreat
open Go.RowKit
namespace V
namespace Tp
open St
theorem is_works05:FnIs Tryz.prog (9,Tryz.f9):=⟨Tryz.func9,by kernel_rfl,by kernel_rfl⟩
abbrev Sr:PureT:=Bv [] [.b] (fun _=>true) (fun _=>(true,()))
noncomputable def plWk:List (Nat×PureT):=[(43,J9),(10,B6o),(75,Qq)]
theorem puWk:Db Tryz.prog plWk:=puOk_cons Hj.plain K0 (puOk_cons is_set.plain B6p (puOk_cons is_lCheck.plain M7 puOk_nil))
theorem Pp:A7 Tryz.prog 9 Sr:=Agf (Uw (u:=20) Aw puWk B1q) 40 (fun _=>by kernel_rfl)
abbrev Ku:TC:=.st [.i .i16,.i .i16,.i .u32,.i .u8]
def Fx (w:TCT Ku) (b:Int):TCT cBl:=(b,(W64 w.1,(bif W64 w.1==0&&(W64 w.2.1==0&&true) then 1 else W64 w.2.1),()),W64 (1+Int.tmod (W64 w.2.2.1) 2097152),Int.tmod (W64 w.2.2.2.1) 5,())
abbrev B94:PureT:=Bv [Ku,cI] [cBl] (fun _=>true) (fun x=>(Fx x.1 x.2.1,()))
def Apw (w:TCT Ku) (b:Int):Tree (TCTs [cBl]):=bif W64 w.1==0&&(W64 w.2.1==0&&true) then .leaf ((b,(W64 w.1,1,()),W64 (1+Int.tmod (W64 w.2.2.1) 2097152),Int.tmod (W64 w.2.2.2.1) 5,()),()) else .leaf ((b,(W64 w.1,W64 w.2.1,()),W64 (1+Int.tmod (W64 w.2.2.1) 2097152),Int.tmod (W64 w.2.2.2.1) 5,()),())
theorem Apx (w:TCT Ku) (b:Int):(Apw w b).sat (fun y=>y=(Fx w b,())):=by
 unfold Apw Fx
 cases W64 w.1==0&&(W64 w.2.1==0&&true) <;> exact Ak rfl
theorem B95:A7 Tryz.prog 12 B94:=C0 (B5 Aw puOk_nil (fns_cons is_blow A0)) 5 (fun x=>Apw x.1 x.2.1) (fun x=>by kernel_rfl) fun x _ _=>Apx _ _
def Apy (g:TCT cGr):TCT cGr:=A2s (E5 g)
abbrev FGn:Type:=Int→Int→TCT Co→List (TCT D6)→TCT cGr
abbrev FSs:Type:=Int→Int→TCT Co→List (TCT D6)→TCT cSt
abbrev FBb:Type:=Int→Int→TCT Co→List (TCT D6)→Bool
abbrev FBl:Type:=TCT Ku→Int→TCT cBl
abbrev FSk:Type:=TCT cGr→TCT cSt→TCT cBl→TkR
abbrev FTk:Type:=TCT cGr→TCT cSt→TkR
abbrev FTt:Type:=TCT cGr→TCT cSt→SKTs kPt
abbrev Adc (g:TCT cGr):Bool:=decide ((g.1.1.size:Int)≤Bl .i64)
def Apz (b:TCT cBl):TCT cBl:=(b.1,(b.2.1.1,b.2.1.2.1,()),b.2.2.1,b.2.2.2.1,())
abbrev Add (G:FGn) (S:FSs) (B:FBb):PureT:=Bv [cI,cI,.sl D6,Co] [cGr,cSt,.b] (fun x=>decide (x.2.2.1.length≤1000)) (fun x=>(Apy (G x.1 x.2.1 x.2.2.2.1 x.2.2.1),St.etaS (S x.1 x.2.1 x.2.2.2.1 x.2.2.1),B x.1 x.2.1 x.2.2.2.1 x.2.2.1,()))
abbrev Ade (W:FBl):PureT:=Bv [Ku,cI] [cBl] (fun _=>true) (fun x=>(Apz (W x.1 x.2.1),()))
abbrev B6q (F:FSk):PureT:=Bv [cGr,cSt,cBl] [cSt,.sl cKn,cI] (fun x=>Adc x.1) (fun x=>Zy (F x.1 x.2.1 x.2.2.1))
abbrev B6r (F:FTk):PureT:=Bv [cGr,cSt] [cSt,.sl cKn,cI] (fun x=>Adc x.1) (fun x=>Zy (F x.1 x.2.1))
abbrev B6s (V:FTt):PureT:=Bv [cGr,cSt] [cPt,cI] (fun x=>Adc x.1) (fun x=>(((V x.1 x.2.1).1,(V x.1 x.2.1).2.1,()),Fp x.1 x.2.1,()))
def Gr:FGn:=fun d s x l=>gN d s x (sN (V2 d s l))
def Hw:FSs:=fun d s x l=>sS d s x (V2 d s l)
def If:FBb:=fun d s x l=>sB d s x l (V2 d s l)
theorem Aq0:A7 Tryz.prog 10 (Add Gr Hw If):=B6p
theorem Aq1:A7 Tryz.prog 12 (Ade Fx):=B95
end Tp
end V
end Go.Proofs.YtcfanlgpkefogaaGreat
