import Derived.Test.YtcfanlgpkefogaaGreatAc
import Derived.Test.YtcfanlgpkefogaaGreatCA
namespace Go.Proofs.YtcfanlgpkefogaaGreat
open Go.RowKit
namespace V
open St
theorem is_InWay:FnIs Tryz.prog (24,Tryz.f24):=⟨Tryz.func24,by kernel_rfl,by kernel_rfl⟩
theorem is_InWay1:FnIs Tryz.prog (71,Tryz.f71):=⟨Tryz.func71,by kernel_rfl,by kernel_rfl⟩
theorem is_Touched:FnIs Tryz.prog (37,Tryz.f37):=⟨Tryz.func37,by kernel_rfl,by kernel_rfl⟩
theorem is_May:FnIs Tryz.prog (41,Tryz.f41):=⟨Tryz.func41,by kernel_rfl,by kernel_rfl⟩
abbrev kP6:List SK:=[.d cI,.d cI]
abbrev Brd (p:SKTs kP6):TCT cPt:=(p.1,p.2.1,())
def iwD (a b:TCT cPt) (r:Int) (d:TCT Bag):Bool:=decide ((LsR a.1 a.2.1 b.1 b.2.1 d.1.1 d.1.2.1 (W64 (r+d.2.1))).1<0)
def iwF (p:TCT Bag→Bool):List (TCT Bag)→Int→List Int
 | [],_=>[]
 | d::ds,i=>bif p d then i::iwF p ds (i+1) else iwF p ds (i+1)
noncomputable def D1y:Code:=(Bal (bodyOf Tryz.f24)).getD 0 .skip
def D5x:List BK:=[(1,31,kP6),(2,31,kP6),(3,2,[.d cI])]
def C0n:Lay:={ keys:=[14,15,37,38,39],ks:=[.f 71 [] [.p 1 0 0 0,.p 2 0 0 0,.p 3 0 0 0],.o 3 cI,.d (.sl Bag),.d cI,.d cI],bs:=D5x,n:=53,nx:=1000,marks:=[] }
def D5y:Lay:={ keys:=[15],ks:=[.o 3 cI],bs:=[],n:=53,nx:=1000,marks:=[] }
def C5g:XE→Lay:=fun _=>D5y
structure QIw where
 a:SKTs kP6
 b:SKTs kP6
 r:SKTs [.d cI]
 n:Int
 ds:List (TCT Bag)
def C0o (q:QIw) (i:Int) (o:List Int):C0n.T:=((((),(),(),(),()),o,q.ds,q.n,i,()),(q.a,q.b,q.r,()))
def C0p (o:List Int):V1 C5g:=⟨.exit 0,((o,()),())⟩
def C0q (q:QIw) (i:Int) (o:List Int):Tree (C0n.T⊕V1 C5g) :=
 bif decide (i<q.n) then bif decide (0≤i∧i<(q.ds.length:Int)) then bif iwD (Brd q.a) (Brd q.b) q.r.1 (Bav q.ds (Int.toNat i) (Bas Bag)) then bif Bd8 o [i] 8 then .leaf (.inl (C0o q (W64 (i+1)) (o++[i]))) else .fail else .leaf (.inl (C0o q (W64 (i+1)) o)) else .fail else .leaf (.inr (C0p o))
def Bwe (x:C0n.T):Tree (C0n.T⊕V1 C5g):=C0q ⟨x.2.1,x.2.2.1,x.2.2.2.1,x.1.2.2.2.1,x.1.2.2.1⟩ x.1.2.2.2.2.1 x.1.2.1
def Cg5 (x:C0n.T):Nat:=(x.1.2.2.1:List (TCT Bag)).length+1
noncomputable def D1z:Ctx:=ctx Tryz.prog [(72,Cfu)] [(71,Tryz.f71)]
theorem Cg6:CtxOk D1z:=Bap Bao (puOk_cons is_Lies.plain Cx8 puOk_nil) (fns_cons is_InWay1 No)
theorem D5z:Bb0 Tryz.prog 24 D1y (Baw C0n C5g (Bd4 [.exit 0] Bwe Cg5)):=Bbi Cg6 7 _ C0n C5g (fun _=>Nat.le_refl _) [.exit 0] Bwe Cg5 (fun g=>by kernel_rfl)
theorem C8z {E:Type} (p:TCT Bag→Bool) (ex:List Int→E):∀ (l:List (TCT Bag)) (i:Nat) (s:List Int),Bqd (fun i x s=>some (.inl (bif p x then s++[(i:Int)] else s))) (fun s=>some (ex s)) i l s=some (ex (s++iwF p l (i:Int)))
 | [],_,s=>by simp only [Bqd,iwF,List.append_nil]
 | x::l,i,s=>by
  simp only [Bqd]
  rw [C8z p ex l (i+1)]
  rw [show ((i+1:Nat):Int)=(i:Int)+1 from rfl,show iwF p (x::l) (i:Int)=(bif p x then (i:Int)::iwF p l ((i:Int)+1) else iwF p l ((i:Int)+1)) from rfl]
  cases p x with
  | true=>simp only [cond_true,List.append_assoc,List.singleton_append]
  | false=>simp only [cond_false]
theorem D60 {o:List Int} {i:Int} (h:o.length≤100000):Bd8 o [i] 8=true:=by
 rw [Be3];exact decide_eq_true (by simp only [List.length_cons,List.length_nil];omega)
theorem D20 {q:QIw} (hn:q.n=(q.ds.length:Int)) (hl:q.ds.length≤60000):iter Bwe (q.ds.length+1) (C0o q 0 [])=some (C0p (iwF (iwD (Brd q.a) (Brd q.b) q.r.1) q.ds 0)):=by
 have key:=Bec (st:=Bwe) q.ds (fun i o=>C0o q (i:Int) o) (fun i x o=>some (.inl (bif iwD (Brd q.a) (Brd q.b) q.r.1 x then o++[(i:Int)] else o))) (fun o=>some (C0p o)) (fun i o=>o.length≤i)
  (fun i o hi hI=>by
   simp only
   refine ⟨?_,?_⟩
   ·show (C0q q (i:Int) o).run=_
    unfold C0q
    rw [hn,decide_eq_true (show (i:Int)<(q.ds.length:Int) by omega),decide_eq_true (show 0≤(i:Int)∧(i:Int)<(q.ds.length:Int) by omega),show Int.toNat (i:Int)=i by omega,Bdb hi,Bbb (n:=(i:Int)+1) (by omega) (by omega),D60 (by omega)]
    simp only [cond_true]
    cases iwD (Brd q.a) (Brd q.b) q.r.1 q.ds[i] <;> rfl
   ·cases iwD (Brd q.a) (Brd q.b) q.r.1 q.ds[i] with
    | true=>simp only [cond_true,List.length_append,List.length_singleton];omega
    | false=>simp only [cond_false];omega)
  (fun o e hI he=>by
   cases he
   show (C0q q (q.ds.length:Int) o).run=_
   unfold C0q
   rw [hn,decide_eq_false (show ¬ (q.ds.length:Int)<(q.ds.length:Int) by omega)]
   rfl)
  q.ds.length 0 [] (C0p (iwF (iwD (Brd q.a) (Brd q.b) q.r.1) q.ds 0)) (q.ds.length+1) (by omega) (by omega) (Nat.zero_le _) (by rw [List.drop_zero,C8z,List.nil_append];rfl)
 exact key
def Bj9 (l:TCT Bam) (a b:TCT cPt) (r:Int) (o:List (TCT Bag)):Int:=bif Bc3 l != 0 then Bc3 l else bif Bf8 a.1 a.2.1 != 0 then 2 else bif Bf8 b.1 b.2.1 != 0 then 2 else cbE r o
def Bre (l:TCT Bam) (a b:TCT cPt) (r:Int) (o:List (TCT Bag)):List Int:=bif Bj9 l a b r o==0 then iwF (iwD a b r) (Bbk l++o) 0 else []
abbrev Cp1:PureT:=Bbc [Bam,cPt,cPt,cI,.sl Bag] [.sl cI,cI] (fun x=>decide ((x.1.1.size:Int)≤Bb2 .i64)) (fun x=>(Bre x.1 x.2.1 x.2.2.1 x.2.2.2.1 x.2.2.2.2.1,Bj9 x.1 x.2.1 x.2.2.1 x.2.2.2.1 x.2.2.2.2.1,()))
def plIw:List (Nat×PureT):=(75,Bqj)::(74,Bjd)::(43,Bi0)::(70,C0l)::(73,C0i)::[]
theorem puIw:Bc5 Tryz.prog plIw:=puOk_cons is_lCheck.plain Bnw (puOk_cons is_lposts.plain Bym (puOk_cons Bhh.plain Bji (puOk_cons is_ckBall.plain Cg4 (puOk_cons is_Concat.plain Cg0 puOk_nil))))
abbrev TIw:=Tree (TCTs [.sl cI,cI])
def Cx9 (a b:TCT cPt) (r:Int) (ds:List (TCT Bag)):Option (V1 C5g):=iter Bwe (ds.length+1) (C0o ⟨a,b,(r,()),(ds.length:Int),ds⟩ 0 [])
def Cp2 (l:TCT Bam) (a b:TCT cPt) (r:Int) (o:List (TCT Bag)):TIw:=bif cbE r o != 0 then .leaf ([],cbE r o,()) else bif decide ((Baz l).length≤1000) then bif cc2 [Bbk l,o] then bif isE (.exit 0) (Cx9 a b r (ccV [Bbk l,o])) then .leaf ((Bca (.exit 0) (Cx9 a b r (ccV [Bbk l,o]))).1.1,0,()) else .fail else .fail else .fail
def Cxa (l:TCT Bam) (a b:TCT cPt) (r:Int) (o:List (TCT Bag)):TIw:=szT l (bif Bc3 l != 0 then bif Bc3 l != 0 then .leaf ([],Bc3 l,()) else Cp2 l a b r o else bif Bf8 a.1 a.2.1 != 0 then .leaf ([],2,()) else bif Bf8 b.1 b.2.1 != 0 then .leaf ([],2,()) else Cp2 l a b r o)
noncomputable def D61:Ctx:=Bgo Tryz.prog plIw [(24,Tryz.f24),(57,Tryz.f57)] [((24,10),Baw C0n C5g (Bd4 [.exit 0] Bwe Cg5))]
theorem Cp3:CtxOk D61:=Bc8 Bao puIw (fns_cons is_InWay (fns_cons is_lchk No)) (Be2 (Bbt (by kernel_rfl) (by kernel_rfl) D5z (24,Tryz.f24) (List.mem_singleton.2 rfl)) (Be2 (fun d _ g hg=>nomatch (show none=some g from hg)) Bix))
theorem Cg7 {l:TCT Bam} (h:Bc3 l=0):(Bbk l).length≤25:=by
 have:=(Bny h).1
 unfold Bbk
 rw [List.length_append,Bnu]
 simp only [List.length_singleton]
 omega
theorem Cxb {r:Int} {o:List (TCT Bag)} (h:cbE r o=0):o.length≤12:=by
 unfold cbE at h
 cases h1:!St.inR r 1 16384 with
 | true=>rw [h1] at h;cases h
 | false =>
  cases h2:decide ((o.length:Int)>12) with
  | true=>rw [h1,h2] at h;cases h
  | false =>
   have:=of_decide_eq_false h2
   omega
theorem Cp4 {l:TCT Bam} {a b:TCT cPt} {r:Int} {o:List (TCT Bag)} (h:Bc3 l=0) (ha:Bf8 a.1 a.2.1=0) (hb:Bf8 b.1 b.2.1=0):(Cp2 l a b r o).sat (fun y=>y=(Bre l a b r o,Bj9 l a b r o,())):=by
 have e:Bj9 l a b r o=cbE r o:=by unfold Bj9;rw [h,ha,hb];rfl
 unfold Cp2 Bre
 rw [e]
 have h12:=(Bny h).1
 have hp:=Cg7 h
 cases hc:cbE r o != 0 with
 | true =>
  have hc':(cbE r o==0)=false:=by simpa using hc
  rw [hc']
  exact Ban rfl
 | false =>
  have hc':=bne_eq_false_iff_eq.1 hc
  have hl:=Cxb hc'
  rw [cond_false,decide_eq_true (show (Baz l).length≤1000 by omega),show cc2 [Bbk l,o]=true from decide_eq_true (show (Bbk l).length+o.length≤60000 by omega),cond_true,cond_true]
  have hv:ccV [Bbk l,o]=Bbk l++o:=rfl
  have hll:(Bbk l++o).length≤60000:=by rw [List.length_append];omega
  have hy:Cx9 a b r (ccV [Bbk l,o])=some (C0p (iwF (iwD a b r) (Bbk l++o) 0)):=by
   rw [hv]
   exact D20 (q:=⟨a,b,(r,()),((Bbk l++o).length:Int),Bbk l++o⟩) rfl hll
  rw [hy,hc']
  exact Ban rfl
theorem Cp5 {l:TCT Bam} {a b:TCT cPt} {r:Int} {o:List (TCT Bag)} (hs:(l.1.size:Int)≤Bb2 .i64):(Cxa l a b r o).sat (fun y=>y=(Bre l a b r o,Bj9 l a b r o,())):=by
 unfold Cxa
 rw [Bdd hs]
 cases h:Bc3 l != 0 with
 | true =>
  have e:Bj9 l a b r o=Bc3 l:=by unfold Bj9;rw [h];rfl
  have h':(Bc3 l==0)=false:=by simpa using h
  unfold Bre
  rw [e,h']
  exact Ban rfl
 | false =>
  have h':=bne_eq_false_iff_eq.1 h
  rw [cond_false]
  cases ha:Bf8 a.1 a.2.1 != 0 with
  | true =>
   have e:Bj9 l a b r o=2:=by unfold Bj9;rw [h,ha];rfl
   unfold Bre
   rw [e]
   exact Ban rfl
  | false =>
   rw [cond_false]
   cases hb:Bf8 b.1 b.2.1 != 0 with
   | true =>
    have e:Bj9 l a b r o=2:=by unfold Bj9;rw [h,ha,hb];rfl
    unfold Bre
    rw [e]
    exact Ban rfl
   | false=>exact Cp4 h' (bne_eq_false_iff_eq.1 ha) (bne_eq_false_iff_eq.1 hb)
theorem Cp6:Bai Tryz.prog 24 Cp1:=Bbd Cp3 10 (fun x=>Cxa x.1 x.2.1 x.2.2.1 x.2.2.2.1 x.2.2.2.2.1) (fun x=>by kernel_rfl) fun x hok _=>Cp5 (of_decide_eq_true hok)
abbrev Ccl:PureT:=Bbc [Bam,cPt,cI,.sl Bag] [.sl cI,cI] (fun x=>decide ((x.1.1.size:Int)≤Bb2 .i64)) (fun x=>(Bre x.1 x.2.1 x.2.1 x.2.2.1 x.2.2.2.1,Bj9 x.1 x.2.1 x.2.1 x.2.2.1 x.2.2.2.1,()))
theorem Ccm:Bai Tryz.prog 37 Ccl:=Bbd (Bap Bao (puOk_cons is_InWay.plain Cp6 puOk_nil) (fns_cons is_Touched No)) 5 (fun x=>szT x.1 (.leaf (Bre x.1 x.2.1 x.2.1 x.2.2.1 x.2.2.2.1,Bj9 x.1 x.2.1 x.2.1 x.2.2.1 x.2.2.2.1,()))) (fun x=>by kernel_rfl) fun x hok _=>by
  rw [Bdd (of_decide_eq_true hok)];exact Ban rfl
def C5h (l:TCT Bam) (p:TCT cPt) (r:Int) (o:List (TCT Bag)):Int:=Bj9 l p p r o
def C5i (l:TCT Bam) (p:TCT cPt) (r:Int) (o:List (TCT Bag)):Bool:=bif Bj9 l p p r o != 0 then false else ((Bre l p p r o).length:Int)==0&&onB l p
abbrev Cvd:PureT:=Bbc [Bam,cPt,cI,.sl Bag] [.b,cI] (fun x=>decide ((x.1.1.size:Int)≤Bb2 .i64)) (fun x=>(C5i x.1 x.2.1 x.2.2.1 x.2.2.2.1,C5h x.1 x.2.1 x.2.2.1 x.2.2.2.1,()))
abbrev D62:=Tree (TCTs [.b,cI])
def Cg8 (l:TCT Bam) (p:TCT cPt) (r:Int) (o:List (TCT Bag)):D62:=szT l (bif Bj9 l p p r o != 0 then .leaf (false,Bj9 l p p r o,()) else bif ((Bre l p p r o).length:Int)==0 then bif St.inR p.1 0 l.2.1 then .leaf (St.inR p.2.1 0 l.2.2.1,0,()) else .leaf (false,0,()) else .leaf (false,0,()))
theorem Cg9 {l:TCT Bam} {p:TCT cPt} {r:Int} {o:List (TCT Bag)} (hs:(l.1.size:Int)≤Bb2 .i64):(Cg8 l p r o).sat (fun y=>y=(C5i l p r o,C5h l p r o,())):=by
 unfold Cg8 C5i C5h
 rw [Bdd hs]
 cases h:Bj9 l p p r o != 0 with
 | true=>exact Ban rfl
 | false =>
  have h':=bne_eq_false_iff_eq.1 h
  rw [h']
  cases ((Bre l p p r o).length:Int)==0 with
  | false=>exact Ban rfl
  | true =>
   unfold onB
   cases St.inR p.1 0 l.2.1 <;> exact Ban rfl
theorem D21:Bai Tryz.prog 41 Cvd:=Bbd (Bap Bao (puOk_cons is_Touched.plain Ccm (puOk_cons is_between2.plain q_between2 puOk_nil)) (fns_cons is_May (fns_cons is_lon No))) 5 (fun x=>Cg8 x.1 x.2.1 x.2.2.1 x.2.2.2.1) (fun x=>by kernel_rfl) fun x hok _=>Cg9 (of_decide_eq_true hok)
end V
end Go.Proofs.YtcfanlgpkefogaaGreat
