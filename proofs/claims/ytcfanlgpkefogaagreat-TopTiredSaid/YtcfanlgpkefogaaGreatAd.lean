import Derived.Test.YtcfanlgpkefogaaGreatAc
import Derived.Test.YtcfanlgpkefogaaGreatCA
namespace Go.Proofs.YtcfanlgpkefogaaGreat
open Go.RowKit
namespace V
open St
theorem is_InWay:FnIs Tryz.prog (24,Tryz.f24):=⟨Tryz.func24,by kernel_rfl,by kernel_rfl⟩
theorem is_InWay1:FnIs Tryz.prog (71,Tryz.f71):=⟨Tryz.func71,by kernel_rfl,by kernel_rfl⟩
theorem is_Touched:FnIs Tryz.prog (37,Tryz.f37):=⟨Tryz.func37,by kernel_rfl,by kernel_rfl⟩
theorem is_May:FnIs Tryz.prog (41,Tryz.f41):=⟨Tryz.func41,by kernel_rfl,by kernel_rfl⟩
abbrev kP6:List SK:=[.d cI,.d cI]
abbrev Br9 (p:SKTs kP6):TCT cPt:=(p.1,p.2.1,())
def iwD (a b:TCT cPt) (r:Int) (d:TCT Bag):Bool:=decide ((LsR a.1 a.2.1 b.1 b.2.1 d.1.1 d.1.2.1 (W64 (r+d.2.1))).1<0)
def iwF (p:TCT Bag→Bool):List (TCT Bag)→Int→List Int
 | [],_=>[]
 | d::ds,i=>bif p d then i::iwF p ds (i+1) else iwF p ds (i+1)
noncomputable def D1b:Code:=(Ban (bodyOf Tryz.f24)).getD 0 .skip
def D5a:List BK:=[(1,31,kP6),(2,31,kP6),(3,2,[.d cI])]
def C09:Lay:={ keys:=[14,15,37,38,39],ks:=[.f 71 [] [.p 1 0 0 0,.p 2 0 0 0,.p 3 0 0 0],.o 3 cI,.d (.sl Bag),.d cI,.d cI],bs:=D5a,n:=53,nx:=1000,marks:=[] }
def D5b:Lay:={ keys:=[15],ks:=[.o 3 cI],bs:=[],n:=53,nx:=1000,marks:=[] }
def C53:XE→Lay:=fun _=>D5b
structure QIw where
 a:SKTs kP6
 b:SKTs kP6
 r:SKTs [.d cI]
 n:Int
 ds:List (TCT Bag)
def C0a (q:QIw) (i:Int) (o:List Int):C09.T:=((((),(),(),(),()),o,q.ds,q.n,i,()),(q.a,q.b,q.r,()))
def C0b (o:List Int):V2 C53:=⟨.exit 0,((o,()),())⟩
def C0c (q:QIw) (i:Int) (o:List Int):Tree (C09.T⊕V2 C53) :=
 bif decide (i<q.n) then bif decide (0≤i∧i<(q.ds.length:Int)) then bif iwD (Br9 q.a) (Br9 q.b) q.r.1 (Bas q.ds (Int.toNat i) (Bap Bag)) then bif Bd9 o [i] 8 then .leaf (.inl (C0a q (W64 (i+1)) (o++[i]))) else .fail else .leaf (.inl (C0a q (W64 (i+1)) o)) else .fail else .leaf (.inr (C0b o))
def Bw4 (x:C09.T):Tree (C09.T⊕V2 C53):=C0c ⟨x.2.1,x.2.2.1,x.2.2.2.1,x.1.2.2.2.1,x.1.2.2.1⟩ x.1.2.2.2.2.1 x.1.2.1
def Cfn (x:C09.T):Nat:=(x.1.2.2.1:List (TCT Bag)).length+1
noncomputable def D1c:Ctx:=ctx Tryz.prog [(72,Cfc)] [(71,Tryz.f71)]
theorem Cfo:CtxOk D1c:=Baq Bao (puOk_cons is_Lies.plain Cwi puOk_nil) (fns_cons is_InWay1 V1)
theorem D5c:Bb0 Tryz.prog 24 D1b (Baz C09 C53 (Bdg [.exit 0] Bw4 Cfn)):=Bbl Cfo 7 _ C09 C53 (fun _=>Nat.le_refl _) [.exit 0] Bw4 Cfn (fun g=>by kernel_rfl)
theorem C8k {E:Type} (p:TCT Bag→Bool) (ex:List Int→E):∀ (l:List (TCT Bag)) (i:Nat) (s:List Int),Bqb (fun i x s=>some (.inl (bif p x then s++[(i:Int)] else s))) (fun s=>some (ex s)) i l s=some (ex (s++iwF p l (i:Int)))
 | [],_,s=>by simp only [Bqb,iwF,List.append_nil]
 | x::l,i,s=>by
  simp only [Bqb]
  rw [C8k p ex l (i+1)]
  rw [show ((i+1:Nat):Int)=(i:Int)+1 from rfl,show iwF p (x::l) (i:Int)=(bif p x then (i:Int)::iwF p l ((i:Int)+1) else iwF p l ((i:Int)+1)) from rfl]
  cases p x with
  | true=>simp only [cond_true,List.append_assoc,List.singleton_append]
  | false=>simp only [cond_false]
theorem D5d {o:List Int} {i:Int} (h:o.length≤100000):Bd9 o [i] 8=true:=by
 rw [Be2];exact decide_eq_true (by simp only [List.length_cons,List.length_nil];omega)
theorem D1d {q:QIw} (hn:q.n=(q.ds.length:Int)) (hl:q.ds.length≤60000):iter Bw4 (q.ds.length+1) (C0a q 0 [])=some (C0b (iwF (iwD (Br9 q.a) (Br9 q.b) q.r.1) q.ds 0)):=by
 have key:=Bec (st:=Bw4) q.ds (fun i o=>C0a q (i:Int) o) (fun i x o=>some (.inl (bif iwD (Br9 q.a) (Br9 q.b) q.r.1 x then o++[(i:Int)] else o))) (fun o=>some (C0b o)) (fun i o=>o.length≤i)
  (fun i o hi hI=>by
   simp only
   refine ⟨?_,?_⟩
   ·show (C0c q (i:Int) o).run=_
    unfold C0c
    rw [hn,decide_eq_true (show (i:Int)<(q.ds.length:Int) by omega),decide_eq_true (show 0≤(i:Int)∧(i:Int)<(q.ds.length:Int) by omega),show Int.toNat (i:Int)=i by omega,Bdc hi,Bbc (n:=(i:Int)+1) (by omega) (by omega),D5d (by omega)]
    simp only [cond_true]
    cases iwD (Br9 q.a) (Br9 q.b) q.r.1 q.ds[i] <;> rfl
   ·cases iwD (Br9 q.a) (Br9 q.b) q.r.1 q.ds[i] with
    | true=>simp only [cond_true,List.length_append,List.length_singleton];omega
    | false=>simp only [cond_false];omega)
  (fun o e hI he=>by
   cases he
   show (C0c q (q.ds.length:Int) o).run=_
   unfold C0c
   rw [hn,decide_eq_false (show ¬ (q.ds.length:Int)<(q.ds.length:Int) by omega)]
   rfl)
  q.ds.length 0 [] (C0b (iwF (iwD (Br9 q.a) (Br9 q.b) q.r.1) q.ds 0)) (q.ds.length+1) (by omega) (by omega) (Nat.zero_le _) (by rw [List.drop_zero,C8k,List.nil_append];rfl)
 exact key
def Bj9 (l:TCT Bal) (a b:TCT cPt) (r:Int) (o:List (TCT Bag)):Int:=bif Bc3 l != 0 then Bc3 l else bif Bfs a.1 a.2.1 != 0 then 2 else bif Bfs b.1 b.2.1 != 0 then 2 else cbE r o
def Bra (l:TCT Bal) (a b:TCT cPt) (r:Int) (o:List (TCT Bag)):List Int:=bif Bj9 l a b r o==0 then iwF (iwD a b r) (Bbn l++o) 0 else []
abbrev Cof:PureT:=Bbe [Bal,cPt,cPt,cI,.sl Bag] [.sl cI,cI] (fun x=>decide ((x.1.1.size:Int)≤Bb4 .i64)) (fun x=>(Bra x.1 x.2.1 x.2.2.1 x.2.2.2.1 x.2.2.2.2.1,Bj9 x.1 x.2.1 x.2.2.1 x.2.2.2.1 x.2.2.2.2.1,()))
def plIw:List (Nat×PureT):=(75,Bqh)::(74,Bjc)::(43,Bi3)::(70,C07)::(73,C04)::[]
theorem puIw:Bc7 Tryz.prog plIw:=puOk_cons is_lCheck.plain Bnv (puOk_cons is_lposts.plain Bya (puOk_cons Bhj.plain Bjh (puOk_cons is_ckBall.plain Cfm (puOk_cons is_Concat.plain Cfi puOk_nil))))
abbrev TIw:=Tree (TCTs [.sl cI,cI])
def Cwj (a b:TCT cPt) (r:Int) (ds:List (TCT Bag)):Option (V2 C53):=iter Bw4 (ds.length+1) (C0a ⟨a,b,(r,()),(ds.length:Int),ds⟩ 0 [])
def Cog (l:TCT Bal) (a b:TCT cPt) (r:Int) (o:List (TCT Bag)):TIw:=bif cbE r o != 0 then .leaf ([],cbE r o,()) else bif decide ((Bay l).length≤1000) then bif cc2 [Bbn l,o] then bif isE (.exit 0) (Cwj a b r (ccV [Bbn l,o])) then .leaf ((Bcg (.exit 0) (Cwj a b r (ccV [Bbn l,o]))).1.1,0,()) else .fail else .fail else .fail
def Cwk (l:TCT Bal) (a b:TCT cPt) (r:Int) (o:List (TCT Bag)):TIw:=szT l (bif Bc3 l != 0 then bif Bc3 l != 0 then .leaf ([],Bc3 l,()) else Cog l a b r o else bif Bfs a.1 a.2.1 != 0 then .leaf ([],2,()) else bif Bfs b.1 b.2.1 != 0 then .leaf ([],2,()) else Cog l a b r o)
noncomputable def D5e:Ctx:=Bh4 Tryz.prog plIw [(24,Tryz.f24),(57,Tryz.f57)] [((24,10),Baz C09 C53 (Bdg [.exit 0] Bw4 Cfn))]
theorem Coh:CtxOk D5e:=Bca Bao puIw (fns_cons is_InWay (fns_cons is_lchk V1)) (Be1 (Bbv (by kernel_rfl) (by kernel_rfl) D5c (24,Tryz.f24) (List.mem_singleton.2 rfl)) (Be1 (fun d _ g hg=>nomatch (show none=some g from hg)) Biv))
theorem Cfp {l:TCT Bal} (h:Bc3 l=0):(Bbn l).length≤25:=by
 have:=(Bnx h).1
 unfold Bbn
 rw [List.length_append,Bnt]
 simp only [List.length_singleton]
 omega
theorem Cwl {r:Int} {o:List (TCT Bag)} (h:cbE r o=0):o.length≤12:=by
 unfold cbE at h
 cases h1:!St.inR r 1 16384 with
 | true=>rw [h1] at h;cases h
 | false =>
  cases h2:decide ((o.length:Int)>12) with
  | true=>rw [h1,h2] at h;cases h
  | false =>
   have:=of_decide_eq_false h2
   omega
theorem Coi {l:TCT Bal} {a b:TCT cPt} {r:Int} {o:List (TCT Bag)} (h:Bc3 l=0) (ha:Bfs a.1 a.2.1=0) (hb:Bfs b.1 b.2.1=0):(Cog l a b r o).sat (fun y=>y=(Bra l a b r o,Bj9 l a b r o,())):=by
 have e:Bj9 l a b r o=cbE r o:=by unfold Bj9;rw [h,ha,hb];rfl
 unfold Cog Bra
 rw [e]
 have h12:=(Bnx h).1
 have hp:=Cfp h
 cases hc:cbE r o != 0 with
 | true =>
  have hc':(cbE r o==0)=false:=by simpa using hc
  rw [hc']
  exact Bam rfl
 | false =>
  have hc':=bne_eq_false_iff_eq.1 hc
  have hl:=Cwl hc'
  rw [cond_false,decide_eq_true (show (Bay l).length≤1000 by omega),show cc2 [Bbn l,o]=true from decide_eq_true (show (Bbn l).length+o.length≤60000 by omega),cond_true,cond_true]
  have hv:ccV [Bbn l,o]=Bbn l++o:=rfl
  have hll:(Bbn l++o).length≤60000:=by rw [List.length_append];omega
  have hy:Cwj a b r (ccV [Bbn l,o])=some (C0b (iwF (iwD a b r) (Bbn l++o) 0)):=by
   rw [hv]
   exact D1d (q:=⟨a,b,(r,()),((Bbn l++o).length:Int),Bbn l++o⟩) rfl hll
  rw [hy,hc']
  exact Bam rfl
theorem Coj {l:TCT Bal} {a b:TCT cPt} {r:Int} {o:List (TCT Bag)} (hs:(l.1.size:Int)≤Bb4 .i64):(Cwk l a b r o).sat (fun y=>y=(Bra l a b r o,Bj9 l a b r o,())):=by
 unfold Cwk
 rw [Bdm hs]
 cases h:Bc3 l != 0 with
 | true =>
  have e:Bj9 l a b r o=Bc3 l:=by unfold Bj9;rw [h];rfl
  have h':(Bc3 l==0)=false:=by simpa using h
  unfold Bra
  rw [e,h']
  exact Bam rfl
 | false =>
  have h':=bne_eq_false_iff_eq.1 h
  rw [cond_false]
  cases ha:Bfs a.1 a.2.1 != 0 with
  | true =>
   have e:Bj9 l a b r o=2:=by unfold Bj9;rw [h,ha];rfl
   unfold Bra
   rw [e]
   exact Bam rfl
  | false =>
   rw [cond_false]
   cases hb:Bfs b.1 b.2.1 != 0 with
   | true =>
    have e:Bj9 l a b r o=2:=by unfold Bj9;rw [h,ha,hb];rfl
    unfold Bra
    rw [e]
    exact Bam rfl
   | false=>exact Coi h' (bne_eq_false_iff_eq.1 ha) (bne_eq_false_iff_eq.1 hb)
theorem Cok:Bai Tryz.prog 24 Cof:=Bbg Coh 10 (fun x=>Cwk x.1 x.2.1 x.2.2.1 x.2.2.2.1 x.2.2.2.2.1) (fun x=>by kernel_rfl) fun x hok _=>Coj (of_decide_eq_true hok)
abbrev Cc6:PureT:=Bbe [Bal,cPt,cI,.sl Bag] [.sl cI,cI] (fun x=>decide ((x.1.1.size:Int)≤Bb4 .i64)) (fun x=>(Bra x.1 x.2.1 x.2.1 x.2.2.1 x.2.2.2.1,Bj9 x.1 x.2.1 x.2.1 x.2.2.1 x.2.2.2.1,()))
theorem Cc7:Bai Tryz.prog 37 Cc6:=Bbg (Baq Bao (puOk_cons is_InWay.plain Cok puOk_nil) (fns_cons is_Touched V1)) 5 (fun x=>szT x.1 (.leaf (Bra x.1 x.2.1 x.2.1 x.2.2.1 x.2.2.2.1,Bj9 x.1 x.2.1 x.2.1 x.2.2.1 x.2.2.2.1,()))) (fun x=>by kernel_rfl) fun x hok _=>by
  rw [Bdm (of_decide_eq_true hok)];exact Bam rfl
def C54 (l:TCT Bal) (p:TCT cPt) (r:Int) (o:List (TCT Bag)):Int:=Bj9 l p p r o
def C55 (l:TCT Bal) (p:TCT cPt) (r:Int) (o:List (TCT Bag)):Bool:=bif Bj9 l p p r o != 0 then false else ((Bra l p p r o).length:Int)==0&&onB l p
abbrev Cuq:PureT:=Bbe [Bal,cPt,cI,.sl Bag] [.b,cI] (fun x=>decide ((x.1.1.size:Int)≤Bb4 .i64)) (fun x=>(C55 x.1 x.2.1 x.2.2.1 x.2.2.2.1,C54 x.1 x.2.1 x.2.2.1 x.2.2.2.1,()))
abbrev D5f:=Tree (TCTs [.b,cI])
def Cfq (l:TCT Bal) (p:TCT cPt) (r:Int) (o:List (TCT Bag)):D5f:=szT l (bif Bj9 l p p r o != 0 then .leaf (false,Bj9 l p p r o,()) else bif ((Bra l p p r o).length:Int)==0 then bif St.inR p.1 0 l.2.1 then .leaf (St.inR p.2.1 0 l.2.2.1,0,()) else .leaf (false,0,()) else .leaf (false,0,()))
theorem Cfr {l:TCT Bal} {p:TCT cPt} {r:Int} {o:List (TCT Bag)} (hs:(l.1.size:Int)≤Bb4 .i64):(Cfq l p r o).sat (fun y=>y=(C55 l p r o,C54 l p r o,())):=by
 unfold Cfq C55 C54
 rw [Bdm hs]
 cases h:Bj9 l p p r o != 0 with
 | true=>exact Bam rfl
 | false =>
  have h':=bne_eq_false_iff_eq.1 h
  rw [h']
  cases ((Bra l p p r o).length:Int)==0 with
  | false=>exact Bam rfl
  | true =>
   unfold onB
   cases St.inR p.1 0 l.2.1 <;> exact Bam rfl
theorem D1e:Bai Tryz.prog 41 Cuq:=Bbg (Baq Bao (puOk_cons is_Touched.plain Cc7 (puOk_cons is_between2.plain q_between2 puOk_nil)) (fns_cons is_May (fns_cons is_lon V1))) 5 (fun x=>Cfq x.1 x.2.1 x.2.2.1 x.2.2.2.1) (fun x=>by kernel_rfl) fun x hok _=>Cfr (of_decide_eq_true hok)
end V
end Go.Proofs.YtcfanlgpkefogaaGreat
