import Derived.Test.YtcfanlgpkefogaaGreatAc
import Derived.Test.YtcfanlgpkefogaaGreatCA
namespace Go.Proofs.YtcfanlgpkefogaaGreat
open Go.RowKit
namespace V
open St
theorem is_InWay:FnIs Tryz.prog (24,Tryz.f24):=⟨Tryz.func24,by kernel_rfl,by kernel_rfl⟩
theorem is_InWay1:FnIs Tryz.prog (71,Tryz.f71):=⟨Tryz.func71,by kernel_rfl,by kernel_rfl⟩
theorem is_Touched:FnIs Tryz.prog (37,Tryz.f37):=⟨Tryz.func37,by kernel_rfl,by kernel_rfl⟩
theorem is_May:FnIs Tryz.prog (41,Tryz.f41):=⟨Tryz.func41,by kernel_rfl,by kernel_rfl⟩
abbrev kP6:List SK:=[.d cI,.d cI]
abbrev Bsq (p:SKTs kP6):TCT cPt:=(p.1,p.2.1,())
def iwD (a b:TCT cPt) (r:Int) (d:TCT Baf):Bool:=decide ((LsR a.1 a.2.1 b.1 b.2.1 d.1.1 d.1.2.1 (W64 (r+d.2.1))).1<0)
def iwF (p:TCT Baf→Bool):List (TCT Baf)→Int→List Int
 | [],_=>[]
 | d::ds,i=>bif p d then i::iwF p ds (i+1) else iwF p ds (i+1)
noncomputable def D84:Code:=(Bak (bodyOf Tryz.f24)).getD 0 .skip
def Dcv:List BK:=[(1,31,kP6),(2,31,kP6),(3,2,[.d cI])]
def C31:Lay:={ keys:=[14,15,37,38,39],ks:=[.f 71 [] [.p 1 0 0 0,.p 2 0 0 0,.p 3 0 0 0],.o 3 cI,.d (.sl Baf),.d cI,.d cI],bs:=Dcv,n:=53,nx:=1000,marks:=[] }
def Dcw:Lay:={ keys:=[15],ks:=[.o 3 cI],bs:=[],n:=53,nx:=1000,marks:=[] }
def C81:XE→Lay:=fun _=>Dcw
structure QIw where
 a:SKTs kP6
 b:SKTs kP6
 r:SKTs [.d cI]
 n:Int
 ds:List (TCT Baf)
def C32 (q:QIw) (i:Int) (o:List Int):C31.T:=((((),(),(),(),()),o,q.ds,q.n,i,()),(q.a,q.b,q.r,()))
def C33 (o:List Int):Fq C81:=⟨.exit 0,((o,()),())⟩
def C34 (q:QIw) (i:Int) (o:List Int):Tree (C31.T⊕Fq C81) :=
 bif decide (i<q.n) then bif decide (0≤i∧i<(q.ds.length:Int)) then bif iwD (Bsq q.a) (Bsq q.b) q.r.1 (Bam q.ds (Int.toNat i) (Baj Baf)) then bif Bcs o [i] 8 then .leaf (.inl (C32 q (W64 (i+1)) (o++[i]))) else .fail else .leaf (.inl (C32 q (W64 (i+1)) o)) else .fail else .leaf (.inr (C33 o))
def By6 (x:C31.T):Tree (C31.T⊕Fq C81):=C34 ⟨x.2.1,x.2.2.1,x.2.2.2.1,x.1.2.2.2.1,x.1.2.2.1⟩ x.1.2.2.2.2.1 x.1.2.1
def Ck9 (x:C31.T):Nat:=(x.1.2.2.1:List (TCT Baf)).length+1
noncomputable def D85:Ctx:=ctx Tryz.prog [(72,Cjy)] [(71,Tryz.f71)]
theorem Cka:CtxOk D85:=Bas Bar (puOk_cons is_Lies.plain D39 puOk_nil) (fns_cons is_InWay1 V1)
theorem Dcx:Baw Tryz.prog 24 D84 (Bav C31 C81 (Bcm [.exit 0] By6 Ck9)):=Bb9 Cka 7 _ C31 C81 (fun _=>Nat.le_refl _) [.exit 0] By6 Ck9 (fun g=>by kernel_rfl)
theorem Cc4 {E:Type} (p:TCT Baf→Bool) (ex:List Int→E):∀ (l:List (TCT Baf)) (i:Nat) (s:List Int),Boi (fun i x s=>some (.inl (bif p x then s++[(i:Int)] else s))) (fun s=>some (ex s)) i l s=some (ex (s++iwF p l (i:Int)))
 | [],_,s=>by simp only [Boi,iwF,List.append_nil]
 | x::l,i,s=>by
  simp only [Boi]
  rw [Cc4 p ex l (i+1)]
  rw [show ((i+1:Nat):Int)=(i:Int)+1 from rfl,show iwF p (x::l) (i:Int)=(bif p x then (i:Int)::iwF p l ((i:Int)+1) else iwF p l ((i:Int)+1)) from rfl]
  cases p x with
  | true=>simp only [cond_true,List.append_assoc,List.singleton_append]
  | false=>simp only [cond_false]
theorem Dcy {o:List Int} {i:Int} (h:o.length≤100000):Bcs o [i] 8=true:=by
 rw [Bel];exact decide_eq_true (by simp only [List.length_cons,List.length_nil];omega)
theorem D86 {q:QIw} (hn:q.n=(q.ds.length:Int)) (hl:q.ds.length≤60000):iter By6 (q.ds.length+1) (C32 q 0 [])=some (C33 (iwF (iwD (Bsq q.a) (Bsq q.b) q.r.1) q.ds 0)):=by
 have key:=Bec (st:=By6) q.ds (fun i o=>C32 q (i:Int) o) (fun i x o=>some (.inl (bif iwD (Bsq q.a) (Bsq q.b) q.r.1 x then o++[(i:Int)] else o))) (fun o=>some (C33 o)) (fun i o=>o.length≤i)
  (fun i o hi hI=>by
   simp only
   refine ⟨?_,?_⟩
   ·show (C34 q (i:Int) o).run=_
    unfold C34
    rw [hn,decide_eq_true (show (i:Int)<(q.ds.length:Int) by omega),decide_eq_true (show 0≤(i:Int)∧(i:Int)<(q.ds.length:Int) by omega),show Int.toNat (i:Int)=i by omega,Bby hi,Bb4 (n:=(i:Int)+1) (by omega) (by omega),Dcy (by omega)]
    simp only [cond_true]
    cases iwD (Bsq q.a) (Bsq q.b) q.r.1 q.ds[i] <;> rfl
   ·cases iwD (Bsq q.a) (Bsq q.b) q.r.1 q.ds[i] with
    | true=>simp only [cond_true,List.length_append,List.length_singleton];omega
    | false=>simp only [cond_false];omega)
  (fun o e hI he=>by
   cases he
   show (C34 q (q.ds.length:Int) o).run=_
   unfold C34
   rw [hn,decide_eq_false (show ¬ (q.ds.length:Int)<(q.ds.length:Int) by omega)]
   rfl)
  q.ds.length 0 [] (C33 (iwF (iwD (Bsq q.a) (Bsq q.b) q.r.1) q.ds 0)) (q.ds.length+1) (by omega) (by omega) (Nat.zero_le _) (by rw [List.drop_zero,Cc4,List.nil_append];rfl)
 exact key
def Bi1 (l:TCT Ban) (a b:TCT cPt) (r:Int) (o:List (TCT Baf)):Int:=bif Bc3 l != 0 then Bc3 l else bif Bgi a.1 a.2.1 != 0 then 2 else bif Bgi b.1 b.2.1 != 0 then 2 else cbE r o
def Bn5 (l:TCT Ban) (a b:TCT cPt) (r:Int) (o:List (TCT Baf)):List Int:=bif Bi1 l a b r o==0 then iwF (iwD a b r) (Bb7 l++o) 0 else []
abbrev Ctz:PureT:=Bbh [Ban,cPt,cPt,cI,.sl Baf] [.sl cI,cI] (fun x=>decide ((x.1.1.size:Int)≤Bb2 .i64)) (fun x=>(Bn5 x.1 x.2.1 x.2.2.1 x.2.2.2.1 x.2.2.2.2.1,Bi1 x.1 x.2.1 x.2.2.1 x.2.2.2.1 x.2.2.2.2.1,()))
def plIw:List (Nat×PureT):=(75,Bru)::(74,Bk5)::(43,Bit)::(70,C2z)::(73,C2w)::[]
theorem puIw:Bcd Tryz.prog plIw:=puOk_cons is_lCheck.plain Boz (puOk_cons is_lposts.plain C0n (puOk_cons Bib.plain Bk9 (puOk_cons is_ckBall.plain Ck8 (puOk_cons is_Concat.plain Ck4 puOk_nil))))
abbrev TIw:=Tree (TCTs [.sl cI,cI])
def D3a (a b:TCT cPt) (r:Int) (ds:List (TCT Baf)):Option (Fq C81):=iter By6 (ds.length+1) (C32 ⟨a,b,(r,()),(ds.length:Int),ds⟩ 0 [])
def Cu0 (l:TCT Ban) (a b:TCT cPt) (r:Int) (o:List (TCT Baf)):TIw:=bif cbE r o != 0 then .leaf ([],cbE r o,()) else bif decide ((Bb0 l).length≤1000) then bif cc2 [Bb7 l,o] then bif isE (.exit 0) (D3a a b r (ccV [Bb7 l,o])) then .leaf ((Bc2 (.exit 0) (D3a a b r (ccV [Bb7 l,o]))).1.1,0,()) else .fail else .fail else .fail
def D3b (l:TCT Ban) (a b:TCT cPt) (r:Int) (o:List (TCT Baf)):TIw:=szT l (bif Bc3 l != 0 then bif Bc3 l != 0 then .leaf ([],Bc3 l,()) else Cu0 l a b r o else bif Bgi a.1 a.2.1 != 0 then .leaf ([],2,()) else bif Bgi b.1 b.2.1 != 0 then .leaf ([],2,()) else Cu0 l a b r o)
noncomputable def Dcz:Ctx:=Bh4 Tryz.prog plIw [(24,Tryz.f24),(57,Tryz.f57)] [((24,10),Bav C31 C81 (Bcm [.exit 0] By6 Ck9))]
theorem Cu1:CtxOk Dcz:=Bca Bar puIw (fns_cons is_InWay (fns_cons is_lchk V1)) (Bbg (Bc0 (by kernel_rfl) (by kernel_rfl) Dcx (24,Tryz.f24) (List.mem_singleton.2 rfl)) (Bbg (fun d _ g hg=>nomatch (show none=some g from hg)) Bgg))
theorem Bth {l:TCT Ban} (h:Bc3 l=0):(Bb7 l).length≤25:=by
 have:=(Bp1 h).1
 unfold Bb7
 rw [List.length_append,Box]
 simp only [List.length_singleton]
 omega
theorem D3c {r:Int} {o:List (TCT Baf)} (h:cbE r o=0):o.length≤12:=by
 unfold cbE at h
 cases h1:!St.inR r 1 16384 with
 | true=>rw [h1] at h;cases h
 | false =>
  cases h2:decide ((o.length:Int)>12) with
  | true=>rw [h1,h2] at h;cases h
  | false =>
   have:=of_decide_eq_false h2
   omega
theorem Cu2 {l:TCT Ban} {a b:TCT cPt} {r:Int} {o:List (TCT Baf)} (h:Bc3 l=0) (ha:Bgi a.1 a.2.1=0) (hb:Bgi b.1 b.2.1=0):(Cu0 l a b r o).sat (fun y=>y=(Bn5 l a b r o,Bi1 l a b r o,())):=by
 have e:Bi1 l a b r o=cbE r o:=by unfold Bi1;rw [h,ha,hb];rfl
 unfold Cu0 Bn5
 rw [e]
 have h12:=(Bp1 h).1
 have hp:=Bth h
 cases hc:cbE r o != 0 with
 | true =>
  have hc':(cbE r o==0)=false:=by simpa using hc
  rw [hc']
  exact Baq rfl
 | false =>
  have hc':=bne_eq_false_iff_eq.1 hc
  have hl:=D3c hc'
  rw [cond_false,decide_eq_true (show (Bb0 l).length≤1000 by omega),show cc2 [Bb7 l,o]=true from decide_eq_true (show (Bb7 l).length+o.length≤60000 by omega),cond_true,cond_true]
  have hv:ccV [Bb7 l,o]=Bb7 l++o:=rfl
  have hll:(Bb7 l++o).length≤60000:=by rw [List.length_append];omega
  have hy:D3a a b r (ccV [Bb7 l,o])=some (C33 (iwF (iwD a b r) (Bb7 l++o) 0)):=by
   rw [hv]
   exact D86 (q:=⟨a,b,(r,()),((Bb7 l++o).length:Int),Bb7 l++o⟩) rfl hll
  rw [hy,hc']
  exact Baq rfl
theorem Cu3 {l:TCT Ban} {a b:TCT cPt} {r:Int} {o:List (TCT Baf)} (hs:(l.1.size:Int)≤Bb2 .i64):(D3b l a b r o).sat (fun y=>y=(Bn5 l a b r o,Bi1 l a b r o,())):=by
 unfold D3b
 rw [Bce hs]
 cases h:Bc3 l != 0 with
 | true =>
  have e:Bi1 l a b r o=Bc3 l:=by unfold Bi1;rw [h];rfl
  have h':(Bc3 l==0)=false:=by simpa using h
  unfold Bn5
  rw [e,h']
  exact Baq rfl
 | false =>
  have h':=bne_eq_false_iff_eq.1 h
  rw [cond_false]
  cases ha:Bgi a.1 a.2.1 != 0 with
  | true =>
   have e:Bi1 l a b r o=2:=by unfold Bi1;rw [h,ha];rfl
   unfold Bn5
   rw [e]
   exact Baq rfl
  | false =>
   rw [cond_false]
   cases hb:Bgi b.1 b.2.1 != 0 with
   | true =>
    have e:Bi1 l a b r o=2:=by unfold Bi1;rw [h,ha,hb];rfl
    unfold Bn5
    rw [e]
    exact Baq rfl
   | false=>exact Cu2 h' (bne_eq_false_iff_eq.1 ha) (bne_eq_false_iff_eq.1 hb)
theorem Cc5:Bai Tryz.prog 24 Ctz:=Bbj Cu1 10 (fun x=>D3b x.1 x.2.1 x.2.2.1 x.2.2.2.1 x.2.2.2.2.1) (fun x=>by kernel_rfl) fun x hok _=>Cu3 (of_decide_eq_true hok)
abbrev Cgm:PureT:=Bbh [Ban,cPt,cI,.sl Baf] [.sl cI,cI] (fun x=>decide ((x.1.1.size:Int)≤Bb2 .i64)) (fun x=>(Bn5 x.1 x.2.1 x.2.1 x.2.2.1 x.2.2.2.1,Bi1 x.1 x.2.1 x.2.1 x.2.2.1 x.2.2.2.1,()))
theorem Cgn:Bai Tryz.prog 37 Cgm:=Bbj (Bas Bar (puOk_cons is_InWay.plain Cc5 puOk_nil) (fns_cons is_Touched V1)) 5 (fun x=>szT x.1 (.leaf (Bn5 x.1 x.2.1 x.2.1 x.2.2.1 x.2.2.2.1,Bi1 x.1 x.2.1 x.2.1 x.2.2.1 x.2.2.2.1,()))) (fun x=>by kernel_rfl) fun x hok _=>by
  rw [Bce (of_decide_eq_true hok)];exact Baq rfl
def C35 (l:TCT Ban) (p:TCT cPt) (r:Int) (o:List (TCT Baf)):Int:=Bi1 l p p r o
def C36 (l:TCT Ban) (p:TCT cPt) (r:Int) (o:List (TCT Baf)):Bool:=bif Bi1 l p p r o != 0 then false else ((Bn5 l p p r o).length:Int)==0&&onB l p
abbrev D11:PureT:=Bbh [Ban,cPt,cI,.sl Baf] [.b,cI] (fun x=>decide ((x.1.1.size:Int)≤Bb2 .i64)) (fun x=>(C36 x.1 x.2.1 x.2.2.1 x.2.2.2.1,C35 x.1 x.2.1 x.2.2.1 x.2.2.2.1,()))
abbrev Dd0:=Tree (TCTs [.b,cI])
def Ckb (l:TCT Ban) (p:TCT cPt) (r:Int) (o:List (TCT Baf)):Dd0:=szT l (bif Bi1 l p p r o != 0 then .leaf (false,Bi1 l p p r o,()) else bif ((Bn5 l p p r o).length:Int)==0 then bif St.inR p.1 0 l.2.1 then .leaf (St.inR p.2.1 0 l.2.2.1,0,()) else .leaf (false,0,()) else .leaf (false,0,()))
theorem Ckc {l:TCT Ban} {p:TCT cPt} {r:Int} {o:List (TCT Baf)} (hs:(l.1.size:Int)≤Bb2 .i64):(Ckb l p r o).sat (fun y=>y=(C36 l p r o,C35 l p r o,())):=by
 unfold Ckb C36 C35
 rw [Bce hs]
 cases h:Bi1 l p p r o != 0 with
 | true=>exact Baq rfl
 | false =>
  have h':=bne_eq_false_iff_eq.1 h
  rw [h']
  cases ((Bn5 l p p r o).length:Int)==0 with
  | false=>exact Baq rfl
  | true =>
   unfold onB
   cases St.inR p.1 0 l.2.1 <;> exact Baq rfl
theorem D87:Bai Tryz.prog 41 D11:=Bbj (Bas Bar (puOk_cons is_Touched.plain Cgn (puOk_cons is_between2.plain q_between2 puOk_nil)) (fns_cons is_May (fns_cons is_lon V1))) 5 (fun x=>Ckb x.1 x.2.1 x.2.2.1 x.2.2.2.1) (fun x=>by kernel_rfl) fun x hok _=>Ckc (of_decide_eq_true hok)
end V
end Go.Proofs.YtcfanlgpkefogaaGreat
