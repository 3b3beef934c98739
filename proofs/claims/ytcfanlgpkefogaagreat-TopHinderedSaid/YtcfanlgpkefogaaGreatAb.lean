import Derived.Test.YtcfanlgpkefogaaGreatAa
namespace Go.Proofs.YtcfanlgpkefogaaGreat
open Go.RowKit
namespace V
theorem is_Concat:FnIs Tryz.prog (73,Tryz.f73):=⟨Tryz.func73,by kernel_rfl,by kernel_rfl⟩
theorem is_Grow:FnIs Tryz.prog (113,Tryz.f113):=⟨Tryz.func113,by kernel_rfl,by kernel_rfl⟩
abbrev C01:Type:=List (TCT Baf)
def ccA (a:C01):Int:=W64 (0+(a.length:Int))
def ccS (a b:C01):Int:=W64 (ccA a+(b.length:Int))
def ccZ (n:Int):C01:=List.take (Int.toNat 0) (List.replicate (Int.toNat n) (Baj Baf))
abbrev Cto:=Tree (TCTs [.sl Baf])
def ccK (z a b:C01):Cto:=bif Bcs z a 24 then bif Bcs (z++a) b 24 then .leaf (z++a++b,()) else .fail else .fail
def Ctp (a b:C01):Cto :=
 bif decide (ccA a<0) then .fail else bif decide (ccS a b<0) then .fail else bif decide (ccS a b<0) then .fail else
 bif decide (W64 (ccS a b-W64 (0-0))>0) then
  bif decide (1≤W64 (ccS a b-W64 (0-0))∧W64 (ccS a b-W64 (0-0))≤65536∧W64 (ccS a b-W64 (0-0))*24≤281474976710656) then
   ccK (ccZ (W64 (ccS a b-W64 (0-0)))) a b
  else .fail
 else ccK [] a b
theorem Cjz {z a b:C01} (hz:z=[]) (h:a.length+b.length≤60000):(ccK z a b).sat (fun y=>y=(a++b,())):=by
 subst hz
 unfold ccK
 rw [Bel,Bel,decide_eq_true (by simp only [List.length_nil];omega),decide_eq_true (by simp only [List.nil_append];omega)]
 exact Baq rfl
theorem Ctq {a b:C01} (h:a.length+b.length≤60000):(Ctp a b).sat (fun y=>y=(a++b,())):=by
 unfold Ctp
 have e1:ccA a=(a.length:Int):=by unfold ccA;rw [Bb4 (by omega) (by omega)];omega
 have e2:ccS a b=(a.length:Int)+b.length:=by unfold ccS;rw [e1,Bb4 (by omega) (by omega)]
 have e3:W64 (ccS a b-W64 (0-0))=(a.length:Int)+b.length:=by
  rw [show W64 (0-0)=0 from rfl,e2,Bb4 (by omega) (by omega)];omega
 rw [e1,e2] at *
 rw [e3,decide_eq_false (show ¬ ((a.length:Int)<0) by omega),decide_eq_false (show ¬ ((a.length:Int)+b.length<0) by omega)]
 simp only [cond_false]
 cases h0:decide ((a.length:Int)+b.length>0) with
 | true =>
  have:=of_decide_eq_true h0
  rw [cond_true,decide_eq_true (by omega),cond_true]
  exact Cjz rfl h
 | false=>exact Cjz rfl h
def cc2 (l:List (List (TCT Baf))):Bool:=match l with
 | [a,b]=>decide (a.length+b.length≤60000)
 | _=>false
def ccV (l:List (List (TCT Baf))):C01:=match l with
 | [a,b]=>a++b
 | _=>[]
theorem Ck0 {l:List (List (TCT Baf))} (h:cc2 l=true):∃ a b,l=[a,b]∧a.length+b.length≤60000:=by
 match l,h with
 | [a,b],h=>exact ⟨a,b,rfl,of_decide_eq_true h⟩
abbrev C2w:PureT:=Bbh [.sl (.sl Baf)] [.sl Baf] (fun x=>cc2 x.1) (fun x=>(ccV x.1,()))
noncomputable def Ck1:Ctx:=Cjl 3 Tryz.prog [] [(73,Tryz.f73),(113,Tryz.f113)]
theorem Ctr:CtxOk Ck1:=Bn3 Bar puOk_nil (fns_cons is_Concat (fns_cons is_Grow V1))
noncomputable def Cc1 (x:TCTs [.sl (.sl Baf)]):Cto:=Bcr Ck1 10 (.fn 73) (Bdd [.sl (.sl Baf)] x) Bbz 0 (Bh7 Ck1.P [.sl Baf])
theorem Cgl (x:TCTs [.sl (.sl Baf)]):Bcr Ck1 10 (.fn 73) (Bdd [.sl (.sl Baf)] x) Bbz 0 (Bh7 Ck1.P [.sl Baf])=Cc1 x:=by kernel_rfl
theorem Cts (a b:C01):Cc1 ([a,b],())=Ctp a b:=by kernel_rfl
def Ck2 (l:List (List (TCT Baf))):Cto:=match l with
 | [a,b]=>Ctp a b
 | _=>.fail
theorem Ck3 (x:TCTs [.sl (.sl Baf)]) (h:cc2 x.1=true):Cc1 x=Ck2 x.1:=by
 obtain ⟨l,⟨⟩⟩:=x
 obtain ⟨a,b,e,_⟩:=Ck0 h
 have e:l=[a,b]:=e
 subst e
 exact Cts a b
theorem Ck4:Bai Tryz.prog 73 C2w:=Dcu Ctr 10 Cc1 (fun x=>Ck2 x.1) Cgl Ck3 fun x h _=>by
 obtain ⟨a,b,e,hn⟩:=Ck0 h
 show (Ck2 x.1).sat (fun y=>y=(ccV x.1,()))
 rw [e]
 exact Ctq hn
end V
end Go.Proofs.YtcfanlgpkefogaaGreat
