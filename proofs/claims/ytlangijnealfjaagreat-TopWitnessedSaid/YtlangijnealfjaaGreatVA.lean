import Derived.Calls
import Derived.Orders
import Derived.Defers
import Derived.WalkKit
import Derived.RangeFuncLeaves
import Derived.Lib.AppendZeros
import Derived.RangeFuncRecord
import Derived.ChangeKeysEq
namespace Go.Proofs.YtlangijnealfjaaGreat
open Go.RowKit
namespace V
def atX (b:Frame) (a:Go.Act) (todo:List Item):Frame:={ b with tmps:=a.tmps,todo:=todo,defers:=a.defers,mode:=.run }
theorem A9n (b:Frame) (a:Go.Act) (todo:List Item) (x:Operand):(atX b a todo).eval x=a.eval x:=by cases x <;> rfl
theorem Al8 (b:Frame) (a:Go.Act) (todo:List Item):(atX b a todo).eval=a.eval:=funext (A9n b a todo)
def ArrX (P:Program) (m:Machine) (b:Frame) (k:List Item) (cs:List Frame):Exit→Go.Act→World→Prop
 | .normal,a,w=>Steps P m (lone (atX b a k) cs w)
 | .exit id,a,w=>∃ k1,exitTo id k1=exitTo id k∧Steps P m (lone (atX b a (.code (.exit id)::k1)) cs w)
 | .ret,a,w=>∃ k1,Steps P m (lone (atX b a (.code .ret::k1)) cs w)
 | .panic chain,a,w=>∃ todo,Steps P m (lone { atX b a todo with mode:=.panicking chain } cs w)
 | _,_,_=>False
theorem ArrX.of_steps {P:Program} {m m₁:Machine} {b:Frame} {k:List Item} {cs:List Frame} {e:Exit} {a:Go.Act} {w:World}
  (h:Steps P m m₁) (h':ArrX P m₁ b k cs e a w):ArrX P m b k cs e a w:=by
 cases e with
 | normal=>exact Steps.trans h h'
 | exit id=>obtain ⟨k1,hk,hs⟩:=h';exact ⟨k1,hk,h.trans hs⟩
 | ret=>obtain ⟨k1,hs⟩:=h';exact ⟨k1,h.trans hs⟩
 | panic chain=>obtain ⟨todo,hs⟩:=h';exact ⟨todo,h.trans hs⟩
 | goto l=>exact h'.elim
 | outgrown=>exact h'.elim
theorem ArrX.pass {P:Program} {m:Machine} {b:Frame} {x:Item} {k:List Item} {cs:List Frame} {e:Exit} {a:Go.Act} {w:World}
  (hx:x.plain=true) (he:e≠.normal) (h:ArrX P m b (x::k) cs e a w):ArrX P m b k cs e a w:=by
 cases e with
 | normal=>exact absurd rfl he
 | exit id=>obtain ⟨k1,hk,hs⟩:=h;exact ⟨k1,hk.trans (by cases x <;> simp_all [exitTo,Item.plain]),hs⟩
 | _=>exact h
def Code.wpX (P:Program) (rd:Bool) (fn:FuncId) (c:Code) (Q:Exit→Go.Act→World→Prop) (a:Go.Act) (w:World):Prop :=
 ∀ (b:Frame) (k:List Item) (cs:List Frame),(rd=false→b.roundOf=none)∧b.fn=fn →
  ∃ e a' w',Q e a' w'∧ArrX P (lone (atX b a (.code c::k)) cs w) b k cs e a' w'
section
variable {P:Program} {rd:Bool} {fn:FuncId} {Q:Exit→Go.Act→World→Prop} {a:Go.Act} {w:World} {b:Frame} {k:List Item} {cs:List Frame}
theorem Ae6:step P (lone (atX b a (.code .skip::k)) cs w)=.next (lone (atX b a k) cs w):=step_lone_go (by simp [stepG,stepG.exec,atX])
theorem Q4 {id:Nat}:step P (lone (atX b a (.inBlock id::k)) cs w)=.next (lone (atX b a k) cs w):=step_lone_go (by simp [stepG,stepG.exec,atX])
theorem M4 {x y:Code}:step P (lone (atX b a (.code (.seq x y)::k)) cs w)=.next (lone (atX b a (.code x::.code y::k)) cs w):=step_lone_go (by simp [stepG,stepG.exec,atX])
theorem Ae7 {c:Operand} {x y:Code} {t:Bool} (h:a.eval c=.bool t):step P (lone (atX b a (.code (.cond c x y)::k)) cs w)=.next (lone (atX b a (.code (if t then x else y)::k)) cs w) :=
 step_lone_go (by
  have:=A9n b a (.code (.cond c x y)::k) c
  simp only [atX] at this
  simp [stepG,stepG.exec,atX,this,h])
theorem H5 {id:Nat} {c:Code}:step P (lone (atX b a (.code (.block id c)::k)) cs w)=.next (lone (atX b a (.code c::.inBlock id::k)) cs w):=step_lone_go (by simp [stepG,stepG.exec,atX])
theorem Ae8 {c:Code}:step P (lone (atX b a (.code (.loop c)::k)) cs w)=.next (lone (atX b a (.code c::.inLoop c::k)) cs w):=step_lone_go (by simp [stepG,stepG.exec,atX])
theorem A5l {c:Code}:step P (lone (atX b a (.inLoop c::k)) cs w)=.next (lone (atX b a (.code c::.inLoop c::k)) cs w):=step_lone_go (by simp [stepG,stepG.exec,atX])
theorem Z8 {id:Nat} {k':List Item} (h:exitTo id k=some k'):step P (lone (atX b a (.code (.exit id)::k)) cs w)=.next (lone (atX b a k') cs w):=step_lone_go (by simp [stepG,stepG.exec,atX,h])
theorem Sk {id:Nat} {ops:Array Oper}:step P (lone (atX b a (.code (.region id ops false)::k)) cs w)=.next (lone (atX b a (.inRegion ops (List.range ops.size)::k)) cs w) :=
 step_lone_go (by simp [stepG,stepG.exec,atX])
theorem Sl {id:Nat} {ops:Array Oper}:step P (lone (atX b a (.code (.region id ops true)::k)) cs w) =
   .next (lone (atX b a (.inRegion ops (Region.schedule (P.follows .mixedOrders) ops (w.tape w.drawn (.order b.fn id)))::k)) cs { w with drawn:=w.drawn+1 }) :=
 step_lone_go (by simp [stepG,stepG.exec,atX,choose,Sem.run,Question.forced,Question.cut])
theorem Un {ops:Array Oper}:step P (lone (atX b a (.inRegion ops []::k)) cs w)=.next (lone (atX b a k) cs w):=step_lone_go (by simp [stepG,stepG.exec,atX])
theorem Mn (b:Frame) (a:Go.Act) (ops:Array Oper) (i:Nat) (rest:List Nat) (k:List Item) (v:Value) :
  (atX b a (.inRegion ops (i::rest)::k)).finish v=atX b (a.put ((ops[i]?).bind (·.dst)) v) (.inRegion ops rest::k):=by
 cases h:(ops[i]?).bind (·.dst) <;> simp [Frame.finish,atX,Go.Act.put,h]
theorem Uo (b:Frame) (a:Go.Act) (todo:List Item) (chain:List PanicEntry):(atX b a todo).raise chain={ atX b a todo with mode:=.panicking chain }:=rfl
theorem Q5 {ops:Array Oper} {i:Nat} {rest:List Nat} (h:((ops[i]?).map (Region.wanted · (yielded ops a.tmps))).getD false=false) :
  step P (lone (atX b a (.inRegion ops (i::rest)::k)) cs w)=.next (lone (atX b (a.put ((ops[i]?).bind (·.dst)) undef) (.inRegion ops rest::k)) cs w):=by
 rw [← Mn]
 exact step_lone_go (by
  have h':=h
  simp only [atX] at *
  simp [stepG,stepG.exec,h'])
theorem G1 {c:Code} {Q':Exit→Go.Act→World→Prop} (h:Code.wpX P rd fn c Q a w) (hq:∀ e a w,Q e a w→Q' e a w):Code.wpX P rd fn c Q' a w :=
 fun b k cs hr=>let ⟨e,a',w',q,r⟩:=h b k cs hr;⟨e,a',w',hq _ _ _ q,r⟩
theorem Atz (h:Q .normal a w):Code.wpX P rd fn .skip Q a w:=fun _ _ _ _=>⟨.normal,a,w,h,.one Ae6⟩
theorem Au0 {id:Nat} (h:Q (.exit id) a w):Code.wpX P rd fn (.exit id) Q a w:=fun _ _ _ _=>⟨.exit id,a,w,h,_,rfl,Steps.refl P _⟩
theorem B23 (h:Q .ret a w):Code.wpX P rd fn .ret Q a w:=fun _ _ _ _=>⟨.ret,a,w,h,_,Steps.refl P _⟩
theorem B24 {x y:Code} (h:Code.wpX P rd fn x (Exit.then (Code.wpX P rd fn y Q) Q) a w):Code.wpX P rd fn (.seq x y) Q a w:=by
 intro b k cs hr
 obtain ⟨e,a₁,w₁,hq,harr⟩:=h b (.code y::k) cs hr
 cases e with
 | normal =>
  obtain ⟨e₂,a₂,w₂,hq₂,harr₂⟩:=hq b k cs hr
  exact ⟨e₂,a₂,w₂,hq₂,.of_steps (.head M4 harr) harr₂⟩
 | exit id=>exact ⟨_,a₁,w₁,hq,.of_steps (.one M4) (.pass (x:=.code y) rfl (by simp) harr)⟩
 | ret=>exact ⟨_,a₁,w₁,hq,.of_steps (.one M4) (.pass (x:=.code y) rfl (by simp) harr)⟩
 | panic ch=>exact ⟨_,a₁,w₁,hq,.of_steps (.one M4) (.pass (x:=.code y) rfl (by simp) harr)⟩
 | goto l=>exact harr.elim
 | outgrown=>exact harr.elim
theorem A9o {c:Operand} {x y:Code} {t:Bool} (hc:a.eval c=.bool t) (h:Code.wpX P rd fn (if t then x else y) Q a w):Code.wpX P rd fn (.cond c x y) Q a w :=
 fun b k cs hr=>let ⟨e,a',w',q,r⟩:=h b k cs hr;⟨e,a',w',q,.of_steps (.one (Ae7 hc)) r⟩
theorem A1x {c:Operand} {x y:Code} (hc:a.eval c=.bool true) (h:Code.wpX P rd fn x Q a w):Code.wpX P rd fn (.cond c x y) Q a w:=A9o hc h
theorem Z9 {c:Operand} {x y:Code} (hc:a.eval c=.bool false) (h:Code.wpX P rd fn y Q a w):Code.wpX P rd fn (.cond c x y) Q a w:=A9o hc h
theorem Al9 {id:Nat} {c:Code} (h:Code.wpX P rd fn c (Exit.inBlock id Q) a w):Code.wpX P rd fn (.block id c) Q a w:=by
 intro b k cs hr
 obtain ⟨e,a₁,w₁,hq,harr⟩:=h b (.inBlock id::k) cs hr
 cases e with
 | normal=>exact ⟨.normal,a₁,w₁,hq,.head H5 (Steps.trans harr (.one Q4))⟩
 | exit id' =>
  obtain ⟨k1,hk,hs⟩:=harr
  by_cases hid:id'=id
  ·simp only [Exit.inBlock,hid,if_true] at hq
   subst hid
   have hk':exitTo id' k1=some k:=by rw [hk];simp [exitTo]
   exact ⟨.normal,a₁,w₁,hq,.head H5 (Steps.trans hs (.one (Z8 hk')))⟩
  ·simp only [Exit.inBlock,hid,if_false] at hq
   refine ⟨.exit id',a₁,w₁,hq,k1,?_,.head H5 hs⟩
   have:(id==id')=false:=by simp;exact fun h=>hid h.symm
   rw [hk];simp [exitTo,this]
 | ret=>exact ⟨_,a₁,w₁,hq,.of_steps (.one H5) harr⟩
 | panic ch=>exact ⟨_,a₁,w₁,hq,.of_steps (.one H5) harr⟩
 | goto l=>exact harr.elim
 | outgrown=>exact harr.elim
def Pe (P:Program) (rd:Bool) (fn:FuncId) (c:Code) (Q:Exit→Go.Act→World→Prop):Nat→Go.Act→World→Prop
 | 0,_,_=>False
 | n+1,a,w=>Code.wpX P rd fn c (Exit.then (Pe P rd fn c Q n) Q) a w
theorem J9 {c:Code} (n:Nat) (h:Pe P rd fn c Q n a w):Code.wpX P rd fn (.loop c) Q a w:=by
 intro b k cs hr
 have key:∀ n a w,Pe P rd fn c Q n a w→∃ e a' w',Q e a' w'∧ArrX P (lone (atX b a (.code c::.inLoop c::k)) cs w) b k cs e a' w':=by
  intro n
  induction n with
  | zero=>intro a w h;exact h.elim
  | succ n ih =>
   intro a w h
   obtain ⟨e,a₁,w₁,hq,harr⟩:=h b (.inLoop c::k) cs hr
   cases e with
   | normal =>
    obtain ⟨e₂,a₂,w₂,hq₂,harr₂⟩:=ih a₁ w₁ hq
    exact ⟨e₂,a₂,w₂,hq₂,.of_steps (Steps.trans harr (.one A5l)) harr₂⟩
   | exit id=>exact ⟨_,a₁,w₁,hq,.pass (x:=.inLoop c) rfl (by simp) harr⟩
   | ret=>exact ⟨_,a₁,w₁,hq,.pass (x:=.inLoop c) rfl (by simp) harr⟩
   | panic ch=>exact ⟨_,a₁,w₁,hq,.pass (x:=.inLoop c) rfl (by simp) harr⟩
   | goto l=>exact harr.elim
   | outgrown=>exact harr.elim
 obtain ⟨e,a',w',hq,harr⟩:=key n a w h
 exact ⟨e,a',w',hq,.of_steps (.one Ae8) harr⟩
end
def Calls' (P:Program) (f:FuncId) (args:Array Value) (w:World) (R:Ending→World→Prop):Prop :=
 Calls P f args w fun e w'=>(match e with | .outgrown=>False | _=>True)∧R e w'
def RoundX (P:Program) (l:Nat) (f:FuncId) (tmps:Array Value) (assign body:Code) (w:World) (R:Ending→World→Prop):Prop :=
 ∀ (c:Frame) (cs:List Frame),c.mode=.run→∃ e w',R e w'∧match e with
  | .returned v=>Steps P (lone (Frame.round l f tmps assign body .normal) (c::cs) w) (lone (c.finish v) cs w')
  | .panicked chain=>Steps P (lone (Frame.round l f tmps assign body .normal) (c::cs) w) (lone (c.raise chain) cs w')
  | .outgrown=>False
theorem Calls'.mono {P:Program} {f:FuncId} {args:Array Value} {w:World} {R R':Ending→World→Prop} (h:Calls' P f args w R) (hr:∀ e w',R e w'→R' e w'):Calls' P f args w R' :=
 Calls.mono h fun e w' ⟨h1,h2⟩=>⟨h1,hr e w' h2⟩
theorem RoundX.mono {P:Program} {l:Nat} {f:FuncId} {tmps:Array Value} {assign body:Code} {w:World} {R R':Ending→World→Prop} (h:RoundX P l f tmps assign body w R) (hr:∀ e w',R e w'→R' e w'):RoundX P l f tmps assign body w R' :=
 fun c cs hm=>let ⟨e,w',r,s⟩:=h c cs hm;⟨e,w',hr _ _ r,s⟩
def Oper.uponX (P:Program) (rd:Bool) (o:Oper) (a:Go.Act) (next:Go.Act→World→Prop) (Q:Exit→Go.Act→World→Prop):Result Next→Prop
 | .ok (.value v) w'=>next (a.put o.dst v) w'
 | .ok .skip w'=>next (a.put o.dst undef) w'
 | .ok (.defer d) w'=>rd=false∧next ({ a with defers:=d::a.defers }.put o.dst undef) w'
 | .ok (.enter f args) w'=>Calls' P f args w' fun
   | .returned v,w''=>next (a.put o.dst v) w''
   | .panicked chain,w''=>Q (.panic chain) a w''
   | .outgrown,_=>False
 | .ok (.round l f tmps assign body) w'=>RoundX P l f tmps assign body w' fun
   | .returned v,w''=>next (a.put o.dst v) w''
   | .panicked chain,w''=>Q (.panic chain) a w''
   | .outgrown,_=>False
 | .halt (.panic v) w'=>Q (.panic [{ v,recovered:=false }]) a w'
 | _=>False
section
variable {P:Program} {rd:Bool} {o:Oper} {a:Go.Act} {next:Go.Act→World→Prop} {Q:Exit→Go.Act→World→Prop} {w:World} {ops:Array Oper}
theorem Oper.uponX_mono {K K':Go.Act→World→Prop} (h:∀ a w,K a w→K' a w):∀ {r:Result Next},Oper.uponX P rd o a K Q r→Oper.uponX P rd o a K' Q r:=by
 intro r hh
 cases r with
 | ok n w' =>
  cases n <;> simp only [Oper.uponX] at hh ⊢ <;>
   first
    | exact h _ _ hh
    | exact ⟨hh.1,h _ _ hh.2⟩
    | exact Calls'.mono hh (fun e w'' he=>by cases e <;> first | exact h _ _ he | exact he)
    | exact RoundX.mono hh (fun e w'' he=>by cases e <;> first | exact h _ _ he | exact he)
 | halt x w'=>cases x <;> simp only [Oper.uponX] at hh ⊢ <;> exact hh
def Jd (P:Program) (rd:Bool) (ops:Array Oper) (Q:Exit→Go.Act→World→Prop) (i:Nat) (K:Go.Act→World→Prop) (a:Go.Act) (w:World):Prop :=
 match ops[i]? with
 | none=>K a w
 | some o=>if Region.wanted o (yielded ops a.tmps) then Oper.uponX P rd o a K Q ((execOp a.eval o).run P w) else K (a.put o.dst undef) w
def Ja (P:Program) (rd:Bool) (ops:Array Oper) (Q:Exit→Go.Act→World→Prop):List Nat→Go.Act→World→Prop
 | [],a,w=>Q .normal a w
 | i::rest,a,w=>Jd P rd ops Q i (Ja P rd ops Q rest) a w
theorem Ae9 {i:Nat} {K K':Go.Act→World→Prop} (h:∀ a w,K a w→K' a w) (hh:Jd P rd ops Q i K a w):Jd P rd ops Q i K' a w:=by
 unfold Jd at *
 split
 ·exact h _ _ (by simpa [*] using hh)
 ·rename_i o ho
  simp only [ho] at hh
  split
  ·rename_i hw;simp only [hw,if_true] at hh;exact Oper.uponX_mono h hh
  ·rename_i hw;simp only [hw] at hh;exact h _ _ hh
theorem A36 {b:Frame} {k:List Item} {cs:List Frame} {i:Nat} {rest:List Nat} (ho:ops[i]? = some o) (hw:Region.wanted o (yielded ops a.tmps)=true) (hd:b.roundOf=none∨∀ c,o.op≠.defer c) :
  stepG P true { frame:=atX b a (.inRegion ops (i::rest)::k),callers:=cs,status:=.running,dying:=none } w =
   stepG.apply P true (atX b a (.inRegion ops (i::rest)::k)) cs none (execOp a.eval o) w:=by
 have he:=Al8 b a (.inRegion ops (i::rest)::k)
 simp only [atX] at he
 simp only [stepG,stepG.exec,stepG.oper,Frame.oper?,atX,ho,Option.map_some,hw,Option.getD_some,if_true,he]
 split
 ·rename_i l c h1 h2
  rcases hd with hd | hd
  ·rw [hd] at h1;cases h1
  ·exact absurd h2 (hd c)
 ·rfl
end
theorem A5m {P:Program} {rd:Bool} {ops:Array Oper} {Q:Exit→Go.Act→World→Prop} (hnd:rd=true→∀ (i:Nat) (o:Oper),ops[i]? = some o→∀ c,o.op≠.defer c) (l:List Nat) :
  ∀ (a:Go.Act) (w:World),Ja P rd ops Q l a w→∀ (b:Frame) (k:List Item) (cs:List Frame),(rd=false→b.roundOf=none) →
   ∃ e a' w',Q e a' w'∧ArrX P (lone (atX b a (.inRegion ops l::k)) cs w) b k cs e a' w':=by
 induction l with
 | nil=>exact fun a w h b k cs _=>⟨.normal,a,w,h,.one Un⟩
 | cons i rest ih =>
  intro a w h b k cs hrd
  simp only [Ja,Jd] at h
  cases ho:ops[i]? with
  | none =>
   simp only [ho] at h
   obtain ⟨e,a',w',hq,harr⟩:=ih a w h b k cs hrd
   have hs:=Q5 (P:=P) (b:=b) (a:=a) (k:=k) (cs:=cs) (w:=w) (ops:=ops) (i:=i) (rest:=rest) (by simp [ho])
   simp only [ho,Option.bind_none,Go.Act.put] at hs
   exact ⟨e,a',w',hq,.of_steps (.one hs) harr⟩
  | some o =>
   simp only [ho] at h
   by_cases hw:Region.wanted o (yielded ops a.tmps)=true
   ·simp only [hw,if_true] at h
    have hnd':b.roundOf=none∨∀ c,o.op≠.defer c:=by
     cases rd with
     | false=>exact .inl (hrd rfl)
     | true=>exact .inr (hnd rfl i o ho)
    have hg:=A36 (P:=P) (b:=b) (k:=k) (cs:=cs) (w:=w) (rest:=rest) ho hw hnd'
    have hfin:∀ v,(atX b a (.inRegion ops (i::rest)::k)).finish v=atX b (a.put o.dst v) (.inRegion ops rest::k):=by
     intro v;rw [Mn,ho];rfl
    generalize hr:(execOp a.eval o).run P w=r at h
    unfold Oper.uponX at h
    split at h
    ·rename_i v w'
     obtain ⟨e,a',w'',hq,harr⟩:=ih _ _ h b k cs hrd
     refine ⟨e,a',w'',hq,.of_steps (.one (step_lone_go ?_)) harr⟩
     rw [hg,← hfin];simp [stepG.apply,hr]
    ·rename_i w'
     obtain ⟨e,a',w'',hq,harr⟩:=ih _ _ h b k cs hrd
     refine ⟨e,a',w'',hq,.of_steps (.one (step_lone_go ?_)) harr⟩
     rw [hg,← hfin];simp [stepG.apply,hr]
    ·rename_i d w'
     obtain ⟨e,a',w'',hq,harr⟩:=ih _ _ h.2 b k cs hrd
     refine ⟨e,a',w'',hq,.of_steps (.one (step_lone_go ?_)) harr⟩
     have:({ atX b a (.inRegion ops (i::rest)::k) with defers:=d::a.defers }:Frame).finish undef =
       atX b ({ a with defers:=d::a.defers }.put o.dst undef) (.inRegion ops rest::k):=by
      have:=Mn b { a with defers:=d::a.defers } ops i rest k undef
      rw [ho] at this;exact this
     rw [hg];simp only [stepG.apply,Sem.runT_eq,hr,GStep.bare_after]
     exact congrArg (fun fr=>GStep.go { frame:=fr,callers:=cs,status:=.running,dying:=none } w') this
    ·rename_i f args w'
     obtain ⟨e,w'',fr,⟨hne,hR⟩,hsteps,_,hleave⟩:=h (atX b a (.inRegion ops (i::rest)::k)::cs)
     have henter:step P (lone (atX b a (.inRegion ops (i::rest)::k)) cs w) =
       .next (lone (Frame.enter P f args .normal) (atX b a (.inRegion ops (i::rest)::k)::cs) w') :=
      step_lone_go (by rw [hg];simp [stepG.apply,hr,atX])
     cases e with
     | returned v =>
      obtain ⟨e,a',w₃,hq,harr⟩:=ih _ _ hR b k cs hrd
      refine ⟨e,a',w₃,hq,.of_steps (.head henter (Steps.trans hsteps (.one ?_))) harr⟩
      rw [← hfin];exact step_leave_returned hleave
     | panicked chain =>
      refine ⟨.panic chain,a,w'',hR,.inRegion ops (i::rest)::k,.head henter (Steps.trans hsteps (.one ?_))⟩
      rw [← Uo];exact step_leave_panicked hleave
     | outgrown=>exact hne.elim
    ·rename_i l f tmps assign body w'
     obtain ⟨e,w'',hR,hsteps⟩:=h (atX b a (.inRegion ops (i::rest)::k)) cs rfl
     have henter:step P (lone (atX b a (.inRegion ops (i::rest)::k)) cs w) =
       .next (lone (Frame.round l f tmps assign body .normal) (atX b a (.inRegion ops (i::rest)::k)::cs) w') :=
      step_lone_go (by rw [hg];simp [stepG.apply,hr,atX])
     cases e with
     | returned v =>
      obtain ⟨e,a',w₃,hq,harr⟩:=ih _ _ hR b k cs hrd
      refine ⟨e,a',w₃,hq,.of_steps (.head henter ?_) harr⟩
      rw [← hfin];exact hsteps
     | panicked chain =>
      refine ⟨.panic chain,a,w'',hR,.inRegion ops (i::rest)::k,.head henter ?_⟩
      rw [← Uo];exact hsteps
     | outgrown=>exact hsteps.elim
    ·rename_i v w'
     refine ⟨_,a,w',h,.inRegion ops (i::rest)::k,.one (step_lone_go ?_)⟩
     rw [hg,← Uo];simp [stepG.apply,hr]
    ·exact h.elim
   ·simp only [hw,if_false,Bool.false_eq_true] at h
    obtain ⟨e,a',w',hq,harr⟩:=ih _ _ h b k cs hrd
    have hs:=Q5 (P:=P) (b:=b) (a:=a) (k:=k) (cs:=cs) (w:=w) (ops:=ops) (i:=i) (rest:=rest) (by simp [ho];simpa using hw)
    simp only [ho,Option.bind_some] at hs
    exact ⟨e,a',w',hq,.of_steps (.one hs) harr⟩
def Mo (ops:Array Oper):Bool:=ops.toList.all fun o=>match o.op with | .defer _=>false | _=>true
theorem Sm {ops:Array Oper} (h:Mo ops=true) (i:Nat) (o:Oper) (ho:ops[i]? = some o) (c:Call):o.op≠.defer c:=by
 intro e
 have hm:o ∈ ops.toList:=by rw [← Array.getElem?_toList] at ho;exact List.mem_of_getElem? ho
 have:=List.all_eq_true.1 h o hm
 simp [e] at this
theorem Aea {P:Program} {rd:Bool} {fn:FuncId} {id:Nat} {ops:Array Oper} {Q:Exit→Go.Act→World→Prop} {a:Go.Act} {w:World} (hnd:rd=true→Mo ops=true)
  (h:Ja P rd ops Q (List.range ops.size) a w):Code.wpX P rd fn (.region id ops false) Q a w :=
 fun b k cs hr=>let ⟨e,a',w',q,r⟩:=A5m (fun h i o ho c=>Sm (hnd h) i o ho c) _ a w h b k cs hr.1;⟨e,a',w',q,.of_steps (.one Sk) r⟩
def K9 (P:Program) (rd:Bool) (ops:Array Oper) (Q:Exit→Go.Act→World→Prop):Nat→Array Bool→Go.Act→World→Prop
 | 0,listed,a,w=>Region.ready .any ops listed=[]∧Q .normal a w
 | fuel+1,listed,a,w =>
  (Region.ready .any ops listed=[]→Q .normal a w) ∧
  ∀ i ∈ Region.ready .any ops listed,Jd P rd ops Q i (K9 P rd ops Q fuel (listed.setIfInBounds i true)) a w
section
variable {P:Program} {rd:Bool} {ops:Array Oper} {Q:Exit→Go.Act→World→Prop}
theorem A5n:∀ (fuel t:Nat) (listed:Array Bool) (a:Go.Act) (w:World),K9 P rd ops Q fuel listed a w →
  Ja P rd ops Q (Region.linearise.go .any ops fuel t listed []) a w:=by
 intro fuel
 induction fuel with
 | zero=>intro t listed a w h;simpa [Region.linearise.go,Ja] using h.2
 | succ fuel ih =>
  intro t listed a w h
  obtain ⟨h₀,h₁⟩:=h
  simp only [Region.linearise.go]
  change Ja P rd ops Q (match (Region.ready .any ops listed)[t % (Region.ready .any ops listed).length]? with
   | some i=>Region.linearise.go .any ops fuel (t / (Region.ready .any ops listed).length) (listed.setIfInBounds i true) [i]
   | none=>[].reverse) a w
  cases hi:(Region.ready .any ops listed)[t % (Region.ready .any ops listed).length]? with
  | none =>
   have hnil:Region.ready .any ops listed=[]:=by
    cases hr:Region.ready .any ops listed with
    | nil=>rfl
    | cons x xs =>
     rw [hr] at hi
     have hlt:t % (x::xs).length<(x::xs).length:=Nat.mod_lt _ (by simp)
     simp at hi
     simp at hlt
     omega
   simpa [Ja] using h₀ hnil
  | some i =>
   simp only []
   rw [linearise_go_acc,List.reverse_singleton,List.singleton_append]
   exact Ae9 (fun a w=>ih _ _ a w) (h₁ i (List.mem_of_getElem? hi))
theorem O4 {fn:FuncId} {id:Nat} {a:Go.Act} {w:World} (hm:P.follows .mixedOrders=true) (hnd:rd=true→Mo ops=true)
  (h:K9 P rd ops Q ops.size (Array.replicate ops.size false) a { w with drawn:=w.drawn+1 }):Code.wpX P rd fn (.region id ops true) Q a w:=by
 intro b k cs hr
 have hl:Ja P rd ops Q (Region.schedule (P.follows .mixedOrders) ops (w.tape w.drawn (.order b.fn id))) a { w with drawn:=w.drawn+1 }:=by
  simp only [Region.schedule,hm,Bool.true_or,if_true]
  exact A5n ops.size _ _ a _ h
 obtain ⟨e,a',w',q,r⟩:=A5m (fun h i o ho c=>Sm (hnd h) i o ho c) _ a _ hl b k cs hr.1
 exact ⟨e,a',w',q,.of_steps (.one Sl) r⟩
end
end V
end Go.Proofs.YtlangijnealfjaaGreat
namespace Go.Proofs.YtlangijnealfjaaGreat
open Go.RowKit
namespace V
section
variable {P:Program} {fn:FuncId} {Q:Exit→Go.Act→World→Prop} {a:Go.Act} {w:World}
def Vq (w:World) (fn:FuncId) (tmps:Array Value) (ps:Array Tmp) (assign body:Code):World :=
 (w.alloc (.deferred (some []))).alloc (.loop { state:=.ready,pending:=none,fn,tmps,params:=ps,assign,body,defers:=w.heap.size })
theorem A1y {g:Operand} {ps:Array Tmp} {assign body:Code} {gf:FuncId} {first cap:Array Value} (hg:a.eval g=.func (.func gf) first cap)
  (hc:(callFunc gf (first++#[.func (.yield (w.heap.size+1)) #[] #[]]++cap)).run P (Vq w fn a.tmps ps assign body)=.ok (.enter gf (first++#[.func (.yield (w.heap.size+1)) #[] #[]]++cap)) (Vq w fn a.tmps ps assign body))
  (h:Calls' P gf (first++#[.func (.yield (w.heap.size+1)) #[] #[]]++cap) (Vq w fn a.tmps ps assign body) fun e w3=>match e with
   | .returned _=>∃ L W,w3.heap[w.heap.size+1]? = some (.loop L)∧L.state≠.busy∧W=w3.putObj (w.heap.size+1) (.loop { L with state:=.exhausted })∧match L.pending with
    | none=>Q .normal { a with defers:={ target:=.collected w.heap.size,args:=#[] }::a.defers } W
    | some .ret=>Q .ret { a with defers:={ target:=.collected w.heap.size,args:=#[] }::a.defers } W
    | some (.exit id)=>Q (.exit id) { a with defers:={ target:=.collected w.heap.size,args:=#[] }::a.defers } W
    | _=>False
   | .panicked ch=>Q (.panic ch) { a with defers:={ target:=.collected w.heap.size,args:=#[] }::a.defers } w3
   | .outgrown=>False) :
  Code.wpX P false fn (.rangeFunc g ps assign body) Q a w:=by
 intro b k cs hr
 have hro:=hr.1 rfl
 have hfn:=hr.2
 have s1:=stepR_rangeFunc (P:=P) (b:=b) (a:=a) (k:=k) (cs:=cs) (w:=w) (g:=g) (ps:=ps) (assign:=assign) (body:=body) (l:=w.heap.size+1) (mark:=[{ target:=.collected w.heap.size,args:=#[] }])
  (w₁:=Vq w fn a.tmps ps assign body) (w₁':=Vq w fn a.tmps ps assign body) (w₂:=Vq w fn a.tmps ps assign body) (d:={ target:=.fn (.func gf) cap,args:=first++#[.func (.yield (w.heap.size+1)) #[] #[]] }) (f:=gf) (args:=first++#[.func (.yield (w.heap.size+1)) #[] #[]]++cap)
  (by rw [hro,hfn];exact run_enterLoop_outer _ _ _ _ _) (by
   have hy:a.eval (.const (.func (.yield (w.heap.size+1)) #[] #[]))=.func (.yield (w.heap.size+1)) #[] #[]:=rfl
   simp only [resolve,hg,Deferred.ofValue,List.map_toArray,List.map_cons,List.map_nil,hy];rfl) (by simp only [invoke];exact hc)
 obtain ⟨e,w3,fr,⟨hne,hR⟩,hsteps,_,hleave⟩:=h (b.atR { a with defers:=[{ target:=.collected w.heap.size,args:=#[] }]++a.defers } (.inRangeFunc (w.heap.size+1)::k)::cs)
 cases e with
 | returned v =>
  obtain ⟨L,W,hL,hst,hW,hq⟩:=hR
  have s2:=step_leave_returned (cs:=cs) (c:=b.atR { a with defers:=[{ target:=.collected w.heap.size,args:=#[] }]++a.defers } (.inRangeFunc (w.heap.size+1)::k)) hleave
  rw [finish_atR_inRangeFunc] at s2
  have s3:=stepR_endRangeFunc (P:=P) (b:=b) (a:={ a with defers:=[{ target:=.collected w.heap.size,args:=#[] }]++a.defers }) (k:=k) (cs:=cs) (run_endLoop (P:=P) hL hst)
  have s4:=Steps.head s1 (Steps.trans hsteps (.head s2 (.one s3)))
  rw [← hW] at s4
  cases hp:L.pending with
  | none =>
   rw [hp] at hq s4
   exact ⟨.normal,_,_,hq,s4⟩
  | some c =>
   rw [hp] at hq s4
   cases c with
   | ret=>exact ⟨.ret,_,_,hq,k,s4⟩
   | exit id=>exact ⟨.exit id,_,_,hq,k,rfl,s4⟩
   | _=>exact hq.elim
 | panicked ch =>
  have s2:=step_leave_panicked (cs:=cs) (c:=b.atR { a with defers:=[{ target:=.collected w.heap.size,args:=#[] }]++a.defers } (.inRangeFunc (w.heap.size+1)::k)) hleave
  exact ⟨.panic ch,_,_,hR,.inRangeFunc (w.heap.size+1)::k,Steps.head s1 (Steps.trans hsteps (.one s2))⟩
 | outgrown=>exact hne.elim
def Au1 (l:Nat) (R:Ending→World→Prop):Exit→Go.Act→World→Prop
 | .normal,_,w=>∃ L,w.heap[l]? = some (.loop L)∧R (.returned (.bool true)) (w.putObj l (.loop { L with state:=.ready,pending:=none }))
 | .ret,_,w=>∃ L,w.heap[l]? = some (.loop L)∧R (.returned (.bool false)) (w.putObj l (.loop { L with state:=.done,pending:=some .ret }))
 | .exit id,_,w=>∃ L,w.heap[l]? = some (.loop L)∧R (.returned (.bool false)) (w.putObj l (.loop { L with state:=.done,pending:=some (.exit id) }))
 | .panic ch,a,w=>a.defers=[]∧R (.panicked ch) w
 | _,_,_=>False
theorem Ala {l:Nat} {f:FuncId} {tmps:Array Value} {assign body:Code} {R:Ending→World→Prop} (hf:∃ g,P.funcs[f]? = some g)
  (h:Code.wpX P true f assign (fun e a1 w1=>e=.normal∧∃ L,w1.heap[l]? = some (.loop L)∧L.state=.ready∧Code.wpX P true f body (Au1 l R) a1 (w1.putObj l (.loop { L with state:=.busy }))) { tmps:=tmps,defers:=[] } w) :
  RoundX P l f tmps assign body w R:=by
 intro c cs hm
 let b:Frame:={ (default:Frame) with fn:=f,kind:=.normal,roundOf:=some l }
 have hb0:Frame.round l f tmps assign body .normal=atX b { tmps:=tmps,defers:=[] } [.code assign,.beginRound,.code body]:=by
  simp [Frame.round,atX,b]
 obtain ⟨e,a1,w1,⟨rfl,L,hL,hst,hbody⟩,s1⟩:=h b [.beginRound,.code body] (c::cs) ⟨by simp,rfl⟩
 rw [← hb0] at s1
 have s2:=stepR_beginRound (P:=P) (b:=b) (a:=a1) (k:=[.code body]) (cs:=c::cs) rfl (run_beginRound (P:=P) hL hst)
 obtain ⟨e,a2,w2,hq,harr⟩:=hbody b [] (c::cs) ⟨by simp,rfl⟩
 have s12:=Steps.trans s1 (.one s2)
 cases e with
 | normal =>
  obtain ⟨L2,hL2,hR⟩:=hq
  exact ⟨_,_,hR,Steps.trans s12 (Steps.trans harr (.one (stepR_round_end (P:=P) (b:=b) rfl rfl (run_endRound (P:=P) none hL2))))⟩
 | ret =>
  obtain ⟨L2,hL2,hR⟩:=hq
  obtain ⟨k1,s3⟩:=harr
  exact ⟨_,_,hR,Steps.trans s12 (Steps.trans s3 (.one (stepR_round_ret (P:=P) (b:=b) rfl rfl (run_endRound (P:=P) (some .ret) hL2))))⟩
 | exit id =>
  obtain ⟨L2,hL2,hR⟩:=hq
  obtain ⟨k1,hk,s3⟩:=harr
  exact ⟨_,_,hR,Steps.trans s12 (Steps.trans s3 (.one (stepR_round_exit (P:=P) (b:=b) rfl rfl (by rw [hk];rfl) (run_endRound (P:=P) (some (.exit id)) hL2))))⟩
 | panic ch =>
  obtain ⟨hd,hR⟩:=hq
  obtain ⟨todo,s3⟩:=harr
  obtain ⟨g,hg⟩:=hf
  refine ⟨.panicked ch,w2,hR,Steps.trans s12 (Steps.trans s3 (.one (step_lone_go ?_)))⟩
  simp [stepG,unwind,Frame.catches,atX,hd,b,hg]
 | goto l=>exact harr.elim
 | outgrown=>exact harr.elim
def Bj8 (P:Program) (m:Machine) (b:Frame) (cs:List Frame):Exit→Go.Act→World→Prop
 | .normal,a,w | .ret,a,w=>∃ todo,Steps P m (lone { atX b a todo with mode:=.returning } cs w)
 | .panic ch,a,w=>∃ todo,Steps P m (lone { atX b a todo with mode:=.panicking ch } cs w)
 | _,_,_=>False
theorem A9p {c:Code} {tmps:Array Value} {cs:List Frame} {b:Frame} (hb:b.roundOf=none) (hbf:b.fn=fn) (h:Code.wpX P false fn c Q { tmps:=tmps,defers:=[] } w) (hx:∀ id a w,¬ Q (.exit id) a w) :
  ∃ e a' w',Q e a' w'∧Bj8 P (lone (atX b { tmps:=tmps,defers:=[] } [.code c]) cs w) b cs e a' w':=by
 obtain ⟨e,a',w',hq,harr⟩:=h b [] cs ⟨fun _=>hb,hbf⟩
 have he:∀ (todo:List Item),(todo=[]∨∃ k1,todo=.code .ret::k1)→step P (lone (atX b a' todo) cs w')=.next (lone { atX b a' todo with mode:=.returning } cs w'):=by
  intro todo ht
  rcases ht with rfl | ⟨k1,rfl⟩ <;> exact step_lone_go (by simp [stepG,stepG.exec,atX,hb])
 cases e with
 | normal=>exact ⟨.normal,a',w',hq,[],Steps.trans harr (.one (he _ (.inl rfl)))⟩
 | ret=>obtain ⟨k1,hs⟩:=harr;exact ⟨.ret,a',w',hq,_,Steps.trans hs (.one (he _ (.inr ⟨k1,rfl⟩)))⟩
 | panic ch=>exact ⟨.panic ch,a',w',hq,harr⟩
 | exit id=>exact absurd hq (hx id a' w')
 | goto l=>exact harr.elim
 | outgrown=>exact harr.elim
end
end V
end Go.Proofs.YtlangijnealfjaaGreat
namespace Go.Proofs.YtlangijnealfjaaGreat
namespace V
inductive TC where
 | b | i (k:IntKind) | s | sl (c:TC) | st (cs:List TC)
mutual
@[reducible] def TCT:TC→Type
 | .b=>Bool
 | .i _=>Int
 | .s=>ByteArray
 | .sl c=>List (TCT c)
 | .st cs=>TCTs cs
@[reducible] def TCTs:List TC→Type
 | []=>Unit
 | c::cs=>TCT c×TCTs cs
end
mutual
def TC.size:TC→Nat
 | .st cs=>sizes cs
 | _=>1
def sizes:List TC→Nat
 | []=>0
 | c::cs=>c.size+sizes cs
end
mutual
def TC.beq:TC→TC→Bool
 | .b,.b=>true
 | .i j,.i k=>decide (j=k)
 | .s,.s=>true
 | .sl c,.sl d=>c.beq d
 | .st cs,.st ds=>beqs cs ds
 | _,_=>false
def beqs:List TC→List TC→Bool
 | [],[]=>true
 | c::cs,d::ds=>c.beq d&&beqs cs ds
 | _,_=>false
end
mutual
theorem TC.beq_eq:∀ (c d:TC),c.beq d=true→c=d
 | .b,d,h=>by cases d <;> simp [TC.beq] at h ⊢
 | .i j,d,h=>by cases d <;> simp [TC.beq] at h ⊢;exact h
 | .s,d,h=>by cases d <;> simp [TC.beq] at h ⊢
 | .sl c,d,h=>by
  cases d <;> simp [TC.beq] at h ⊢
  exact TC.beq_eq c _ h
 | .st cs,d,h=>by
  cases d <;> simp [TC.beq] at h ⊢
  exact beqs_eq cs _ h
theorem beqs_eq:∀ (cs ds:List TC),beqs cs ds=true→cs=ds
 | [],ds,h=>by cases ds <;> simp [beqs] at h ⊢
 | c::cs,ds,h=>by
  cases ds with
  | nil=>simp [beqs] at h
  | cons d ds =>
   simp only [beqs,Bool.and_eq_true] at h
   rw [TC.beq_eq c d h.1,beqs_eq cs ds h.2]
end
mutual
def Aq:(c:TC)→TCT c
 | .b=>false
 | .i _=>(0:Int)
 | .s=>ByteArray.empty
 | .sl _=>[]
 | .st cs=>dflts cs
def dflts:(cs:List TC)→TCTs cs
 | []=>()
 | c::cs=>(Aq c,dflts cs)
end
def Dq (c d:TC) (xs:List (TCT c)):Option (List (TCT d)):=if h:c.beq d=true then some (TC.beq_eq c d h ▸ xs) else none
mutual
def TC.noSl:TC→Bool
 | .sl _=>false
 | .st cs=>noSls cs
 | _=>true
def noSls:List TC→Bool
 | []=>true
 | c::cs=>c.noSl&&noSls cs
end
inductive AV where
 | bool (b:Bool)
 | int (k:IntKind) (n:Int)
 | ptr (id row st col:Nat)
 | nilp
 | sl (id off st len cap:Nat)
 | val (v:Value)
 | agg (cs:List AV)
 | tup (cs:List AV)
 | fn (f:Fn) (first captured:List AV)
 | ro (c:TC) (xs:List (TCT c))
 | rop (c:TC) (x:TCT c) (col:Nat)
 | own (id:Nat)
 | mp (id:Nat)
 | yld (id:Nat)
 | stp (id:Nat)
 | ifc (t:TypeId) (x:AV)
 | top
def Iz:IntKind→Int
 | .i8 => -128
 | .i16 => -32768
 | .i32 => -2147483648
 | .i64 => -9223372036854775808
 | _=>0
def B7:IntKind→Int
 | .i8=>127
 | .i16=>32767
 | .i32=>2147483647
 | .i64=>9223372036854775807
 | .u8=>255
 | .u16=>65535
 | .u32=>4294967295
 | .u64=>18446744073709551615
def inK (k:IntKind) (n:Int):Prop:=Iz k≤n∧n≤B7 k
def I6 (k:IntKind) (n:Int):Bool:=decide (Iz k≤n)&&decide (n≤B7 k)
def Li:Value→AV
 | .bool b=>.bool b
 | .int k n=>bif I6 k n then .int k n else .val (.int k n)
 | .pointer none=>.nilp
 | .func f a c=>bif a.isEmpty&&c.isEmpty then .fn f [] [] else .val (.func f a c)
 | v=>.val v
def ofV:Value→AV
 | .agg cs=>.agg (cs.toList.map Li)
 | v=>Li v
def one:AV→Bool
 | .bool _ | .int _ _ | .ptr _ _ _ _ | .nilp | .sl _ _ _ _ _ | .fn _ _ _ | .ro _ _ | .rop _ _ _ | .own _ | .mp _ | .yld _ | .stp _ | .ifc _ _=>true
 | .val v=>v.oneCell'
 | _=>false
def O5:AV→Option (List AV)
 | .agg cs=>some cs
 | x=>bif one x then some [x] else none
structure Blk where
 ty:TypeId
 cs:List AV
structure Arr where
 ty:TypeId
 c:TC
 xs:List (TCT c)
structure Mp where
 kc:TC
 vc:TC
 get:TCT kc→Option (TCT vc)
 ents:List (Nat×TCT kc)
structure LoopR where
 tm:Nat→AV
 n:Nat
 fn:FuncId
 params:List Nat
 assign:Code
 body:Code
 st:LoopState
 pend:Option Code
 df:Nat
inductive Ob where
 | blk (b:Blk)
 | arr (A:Arr)
 | mp (M:Mp)
 | lp (r:LoopR)
 | dfr
 | it (t:ByteArray) (pos:Nat)
abbrev Ao:=Nat→Option Ob
inductive DfA where
 | call (f:FuncId) (args captured:List AV)
 | mark (id:Nat)
structure St where
 tm:Nat→AV
 n:Nat
 hp:Ao
 nx:Nat
 df:List DfA
 rd:Bool
inductive XE where
 | normal
 | exit (id:Nat)
 | ret
 | panic (x:AV)
inductive Out where
 | ret (x:AV)
 | pan (x:AV)
inductive Tree (α:Type) where
 | leaf (a:α)
 | need (p:Prop) (t:Tree α)
 | br (c:Bool) (t e:Tree α)
 | fail
def Tree.sat {α:Type} (R:α→Prop):Tree α→Prop
 | .leaf a=>R a
 | .need p t=>p∧t.sat R
 | .br c t e=>(c=true→t.sat R)∧(c=false→e.sat R)
 | .fail=>False
def Tree.bind {α β:Type} (t:Tree α) (f:α→Tree β):Tree β :=
 match t with
 | .leaf a=>f a
 | .need p t=>.need p (t.bind f)
 | .br c t e=>bif c then t.bind f else e.bind f
 | .fail=>.fail
def upd {β:Type} (f:Nat→β) (i:Nat) (x:β):Nat→β:=fun j=>bif Nat.beq j i then x else f j
def St.put (s:St) (d:Option Nat) (x:AV):St :=
 match d with
 | some d=>{ s with tm:=upd s.tm d x }
 | none=>s
def St.eval (s:St):Operand→AV
 | .tmp t=>s.tm t
 | .const v=>ofV v
 | .global g=>.val (.pointer (some ⟨g,0,none⟩))
 | .func f=>.fn (.func f) [] []
def nth {β:Type}:List β→Nat→Option β
 | [],_=>none
 | x::_,0=>some x
 | _::l,n+1=>nth l n
def Je {β:Type}:Nat→List β→List β
 | 0,_=>[]
 | _,[]=>[]
 | n+1,x::l=>x::Je n l
def Jf {β:Type}:Nat→List β→List β
 | 0,l=>l
 | _,[]=>[]
 | n+1,_::l=>Jf n l
def Bf {β:Type}:List β→Nat→β→List β
 | [],_,_=>[]
 | _::l,0,y=>y::l
 | x::l,n+1,y=>x::Bf l n y
def Bc {β:Type}:List β→Nat→List β→List β
 | cs,_,[]=>cs
 | cs,off,v::vs=>Bc (Bf cs off v) (off+1) vs
def Bz {β:Type}:List β→Nat
 | []=>0
 | _::l=>Bz l+1
def Gf {β:Type}:List (Nat×β)→Nat→Option β
 | [],_=>none
 | (k,x)::l,i=>bif Nat.beq k i then some x else Gf l i
def As {β:Type}:List β→Nat→β→β
 | [],_,d=>d
 | x::_,0,_=>x
 | _::l,n+1,d=>As l n d
mutual
def enc:(c:TC)→TCT c→List AV
 | .b,x=>[.bool x]
 | .i k,n=>[.int k n]
 | .s,x=>[.val (.string x)]
 | .sl c,xs=>[.ro c xs]
 | .st cs,x=>encs cs x
def encs:(cs:List TC)→TCTs cs→List AV
 | [],_=>[]
 | c::cs,(x,y)=>enc c x++encs cs y
end
def Bfa:List AV→Option (Bool×List AV)
 | .bool x::l=>some (x,l)
 | _=>none
def Bfb (k:IntKind):List AV→Option (Int×List AV)
 | .int j n::l=>bif decide (j=k) then some (n,l) else none
 | _=>none
def Bfc:List AV→Option (ByteArray×List AV)
 | .val (.string x)::l=>some (x,l)
 | _=>none
def B5h (c:TC):List AV→Option (List (TCT c)×List AV)
 | .ro d xs::l=>match Dq d c xs with
  | some ys=>some (ys,l)
  | none=>none
 | .val (.slice none 0 0)::l=>some ([],l)
 | _=>none
mutual
def dec:(c:TC)→List AV→Option (TCT c×List AV)
 | .b,l=>Bfa l
 | .i k,l=>Bfb k l
 | .s,l=>Bfc l
 | .sl c,l=>B5h c l
 | .st cs,l=>decs cs l
def decs:(cs:List TC)→List AV→Option (TCTs cs×List AV)
 | [],l=>some ((),l)
 | c::cs,l=>match dec c l with
  | some (x,l')=>match decs cs l' with
   | some (y,l'')=>some ((x,y),l'')
   | none=>none
  | none=>none
end
def Kr (c:TC):Nat→List AV→Option (List (TCT c))
 | 0,_=>some []
 | n+1,l=>match dec c l with
  | some (x,l')=>match Kr c n l' with
   | some xs=>some (x::xs)
   | none=>none
  | none=>none
def G8:(c:TC)→TCT c→AV
 | .b,x=>.bool x
 | .i k,n=>.int k n
 | .s,x=>.val (.string x)
 | .sl c,xs=>.ro c xs
 | .st cs,x=>.agg (encs cs x)
def E7:(cs:List TC)→TCTs cs→List AV
 | [],_=>[]
 | c::cs,(x,y)=>G8 c x::E7 cs y
def B5i (cs:List TC):AV→Option (TCTs cs)
 | .agg l=>match decs cs l with
  | some (x,[])=>some x
  | _=>none
 | _=>none
def Au2 (c:TC) (x:AV):Option (TCT c) :=
 match dec c [x] with
 | some (y,[])=>some y
 | _=>none
def Nr:(c:TC)→AV→Option (TCT c)
 | .b,x=>Au2 .b x
 | .i k,x=>Au2 (.i k) x
 | .s,x=>Au2 .s x
 | .sl c,x=>Au2 (.sl c) x
 | .st cs,x=>B5i cs x
def So:(cs:List TC)→List AV→Option (TCTs cs)
 | [],[]=>some ()
 | c::cs,x::l=>match Nr c x,So cs l with
  | some y,some z=>some (y,z)
  | _,_=>none
 | _,_=>none
def Sp:List AV→AV
 | [x]=>x
 | l=>.tup l
def Au3 (rs:List TC) (y:TCTs rs):AV:=Sp (E7 rs y)
def Bab (rs:List TC) (x:AV):Option (TCTs rs) :=
 match rs,x with
 | [c],x=>match Nr c x with
  | some y=>some (y,())
  | none=>none
 | rs,.tup l=>So rs l
 | _,_=>none
mutual
def Ed:(c:TC)→TCT c→TCT c→Bool
 | .b,x,y=>(show Bool from x)==y
 | .i _,x,y=>(show Int from x)==y
 | .s,x,y=>(show ByteArray from x).data.toList==(show ByteArray from y).data.toList
 | .sl _,_,_=>false
 | .st cs,x,y=>beqDs cs x y
def beqDs:(cs:List TC)→TCTs cs→TCTs cs→Bool
 | [],_,_=>true
 | c::cs,x,y=>Ed c x.1 y.1&&beqDs cs x.2 y.2
end
mutual
def I7:TC→Bool
 | .b=>true
 | .i _=>true
 | .s=>true
 | .sl _=>false
 | .st cs=>keyCs cs
def keyCs:List TC→Bool
 | []=>true
 | c::cs=>I7 c&&keyCs cs
end
section
variable (P:Program)
def tcs (tc:TypeId→Option TC):List Field→Option (List TC)
 | []=>some []
 | f::fs=>match tc f.type,tcs tc fs with
  | some c,some cs=>some (c::cs)
  | _,_=>none
def Gg:Nat→TypeId→Option TC
 | 0,_=>none
 | d+1,t=>match P.underlying t with
  | some .bool=>some .b
  | some (.int k)=>some (.i k)
  | some .string=>some .s
  | some (.slice e)=>(Gg d e).map .sl
  | some (.struct fs)=>(tcs (Gg d) fs.toList).map .st
  | some (.array n e)=>(Gg d e).map fun c=>.st (List.replicate n c)
  | _=>none
def Cn (t:TypeId):Option Nat:=(P.info? t).map (·.size)
def Up (t:TypeId):Option Int:=(P.info? t).map (fun i=>(i.bytes:Int))
def Mq (t:TypeId):Option Bool :=
 match P.underlying t with
 | some (.struct _) | some (.array _ _)=>some true
 | some _=>some false
 | none=>none
def M5 (t:TypeId):Option (List AV) :=
 match P.info? t with
 | some i=>match i.zero with
  | some z=>some (z.cells.toList.map Li)
  | none=>none
 | none=>none
def Zf (place:Nat→Option (Nat×Nat)):List AV→List (Nat×AV)→Option (List AV)
 | cs,[]=>some cs
 | cs,(i,x)::rest =>
  match place i,O5 x with
  | some (off,size),some vs=>bif Nat.beq (Bz vs) size&&Nat.ble (off+Bz vs) (Bz cs) then Zf place (Bc cs off vs) rest else none
  | _,_=>none
def placesA:List Field→Option (List (Nat×Nat))
 | []=>some []
 | f::fs=>match Cn P f.type,placesA fs with
  | some s,some r=>some ((f.offset,s)::r)
  | _,_=>none
def Jg (t:TypeId) (cs:List AV) (off:Nat):Option AV :=
 match Mq P t,Cn P t with
 | some true,some s=>bif Nat.ble (off+s) (Bz cs) then some (.agg (Je s (Jf off cs))) else none
 | some false,_=>nth cs off
 | _,_=>none
def Au4 (t:TypeId) (parts:List (Nat×AV)):Option AV :=
 match M5 P t,P.underlying t with
 | some z,some (.struct fs) =>
  match placesA P fs.toList with
  | some places=>(Zf (nth places) z parts).map .agg
  | none=>none
 | some z,some (.array _ e) =>
  match Cn P e with
  | some s=>(Zf (fun i=>some (i*s,s)) z parts).map .agg
  | none=>none
 | _,_=>none
def eqF (eq:TypeId→AV→AV→Option Bool):List Field→List AV→List AV→Option Bool
 | [],_,_=>some true
 | f::fs,xs,ys =>
  bif decide (f.name = "_") then none else
  match Jg P f.type xs f.offset,Jg P f.type ys f.offset with
  | some a,some b=>match eq f.type a b,eqF eq fs xs ys with
   | some p,some q=>some (p&&q)
   | _,_=>none
  | _,_=>none
def eqI (eq:TypeId→AV→AV→Option Bool) (e:TypeId) (c:Nat) (xs ys:List AV):List Nat→Option Bool
 | []=>some true
 | i::is=>match Jg P e xs (i*c),Jg P e ys (i*c) with
  | some a,some b=>match eq e a b,eqI eq e c xs ys is with
   | some p,some q=>some (p&&q)
   | _,_=>none
  | _,_=>none
def eqA:Nat→TypeId→AV→AV→Option Bool
 | 0,_,_,_=>none
 | d+1,t,x,y =>
  match P.underlying t,x,y with
  | some .bool,.bool a,.bool b=>some (a==b)
  | some (.int _),.int k a,.int k' b=>bif decide (k=k') then some (a==b) else none
  | some .string,.val (.string a),.val (.string b)=>some (a.data.toList==b.data.toList)
  | some (.struct fs),.agg xs,.agg ys=>bif P.stoodInHeld t then none else eqF P (eqA d) fs.toList xs ys
  | some (.array n e),.agg xs,.agg ys=>match P.info? e with
   | some i=>eqI P (eqA d) e i.size xs ys (List.range n)
   | none=>none
  | _,_,_=>none
def A37 (t:TypeId):TC→Bool
 | .st cs=>match Mq P t,Cn P t with
  | some true,some s=>Nat.beq s (sizes cs)
  | _,_=>false
 | _=>match Mq P t with
  | some false=>true
  | _=>false
def Zg (key:TypeId→TC→Bool):List Field→List TC→Nat→Bool
 | [],[],_=>true
 | f::fs,c::cs,off=>!(decide (f.name = "_"))&&(Nat.beq f.offset off&&(A37 P f.type c&&(key f.type c&&Zg key fs cs (off+c.size))))
 | _,_,_=>false
def Gh:Nat→TypeId→TC→Bool
 | 0,_,_=>false
 | d+1,t,c=>match P.underlying t,c with
  | some .bool,.b=>true
  | some (.int k),.i k'=>decide (k=k')
  | some .string,.s=>true
  | some (.struct fs),.st cs=>!(P.stoodInHeld t)&&Zg P (Gh d) fs.toList cs 0
  | some (.array n e),.st cs=>match P.info? e,cs with
   | some i,c::_=>Nat.beq i.size c.size&&(beqs cs (List.replicate n c)&&(A37 P e c&&Gh d e c))
   | _,_=>false
  | _,_=>false
def Ai7 (t:TypeId) (c:TC):Option (TCT c) :=
 match (P.info? t).bind (·.zero) with
 | some z=>Nr c (ofV z)
 | none=>none
def elC (t:TypeId):Option TC:=match P.underlying t with
 | some (.array _ e)=>Gg P 8 e
 | _=>none
def Bfd (t:TypeId) (st:Nat):Option TC:=match Gg P 8 t with
 | some c=>bif Nat.beq st c.size then some c else elC P t
 | none=>elC P t
def ro1 (hp:Ao):AV→AV
 | .own id=>match hp id with
  | some (.arr A)=>.ro A.c A.xs
  | _=>.own id
 | .sl id off st len cap=>match hp id with
  | some (.blk b)=>match Bfd P b.ty st with
   | some c=>bif Nat.beq st c.size&&Nat.ble (off+len*st) (Bz b.cs) then match Kr c len (Je (len*st) (Jf off b.cs)) with
     | some xs=>.ro c xs
     | none=>.sl id off st len cap
    else .sl id off st len cap
   | none=>.sl id off st len cap
  | _=>.sl id off st len cap
 | x=>x
def Zh (hp:Ao):AV→AV
 | .agg cs=>.agg (cs.map (ro1 P hp))
 | x=>ro1 P hp x
def A1z:AV→List Nat
 | .own id=>[id]
 | .sl id _ _ _ _=>[id]
 | _=>[]
def O6:AV→List Nat
 | .agg cs=>cs.flatMap A1z
 | x=>A1z x
def Q6 (hp:Ao):List Nat→Ao
 | []=>hp
 | id::l=>Q6 (upd hp id none) l
def frz:List Nat:=[135,24]
def Bfe (f:Nat):Bool:=frz.any (Nat.beq f)
def Bj9:AV→List Nat
 | .own id=>[id]
 | _=>[]
def A38:AV→List Nat
 | .own id=>[id]
 | .agg cs=>cs.flatMap Bj9
 | _=>[]
def fz1 (hp:Ao) (ids:List Nat):AV→AV
 | .own id=>match hp id with
  | some (.arr A)=>bif ids.any (Nat.beq id) then .ro A.c A.xs else .own id
  | _=>.own id
 | x=>x
def fzA (hp:Ao) (ids:List Nat):AV→AV
 | .agg cs=>.agg (cs.map (fz1 hp ids))
 | x=>fz1 hp ids x
def Bff (hp:Ao) (ids:List Nat):Ob→Ob
 | .blk b=>.blk ⟨b.ty,b.cs.map (fz1 hp ids)⟩
 | o=>o
def fzH (hp:Ao) (ids:List Nat):Ao:=fun i=>(Q6 hp ids i).map (Bff hp ids)
def Bja:List Nat:=[135,24]
def Bfg (hp:Ao):AV→List Nat
 | .own id=>match hp id with
  | some (.arr A)=>match A.c with
   | .i _=>[id]
   | _=>[]
  | _=>[]
 | _=>[]
def Aeb (f:Nat) (s:St) (args:List AV):List Nat:=bif Bja.any (Nat.beq f) then args.flatMap A38++(List.range s.n).flatMap (fun t=>Bfg s.hp (s.tm t)) else args.flatMap A38
inductive Eff where
 | val (x:AV)
 | load (id row st col n:Nat) (agg:Bool)
 | store (id row st col:Nat) (vs:List AV)
 | alloc (b:Blk) (mk:Nat→AV)
 | list (ty:TypeId) (c:TC) (xs:List (TCT c))
 | listz (ty:TypeId) (c:TC) (xs:List (TCT c))
 | app (ty:TypeId) (bytes st:Nat) (c:Option TC) (dst src:AV)
 | idx (id st:Nat) (n:Int)
 | len (id:Nat)
 | call (f:FuncId) (args:List AV)
 | round (id:Nat) (args:List AV)
 | dfr (d:DfA)
 | panic (x:AV)
 | mapNew (kc vc:TC)
 | mapGet (id:Nat) (kc vc:TC) (z:TCT vc) (k:TCT kc) (ok:Bool)
 | mapSet (id:Nat) (kc vc:TC) (k:TCT kc) (x:TCT vc)
 | mapDel (id:Nat) (kc:TC) (k:TCT kc)
 | mapClr (id:Nat)
 | mapEnt (id:Nat) (kc vc:TC) (z:TCT vc) (k:TCT kc)
 | entSet (id st:Nat) (vc:TC) (x:TCT vc)
 | iter (t:ByteArray)
 | nxt (id:Nat)
 | trunc (id st:Nat) (n:Int)
 | test (c:Bool) (a:Eff)
 | alt (c:Bool) (a b:Eff)
 | bad
def Alb (f:Nat→Eff) (n:Int):Nat→Nat→Eff
 | _,0=>.bad
 | k,m+1=>.alt (decide (n=(k:Int))) (f k) (Alb f n (k+1) m)
def Zi (len:Nat) (n:Int) (f:Nat→Eff):Eff:=bif Nat.ble len 8 then Alb f n 0 len else .test (decide (0≤n∧n<(len:Int))) (f n.toNat)
def Q7:Option AV→Eff
 | some x=>.val x
 | none=>.bad
def Aec (op:BinOp) (k:IntKind) (x y:Int):Eff :=
 match op with
 | .add=>.val (.int k (k.wrap (x+y)))
 | .sub=>.val (.int k (k.wrap (x-y)))
 | .mul=>.val (.int k (k.wrap (x*y)))
 | .quo=>.test (y != 0) (.val (.int k (k.wrap (x.tdiv y))))
 | .rem=>.test (y != 0) (.val (.int k (x.tmod y)))
 | .and=>.val (.int k (k.wrap (BitVec.ofInt k.bits x &&& BitVec.ofInt k.bits y).toNat))
 | .or=>.val (.int k (k.wrap (BitVec.ofInt k.bits x ||| BitVec.ofInt k.bits y).toNat))
 | .xor=>.val (.int k (k.wrap (BitVec.ofInt k.bits x ^^^ BitVec.ofInt k.bits y).toNat))
 | .andNot=>.val (.int k (k.wrap (BitVec.ofInt k.bits x &&& ~~~ BitVec.ofInt k.bits y).toNat))
 | .eql=>.val (.bool (x==y))
 | .neq=>.val (.bool (x != y))
 | .lss=>.val (.bool (decide (x<y)))
 | .leq=>.val (.bool (decide (x≤y)))
 | .gtr=>.val (.bool (decide (x>y)))
 | .geq=>.val (.bool (decide (x≥y)))
 | _=>.bad
def Zj (op:BinOp) (k:IntKind) (x y:Int):Eff :=
 match op with
 | .shl=>.test (decide (0≤y)) (.val (.int k (k.wrap (x*2 ^ (min y.toNat k.bits)))))
 | .shr=>.test (decide (0≤y)) (.val (.int k (x.fdiv (2 ^ (min y.toNat k.bits)))))
 | _=>.bad
def B25:Option Bool→Eff
 | some b=>.val (.bool (!b))
 | none=>.bad
def B26:Option Bool→Eff
 | some b=>.val (.bool b)
 | none=>.bad
def Bac (op:BinOp) (t:TypeId) (x y:AV):Eff :=
 match op,x,y with
 | .shl,.int k a,.int _ b=>Zj .shl k a b
 | .shr,.int k a,.int _ b=>Zj .shr k a b
 | op,.int k a,.int k' b=>bif decide (k=k') then Aec op k a b else .bad
 | .eql,.bool a,.bool b=>bif (match P.underlying t with | some .bool=>true | _=>false) then .val (.bool (a==b)) else .bad
 | .neq,.bool a,.bool b=>bif (match P.underlying t with | some .bool=>true | _=>false) then .val (.bool (!(a==b))) else .bad
 | .eql,.agg xs,.agg ys=>bif P.eqGuardType P.depth t then .bad else B26 (eqA P Op.maxDepth t (.agg xs) (.agg ys))
 | .neq,.agg xs,.agg ys=>bif P.eqGuardType P.depth t then .bad else B25 (eqA P Op.maxDepth t (.agg xs) (.agg ys))
 | .eql,.sl _ _ _ _ _,.val (.slice none 0 0)=>bif (match P.underlying t with | some (.slice _)=>true | _=>false) then .val (.bool false) else .bad
 | .eql,.val (.string a),.val (.string b)=>.val (.bool (a.data.toList==b.data.toList))
 | .neq,.val (.string a),.val (.string b)=>.val (.bool (!(a.data.toList==b.data.toList)))
 | .eql,.ifc _ _,.val .nilIface=>bif (match P.underlying t with | some (.interface _)=>true | _=>false) then .val (.bool false) else .bad
 | .neq,.ifc _ _,.val .nilIface=>bif (match P.underlying t with | some (.interface _)=>true | _=>false) then .val (.bool true) else .bad
 | .eql,.val .nilIface,.val .nilIface=>bif (match P.underlying t with | some (.interface ms)=>ms.isEmpty | _=>false) then .val (.bool true) else .bad
 | .neq,.val .nilIface,.val .nilIface=>bif (match P.underlying t with | some (.interface ms)=>ms.isEmpty | _=>false) then .val (.bool false) else .bad
 | .eql,.val (.slice none 0 0),.val (.slice none 0 0)=>bif (match P.underlying t with | some (.slice _)=>true | _=>false) then .val (.bool true) else .bad
 | .eql,.ro _ xs,.val (.slice none 0 0)=>bif (match P.underlying t with | some (.slice _)=>true | _=>false) then .test (!xs.isEmpty) (.val (.bool false)) else .bad
 | _,_,_=>.bad
def unA (op:UnOp) (x:AV):Eff :=
 match op,x with
 | .neg,.int k n=>.val (.int k (k.wrap (0-n)))
 | .not,.bool b=>.val (.bool (!b))
 | _,_=>.bad
def B5j (src dst:TypeId) (x:AV):Eff :=
 match P.underlying src,P.underlying dst,x with
 | some (.int _),some (.int k),.int _ n=>.val (.int k (k.wrap n))
 | _,_,_=>.bad
def Au5 (k:IntKind) (x:Int):List AV→Option AV
 | []=>some (.int k x)
 | .int k' y::l=>bif decide (k=k') then Au5 k (max x y) l else none
 | _=>none
def Au6 (k:IntKind) (x:Int):List AV→Option AV
 | []=>some (.int k x)
 | .int k' y::l=>bif decide (k=k') then Au6 k (min x y) l else none
 | _=>none
def F9:Option TypeId→Bool
 | some t=>match P.underlying t with | some (.slice _)=>true | _=>false
 | none=>false
def M6:Option TypeId→Bool
 | some t=>match P.underlying t with | some .string=>true | _=>false
 | none=>false
def Zk (z:List AV) (s n:Nat):List AV:=(List.range n).map fun j=>match nth z (j % s) with | some x=>x | none=>.top
def Bad (t u:TypeId) (x y:AV):Eff :=
 match x,y,P.underlying t,P.underlying u with
 | .val (.slice none 0 0),.int _ n,some (.slice e),some (.int _)=>match Cn P e,M5 P e,Up P e with
  | some s,some z,some by'=>bif Nat.ble 1 s&&Nat.beq (Bz z) s then .test (decide (1≤n∧n≤65536∧n*by'≤281474976710656)) (match Gg P 8 e with
    | some d=>match dec d z with
     | some (x,[])=>bif Nat.beq d.size s then .listz e d (List.replicate n.toNat x) else .bad
     | _=>.bad
    | none=>.bad) else .bad
  | _,_,_=>.bad
 | _,_,_,_=>.bad
def A9q (ts:Array TypeId) (b:Builtin) (args:List AV):Eff :=
 match b,args with
 | .len,[.sl _ _ _ n _]=>bif F9 P ts[0]? then .val (.int .i64 n) else .bad
 | .len,[.ro _ xs]=>bif F9 P ts[0]? then .val (.int .i64 xs.length) else .bad
 | .len,[.own id]=>bif F9 P ts[0]? then .len id else .bad
 | .len,[.val (.slice none 0 0)]=>bif F9 P ts[0]? then .val (.int .i64 0) else .bad
 | .len,[.val (.string t)]=>bif M6 P ts[0]? then .test (I6 .i64 t.size) (.val (.int .i64 t.size)) else .bad
 | .cap,[.val (.slice none 0 0)]=>bif F9 P ts[0]? then .val (.int .i64 0) else .bad
 | .append,[x,y]=>match ts[0]?,ts[1]? with
  | some t,some u=>bif Nat.beq t u then match P.underlying t with
    | some (.slice e)=>match Cn P e,Up P e,M5 P e with
     | some s,some by',some z=>bif Nat.ble 1 s&&(decide (1≤by')&&Nat.beq (Bz z) s) then .app e by'.toNat s (Gg P 8 e) x y else .bad
     | _,_,_=>.bad
    | _=>.bad
   else Bad P t u x y
  | _,_=>.bad
 | .delete,[.mp id,k]=>match ts[0]?.bind P.underlying with
  | some (.map kt _)=>match Gg P 8 kt with
   | some kc=>bif Gh P 8 kt kc then match Nr kc k with
     | some k=>.mapDel id kc k
     | none=>.bad
    else .bad
   | none=>.bad
  | _=>.bad
 | .clear,[.mp id]=>match ts[0]?.bind P.underlying with
  | some (.map _ _)=>.mapClr id
  | _=>.bad
 | .max,.int k x::l=>Q7 (Au5 k x l)
 | .min,.int k x::l=>Q7 (Au6 k x l)
 | _,_=>.bad
def eff (o:Op) (ρ:Operand→AV):Eff :=
 match o with
 | .move x | .assign x=>.val (ρ x)
 | .pick c a b=>match ρ c with
  | .bool c=>bif c then .val (ρ a) else .val (ρ b)
  | _=>.bad
 | .alloc t=>match M5 P t with
  | some z=>.alloc ⟨t,z⟩ (fun id=>.ptr id 0 0 0)
  | none=>.bad
 | .box t x=>match O5 (ρ x) with
  | some cs=>.alloc ⟨t,cs⟩ (fun id=>.ptr id 0 0 0)
  | none=>.bad
 | .build t parts=>Q7 (Au4 P t (parts.toList.map fun p=>(p.1,ρ p.2)))
 | .load t a=>match ρ a,Mq P t,Cn P t with
  | .ptr id row st col,some true,some s=>.load id row st col s true
  | .ptr id row st col,some false,_=>.load id row st col 1 false
  | .rop c x col,some true,some s=>bif Nat.ble (col+s) c.size then .val (.agg (Je s (Jf col (enc c x)))) else .bad
  | .rop c x col,some false,_=>Q7 (nth (enc c x) col)
  | _,_,_=>.bad
 | .store t a x=>match ρ a,O5 (ρ x),Cn P t with
  | .ptr id row st col,some cs,some s=>bif Nat.beq (Bz cs) s&&cs.all one then .store id row st col cs else .bad
  | _,_,_=>.bad
 | .binOp op t x y _=>Bac P op t (ρ x) (ρ y)
 | .unOp op _ x=>unA op (ρ x)
 | .convert src dst x=>B5j P src dst (ρ x)
 | .nilCheck x=>match ρ x with
  | .ptr id row st col=>.val (.ptr id row st col)
  | .rop c x col=>.val (.rop c x col)
  | .fn (.func f) a c=>.val (.fn (.func f) a c)
  | .yld id=>.val (.yld id)
  | _=>.bad
 | .makeFunc fn first captured=>.val (.fn fn (first.toList.map ρ) (captured.toList.map ρ))
 | .makeInterface t x=>match P.underlying t with
  | some (.interface _)=>.bad
  | some _=>.val (.ifc t (ρ x))
  | none=>.bad
 | .fieldAddr t x i=>match ρ x,P.underlying t with
  | .ptr id row st col,some (.struct fs)=>match nth fs.toList i with
   | some f=>match Cn P f.type with
    | some s=>bif Nat.beq s 0 then .bad else .val (.ptr id row st (col+f.offset))
    | none=>.bad
   | none=>.bad
  | .rop c x col,some (.struct fs)=>match nth fs.toList i with
   | some f=>match Cn P f.type with
    | some s=>bif Nat.beq s 0 then .bad else .val (.rop c x (col+f.offset))
    | none=>.bad
   | none=>.bad
  | _,_=>.bad
 | .field t x i=>match ρ x,P.underlying t with
  | .agg cs,some (.struct fs)=>match nth fs.toList i with
   | some f=>Q7 (Jg P f.type cs f.offset)
   | none=>.bad
  | _,_=>.bad
 | .indexAddr t x i=>match ρ x,ρ i,P.underlying t with
  | .ptr id row st col,.int _ n,some (.array len e)=>match Cn P e with
   | some s=>Zi len n fun j=>.val (.ptr id row st (col+j*s))
   | none=>.bad
  | .rop c x col,.int _ n,some (.array len e)=>match Cn P e with
   | some s=>Zi len n fun j=>.val (.rop c x (col+j*s))
   | none=>.bad
  | .sl id off st len _,.int _ n,some (.slice e)=>match Cn P e with
   | some s=>bif Nat.beq st s then .test (decide (0≤n∧n<len)) (.val (.ptr id n.toNat st off)) else .bad
   | none=>.bad
  | .ro c xs,.int _ n,some (.slice e)=>match Cn P e with
   | some s=>bif Nat.beq c.size s&&Nat.ble 1 s then .test (decide (0≤n∧n<xs.length)) (.val (.rop c (As xs n.toNat (Aq c)) 0)) else .bad
   | none=>.bad
  | .own id,.int _ n,some (.slice e)=>match Cn P e with
   | some s=>.idx id s n
   | none=>.bad
  | _,_,_=>.bad
 | .index t x i=>match ρ x,ρ i,P.underlying t with
  | .val (.string s),.int _ n,some .string=>.test (decide (0≤n∧n<s.size)) (.val (.int .u8 ((s.data.toList.getD n.toNat 0).toNat)))
  | .agg cs,.int _ n,some (.array len e)=>match Cn P e with
   | some s=>Zi len n fun j=>Q7 (Jg P e cs (j*s))
   | none=>.bad
  | _,_,_=>.bad
 | .extract x i=>match ρ x with
  | .tup vs=>Q7 (nth vs i)
  | _=>.bad
 | .call c=>match c.callee with
  | .value f=>match ρ f with
   | .fn (.func f) first captured=>.call f (first++c.args.toList.map ρ++captured)
   | .yld id=>.round id (c.args.toList.map ρ)
   | _=>.bad
  | .builtin b=>A9q P c.argTypes b (c.args.toList.map ρ)
  | _=>.bad
 | .defer c=>match c.callee with
  | .value f=>match ρ f with
   | .fn (.func f) first captured=>.dfr (.call f (first++c.args.toList.map ρ) captured)
   | _=>.bad
  | _=>.bad
 | .panic x=>match ρ x with
  | .ifc t y=>.panic (.ifc t y)
  | _=>.bad
 | .makeSlice t l c=>match ρ l,ρ c,P.underlying t with
  | .int _ l,.int _ c,some (.slice e)=>match Cn P e,M5 P e,Up P e with
   | some s,some z,some by' =>
    bif Nat.ble 1 s&&Nat.beq (Bz z) s then .test (decide (0≤l∧l≤c∧c≤65536∧by'*c≤281474976710656)) (
     match Gg P 8 e with
     | some d=>match dec d z with
      | some (x,[])=>bif Nat.beq d.size s then .list e d (List.replicate l.toNat x) else .bad
      | _=>.bad
     | none=>.alloc ⟨e,Zk z s (c.toNat*s)⟩ (fun id=>.sl id 0 s l.toNat c.toNat)) else .bad
   | _,_,_=>.bad
  | _,_,_=>.bad
 | .buildSlice t len parts=>match P.underlying t with
  | some (.slice e)=>match Cn P e,M5 P e with
   | some s,some z =>
    bif Nat.ble (len*s) 4096&&(Nat.ble 1 s&&Nat.beq (Bz z) s) then
     match Zf (fun i=>some (i*s,s)) (Zk z s (len*s)) (parts.toList.map fun p=>(p.1,ρ p.2)) with
     | some cs=>match (Gg P 8 e).bind fun d=>bif Nat.beq d.size s then (Kr d len cs).map fun xs=>Eff.list e d xs else none with
      | some x=>x
      | none=>.alloc ⟨e,cs⟩ (fun id=>.sl id 0 s len len)
     | none=>.bad
    else .bad
   | _,_=>.bad
  | _=>.bad
 | .slice t x lo hi mx=>match ρ x,P.underlying t,mx with
  | .ro c xs,some (.slice e),none=>match Cn P e,lo.map ρ,hi.map ρ with
   | some s,none,some (.int _ h)=>bif Nat.beq c.size s then .test (decide (0≤h∧h≤xs.length)) (.val (.ro c (xs.take h.toNat))) else .bad
   | some s,some (.int _ l),none=>bif Nat.beq c.size s then .test (decide (0≤l∧l≤xs.length)) (.val (.ro c (xs.drop l.toNat))) else .bad
   | some s,some (.int _ l),some (.int _ h)=>bif Nat.beq c.size s then .test (decide (0≤l∧l≤h∧h≤xs.length)) (.val (.ro c ((xs.take h.toNat).drop l.toNat))) else .bad
   | _,_,_=>.bad
  | .ptr id 0 _ col,some (.array n e),none=>match lo,hi.map ρ,Cn P e with
   | none,none,some s=>bif Nat.ble 1 n&&Nat.ble n 65536 then .val (.sl id col s n n) else .bad
   | none,some (.int _ h),some s=>bif Nat.ble 1 n&&Nat.ble n 8 then Alb (fun j=>.val (.sl id col s j n)) h 0 (n+1) else .bad
   | _,_,_=>.bad
  | .own id,some (.slice e),none=>match Cn P e,lo,hi.map ρ with
   | some s,none,some (.int _ h)=>.trunc id s h
   | _,_,_=>.bad
  | .val (.slice none 0 0),some (.slice e),none=>match Cn P e,lo,hi.map ρ with
   | some _,none,some (.int _ h)=>.test (decide (h=0)) (.val (.val (.slice none 0 0)))
   | _,_,_=>.bad
  | _,_,_=>.bad
 | .range t x=>match ρ x,P.underlying t with
  | .val (.string u),some .string=>.iter u
  | _,_=>.bad
 | .next x true=>match ρ x with
  | .ptr id 0 0 0=>.nxt id
  | _=>.bad
 | .makeMap t none=>match P.underlying t with
  | some (.map kt vt)=>match Gg P 8 kt,Gg P 8 vt with
   | some kc,some vc=>.mapNew kc vc
   | _,_=>.bad
  | _=>.bad
 | .lookup t m k ok=>match ρ m,P.underlying t with
  | .mp id,some (.map kt vt)=>match Gg P 8 kt,Gg P 8 vt with
   | some kc,some vc=>bif Gh P 8 kt kc then match Ai7 P vt vc,Nr kc (ρ k) with
     | some z,some k=>.mapGet id kc vc z k ok
     | _,_=>.bad
    else .bad
   | _,_=>.bad
  | _,_=>.bad
 | .mapEntry t m k=>match ρ m,P.underlying t with
  | .mp id,some (.map kt vt)=>match Gg P 8 kt,Gg P 8 vt with
   | some kc,some vc=>bif Gh P 8 kt kc then match Ai7 P vt vc,Nr kc (ρ k) with
     | some z,some k=>.mapEnt id kc vc z k
     | _,_=>.bad
    else .bad
   | _,_=>.bad
  | _,_=>.bad
 | .entryStore t m st x=>match ρ m,ρ st,P.underlying t with
  | .mp id,.stp st,some (.map _ vt)=>match Gg P 8 vt with
   | some vc=>match Nr vc (ρ x) with
    | some x=>.entSet id st vc x
    | none=>.bad
   | none=>.bad
  | _,_,_=>.bad
 | .mapUpdate t m k x=>match ρ m,P.underlying t with
  | .mp id,some (.map kt vt)=>match Gg P 8 kt,Gg P 8 vt with
   | some kc,some vc=>bif Gh P 8 kt kc then match Nr kc (ρ k),Nr vc (ρ x) with
     | some k,some x=>.mapSet id kc vc k x
     | _,_=>.bad
    else .bad
   | _,_=>.bad
  | _,_=>.bad
 | .typeAssert x _ t true=>match ρ x,P.underlying t with
  | .ifc u y,some d=>match d with
   | .interface _=>.bad
   | _=>bif Nat.beq u t then .val (.tup [y,.bool true]) else .bad
  | .val .nilIface,some d=>match d with
   | .interface _=>.bad
   | _=>match (P.info? t).bind (·.zero) with
    | some (.int k n)=>bif I6 k n then .val (.tup [.int k n,.bool false]) else .bad
    | _=>.bad
  | _,_=>.bad
 | _=>.bad
end
inductive Callee' where
 | fn (f:FuncId)
 | yld (id:Nat)
abbrev Jh (α:Type):=Callee'→List AV→Ao→Nat→(Out→Ao→Nat→Tree α)→Tree α
section
variable {α:Type} (P:Program) (cT:Jh α)
def A5o (hp:Ao) (c:TC) (st:Nat):AV→Option (List (TCT c))
 | .ro d xs=>Dq d c xs
 | .own id=>match hp id with
  | some (.arr A)=>Dq A.c c A.xs
  | _=>none
 | .sl id off st' len _=>match hp id with
  | some (.blk b)=>bif Nat.beq st st'&&Nat.ble (off+len*st) (Bz b.cs) then Kr c len (Je (len*st) (Jf off b.cs)) else none
  | _=>none
 | .val (.slice none 0 0)=>some []
 | _=>none
def Ai8 (hp:Ao) (ty:TypeId) (c:TC):AV→Option (List (TCT c)×Option Nat)
 | .own id=>match hp id with
  | some (.arr A)=>bif Nat.beq A.ty ty then (Dq A.c c A.xs).map fun xs=>(xs,some id) else none
  | _=>none
 | .val (.slice none 0 0)=>some ([],none)
 | _=>none
def Uq (hp:Ao):Option Nat→Ao
 | some d=>upd hp d none
 | none=>hp
def Df {β:Type} (xs ys:List β) (bytes:Nat):Bool :=
 match xs with
 | []=>decide ((ys.length:Int)*bytes≤140737488355328)
 | x::xs=>decide ((((x::xs).length+ys.length:Nat):Int)*bytes≤140737488355328)
theorem G2 {β:Type} (xs ys:List β) (bytes:Nat):Df xs ys bytes=decide (((xs.length+ys.length:Nat):Int)*bytes≤140737488355328):=by
 cases xs with
 | nil=>simp [Df]
 | cons x xs=>rfl
def Au7 (o:Option Nat) (s:St) (K:XE→St→Tree α) (ty:TypeId) (bytes st:Nat) (c:Option TC) (dst src:AV):Tree α :=
 match c with
 | some c=>bif Nat.beq c.size st then
   match Ai8 s.hp ty c dst,A5o s.hp c st src with
   | some (xs,id),some ys =>
    bif Df xs ys bytes then
     K .normal ({ s with hp:=upd (Uq s.hp id) s.nx (some (.arr ⟨ty,c,xs++ys⟩)),nx:=s.nx+1 }.put o (.own s.nx))
    else .fail
   | _,_=>.fail
  else .fail
 | none=>.fail
def E1 (o:Option Nat) (s:St) (K:XE→St→Tree α):Eff→Tree α
 | .val x=>K .normal (s.put o x)
 | .load id row st col n agg=>match s.hp id with
  | some (.blk b)=>bif Nat.ble (row*st+col+n) (Bz b.cs) then
    (bif agg then K .normal (s.put o (.agg (Je n (Jf (row*st+col) b.cs)))) else match nth b.cs (row*st+col) with
     | some x=>K .normal (s.put o x)
     | none=>.fail)
   else .fail
  | some (.arr A)=>bif Nat.beq A.c.size st&&Nat.ble (col+n) st then bif decide (row<A.xs.length) then
    (bif agg then K .normal (s.put o (.agg (Je n (Jf col (enc A.c (As A.xs row (Aq A.c))))))) else match nth (enc A.c (As A.xs row (Aq A.c))) col with
     | some x=>K .normal (s.put o x)
     | none=>.fail)
   else .fail else .fail
  | _=>.fail
 | .store id row st col vs=>match s.hp id with
  | some (.blk b)=>bif Nat.ble (row*st+col+Bz vs) (Bz b.cs) then K .normal ({ s with hp:=upd s.hp id (some (.blk ⟨b.ty,Bc b.cs (row*st+col) vs⟩)) }.put o (.val undef)) else .fail
  | some (.arr A)=>bif Nat.beq A.c.size st&&Nat.ble (col+Bz vs) st then bif decide (row<A.xs.length) then
    match dec A.c (Bc (enc A.c (As A.xs row (Aq A.c))) col vs) with
    | some (x,[])=>K .normal ({ s with hp:=upd s.hp id (some (.arr ⟨A.ty,A.c,Bf A.xs row x⟩)) }.put o (.val undef))
    | _=>.fail
   else .fail else .fail
  | _=>.fail
 | .alloc b mk=>K .normal ({ s with hp:=upd s.hp s.nx (some (.blk b)),nx:=s.nx+1 }.put o (mk s.nx))
 | .list ty c xs=>K .normal ({ s with hp:=upd s.hp s.nx (some (.arr ⟨ty,c,xs⟩)),nx:=s.nx+1 }.put o (.own s.nx))
 | .listz ty c xs=>K .normal ({ s with hp:=upd s.hp s.nx (some (.arr ⟨ty,c,xs⟩)),nx:=s.nx+1 }.put o (.own s.nx))
 | .app ty bytes st c dst src=>Au7 o s K ty bytes st c dst src
 | .idx id st n=>match s.hp id with
  | some (.arr A)=>bif Nat.beq A.c.size st then bif decide (0≤n∧n<A.xs.length) then K .normal (s.put o (.ptr id n.toNat st 0)) else .fail else .fail
  | _=>.fail
 | .len id=>match s.hp id with
  | some (.arr A)=>K .normal (s.put o (.int .i64 A.xs.length))
  | _=>.fail
 | .call f args=>bif Bfe f then cT (.fn f) (args.map (fzA s.hp (Aeb f s args))) (fzH s.hp (Aeb f s args)) s.nx fun v hp nx=>match v with
  | .ret v=>K .normal ({ s with tm:=fun t=>fzA s.hp (Aeb f s args) (s.tm t),hp:=hp,nx:=nx }.put o v)
  | .pan v=>K (.panic v) { s with tm:=fun t=>fzA s.hp (Aeb f s args) (s.tm t),hp:=hp,nx:=nx }
  else cT (.fn f) args s.hp s.nx fun v hp nx=>match v with
  | .ret v=>K .normal ({ s with hp:=hp,nx:=nx }.put o v)
  | .pan v=>K (.panic v) { s with hp:=hp,nx:=nx }
 | .round id args=>cT (.yld id) args s.hp s.nx fun v hp nx=>match v with
  | .ret v=>K .normal ({ s with hp:=hp,nx:=nx }.put o v)
  | .pan v=>K (.panic v) { s with hp:=hp,nx:=nx }
 | .dfr d=>bif s.rd then .fail else K .normal ({ s with df:=d::s.df }.put o (.val undef))
 | .panic x=>K (.panic x) s
 | .test c a=>bif c then E1 o s K a else .fail
 | .alt c a b=>bif c then E1 o s K a else E1 o s K b
 | .iter t=>K .normal ({ s with hp:=upd s.hp s.nx (some (.it t 0)),nx:=s.nx+1 }.put o (.ptr s.nx 0 0 0))
 | .nxt id=>match s.hp id with
  | some (.it t pos)=>bif Nat.ble (pos+1) t.size then
    bif I6 .i64 pos&&I6 .i32 (Utf8.decode t pos).1 then
     K .normal ({ s with hp:=upd s.hp id (some (.it t (pos+(Utf8.decode t pos).2))) }.put o (.tup [.bool true,.int .i64 pos,.int .i32 (Utf8.decode t pos).1]))
    else .fail
   else K .normal (s.put o (.tup [.bool false]))
  | _=>.fail
 | .trunc id st n=>match s.hp id with
  | some (.arr A)=>bif Nat.beq A.c.size st&&decide (0≤n∧n≤A.xs.length) then
    K .normal ({ s with hp:=upd (upd s.hp id none) s.nx (some (.arr ⟨A.ty,A.c,A.xs.take n.toNat⟩)),nx:=s.nx+1 }.put o (.own s.nx))
   else .fail
  | _=>.fail
 | .mapNew kc vc=>K .normal ({ s with hp:=upd s.hp s.nx (some (.mp ⟨kc,vc,fun _=>none,[]⟩)),nx:=s.nx+1 }.put o (.mp s.nx))
 | .mapGet id kc vc z k ok=>match s.hp id with
  | some (.mp M)=>match Dq kc M.kc [k],Dq vc M.vc [z] with
   | some [k],some [z]=>bif ok then K .normal (s.put o (.tup [G8 M.vc ((M.get k).getD z),.bool (M.get k).isSome])) else K .normal (s.put o (G8 M.vc ((M.get k).getD z)))
   | _,_=>.fail
  | _=>.fail
 | .mapSet id kc vc k x=>match s.hp id with
  | some (.mp M)=>match Dq kc M.kc [k],Dq vc M.vc [x] with
   | some [k],some [x]=>K .normal ({ s with hp:=upd s.hp id (some (.mp ⟨M.kc,M.vc,fun j=>bif Ed M.kc j k then some x else M.get j,M.ents⟩)) }.put o (.val undef))
   | _,_=>.fail
  | _=>.fail
 | .mapDel id kc k=>match s.hp id with
  | some (.mp M)=>match Dq kc M.kc [k] with
   | some [k]=>K .normal ({ s with hp:=upd s.hp id (some (.mp ⟨M.kc,M.vc,fun j=>bif Ed M.kc j k then none else M.get j,[]⟩)) }.put o (.val (.tuple #[])))
   | _=>.fail
  | _=>.fail
 | .mapClr id=>match s.hp id with
  | some (.mp M)=>K .normal ({ s with hp:=upd s.hp id (some (.mp ⟨M.kc,M.vc,fun _=>none,[]⟩)) }.put o (.val (.tuple #[])))
  | _=>.fail
 | .mapEnt id kc vc z k=>match s.hp id with
  | some (.mp M)=>match Dq kc M.kc [k],Dq vc M.vc [z] with
   | some [k],some [z]=>K .normal ({ s with hp:=upd s.hp id (some (.mp ⟨M.kc,M.vc,fun j=>bif Ed M.kc j k then some ((M.get k).getD z) else M.get j,(s.nx,k)::M.ents⟩)),nx:=s.nx+1 }.put o (.tup [G8 M.vc ((M.get k).getD z),.stp s.nx]))
   | _,_=>.fail
  | _=>.fail
 | .entSet id st vc x=>match s.hp id with
  | some (.mp M)=>match Gf M.ents st,Dq vc M.vc [x] with
   | some k,some [x]=>bif I7 M.kc then K .normal ({ s with hp:=upd s.hp id (some (.mp ⟨M.kc,M.vc,fun j=>bif Ed M.kc j k then some x else M.get j,M.ents⟩)) }.put o (.val undef)) else .fail
   | _,_=>.fail
  | _=>.fail
 | _=>.fail
def Fx (ops:Array Oper):List Nat→St→(XE→St→Tree α)→Tree α
 | [],s,K=>K .normal s
 | i::rest,s,K =>
  match ops[i]? with
  | none=>Fx ops rest s K
  | some o =>
   bif Nat.ble s.n ((o.dst).getD 0) then .fail else
   match o.guard with
   | none=>E1 cT o.dst s (fun e s'=>match e with | .normal=>Fx ops rest s' K | e=>K e s') (eff P o.op s.eval)
   | some (j,want) =>
    match (ops[j]?).bind (·.dst) with
    | none=>.fail
    | some d =>
     bif Nat.ble s.n d then .fail else
     match s.tm d with
     | .bool b =>
      bif b then (bif want then E1 cT o.dst (s.put (some d) (.bool true)) (fun e s'=>match e with | .normal=>Fx ops rest s' K | e=>K e s') (eff P o.op (s.put (some d) (.bool true)).eval)
        else Fx ops rest ((s.put (some d) (.bool true)).put o.dst (.val undef)) K)
      else (bif want then Fx ops rest ((s.put (some d) (.bool false)).put o.dst (.val undef)) K
        else E1 cT o.dst (s.put (some d) (.bool false)) (fun e s'=>match e with | .normal=>Fx ops rest s' K | e=>K e s') (eff P o.op (s.put (some d) (.bool false)).eval))
     | .val (.tuple _)=>Fx ops rest (s.put o.dst (.val undef)) K
     | _=>.fail
inductive Vw where
 | one (v:Option (TC×Nat))
 | cl (vs:List (Option (TC×Nat)))
structure PureT where
 run:List AV→Option (Bool×AV)
 flat:Bool
 vw:List Vw:=[]
 pv:Option (TypeId×IntKind×Int):=none
 fr:Bool:=false
def Bj (cs rs:List TC) (ok:TCTs cs→Bool) (f:TCTs cs→TCTs rs):PureT :=
 {
  run:=fun l=>match So cs l with
   | some x=>some (ok x,Au3 rs (f x))
   | none=>none
  flat:=noSls rs }
def A9r (P:Program) (hp:Ao) (v:Option (TC×Nat)) (x:AV):AV :=
 match v,x with
 | some (c,o),.ptr id row st col=>match hp id with
  | some (.blk b)=>bif Nat.ble o (row*st+col)&&Nat.ble (row*st+col-o+c.size) (Bz b.cs) then match dec c ((Je c.size (Jf (row*st+col-o) b.cs)).map (ro1 P hp)) with
    | some (y,[])=>.rop c y o
    | _=>x
   else x
  | _=>x
 | _,x=>x
def X4 (hp:Ao) (v:Option (TC×Nat)) (x:AV):List Nat :=
 match v,x with
 | some (_,_),.ptr id _ _ _=>match hp id with
  | some (.blk b)=>id::b.cs.flatMap A1z
  | _=>[]
 | _,_=>[]
def A39 (P:Program) (hp:Ao):List (Option (TC×Nat))→List AV→List AV
 | v::vs,x::xs=>A9r P hp v x::A39 P hp vs xs
 | _,xs=>xs
def O7 (hp:Ao):List (Option (TC×Nat))→List AV→List Nat
 | v::vs,x::xs=>X4 hp v x++O7 hp vs xs
 | _,_=>[]
def Au8 (P:Program) (hp:Ao) (v:Vw) (x:AV):AV :=
 match v,x with
 | .one v,x=>A9r P hp v x
 | .cl vs,.fn f a c=>.fn f a (A39 P hp vs c)
 | _,x=>x
def A9s (hp:Ao) (v:Vw) (x:AV):List Nat :=
 match v,x with
 | .one v,x=>X4 hp v x
 | .cl vs,.fn _ _ c=>O7 hp vs c
 | _,_=>[]
def Vr (P:Program) (hp:Ao):List Vw→List AV→List AV
 | v::vs,x::xs=>Au8 P hp v x::Vr P hp vs xs
 | _,xs=>xs
def G3 (hp:Ao):List Vw→List AV→List Nat
 | v::vs,x::xs=>A9s hp v x++G3 hp vs xs
 | _,_=>[]
def Dz (hp:Ao):List Vw→List AV→Option (List AV×Option (Nat×Nat×Nat))
 | [],xs=>some (xs,none)
 | _,[]=>some ([],none)
 | .one none::vs,x::xs=>match Dz hp vs xs with
  | some (ys,m)=>some (x::ys,m)
  | none=>none
 | .cl _::vs,x::xs=>match Dz hp vs xs with
  | some (ys,m)=>some (x::ys,m)
  | none=>none
 | .one (some (c,o))::vs,x::xs=>match x with
  | .ptr id row st col=>match hp id,Dz hp vs xs with
   | some (.blk b),some (ys,none)=>bif Nat.ble 1 c.size&&(Nat.ble o (row*st+col)&&Nat.ble (row*st+col-o+c.size) (Bz b.cs)) then match dec c (Je c.size (Jf (row*st+col-o) b.cs)) with
     | some (y,[])=>some (.rop c y o::ys,some (id,row*st+col-o,row*st+col-o+c.size))
     | _=>none
    else none
   | _,_=>none
  | x=>match Dz hp vs xs with
   | some (ys,m)=>some (x::ys,m)
   | none=>none
inductive Mem where
 | no
 | ld (id lo hi:Nat)
 | st (id lo:Nat) (vs:List AV)
 | al (b:Blk)
 | la (id:Nat)
 | sa (id:Nat) (A:Arr)
 | aa (A:Arr)
 | sm (id:Nat) (M:Mp)
 | lp (id lo hi:Nat) (c:Bool) (p:TypeId×IntKind×Int)
def X5:Option (Nat×Nat×Nat)→Mem
 | some (id,lo,hi)=>.ld id lo hi
 | none=>.no
def X6 (m:Option (Nat×Nat×Nat)) (c:Bool) (p:TypeId×IntKind×Int):Mem :=
 match m with
 | some (id,lo,hi)=>.lp id lo hi c p
 | none=>.lp 0 0 0 c p
def pvA (p:TypeId×IntKind×Int):AV:=.ifc p.1 (.int p.2.1 p.2.2)
structure It where
 dst:Option Nat
 res:AV
 mem:Mem
def Mem.app (id0:Nat) (m:Mem) (hp:Ao):Ao :=
 match m with
 | .st id lo vs=>upd hp id (match hp id with | some (.blk b)=>some (.blk ⟨b.ty,Bc b.cs lo vs⟩) | o=>o)
 | .al b=>upd hp id0 (some (.blk b))
 | .sa id A=>upd hp id (some (.arr A))
 | .aa A=>upd hp id0 (some (.arr A))
 | .sm id M=>upd hp id (some (.mp M))
 | _=>hp
def It.app (id0:Nat) (it:It) (s:St):St:={ s with hp:=it.mem.app id0 s.hp }.put it.dst it.res
def B27 (g:PureT):Bool:=match g.vw,g.pv with
 | [],none=>true
 | _,_=>false
def plEff (pu:List (Nat×PureT)) (id0:Nat) (dst:Option Nat) (s:St) (stop:Tree α) (k:It→Tree α):Eff→Tree α
 | .val x=>k ⟨dst,x,.no⟩
 | .load id row st col n agg=>match s.hp id with
  | some (.blk b)=>bif Nat.ble 1 n&&Nat.ble (row*st+col+n) (Bz b.cs) then
    (bif agg then k ⟨dst,.agg (Je n (Jf (row*st+col) b.cs)),.ld id (row*st+col) (row*st+col+n)⟩ else match nth b.cs (row*st+col) with
     | some x=>k ⟨dst,x,.ld id (row*st+col) (row*st+col+n)⟩
     | none=>.fail)
   else .fail
  | some (.arr A)=>bif Nat.beq A.c.size st&&Nat.ble (col+n) st then bif decide (row<A.xs.length) then
    (bif agg then k ⟨dst,.agg (Je n (Jf col (enc A.c (As A.xs row (Aq A.c))))),.la id⟩ else match nth (enc A.c (As A.xs row (Aq A.c))) col with
     | some x=>k ⟨dst,x,.la id⟩
     | none=>.fail)
   else .fail else .fail
  | _=>.fail
 | .store id row st col vs=>match s.hp id with
  | some (.blk b)=>bif Nat.ble 1 (Bz vs)&&Nat.ble (row*st+col+Bz vs) (Bz b.cs) then k ⟨dst,.val undef,.st id (row*st+col) vs⟩ else .fail
  | some (.arr A)=>bif Nat.beq A.c.size st&&Nat.ble (col+Bz vs) st then bif decide (row<A.xs.length) then
    match dec A.c (Bc (enc A.c (As A.xs row (Aq A.c))) col vs) with
    | some (x,[])=>k ⟨dst,.val undef,.sa id ⟨A.ty,A.c,Bf A.xs row x⟩⟩
    | _=>.fail
   else .fail else .fail
  | _=>stop
 | .alloc b mk=>k ⟨dst,mk id0,.al b⟩
 | .list ty c xs=>k ⟨dst,.own id0,.aa ⟨ty,c,xs⟩⟩
 | .idx id st n=>match s.hp id with
  | some (.arr A)=>bif Nat.beq A.c.size st then bif decide (0≤n∧n<A.xs.length) then k ⟨dst,.ptr id n.toNat st 0,.la id⟩ else .fail else .fail
  | _=>.fail
 | .len id=>match s.hp id with
  | some (.arr A)=>k ⟨dst,.int .i64 A.xs.length,.la id⟩
  | _=>.fail
 | .call f args=>match (Gf pu f).bind fun g=>bif g.flat||B27 g then (Dz s.hp g.vw args).bind fun v=>(g.run v.1).map fun r=>(r.1,r.2,v.2,g.pv) else none with
  | some (c,x,m,p)=>match p with
   | none=>bif c then k ⟨dst,x,X5 m⟩ else .fail
   | some p=>k ⟨dst,x,X6 m c p⟩
  | none=>stop
 | .mapGet id kc vc z k' ok=>match s.hp id with
  | some (.mp M)=>match Dq kc M.kc [k'],Dq vc M.vc [z] with
   | some [j],some [z]=>k ⟨dst,bif ok then .tup [G8 M.vc ((M.get j).getD z),.bool (M.get j).isSome] else G8 M.vc ((M.get j).getD z),.la id⟩
   | _,_=>.fail
  | _=>.fail
 | .mapSet id kc vc k' x=>match s.hp id with
  | some (.mp M)=>match Dq kc M.kc [k'],Dq vc M.vc [x] with
   | some [j],some [y]=>k ⟨dst,.val undef,.sm id ⟨M.kc,M.vc,fun i=>bif Ed M.kc i j then some y else M.get i,M.ents⟩⟩
   | _,_=>.fail
  | _=>.fail
 | .test c e=>bif c then plEff pu id0 dst s stop k e else .fail
 | .alt c a b=>bif c then plEff pu id0 dst s stop k a else plEff pu id0 dst s stop k b
 | .bad=>.fail
 | _=>stop
def I8 (pu:List (Nat×PureT)) (nx:Nat) (ops:Array Oper) (K:List It→St→Tree α):List Nat→List It→St→Tree α
 | [],acc,s=>K acc s
 | i::rest,acc,s =>
  match ops[i]? with
  | none=>.fail
  | some o =>
   bif Nat.ble s.n ((o.dst).getD 0) then .fail else
   match o.guard with
   | none=>plEff pu (nx+i) o.dst s (K acc s) (fun it=>I8 pu nx ops K rest (acc++[it]) (it.app (nx+i) s)) (eff P o.op s.eval)
   | some (j,want) =>
    match (ops[j]?).bind (·.dst) with
    | none=>.fail
    | some d =>
     bif Nat.ble s.n d then .fail else
     match s.tm d with
     | .bool b =>
      bif b then (bif want then plEff pu (nx+i) o.dst (s.put (some d) (.bool true)) (K acc (s.put (some d) (.bool true))) (fun it=>I8 pu nx ops K rest (acc++[it]) (it.app (nx+i) (s.put (some d) (.bool true)))) (eff P o.op (s.put (some d) (.bool true)).eval)
        else I8 pu nx ops K rest (acc++[⟨o.dst,.val undef,.no⟩]) ((s.put (some d) (.bool true)).put o.dst (.val undef)))
      else (bif want then I8 pu nx ops K rest (acc++[⟨o.dst,.val undef,.no⟩]) ((s.put (some d) (.bool false)).put o.dst (.val undef))
        else plEff pu (nx+i) o.dst (s.put (some d) (.bool false)) (K acc (s.put (some d) (.bool false))) (fun it=>I8 pu nx ops K rest (acc++[it]) (it.app (nx+i) (s.put (some d) (.bool false)))) (eff P o.op (s.put (some d) (.bool false)).eval))
     | .val (.tuple _)=>I8 pu nx ops K rest (acc++[⟨o.dst,.val undef,.no⟩]) (s.put o.dst (.val undef))
     | _=>.fail
def Gv (acc:List Nat):List Edge→Nat
 | []=>0
 | e::l=>bif Region.binds .any e then (2 ^ e.on ||| ((nth acc e.on).getD 0)) ||| Gv acc l else Gv acc l
def C7:List Oper→List Nat→List Nat
 | [],acc=>acc
 | o::l,acc=>C7 l (acc++[Gv acc o.after.toList])
def Mr:List Oper→Nat→Bool
 | [],_=>true
 | o::l,i=>(o.after.toList.all fun e=>bif Region.binds .any e then Nat.blt e.on i else true)&&Mr l (i+1)
def Lj (id lo hi id' lo' hi':Nat):Bool:=!(Nat.beq id id')||(Nat.ble hi lo'||Nat.ble hi' lo)
def Mem.nrm:Mem→Mem
 | .lp id lo hi _ _=>.ld id lo hi
 | m=>m
def Ay (i:Nat) (m:Mem) (j:Nat) (k:Mem):Bool :=
 match m,k with
 | .no,_=>true
 | _,.no=>true
 | .ld _ _ _,.ld _ _ _=>true
 | .ld id lo hi,.st id' lo' vs=>Lj id lo hi id' lo' (lo'+Bz vs)
 | .st id' lo' vs,.ld id lo hi=>Lj id lo hi id' lo' (lo'+Bz vs)
 | .ld id _ _,.al _=>!(Nat.beq id j)
 | .al _,.ld id _ _=>!(Nat.beq id i)
 | .st id lo vs,.st id' lo' vs'=>Lj id lo (lo+Bz vs) id' lo' (lo'+Bz vs')
 | .st id _ _,.al _=>!(Nat.beq id j)
 | .al _,.st id _ _=>!(Nat.beq id i)
 | .al _,.al _=>true
 | .la _,.la _=>true
 | .la _,.ld _ _ _=>true
 | .ld _ _ _,.la _=>true
 | .la id,.st id' _ _=>!(Nat.beq id id')
 | .st id' _ _,.la id=>!(Nat.beq id id')
 | .la id,.al _=>!(Nat.beq id j)
 | .al _,.la id=>!(Nat.beq id i)
 | .la id,.sa id' _=>!(Nat.beq id id')
 | .sa id' _,.la id=>!(Nat.beq id id')
 | .sa id _,.sa id' _=>!(Nat.beq id id')&&!(Nat.beq id' id)
 | .sa id _,.ld id' _ _=>!(Nat.beq id id')
 | .ld id' _ _,.sa id _=>!(Nat.beq id id')
 | .sa id _,.st id' _ _=>!(Nat.beq id id')
 | .st id' _ _,.sa id _=>!(Nat.beq id id')
 | .sa id _,.al _=>!(Nat.beq id j)
 | .al _,.sa id _=>!(Nat.beq id i)
 | .aa _,.aa _=>true
 | .aa _,.al _=>true
 | .al _,.aa _=>true
 | .aa _,.la id=>!(Nat.beq id i)
 | .la id,.aa _=>!(Nat.beq id j)
 | .aa _,.ld id _ _=>!(Nat.beq id i)
 | .ld id _ _,.aa _=>!(Nat.beq id j)
 | .aa _,.st id _ _=>!(Nat.beq id i)
 | .st id _ _,.aa _=>!(Nat.beq id j)
 | .aa _,.sa id _=>!(Nat.beq id i)
 | .sa id _,.aa _=>!(Nat.beq id j)
 | .sm id _,.sm id' _=>!(Nat.beq id id')&&!(Nat.beq id' id)
 | .sm id _,.ld id' _ _=>!(Nat.beq id id')
 | .ld id' _ _,.sm id _=>!(Nat.beq id id')
 | .sm id _,.la id'=>!(Nat.beq id id')
 | .la id',.sm id _=>!(Nat.beq id id')
 | .sm id _,.st id' _ _=>!(Nat.beq id id')
 | .st id' _ _,.sm id _=>!(Nat.beq id id')
 | .sm id _,.sa id' _=>!(Nat.beq id id')
 | .sa id' _,.sm id _=>!(Nat.beq id id')
 | .sm id _,.al _=>!(Nat.beq id j)
 | .al _,.sm id _=>!(Nat.beq id i)
 | .sm id _,.aa _=>!(Nat.beq id j)
 | .aa _,.sm id _=>!(Nat.beq id i)
 | .lp ..,_=>false
 | _,.lp ..=>false
def Av (i:Nat) (m:Mem) (j:Nat) (k:Mem):Bool:=Ay i m.nrm j k.nrm
def A20:List It→Option (Option (Bool×TypeId×IntKind×Int))
 | []=>some none
 | it::l=>match it.mem with
  | .lp _ _ _ c p=>match A20 l with
   | some none=>some (some (c,p))
   | some (some (c',p'))=>bif decide (p=p') then some (some (c&&c',p)) else none
   | none=>none
  | _=>A20 l
def Ur:List It→(Nat→AV)→Nat→AV
 | [],tm=>tm
 | it::l,tm=>Ur l (match it.dst with
  | some d=>upd tm d .top
  | none=>tm)
def Zl:List It→Ao→Ao
 | [],hp=>hp
 | it::l,hp=>Zl l (match it.mem with
  | .st id _ _=>upd hp id none
  | .sa id _=>upd hp id none
  | .sm id _=>upd hp id none
  | _=>hp)
def Bae (items:List It) (s:St):St:={ s with tm:=Ur items s.tm,hp:=Zl items s.hp }
def looks (ops:Array Oper) (o:Oper):List Nat :=
 (o.op.operands.toList.filterMap fun | .tmp t=>some t | _=>none) ++
 (
  match o.guard with
  | some (g,_)=>((ops[g]?).bind (·.dst)).toList
  | none=>[])
def Ai9 (d:Option Nat) (l:List Nat):Bool :=
 match d with
 | some d=>l.all fun t=>!(Nat.beq t d)
 | none=>true
def B5k (d e:Option Nat):Bool :=
 match d,e with
 | some d,some e=>!(Nat.beq d e)
 | _,_=>true
structure Row where
 dst:Option Nat
 looks:List Nat
 mem:Mem
 mask:Nat
def A5p (ops:Array Oper):List Oper→List It→List Nat→List Row
 | o::l,it::is,m::ms=>⟨it.dst,looks ops o,it.mem,m⟩::A5p ops l is ms
 | _,_,_=>[]
def A5q (nx i:Nat) (r:Row) (j:Nat) (q:Row):Bool :=
 B5k r.dst q.dst&&(Nat.testBit q.mask i||(Ai9 r.dst q.looks&&(Ai9 q.dst r.looks&&Av (nx+i) r.mem (nx+j) q.mem)))
def Aia (nx i:Nat) (r:Row):Nat→List Row→Bool
 | _,[]=>true
 | j,q::l=>A5q nx i r j q&&Aia nx i r (j+1) l
def A5r (nx:Nat):Nat→List Row→Bool
 | _,[]=>true
 | i,r::l=>Aia nx i r (i+1) l&&A5r nx (i+1) l
def planOk (nx:Nat) (ops:Array Oper) (items:List It):Bool :=
 Mr ops.toList 0&&A5r nx 0 (A5p ops ops.toList items (C7 ops.toList []))
def Qp (m:Nat):Nat→List Nat→Bool
 | _,[]=>true
 | k,x::l=>(bif Nat.ble m k then (List.range k).all (fun j=>Nat.testBit x j) else true)&&Qp m (k+1) l
def Zm:It:=⟨none,.val undef,.no⟩
def B5 (nx:Nat) (D:Nat→Bool):Nat→List It→St→St
 | _,[],s=>s
 | k,it::l,s=>B5 nx D (k+1) l (bif D k then it.app (nx+k) s else s)
def Sq:Mem→Bool
 | .lp ..=>false
 | _=>true
def Jo:Option Nat→Nat→Option Nat
 | some h,_=>some h
 | none,i=>some i
def E8 (pu:List (Nat×PureT)) (nx:Nat) (ops:Array Oper) (ms:List Nat) (skip:Nat) (K:List It→Nat→Nat→Option Nat→St→Tree α):List Nat→List It→Nat→Nat→Option Nat→St→Tree α
 | [],items,live,hvy,first,s=>K items live hvy first s
 | i::rest,items,live,hvy,first,s =>
  bif Nat.testBit skip i then E8 pu nx ops ms skip K rest items live hvy first s else
  bif !(Nat.beq (((nth ms i).getD 0) &&& hvy) 0) then E8 pu nx ops ms skip K rest items live (hvy ||| 2 ^ i) first s else
  match ops[i]? with
  | none=>.fail
  | some o =>
   bif Nat.ble s.n ((o.dst).getD 0) then .fail else
   match o.guard with
   | none=>plEff pu (nx+i) o.dst s (E8 pu nx ops ms skip K rest items live (hvy ||| 2 ^ i) (Jo first i) s)
     (fun it=>bif Sq it.mem then E8 pu nx ops ms skip K rest (Bf items i it) (live ||| 2 ^ i) hvy first (it.app (nx+i) s)
      else E8 pu nx ops ms skip K rest items live (hvy ||| 2 ^ i) (Jo first i) s) (eff P o.op s.eval)
   | some (j,want) =>
    match (ops[j]?).bind (·.dst) with
    | none=>.fail
    | some d =>
     bif Nat.ble s.n d then .fail else
     match s.tm d with
     | .bool b =>
      bif b then (bif want then plEff pu (nx+i) o.dst (s.put (some d) (.bool true)) (E8 pu nx ops ms skip K rest items live (hvy ||| 2 ^ i) (Jo first i) (s.put (some d) (.bool true)))
         (fun it=>bif Sq it.mem then E8 pu nx ops ms skip K rest (Bf items i it) (live ||| 2 ^ i) hvy first (it.app (nx+i) (s.put (some d) (.bool true)))
          else E8 pu nx ops ms skip K rest items live (hvy ||| 2 ^ i) (Jo first i) (s.put (some d) (.bool true))) (eff P o.op (s.put (some d) (.bool true)).eval)
        else E8 pu nx ops ms skip K rest (Bf items i ⟨o.dst,.val undef,.no⟩) (live ||| 2 ^ i) hvy first ((s.put (some d) (.bool true)).put o.dst (.val undef)))
      else (bif want then E8 pu nx ops ms skip K rest (Bf items i ⟨o.dst,.val undef,.no⟩) (live ||| 2 ^ i) hvy first ((s.put (some d) (.bool false)).put o.dst (.val undef))
        else plEff pu (nx+i) o.dst (s.put (some d) (.bool false)) (E8 pu nx ops ms skip K rest items live (hvy ||| 2 ^ i) (Jo first i) (s.put (some d) (.bool false)))
         (fun it=>bif Sq it.mem then E8 pu nx ops ms skip K rest (Bf items i it) (live ||| 2 ^ i) hvy first (it.app (nx+i) (s.put (some d) (.bool false)))
          else E8 pu nx ops ms skip K rest items live (hvy ||| 2 ^ i) (Jo first i) (s.put (some d) (.bool false))) (eff P o.op (s.put (some d) (.bool false)).eval))
     | .val (.tuple _)=>E8 pu nx ops ms skip K rest (Bf items i ⟨o.dst,.val undef,.no⟩) (live ||| 2 ^ i) hvy first (s.put o.dst (.val undef))
     | _=>.fail
def inB (l:List Nat) (i:Nat):Bool:=match l with
 | []=>false
 | j::l=>Nat.beq j i||inB l i
def Bjb:AV→List Nat
 | .sl id _ _ _ _=>[id]
 | _=>[]
def Bfh:List AV→List Nat
 | []=>[]
 | x::l=>Bjb x++Bfh l
def A3a (op:Op) (ρ:Operand→AV):List Nat:=match op with
 | .call c=>Bfh (c.args.toList.map ρ)
 | _=>[]
def O8 (vis:List Nat) (id0:Nat):Mem→List Nat
 | .ld id _ _=>bif inB vis id then [] else [id]
 | .st id _ _=>[id]
 | .la id=>[id]
 | .sa id _=>[id]
 | .sm id _=>[id]
 | .lp id _ _ _ _=>[id]
 | .al _=>[id0]
 | .aa _=>[id0]
 | .no=>[]
def Eu (vis:List Nat) (nx q:Nat):Nat→List It→List Nat
 | _,[]=>[]
 | k,it::l=>(bif Nat.testBit q k then O8 vis (nx+k) it.mem else [])++Eu vis nx q (k+1) l
def Aib (q:Nat):Nat→List It→List Nat
 | _,[]=>[]
 | k,it::l=>(bif Nat.testBit q k then (match it.mem with | .ld id _ _=>[id] | _=>[]) else [])++Aib q (k+1) l
def A9t (m:List Nat):List Nat→List Nat
 | []=>[]
 | i::l=>bif inB m i then i::A9t m l else A9t m l
def A5s:List Nat→Ao→Ao→Prop
 | [],_,_=>True
 | i::l,hp,hp'=>hp i=hp' i∧A5s l hp hp'
def Aed {α:Type} (ids:List Nat) (hp hp':Ao) (t:Tree α):Tree α:=match ids with
 | []=>t
 | i::l=>.need (A5s (i::l) hp hp') t
def Hn (q:Nat):Nat→List It→List Nat
 | _,[]=>[]
 | k,it::l=>(bif Nat.testBit q k then it.dst.toList else [])++Hn q (k+1) l
def Ms (ids:List Nat) (hp:Ao):Ao:=fun i=>bif inB ids i then none else hp i
def F7 (ids:List Nat) (hp hp':Ao):Ao:=fun i=>bif inB ids i then hp i else hp' i
def Zo (ds:List Nat) (tm:Nat→AV):Nat→AV:=fun t=>bif inB ds t then .top else tm t
def Sr (d:Option Nat) (tm tm':Nat→AV):Nat→AV:=match d with
 | some d=>upd tm d (tm' d)
 | none=>tm
def Zp (ms:List Nat) (done h:Nat):Nat→Bool
 | 0=>true
 | i+1=>(Nat.testBit done i||(Nat.beq i h||Nat.testBit ((nth ms i).getD 0) h))&&Zp ms done h i
def A9u (pu:List (Nat×PureT)) (nx:Nat) (ops:Array Oper) (ms:List Nat) (K:XE→St→Tree α):Nat→Nat→Nat→List It→St→Tree α
 | 0,_,_,_,_=>.fail
 | n+1,dn,pd,items,s =>
  E8 P pu nx ops ms (dn ||| pd) (fun items live _ first sc =>
   match first with
   | none=>bif planOk nx ops items then K .normal sc else .fail
   | some h=>match ops[h]? with
    | none=>.fail
    | some o =>
     bif planOk nx ops (Bf items h ⟨o.dst,.val undef,.no⟩)&&(Zp ms (dn ||| live) h ops.size&&(Eu (A3a o.op (B5 nx (Nat.testBit (live &&& (nth ms h).getD 0)) 0 items s).eval) nx (live ^^^ (live &&& (nth ms h).getD 0)) 0 items).all (fun i=>Nat.blt i s.nx)) then
      Fx P cT ops [h] { (B5 nx (Nat.testBit (live &&& (nth ms h).getD 0)) 0 items s) with
        tm:=Zo (Hn (live ^^^ (live &&& (nth ms h).getD 0)) 0 items) (B5 nx (Nat.testBit (live &&& (nth ms h).getD 0)) 0 items s).tm,
        hp:=Ms (Eu (A3a o.op (B5 nx (Nat.testBit (live &&& (nth ms h).getD 0)) 0 items s).eval) nx (live ^^^ (live &&& (nth ms h).getD 0)) 0 items) (B5 nx (Nat.testBit (live &&& (nth ms h).getD 0)) 0 items s).hp } fun e s1 =>
       bif Nat.ble s.nx s1.nx then match e with
        | .normal=>Aed (A9t (Aib (live ^^^ (live &&& (nth ms h).getD 0)) 0 items) (A3a o.op (B5 nx (Nat.testBit (live &&& (nth ms h).getD 0)) 0 items s).eval)) s1.hp (B5 nx (Nat.testBit (live &&& (nth ms h).getD 0)) 0 items s).hp (A9u pu nx ops ms K n (dn ||| (live &&& (nth ms h).getD 0) ||| 2 ^ h) (live ^^^ (live &&& (nth ms h).getD 0)) items { s1 with
          tm:=Sr o.dst (B5 nx (Nat.testBit (live &&& (nth ms h).getD 0)) 0 items s).tm s1.tm,
          hp:=F7 (Eu (A3a o.op (B5 nx (Nat.testBit (live &&& (nth ms h).getD 0)) 0 items s).eval) nx (live ^^^ (live &&& (nth ms h).getD 0)) 0 items) (B5 nx (Nat.testBit (live &&& (nth ms h).getD 0)) 0 items s).hp s1.hp })
        | e=>K e { s1 with hp:=Ms (Eu (A3a o.op (B5 nx (Nat.testBit (live &&& (nth ms h).getD 0)) 0 items s).eval) nx (live ^^^ (live &&& (nth ms h).getD 0)) 0 items) s1.hp }
       else .fail
     else .fail)
   (List.range ops.size) items pd 0 none (B5 nx (Nat.testBit pd) 0 items s)
def learn (c:Operand) (b:Bool) (s:St):St :=
 match c with
 | .tmp t=>bif Nat.ble s.n t then s else s.put (some t) (.bool b)
 | _=>s
def Zq:Nat→(St→(XE→St→Tree α)→Tree α)→St→(XE→St→Tree α)→Tree α
 | 0,_,_,_=>.fail
 | n+1,body,s,K=>body s fun e s'=>match e with
  | .normal=>Zq n body s' K
  | e=>K e s'
def keyOf:Code→Nat
 | .region id _ _=>id
 | .seq a _=>keyOf a
 | .block _ c=>keyOf c
 | .loop c=>keyOf c
 | .scope c=>keyOf c
 | _=>0
abbrev M7:=Nat→Option (St→Tree (XE×St))
def Aee:Code→Option XE
 | .ret=>some .ret
 | .exit id=>some (.exit id)
 | _=>none
def evC (pu:List (Nat×PureT)) (fn:FuncId) (u:Nat) (L:M7):Code→St→(XE→St→Tree α)→Tree α
 | .skip,s,K=>K .normal s
 | .region _ ops false,s,K=>bif s.rd&&!(ops.toList.all fun o=>match o.op with | .defer _=>false | _=>true) then .fail else Fx P cT ops (List.range ops.size) s K
 | .region _ ops true,s,K=>bif s.rd&&!(ops.toList.all fun o=>match o.op with | .defer _=>false | _=>true) then .fail else
   I8 P pu s.nx ops (fun items s' =>
    bif planOk s.nx ops items&&Qp (Bz items) 0 (C7 ops.toList []) then match A20 items with
     | some none=>Fx P cT ops ((List.range ops.size).drop (Bz items)) s' K
     | some (some (c,p))=>bif c then Fx P cT ops ((List.range ops.size).drop (Bz items)) s' K else K (.panic (pvA p)) (Bae items { s with nx:=s.nx+ops.size })
     | none=>.fail
    else bif Mr ops.toList 0 then A9u P cT pu s.nx ops (C7 ops.toList []) K (ops.size+1) 0 0 (List.replicate ops.size Zm) { s with nx:=s.nx+ops.size }
    else .fail) (List.range ops.size) [] { s with nx:=s.nx+ops.size }
 | .seq a b,s,K=>evC pu fn u L a s fun e s'=>match e with
  | .normal=>evC pu fn u L b s' K
  | e=>K e s'
 | .cond c a b,s,K=>match s.eval c with
  | .bool x=>bif x then evC pu fn u L a (learn c true s) K else evC pu fn u L b (learn c false s) K
  | _=>.fail
 | .block id c,s,K=>evC pu fn u L c s fun e s'=>match e with
  | .exit id'=>bif Nat.beq id' id then K .normal s' else K (.exit id') s'
  | e=>K e s'
 | .loop c,s,K=>match L (keyOf c) with
  | some f=>bif s.rd then .fail else (f s).bind fun x=>K x.1 x.2
  | none=>Zq u (fun s K=>evC pu fn u L c s K) s K
 | .exit id,s,K=>K (.exit id) s
 | .ret,s,K=>K .ret s
 | .rangeFunc f params assign body,s,K=>bif s.rd then .fail else match s.eval f with
  | .fn (.func gf) first captured =>
   cT (.fn gf) (first++[.yld (s.nx+1)]++captured) (upd (upd s.hp s.nx (some .dfr)) (s.nx+1) (some (.lp ⟨s.tm,s.n,fn,params.toList,assign,body,.ready,none,s.nx⟩))) (s.nx+2) fun v hp nx=>match v with
    | .ret _=>match hp (s.nx+1) with
     | some (.lp r)=>match r.st with
      | .busy=>.fail
      | _=>match r.pend with
       | none=>K .normal { s with hp:=upd hp (s.nx+1) none,nx:=nx,df:=.mark s.nx::s.df }
       | some c=>match Aee c with
        | some e=>K e { s with hp:=upd hp (s.nx+1) none,nx:=nx,df:=.mark s.nx::s.df }
        | none=>.fail
     | _=>.fail
    | .pan x=>K (.panic x) { s with hp:=hp,nx:=nx,df:=.mark s.nx::s.df }
  | _=>.fail
 | _,_,_=>.fail
def Aic:Op→Bool
 | .call c=>match c.callee with
  | .builtin .recover=>true
  | _=>false
 | _=>false
def Hy (pu:List (Nat×PureT)) (fn:FuncId) (u:Nat) (L:M7) (rv:AV):Code→St→(XE→St→Tree α)→Tree α
 | .seq a b,s,K=>Hy pu fn u L rv a s fun e s'=>match e with
  | .normal=>evC P cT pu fn u L b s' K
  | e=>K e s'
 | .block id c,s,K=>Hy pu fn u L rv c s fun e s'=>match e with
  | .exit id'=>bif Nat.beq id' id then K .normal s' else K (.exit id') s'
  | e=>K e s'
 | .region _ ops false,s,K=>match ops[0]? with
  | some o=>bif Aic o.op&&(o.guard.isNone&&Nat.blt ((o.dst).getD 0) s.n) then Fx P cT ops ((List.range ops.size).drop 1) (s.put o.dst rv) K else .fail
  | none=>.fail
 | _,_,_=>.fail
end
def Dg (P:Program) (s:St):List ResultVar→Option (List AV)
 | []=>some []
 | .tmp t::l=>(Dg P s l).map (s.tm t::·)
 | .cell a t::l=>match s.tm a,Mq P t,Cn P t with
  | .ptr id row st col,some agg,some n=>match s.hp id with
   | some (.blk b)=>bif agg then (bif Nat.ble (row*st+col+n) (Bz b.cs) then (Dg P s l).map (.agg (Je n (Jf (row*st+col) b.cs))::·) else none)
     else match nth b.cs (row*st+col) with
      | some x=>(Dg P s l).map (x::·)
      | none=>none
   | _=>none
  | _,_,_=>none
structure Ctx where
 P:Program
 u:Nat
 fns:List (Nat×Func)
 loops:List ((Nat×Nat)×(St→Tree (XE×St)))
 pures:List (Nat×PureT)
 specs:List (Nat×(Ao→Nat→List AV→Tree (Out×Ao×Nat)))
def Co {β:Type}:List ((Nat×Nat)×β)→Nat→Nat→Option β
 | [],_,_=>none
 | (k,x)::l,i,j=>bif Nat.beq k.1 i&&Nat.beq k.2 j then some x else Co l i j
def Ir:List AV→Nat→AV
 | [],_=>.val undef
 | x::_,0=>x
 | _::l,n+1=>Ir l n
def Baf (X:Ctx) (f:Nat):Bool:=match Gf X.fns f with
 | some _=>true
 | none=>false
def Us:List Nat→List AV→(Nat→AV)→Nat→AV
 | p::ps,x::xs,tm=>Us ps xs (upd tm p x)
 | _,_,tm=>tm
section
variable {α:Type} (X:Ctx)
def Aid (cT:Jh α) (f:FuncId) (args:List AV) (rv:AV) (hp:Ao) (nx:Nat) (K:Ao→Nat→Tree α):Tree α :=
 match Gf X.fns f with
 | none=>.fail
 | some fn=>match fn.body with
  | none=>.fail
  | some c=>bif Nat.ble (Bz args) fn.ntmps then
    Hy X.P cT X.pures f X.u (Co X.loops f) rv c { tm:=Ir args,n:=fn.ntmps,hp:=hp,nx:=nx,df:=[],rd:=false } fun e s=>match e with
     | .normal | .ret=>match s.df,Dg X.P s fn.results.toList with
      | [],some _=>K s.hp s.nx
      | _,_=>.fail
     | _=>.fail
   else .fail
def Au9:Option AV→AV
 | some x=>x
 | none=>.val .nilIface
def Ks (cT:Jh α):List DfA→Option AV→Ao→Nat→(Option AV→Ao→Nat→Tree α)→Tree α
 | [],m,hp,nx,K=>K m hp nx
 | .mark id::l,m,hp,nx,K=>match hp id with
  | some .dfr=>Ks cT l m (upd hp id none) nx K
  | _=>.fail
 | .call f args cap::l,m,hp,nx,K=>Aid X cT f (args++cap) (Au9 m) hp nx fun hp nx=>Ks cT l none hp nx K
end
def Qq {α:Type} (X:Ctx) (cT:Jh α) (f:FuncId) (args:List AV) (hp:Ao) (nx:Nat) (K:Out→Ao→Nat→Tree α):Tree α :=
 match Gf X.fns f with
 | none=>.fail
 | some fn =>
  match fn.body with
  | none=>.fail
  | some c =>
   bif Nat.ble (Bz args) fn.ntmps then
    evC X.P cT X.pures f X.u (Co X.loops f) c { tm:=Ir args,n:=fn.ntmps,hp:=hp,nx:=nx,df:=[],rd:=false } fun e s =>
     match e with
     | .normal | .ret=>Ks X cT s.df none s.hp s.nx fun m' hp' nx'=>match m' with
      | none=>match Dg X.P { s with hp:=hp' } fn.results.toList with
       | some l=>K (.ret (Sp l)) hp' nx'
       | none=>.fail
      | some _=>.fail
     | .panic x=>Ks X cT s.df (some x) s.hp s.nx fun m' hp' nx'=>match m' with
      | none=>match Dg X.P { s with hp:=hp' } fn.results.toList with
       | some l=>K (.ret (Sp l)) hp' nx'
       | none=>.fail
      | some x=>K (.pan x) hp' nx'
     | .exit _=>.fail
   else .fail
def D1 {α:Type} (X:Ctx):Nat→Jh α
 | 0,_,_,_,_,_=>.fail
 | m+1,.fn f,args,hp,nx,K =>
  match (Gf X.pures f).bind (fun g=>(g.run ((Vr X.P hp g.vw args).map (Zh X.P hp))).map fun r=>(g.flat||g.fr,G3 hp g.vw args,g.pv,r)) with
  | some (fl,vi,pv,c,x)=>bif c then K (.ret x) (bif fl then hp else Q6 hp (args.flatMap O6++vi)) nx else match pv with
   | some p=>K (.pan (pvA p)) hp nx
   | none=>.fail
  | none =>
  match Gf X.specs f with
  | some c=>(c hp nx args).bind fun r=>K r.1 r.2.1 r.2.2
  | none=>Qq X (D1 X m) f args hp nx K
 | m+1,.yld id,args,hp,nx,K=>match hp id with
  | some (.lp r)=>match r.st with
   | .ready=>bif Nat.beq (Bz args) (Bz r.params)&&(r.params.all (fun p=>Nat.blt p r.n)&&Baf X r.fn) then
     evC X.P (D1 X m) X.pures r.fn X.u (fun _=>none) r.assign { tm:=Us r.params args r.tm,n:=r.n,hp:=hp,nx:=nx,df:=[],rd:=true } fun e s=>match e with
      | .normal=>match s.hp id with
       | some (.lp r1)=>match r1.st with
        | .ready=>evC X.P (D1 X m) X.pures r.fn X.u (fun _=>none) r.body { s with hp:=upd s.hp id (some (.lp { r1 with st:=.busy })) } fun e s=>match s.hp id with
         | some (.lp r2)=>match e with
          | .normal=>K (.ret (.bool true)) (upd s.hp id (some (.lp { r2 with st:=.ready,pend:=none }))) s.nx
          | .ret=>K (.ret (.bool false)) (upd s.hp id (some (.lp { r2 with st:=.done,pend:=some .ret }))) s.nx
          | .exit i=>K (.ret (.bool false)) (upd s.hp id (some (.lp { r2 with st:=.done,pend:=some (.exit i) }))) s.nx
          | .panic x=>match s.df with
           | []=>K (.pan x) s.hp s.nx
           | _=>.fail
         | _=>.fail
        | _=>.fail
       | _=>.fail
      | _=>.fail
    else .fail
   | _=>.fail
  | _=>.fail
end V
end Go.Proofs.YtlangijnealfjaaGreat
namespace Go.Proofs.YtlangijnealfjaaGreat
open Go.RowKit
namespace V
structure Env where
 at_:Nat→Option Nat
 mem:Nat→Nat→Option Value
 sv:Nat→Option Value
 low:Nat→Nat→Option Value
 kp:Nat→Option Obj
 sz:Nat
 dd:Nat→Bool
 ds:Nat→Bool
instance:CoeFun Env (fun _=>Nat→Option Nat):=⟨Env.at_⟩
def Reads (mem:Nat→Nat→Option Value) (b o:Nat) (vs:List Value):Prop:=∀ (j:Nat) (u:Value),vs[j]? = some u→mem b (o+j)=some u
def LR {T:Type} (R:T→List Value→Prop):List T→List Value→Prop
 | [],vs=>vs=[]
 | x::xs,vs=>∃ a b,vs=a++b∧R x a∧LR R xs b
mutual
def RepD (mem:Nat→Nat→Option Value):(c:TC)→TCT c→List Value→Prop
 | .b,x,vs=>vs=[.bool x]
 | .i k,n,vs=>vs=[.int k n]∧inK k n
 | .s,x,vs=>vs=[.string x]
 | .sl c,xs,vs=>∃ v,vs=[v]∧((v=.slice none 0 0∧xs=[])∨∃ b o s cap us,v=.slice (some ⟨b,o,s⟩) xs.length cap∧xs.length≤cap∧(cap:Int)≤B7 .i64∧((us=[]∨s=none)∧Reads mem b o us)∧LR (RepD mem c) xs us)
 | .st cs,x,vs=>RepDs mem cs x vs
def RepDs (mem:Nat→Nat→Option Value):(cs:List TC)→TCTs cs→List Value→Prop
 | [],_,vs=>vs=[]
 | c::cs,x,vs=>∃ a b,vs=a++b∧RepD mem c x.1 a∧RepDs mem cs x.2 b
end
theorem LR.mono {T:Type} {R S:T→List Value→Prop} (h:∀ x vs,R x vs→S x vs):∀ {xs:List T} {vs:List Value},LR R xs vs→LR S xs vs
 | [],_,k=>k
 | x::_xs,_vs,⟨a,b,e,k1,k2⟩=>⟨a,b,e,h x a k1,LR.mono h k2⟩
theorem Reads.mono {m m':Nat→Nat→Option Value} (h:∀ b o v,m b o=some v→m' b o=some v) {b o:Nat} {vs:List Value} (k:Reads m b o vs):Reads m' b o vs:=fun j u hj=>h _ _ _ (k j u hj)
mutual
theorem RepD.mono {m m':Nat→Nat→Option Value} (h:∀ b o v,m b o=some v→m' b o=some v):∀ (c:TC) (x:TCT c) (vs:List Value),RepD m c x vs→RepD m' c x vs
 | .b,_,_,k=>by simpa only [RepD] using k
 | .i _,_,_,k=>by simpa only [RepD] using k
 | .s,_,_,k=>by simpa only [RepD] using k
 | .sl c,xs,vs,k=>by
  simp only [RepD] at k ⊢
  obtain ⟨v,e,k⟩:=k
  refine ⟨v,e,?_⟩
  rcases k with k | ⟨b,o,s,cap,us,k1,k2,k3,k4,k5⟩
  ·exact .inl k
  ·exact .inr ⟨b,o,s,cap,us,k1,k2,k3,⟨k4.1,k4.2.mono h⟩,LR.mono (fun x vs=>RepD.mono h c x vs) k5⟩
 | .st cs,x,vs,k=>by simp only [RepD] at k ⊢;exact RepDs.mono h cs x vs k
theorem RepDs.mono {m m':Nat→Nat→Option Value} (h:∀ b o v,m b o=some v→m' b o=some v):∀ (cs:List TC) (x:TCTs cs) (vs:List Value),RepDs m cs x vs→RepDs m' cs x vs
 | [],_,_,k=>by simpa only [RepDs] using k
 | c::cs,x,vs,k=>by
  simp only [RepDs] at k ⊢
  obtain ⟨a,b,e,k1,k2⟩:=k
  exact ⟨a,b,e,RepD.mono h c x.1 a k1,RepDs.mono h cs x.2 b k2⟩
end
mutual
theorem RepD.len {m:Nat→Nat→Option Value}:∀ (c:TC) (x:TCT c) (vs:List Value),RepD m c x vs→vs.length=c.size
 | .b,_,_,k=>by simp only [RepD] at k;subst k;rfl
 | .i _,_,_,k=>by simp only [RepD] at k;rw [k.1];rfl
 | .s,_,_,k=>by simp only [RepD] at k;subst k;rfl
 | .sl c,xs,vs,k=>by simp only [RepD] at k;obtain ⟨v,e,_⟩:=k;subst e;rfl
 | .st cs,x,vs,k=>by simp only [RepD] at k;simp only [TC.size];exact RepDs.len cs x vs k
theorem RepDs.len {m:Nat→Nat→Option Value}:∀ (cs:List TC) (x:TCTs cs) (vs:List Value),RepDs m cs x vs→vs.length=sizes cs
 | [],_,_,k=>by simp only [RepDs] at k;subst k;rfl
 | c::cs,x,vs,k=>by
  simp only [RepDs] at k
  obtain ⟨a,b,e,k1,k2⟩:=k
  subst e
  simp only [List.length_append,sizes,RepD.len c x.1 a k1,RepDs.len cs x.2 b k2]
end
theorem LR.len {T:Type} {R:T→List Value→Prop} {n:Nat} (h:∀ x vs,R x vs→vs.length=n):∀ {xs:List T} {vs:List Value},LR R xs vs→vs.length=xs.length*n
 | [],_,k=>by simp only [LR] at k;subst k;simp
 | x::xs,vs,⟨a,b,e,k1,k2⟩=>by
  subst e
  simp only [List.length_append,h x a k1,LR.len h k2,List.length_cons,Nat.add_mul,Nat.one_mul,Nat.add_comm]
theorem F8 {β:Type} (l:List β) (n:Nat) (d:β):As l n d=l.getD n d:=by
 induction l generalizing n with
 | nil=>simp [As]
 | cons x l ih=>cases n <;> simp [As,ih]
theorem LR.get {T:Type} {R:T→List Value→Prop} {n:Nat} (h:∀ x vs,R x vs→vs.length=n):∀ {xs:List T} {vs:List Value} (i:Nat) (d:T),LR R xs vs→i<xs.length→R (As xs i d) ((vs.drop (i*n)).take n)
 | [],_,i,_,_,hi=>by simp at hi
 | x::xs,vs,i,d,⟨a,b,e,k1,k2⟩,hi=>by
  subst e
  have ha:=h x a k1
  cases i with
  | zero=>simp only [As,Nat.zero_mul,List.drop_zero];rw [← ha,List.take_left];exact k1
  | succ i =>
   have:=LR.get h i d k2 (by simpa using hi)
   simp only [As,Nat.add_mul,Nat.one_mul]
   rw [show i*n+n=a.length+i*n by omega,List.drop_length_add_append]
   exact this
theorem LR.append {T:Type} {R:T→List Value→Prop}:∀ {xs ys:List T} {vs us:List Value},LR R xs vs→LR R ys us→LR R (xs++ys) (vs++us)
 | [],ys,vs,us,h,k=>by simp only [LR] at h;subst h;simpa using k
 | x::xs,ys,vs,us,⟨a,b,e,k1,k2⟩,k=>by
  subst e
  exact ⟨a,b++us,by simp,k1,LR.append k2 k⟩
theorem Bp {β:Type} (l:List β) (n:Nat) (y:β):Bf l n y=l.set n y:=by
 induction l generalizing n with
 | nil=>simp [Bf]
 | cons x l ih=>cases n <;> simp [Bf,ih]
theorem Gw:∀ (us a b:List Value) (k:Nat),Bc (a++b) (a.length+k) us=a++Bc b k us
 | [],a,b,k=>rfl
 | u::us,a,b,k=>by
  simp only [Bc,Bp]
  have e:(a++b).set (a.length+k) u=a++b.set k u:=by
   rw [List.set_append_right _ _ (by omega)];congr 2;omega
  rw [e,Nat.add_assoc]
  exact Gw us a _ (k+1)
theorem Kt:∀ (us a b:List Value),us.length=a.length→Bc (a++b) 0 us=us++b
 | [],a,b,h=>by cases a <;> simp [Bc] at h ⊢
 | u::us,[],b,h=>by simp at h
 | u::us,x::a,b,h=>by
  simp only [Bc,Bp,List.cons_append,List.set_cons_zero]
  have:=Gw us [u] (a++b) 0
  simp only [List.cons_append,List.nil_append,List.length_singleton,Nat.add_zero,Nat.zero_add] at this ⊢
  rw [this,Kt us a b (by simpa using h)]
theorem LR.set {T:Type} {R:T→List Value→Prop} {n:Nat} (h:∀ x vs,R x vs→vs.length=n):∀ {xs:List T} {vs us:List Value} (i:Nat) (y:T),LR R xs vs→R y us→i<xs.length→LR R (xs.set i y) (Bc vs (i*n) us)
 | [],_,_,i,_,_,_,hi=>by simp at hi
 | x::xs,vs,us,i,y,⟨a,b,e,k1,k2⟩,hy,hi=>by
  subst e
  have ha:=h x a k1
  have hu:=h y us hy
  cases i with
  | zero =>
   simp only [List.set_cons_zero,Nat.zero_mul]
   refine ⟨us,b,?_,hy,k2⟩
   exact Kt us a b (by omega)
  | succ i =>
   simp only [List.set_cons_succ,Nat.add_mul,Nat.one_mul]
   refine ⟨a,Bc b (i*n) us,?_,k1,LR.set h i y k2 hy (by simpa using hi)⟩
   rw [show i*n+n=a.length+i*n by omega]
   exact Gw us a b (i*n)
theorem LR.take {T:Type} {R:T→List Value→Prop} {n:Nat} (h:∀ x vs,R x vs→vs.length=n):∀ {xs:List T} {vs:List Value} (i:Nat),LR R xs vs→i≤xs.length→LR R (xs.take i) (vs.take (i*n))
 | xs,vs,0,_,_=>by simp [LR]
 | [],_,i+1,_,hi=>by simp at hi
 | x::xs,vs,i+1,⟨a,b,e,k1,k2⟩,hi=>by
  subst e
  have ha:=h x a k1
  refine ⟨a,b.take (i*n),?_,k1,LR.take h i k2 (by simpa using hi)⟩
  rw [Nat.add_mul,Nat.one_mul,show i*n+n=a.length+i*n by omega,List.take_length_add_append]
theorem LR.drop {T:Type} {R:T→List Value→Prop} {n:Nat} (h:∀ x vs,R x vs→vs.length=n):∀ {xs:List T} {vs:List Value} (i:Nat),LR R xs vs→i≤xs.length→LR R (xs.drop i) (vs.drop (i*n))
 | xs,vs,0,k,_=>by simpa using k
 | [],_,i+1,_,hi=>by simp at hi
 | x::xs,vs,i+1,⟨a,b,e,k1,k2⟩,hi=>by
  subst e
  have ha:=h x a k1
  have:=LR.drop h i k2 (by simpa using hi)
  rw [Nat.add_mul,Nat.one_mul,show i*n+n=a.length+i*n by omega,List.drop_length_add_append]
  simpa using this
mutual
def Rep (σ:Env):AV→Value→Prop
 | .bool b,v=>v=.bool b
 | .int k n,v=>v=.int k n∧inK k n
 | .ptr id row st col,v=>∃ b,σ id=some b∧v=.pointer (some ⟨b,row*st+col,none⟩)
 | .nilp,v=>v=.pointer none
 | .sl id off _ len cap,v=>((len:Int)≤B7 .i64∧len≤cap)∧(cap:Int)≤B7 .i64∧∃ b,σ id=some b∧v=.slice (some ⟨b,off,none⟩) len cap
 | .val u,v=>v=u
 | .agg cs,v=>∃ vs,RepL σ cs vs∧v=.agg vs.toArray
 | .tup cs,v=>∃ vs,RepL σ cs vs∧v=.tuple vs.toArray
 | .fn f a c,v=>∃ x y,RepL σ a x∧RepL σ c y∧v=.func f x.toArray y.toArray
 | .ro c xs,v=>RepD σ.mem (.sl c) xs [v]
 | .rop c x col,v=>∃ b o vs,v=.pointer (some ⟨b,o+col,none⟩)∧Reads σ.mem b o vs∧RepD σ.mem c x vs
 | .own id,v=>σ.sv id=some v∧∃ a n cap,v=.slice a n cap
 | .mp id,v=>∃ b,σ id=some b∧v=.map (some b)
 | .yld id,v=>∃ b,σ id=some b∧v=.func (.yield b) #[] #[]
 | .stp id,v=>σ.sv id=some v∧∃ n:Int,v=.int .i64 n
 | .ifc t x,v=>∃ u,Rep σ x u∧v=.iface t u
 | .top,_=>True
def RepL (σ:Env):List AV→List Value→Prop
 | [],vs=>vs=[]
 | x::xs,vs=>∃ v us,vs=v::us∧Rep σ x v∧RepL σ xs us
end
structure Ext3 (σ τ:Env):Prop where
 at_:∀ i b,σ i=some b→τ i=some b
 mem:∀ b o v,σ.mem b o=some v→τ.mem b o=some v
 sv:∀ i v,σ.sv i=some v→τ.sv i=some v
structure Ext (σ τ:Env):Prop where
 at_:∀ i b,σ i=some b→τ i=some b
 mem:∀ b o v,σ.mem b o=some v→τ.mem b o=some v
 sv:∀ i v,σ.sv i=some v→τ.sv i=some v
 low:τ.low=σ.low
 kp:τ.kp=σ.kp∧τ.sz=σ.sz∧τ.dd=σ.dd∧τ.ds=σ.ds
theorem Ext.refl (σ:Env):Ext σ σ:=⟨fun _ _ h=>h,fun _ _ _ h=>h,fun _ _ h=>h,rfl,rfl,rfl,rfl,rfl⟩
theorem Ext.trans {σ τ ρ:Env} (h:Ext σ τ) (k:Ext τ ρ):Ext σ ρ:=⟨fun i b x=>k.1 i b (h.1 i b x),fun b o v x=>k.2 b o v (h.2 b o v x),fun i v x=>k.3 i v (h.3 i v x),k.4.trans h.4,k.5.1.trans h.5.1,k.5.2.1.trans h.5.2.1,k.5.2.2.1.trans h.5.2.2.1,k.5.2.2.2.trans h.5.2.2.2⟩
mutual
theorem Rep.mono3 {σ τ:Env} (e:Ext3 σ τ):∀ (x:AV) (v:Value),Rep σ x v→Rep τ x v
 | .bool _,_,h=>by simpa only [Rep] using h
 | .int _ _,_,h=>by simpa only [Rep] using h
 | .ptr id row st col,v,h=>by
  simp only [Rep] at h ⊢
  obtain ⟨b,h1,h2⟩:=h
  exact ⟨b,e.1 _ _ h1,h2⟩
 | .nilp,_,h=>by simpa only [Rep] using h
 | .sl id off st len cap,v,h=>by
  simp only [Rep] at h ⊢
  obtain ⟨h0,h0',b,h1,h2⟩:=h
  exact ⟨h0,h0',b,e.1 _ _ h1,h2⟩
 | .val _,_,h=>by simpa only [Rep] using h
 | .agg cs,v,h=>by
  simp only [Rep] at h ⊢
  obtain ⟨vs,h1,h2⟩:=h
  exact ⟨vs,RepL.mono3 e cs vs h1,h2⟩
 | .tup cs,v,h=>by
  simp only [Rep] at h ⊢
  obtain ⟨vs,h1,h2⟩:=h
  exact ⟨vs,RepL.mono3 e cs vs h1,h2⟩
 | .fn f a c,v,h=>by
  simp only [Rep] at h ⊢
  obtain ⟨x,y,h1,h2,h3⟩:=h
  exact ⟨x,y,RepL.mono3 e a x h1,RepL.mono3 e c y h2,h3⟩
 | .ro c xs,v,h=>by simp only [Rep] at h ⊢;exact RepD.mono e.2 _ _ _ h
 | .rop c x col,v,h=>by
  simp only [Rep] at h ⊢
  obtain ⟨b,o,vs,h1,h2,h3⟩:=h
  exact ⟨b,o,vs,h1,h2.mono e.2,RepD.mono e.2 _ _ _ h3⟩
 | .own id,v,h=>by simp only [Rep] at h ⊢;exact ⟨e.3 _ _ h.1,h.2⟩
 | .mp id,v,h=>by
  simp only [Rep] at h ⊢
  obtain ⟨b,h1,h2⟩:=h
  exact ⟨b,e.1 _ _ h1,h2⟩
 | .yld id,v,h=>by
  simp only [Rep] at h ⊢
  obtain ⟨b,h1,h2⟩:=h
  exact ⟨b,e.1 _ _ h1,h2⟩
 | .stp id,v,h=>by
  simp only [Rep] at h ⊢
  exact ⟨e.3 _ _ h.1,h.2⟩
 | .ifc t x,v,h=>by
  simp only [Rep] at h ⊢
  obtain ⟨u,h1,h2⟩:=h
  exact ⟨u,Rep.mono3 e x u h1,h2⟩
 | .top,_,_=>by simp only [Rep]
theorem RepL.mono3 {σ τ:Env} (e:Ext3 σ τ):∀ (xs:List AV) (vs:List Value),RepL σ xs vs→RepL τ xs vs
 | [],_,h=>by simpa only [RepL] using h
 | x::xs,vs,h=>by
  simp only [RepL] at h ⊢
  obtain ⟨v,us,h1,h2,h3⟩:=h
  exact ⟨v,us,h1,Rep.mono3 e x v h2,RepL.mono3 e xs us h3⟩
end
theorem Rep.mono {σ τ:Env} (e:Ext σ τ) (x:AV) (v:Value) (h:Rep σ x v):Rep τ x v:=Rep.mono3 ⟨e.1,e.2,e.3⟩ x v h
theorem RepL.mono {σ τ:Env} (e:Ext σ τ) (xs:List AV) (vs:List Value) (h:RepL σ xs vs):RepL τ xs vs:=RepL.mono3 ⟨e.1,e.2,e.3⟩ xs vs h
theorem Bg {β:Type} (l:List β):Bz l=l.length:=by induction l <;> simp [Bz, *]
theorem E4 {β:Type} (l:List β) (n:Nat):nth l n=l[n]? := by
 induction l generalizing n with
 | nil=>simp [nth]
 | cons x l ih=>cases n <;> simp [nth,ih]
theorem E9 {β:Type} (n:Nat) (l:List β):Je n l=l.take n:=by
 induction n generalizing l with
 | zero=>simp [Je]
 | succ n ih=>cases l <;> simp [Je,ih]
theorem Ea {β:Type} (n:Nat) (l:List β):Jf n l=l.drop n:=by
 induction n generalizing l with
 | zero=>simp [Jf]
 | succ n ih=>cases l <;> simp [Jf,ih]
theorem Dx {σ:Env}:∀ {xs:List AV} {vs:List Value},RepL σ xs vs ↔ xs.length=vs.length∧∀ (i:Nat) (x:AV) (v:Value),xs[i]? = some x→vs[i]? = some v→Rep σ x v
 | [],vs=>by
  simp only [RepL]
  constructor
  ·rintro rfl;simp
  ·rintro ⟨h,_⟩;exact List.eq_nil_of_length_eq_zero (by simpa using h.symm)
 | x::xs,vs=>by
  simp only [RepL]
  constructor
  ·rintro ⟨v,us,rfl,h1,h2⟩
   obtain ⟨h3,h4⟩:=Dx.1 h2
   refine ⟨by simp [h3],fun i y u hy hu=>?_⟩
   cases i with
   | zero=>simp at hy hu;subst hy;subst hu;exact h1
   | succ i=>exact h4 i y u (by simpa using hy) (by simpa using hu)
  ·rintro ⟨h1,h2⟩
   cases vs with
   | nil=>simp at h1
   | cons v us =>
    refine ⟨v,us,rfl,h2 0 x v rfl rfl,Dx.2 ⟨by simpa using h1,fun i y u hy hu=>h2 (i+1) y u (by simpa using hy) (by simpa using hu)⟩⟩
theorem RepL.length {σ:Env} {xs:List AV} {vs:List Value} (h:RepL σ xs vs):xs.length=vs.length:=(Dx.1 h).1
theorem RepL.get {σ:Env} {xs:List AV} {vs:List Value} (h:RepL σ xs vs) {i:Nat} {x:AV} (hx:xs[i]? = some x):∃ v,vs[i]? = some v∧Rep σ x v:=by
 obtain ⟨h1,h2⟩:=Dx.1 h
 have hi:i<vs.length:=by rw [← h1];exact (List.getElem?_eq_some_iff.1 hx).1
 exact ⟨vs[i],List.getElem?_eq_getElem hi,h2 i x _ hx (List.getElem?_eq_getElem hi)⟩
theorem RepL.take {σ:Env} {xs:List AV} {vs:List Value} (h:RepL σ xs vs) (n:Nat):RepL σ (xs.take n) (vs.take n):=by
 obtain ⟨h1,h2⟩:=Dx.1 h
 refine Dx.2 ⟨by simp [h1],fun i x v hx hv=>?_⟩
 simp only [List.getElem?_take] at hx hv
 split at hx
 ·rename_i hi;rw [if_pos hi] at hv;exact h2 i x v hx hv
 ·simp at hx
theorem RepL.drop {σ:Env} {xs:List AV} {vs:List Value} (h:RepL σ xs vs) (n:Nat):RepL σ (xs.drop n) (vs.drop n):=by
 obtain ⟨h1,h2⟩:=Dx.1 h
 refine Dx.2 ⟨by simp [h1],fun i x v hx hv=>?_⟩
 simp only [List.getElem?_drop] at hx hv
 exact h2 _ x v hx hv
theorem RepL.append {σ:Env} {xs ys:List AV} {vs us:List Value} (h:RepL σ xs vs) (k:RepL σ ys us):RepL σ (xs++ys) (vs++us):=by
 obtain ⟨h1,h2⟩:=Dx.1 h
 obtain ⟨k1,k2⟩:=Dx.1 k
 refine Dx.2 ⟨by simp [h1,k1],fun i x v hx hv=>?_⟩
 rw [List.getElem?_append] at hx hv
 rw [h1] at hx
 split at hx
 ·rename_i hi;rw [if_pos hi] at hv;exact h2 i x v hx hv
 ·rename_i hi;rw [if_neg hi] at hv;exact k2 _ x v hx hv
theorem RepL.set {σ:Env} {xs:List AV} {vs:List Value} (h:RepL σ xs vs) {n:Nat} {y:AV} {u:Value} (hy:Rep σ y u):RepL σ (xs.set n y) (vs.set n u):=by
 obtain ⟨h1,h2⟩:=Dx.1 h
 refine Dx.2 ⟨by simp [h1],fun i x v hx hv=>?_⟩
 rw [List.getElem?_set] at hx hv
 by_cases hni:n=i
 ·subst hni
  by_cases hlt:n<xs.length
  ·have hlt':n<vs.length:=h1 ▸ hlt
   simp [hlt] at hx;simp [hlt'] at hv;subst hx;subst hv;exact hy
  ·simp [hlt] at hx
 ·simp [hni] at hx hv;exact h2 i x v hx hv
theorem RepL.map {σ:Env} {β:Type} {f:β→AV} {g:β→Value} (h:∀ b,Rep σ (f b) (g b)):∀ (l:List β),RepL σ (l.map f) (l.map g)
 | []=>by simp [RepL]
 | b::l=>by simp only [List.map_cons,RepL];exact ⟨g b,l.map g,rfl,h b,RepL.map h l⟩
theorem M8 {k:IntKind} {n:Int}:I6 k n=true ↔ inK k n:=by simp [I6,inK]
theorem B28 (k:IntKind) (n:Int):inK k (k.wrap n):=by
 unfold inK IntKind.wrap
 cases k <;> simp [IntKind.bits,IntKind.signed,Iz,B7] <;> (try split) <;> omega
theorem Ev {σ:Env} {k:IntKind} {n:Int} (h:inK k n):Rep σ (.int k n) (.int k n):=by simp only [Rep];exact ⟨trivial,h⟩
theorem O9 {σ:Env} (k:IntKind) (n:Int):Rep σ (.int k (k.wrap n)) (.int k (k.wrap n)):=Ev (B28 k n)
theorem Aua {σ:Env} (b:Bool):Rep σ (.bool b) (.bool b):=by simp only [Rep]
theorem Zr (σ:Env) (v:Value):Rep σ (Li v) v:=by
 cases v with
 | func f a c =>
  simp only [Li]
  cases h:a.isEmpty&&c.isEmpty with
  | true =>
   simp at h
   simp only [cond_true,Rep]
   exact ⟨[],[],by simp [RepL],by simp [RepL],by simp [h.1,h.2]⟩
  | false=>simp [Rep]
 | pointer a=>cases a <;> simp [Li,Rep]
 | int k n =>
  simp only [Li]
  cases h:I6 k n with
  | true=>exact Ev (M8.1 h)
  | false=>simp [Rep]
 | _=>simp [Li,Rep]
theorem Oa (σ:Env) (l:List Value):RepL σ (l.map Li) l:=by
 have:=RepL.map (σ:=σ) (f:=Li) (g:=id) (fun v=>Zr σ v) l
 simpa using this
theorem Aie (σ:Env) (v:Value):Rep σ (ofV v) v:=by
 cases v with
 | agg cs=>simp only [ofV,Rep];exact ⟨cs.toList,Oa σ _,by simp⟩
 | _=>simp only [ofV];exact Zr σ _
theorem Aif {m:Nat→Nat→Option Value} {c:TC} {xs:List (TCT c)} {v:Value} (h:RepD m (.sl c) xs [v]):v.oneCell'=true:=by
 simp only [RepD,List.cons.injEq,and_true] at h
 obtain ⟨v',rfl,h⟩:=h
 rcases h with ⟨rfl,_⟩ | ⟨_,_,_,_,_,rfl,_⟩ <;> rfl
theorem A9v {σ:Env} {x:AV} {v:Value} (h:Rep σ x v) (ho:one x=true):v.oneCell'=true:=by
 cases x with
 | ro c xs=>simp only [Rep] at h;exact Aif h
 | rop c x col=>simp only [Rep] at h;obtain ⟨_,_,_,rfl,_⟩:=h;rfl
 | own id=>simp only [Rep] at h;obtain ⟨_,_,_,_,rfl⟩:=h;rfl
 | mp id=>simp only [Rep] at h;obtain ⟨_,_,rfl⟩:=h;rfl
 | yld id=>simp only [Rep] at h;obtain ⟨_,_,rfl⟩:=h;rfl
 | stp id=>simp only [Rep] at h;obtain ⟨_,_,rfl⟩:=h;rfl
 | ifc t x=>simp only [Rep] at h;obtain ⟨_,_,rfl⟩:=h;rfl
 | bool b=>simp only [Rep] at h;subst h;rfl
 | int k n=>simp only [Rep] at h;obtain ⟨rfl,_⟩:=h;rfl
 | ptr id row st col=>simp only [Rep] at h;obtain ⟨_,_,rfl⟩:=h;rfl
 | nilp=>simp only [Rep] at h;subst h;rfl
 | sl id off st len cap=>simp only [Rep] at h;obtain ⟨_,_,_,_,rfl⟩:=h;rfl
 | val u=>simp only [Rep] at h;subst h;exact ho
 | fn f a c=>simp only [Rep] at h;obtain ⟨_,_,_,_,rfl⟩:=h;rfl
 | agg cs=>simp [one] at ho
 | tup cs=>simp [one] at ho
 | top=>simp [one] at ho
theorem Jv {v:Value} (h:v.oneCell'=true):v.cells=#[v]:=by cases v <;> first | rfl | (simp [Value.oneCell'] at h)
theorem Ut {σ:Env} {x:AV} {v:Value} {cs:List AV} (h:Rep σ x v) (hc:O5 x=some cs):RepL σ cs v.cells.toList:=by
 have key:∀ (y:AV),Rep σ y v→(bif one y then some [y] else none)=some cs→RepL σ cs v.cells.toList:=by
  intro y hy hh
  cases ho:one y with
  | false=>simp [ho] at hh
  | true =>
   simp [ho] at hh;subst hh
   rw [Jv (A9v hy ho)]
   simp only [RepL]
   exact ⟨v,[],by simp,hy,rfl⟩
 cases x with
 | agg xs =>
  simp [O5] at hc;subst hc
  simp only [Rep] at h
  obtain ⟨vs,h1,rfl⟩:=h
  simpa [Value.cells] using h1
 | _=>exact key _ h (by simpa [O5] using hc)
theorem Jw {σ:Env}:∀ (ys:List AV) (us:List Value) (off:Nat) (xs:List AV) (vs:List Value),RepL σ xs vs→RepL σ ys us→RepL σ (Bc xs off ys) (Bc vs off us)
 | [],us,off,xs,vs,h,k=>by simp only [RepL] at k;subst k;simpa [Bc] using h
 | y::ys,us,off,xs,vs,h,k=>by
  simp only [RepL] at k
  obtain ⟨u,us',rfl,k1,k2⟩:=k
  simp only [Bc,Bp]
  exact Jw ys us' (off+1) _ _ (h.set k1) k2
theorem Ck {β:Type}:∀ (ys:List β) (off:Nat) (xs:List β),(Bc xs off ys).length=xs.length
 | [],_,_=>rfl
 | y::ys,off,xs=>by simp [Bc,Bp,Ck ys]
theorem Zs:∀ (l:List Value) (off k:Nat) (cur:Array Value),(l.zipIdx k).foldl (fun cs (p:Value×Nat)=>cs.setIfInBounds (off+p.2) p.1) cur=(Bc cur.toList (off+k) l).toArray
 | [],off,k,cur=>by simp [Bc]
 | v::l,off,k,cur=>by
  simp only [List.zipIdx_cons,List.foldl_cons,Bc,Bp]
  rw [Zs l off (k+1)]
  simp [Nat.add_assoc]
theorem Ss {σ:Env} (place:Nat→Option (Nat×Nat)):∀ (parts:List (Nat×AV)) (qs:List (Nat×Value)) (xs:List AV) (vs:List Value) (r:List AV),RepL σ xs vs →
  (parts.length=qs.length∧∀ (i:Nat) (p:Nat×AV) (q:Nat×Value),parts[i]? = some p→qs[i]? = some q→p.1=q.1∧Rep σ p.2 q.2) →
  Zf place xs parts=some r→∃ us,Instr.fill place vs.toArray qs=some us.toArray∧RepL σ r us∧us.length=vs.length
 | [],qs,xs,vs,r,h,hp,hf=>by
  have:qs=[]:=List.eq_nil_of_length_eq_zero (by simpa using hp.1.symm)
  subst this
  simp [Zf] at hf;subst hf
  exact ⟨vs,by simp [Instr.fill],h,rfl⟩
 | (i,x)::parts,qs,xs,vs,r,h,hp,hf=>by
  cases qs with
  | nil=>simp at hp
  | cons q qs =>
   obtain ⟨j,v⟩:=q
   have h0:=hp.2 0 (i,x) (j,v) rfl rfl
   simp only at h0
   obtain ⟨rfl,hx⟩:=h0
   simp only [Zf] at hf
   cases hpl:place i with
   | none=>simp [hpl] at hf
   | some os =>
    obtain ⟨off,size⟩:=os
    cases hc:O5 x with
    | none=>simp [hpl,hc] at hf
    | some cs =>
     simp only [hpl,hc] at hf
     have hcr:=Ut hx hc
     have hl:=hcr.length
     cases hb:(Nat.beq (Bz cs) size&&Nat.ble (off+Bz cs) (Bz xs)) with
     | false=>simp [hb] at hf
     | true =>
      simp only [hb,cond_true] at hf
      simp only [Bool.and_eq_true,Nat.beq_eq,Nat.ble_eq,Bg] at hb
      have hlen:=h.length
      have ih:=Ss place parts qs (Bc xs off cs) (Bc vs off v.cells.toList) r (Jw _ _ _ _ _ h hcr)
       ⟨by simpa using hp.1,fun k p q hp' hq'=>hp.2 (k+1) p q (by simpa using hp') (by simpa using hq')⟩ hf
      obtain ⟨us,hu1,hu2,hu3⟩:=ih
      refine ⟨us,?_,hu2,by rw [hu3,Ck]⟩
      simp only [Instr.fill,hpl]
      have hsz:v.cells.size=cs.length:=by rw [hl];simp
      have hvs:vs.toArray.size=xs.length:=by simp [hlen]
      rw [if_neg (by simp only [hsz,hvs];simp;exact ⟨hb.1,hb.2⟩)]
      have hfold:v.cells.zipIdx.foldl (fun cs (p:Value×Nat)=>cs.setIfInBounds (off+p.2) p.1) vs.toArray=(Bc vs off v.cells.toList).toArray:=by
       have:=Zs v.cells.toList off 0 vs.toArray
       simp only [Nat.add_zero] at this
       rw [← this,← Array.foldl_toList]
       congr 1
       simp
      rw [hfold]
      exact hu1
mutual
theorem Ku {σ:Env}:∀ (c:TC) (x:TCT c) (vs:List Value),RepD σ.mem c x vs→RepL σ (enc c x) vs
 | .b,x,vs,h=>by simp only [RepD] at h;simp only [enc,RepL,Rep];exact ⟨_,_,h,rfl,rfl⟩
 | .i k,n,vs,h=>by simp only [RepD] at h;simp only [enc,RepL,Rep];exact ⟨_,_,h.1,⟨rfl,h.2⟩,rfl⟩
 | .s,x,vs,h=>by simp only [RepD] at h;simp only [enc,RepL,Rep];exact ⟨_,_,h,rfl,rfl⟩
 | .sl c,xs,vs,h=>by
  have h0:=h
  simp only [RepD] at h
  obtain ⟨v,rfl,_⟩:=h
  simp only [enc,RepL,Rep]
  exact ⟨v,[],rfl,h0,rfl⟩
 | .st cs,x,vs,h=>by simp only [RepD] at h;simp only [enc];exact encs_rep cs x vs h
theorem encs_rep {σ:Env}:∀ (cs:List TC) (x:TCTs cs) (vs:List Value),RepDs σ.mem cs x vs→RepL σ (encs cs x) vs
 | [],_,vs,h=>by simpa only [RepDs,encs,RepL] using h
 | c::cs,x,vs,h=>by
  simp only [RepDs] at h
  obtain ⟨a,b,rfl,h1,h2⟩:=h
  show RepL σ (enc c x.1++encs cs x.2) (a++b)
  exact (Ku c x.1 a h1).append (encs_rep cs x.2 b h2)
end
theorem Jx {c d:TC} {xs:List (TCT c)} {ys:List (TCT d)} (h:Dq c d xs=some ys) {Q:(e:TC)→List (TCT e)→Prop} (k:Q c xs):Q d ys:=by
 unfold Dq at h
 split at h
 ·rename_i hb
  have hcd:=TC.beq_eq c d hb
  subst hcd
  simp only [Option.some.injEq] at h
  subst h
  exact k
 ·simp at h
mutual
theorem A5t {σ:Env}:∀ (c:TC) (l:List AV) (vs:List Value) (x:TCT c) (r:List AV),dec c l=some (x,r)→RepL σ l vs→∃ a b,vs=a++b∧RepD σ.mem c x a∧RepL σ r b
 | .b,l,vs,x,r,h,k=>by
  simp only [dec] at h
  unfold Bfa at h
  split at h <;> simp at h
  obtain ⟨rfl,rfl⟩:=h
  simp only [RepL,Rep] at k
  obtain ⟨v,us,rfl,rfl,k2⟩:=k
  exact ⟨[_],us,rfl,by simp only [RepD],k2⟩
 | .i j,l,vs,x,r,h,k=>by
  simp only [dec] at h
  unfold Bfb at h
  split at h <;> try (simp at h;done)
  rename_i j' n l'
  cases hj:decide (j'=j) with
  | false=>simp [hj] at h
  | true =>
   simp only [hj,cond_true,Option.some.injEq,Prod.mk.injEq] at h
   obtain ⟨rfl,rfl⟩:=h
   have:=of_decide_eq_true hj
   subst this
   simp only [RepL,Rep] at k
   obtain ⟨v,us,rfl,⟨rfl,k1⟩,k2⟩:=k
   exact ⟨[_],us,rfl,by simp only [RepD];exact ⟨trivial,k1⟩,k2⟩
 | .s,l,vs,x,r,h,k=>by
  simp only [dec] at h
  unfold Bfc at h
  split at h <;> simp at h
  obtain ⟨rfl,rfl⟩:=h
  simp only [RepL,Rep] at k
  obtain ⟨v,us,rfl,rfl,k2⟩:=k
  exact ⟨[_],us,rfl,by simp only [RepD],k2⟩
 | .sl c,l,vs,x,r,h,k=>by
  simp only [dec] at h
  unfold B5h at h
  split at h <;> try (simp at h;done)
  ·rename_i d xs l'
   split at h
   ·rename_i ys hys
    simp only [Option.some.injEq,Prod.mk.injEq] at h
    obtain ⟨rfl,rfl⟩:=h
    simp only [RepL,Rep] at k
    obtain ⟨v,us,rfl,k1,k2⟩:=k
    exact ⟨[v],us,rfl,Jx hys (Q:=fun e zs=>RepD σ.mem (.sl e) zs [v]) k1,k2⟩
   ·simp at h
  ·rename_i l'
   simp only [Option.some.injEq,Prod.mk.injEq] at h
   obtain ⟨rfl,rfl⟩:=h
   simp only [RepL,Rep] at k
   obtain ⟨v,us,rfl,rfl,k2⟩:=k
   exact ⟨[_],us,rfl,by simp only [RepD];exact ⟨_,rfl,.inl ⟨rfl,trivial⟩⟩,k2⟩
 | .st cs,l,vs,x,r,h,k=>by
  simp only [dec] at h
  obtain ⟨a,b,e,k1,k2⟩:=decs_rep cs l vs x r h k
  exact ⟨a,b,e,by simp only [RepD];exact k1,k2⟩
theorem decs_rep {σ:Env}:∀ (cs:List TC) (l:List AV) (vs:List Value) (x:TCTs cs) (r:List AV),decs cs l=some (x,r)→RepL σ l vs→∃ a b,vs=a++b∧RepDs σ.mem cs x a∧RepL σ r b
 | [],l,vs,x,r,h,k=>by
  simp only [decs,Option.some.injEq,Prod.mk.injEq,true_and] at h
  subst h
  exact ⟨[],vs,rfl,by simp only [RepDs],k⟩
 | c::cs,l,vs,x,r,h,k=>by
  simp only [decs] at h
  split at h
  ·rename_i y l' hy
   split at h
   ·rename_i z l'' hz
    simp only [Option.some.injEq,Prod.mk.injEq] at h
    obtain ⟨rfl,rfl⟩:=h
    obtain ⟨a,b,rfl,k1,k2⟩:=A5t c l vs y l' hy k
    obtain ⟨a',b',rfl,k3,k4⟩:=decs_rep cs l' b z _ hz k2
    exact ⟨a++a',b',by simp,by simp only [RepDs];exact ⟨a,a',rfl,k1,k3⟩,k4⟩
   ·simp at h
  ·simp at h
end
theorem Mt {σ:Env} {c:TC} {l:List AV} {vs:List Value} {x:TCT c} (h:dec c l=some (x,[])) (k:RepL σ l vs):RepD σ.mem c x vs:=by
 obtain ⟨a,b,rfl,k1,k2⟩:=A5t c l vs x [] h k
 simp only [RepL] at k2
 subst k2
 simpa using k1
theorem J0 {σ:Env} {c:TC}:∀ (n:Nat) (l:List AV) (vs:List Value) (xs:List (TCT c)),Kr c n l=some xs→RepL σ l vs→l.length=n*c.size→LR (RepD σ.mem c) xs vs∧xs.length=n
 | 0,l,vs,xs,h,k,hl=>by
  simp only [Kr,Option.some.injEq] at h
  subst h
  have hl0:l=[]:=List.eq_nil_of_length_eq_zero (by simpa using hl)
  subst hl0
  simp only [RepL] at k
  exact ⟨k,rfl⟩
 | n+1,l,vs,xs,h,k,hl=>by
  simp only [Kr] at h
  split at h
  ·rename_i x l' hx
   split at h
   ·rename_i ys hys
    simp only [Option.some.injEq] at h
    subst h
    obtain ⟨a,b,rfl,k1,k2⟩:=A5t c l vs x l' hx k
    have e1:=RepD.len c x a k1
    have e2:=k.length
    have e3:=k2.length
    have hl':l'.length=n*c.size:=by
     simp only [List.length_append,Nat.add_mul,Nat.one_mul] at e2 hl
     omega
    obtain ⟨k3,k4⟩:=J0 n l' b ys hys k2 hl'
    exact ⟨⟨a,b,rfl,k1,k3⟩,by simp [k4]⟩
   ·simp at h
  ·simp at h
theorem Zt {σ:Env} (c:TC) (x:TCT c) (v:Value) (h:RepD σ.mem c x v.cells.toList) (hc:(∃ cs,c=.st cs)→∃ vs:Array Value,v=.agg vs) (hc':(∀ cs,c≠.st cs)→v.oneCell'=true):Rep σ (G8 c x) v:=by
 cases c with
 | st cs =>
  obtain ⟨vs,rfl⟩:=hc ⟨cs,rfl⟩
  simp only [RepD] at h
  simp only [G8,Rep]
  exact ⟨vs.toList,encs_rep cs x _ h,by simp⟩
 | _ =>
  rw [Jv (hc' (by simp))] at h
  have:=Ku _ x _ h
  simp only [enc,RepL,List.cons.injEq] at this
  obtain ⟨v',us,⟨rfl,_⟩,hr,_⟩:=this
  exact hr
theorem Su {σ:Env} {c:TC} {x:AV} {v:Value} {y:TCT c} (h:Nr c x=some y) (k:Rep σ x v):RepD σ.mem c y v.cells.toList∧((∃ cs,c=.st cs)→∃ vs:Array Value,v=.agg vs)∧((∀ cs,c≠.st cs)→v.oneCell'=true):=by
 cases c with
 | st cs =>
  simp only [Nr] at h
  unfold B5i at h
  split at h <;> try (simp at h;done)
  ·rename_i l
   split at h
   ·rename_i z hz
    simp only [Option.some.injEq] at h
    subst h
    simp only [Rep] at k
    obtain ⟨vs,k1,rfl⟩:=k
    obtain ⟨a,b,rfl,k2,k3⟩:=decs_rep _ l vs z [] hz k1
    simp only [RepL] at k3
    subst k3
    refine ⟨?_,fun _=>⟨_,rfl⟩,fun h=>absurd rfl (h _)⟩
    simp only [RepD]
    simpa [Value.cells] using k2
   ·simp at h
 | _ =>
  simp only [Nr,Au2] at h
  split at h <;> try (simp at h;done)
  rename_i z hz
  simp only [Option.some.injEq] at h
  subst h
  have hk:RepL σ [x] [v]:=by simp only [RepL];exact ⟨v,[],rfl,k,rfl⟩
  have hd:=Mt hz hk
  have h1:v.oneCell'=true:=by
   simp only [RepD,List.cons.injEq,and_true] at hd
   first
    | (rw [hd];rfl)
    | (rw [hd.1];rfl)
    | (
      obtain ⟨v',rfl,hd⟩:=hd
      rcases hd with ⟨rfl,_⟩ | ⟨_,_,_,_,_,rfl,_⟩ <;> rfl)
  refine ⟨?_,(by rintro ⟨cs,h⟩;cases h),fun _=>h1⟩
  rw [Jv h1]
  exact hd
section
variable {P:Program}
theorem Br {t:TypeId} {s:Nat} (h:Cn P t=some s) (w:World):(sizeOf t).run P w=.ok s w:=by
 unfold Cn at h
 cases hi:P.info? t with
 | none=>simp [hi] at h
 | some i=>simp [hi] at h;simp [sizeOf,typeInfo,hi,h]
theorem Mv {t:TypeId} {b:Bool} (h:Mq P t=some b) (w:World):(isAgg t).run P w=.ok b w:=by
 unfold Mq at h
 unfold isAgg
 rw [Sem.run_bind]
 cases hu:P.underlying t with
 | none=>simp [hu] at h
 | some d =>
  rw [run_underlying hu w]
  cases d <;> simp [hu] at h <;> subst h <;> rfl
theorem Sv {σ:Env} {t:TypeId} {z:List AV} (h:M5 P t=some z) (w:World):∃ v,(zeroValue t).run P w=.ok v w∧RepL σ z v.cells.toList:=by
 unfold M5 at h
 cases hi:P.info? t with
 | none=>simp [hi] at h
 | some i =>
  cases hz:i.zero with
  | none=>simp [hi,hz] at h
  | some v =>
   simp [hi,hz] at h;subst h
   exact ⟨v,by simp [zeroValue,typeInfo,hi,hz],Oa σ _⟩
theorem J1 {σ:Env} {t:TypeId} {cs:List AV} {vs:List Value} {off:Nat} {x:AV} (h:RepL σ cs vs) (hp:Jg P t cs off=some x) (w:World):∃ v,(part t vs.toArray off).run P w=.ok v w∧Rep σ x v:=by
 unfold Jg at hp
 cases ha:Mq P t with
 | none=>simp [ha] at hp
 | some b =>
  unfold part
  rw [Sem.run_bind,Mv ha w]
  cases b with
  | true =>
   cases hs:Cn P t with
   | none=>simp [ha,hs] at hp
   | some s =>
    simp only [ha,hs] at hp
    cases hb:Nat.ble (off+s) (Bz cs) with
    | false=>simp [hb] at hp
    | true =>
     simp [hb,E9,Ea] at hp
     subst hp
     simp only [Result.andThen_ok,if_true,Sem.run_bind,Br hs w,Sem.run_pure]
     refine ⟨_,rfl,?_⟩
     simp only [Rep]
     refine ⟨(vs.drop off).take s,(h.drop off).take s,?_⟩
     congr 1
     simp
  | false =>
   simp only [ha,E4] at hp
   obtain ⟨v,hv,hr⟩:=h.get hp
   refine ⟨v,?_,hr⟩
   simp [hv]
end
end V
end Go.Proofs.YtlangijnealfjaaGreat
namespace Go.Proofs.YtlangijnealfjaaGreat
open Go.RowKit
namespace V
section
variable {P:Program}
theorem Aig {σ:Env} {d:Nat} {eq:TypeId→AV→AV→Option Bool} (H:∀ (t:TypeId) (x y:AV) (p:Bool) (u v:Value) (w:World),eq t x y=some p→Rep σ x u→Rep σ y v→(Op.equalIn d t u v).run P w=.ok p w):∀ (fs:List Field) (xs ys:List AV) (p:Bool) (us vs:List Value) (w:World),eqF P eq fs xs ys=some p→RepL σ xs us→RepL σ ys vs→(Op.eqFields d us.toArray vs.toArray fs).run P w=.ok p w
 | [],_,_,p,_,_,w,h,_,_=>by simp [eqF] at h;subst h;rfl
 | f::fs,xs,ys,p,us,vs,w,h,hx,hy=>by
  unfold eqF at h
  by_cases hn:f.name = "_"
  ·simp [hn] at h
  ·simp only [hn,decide_false,cond_false] at h
   cases ha:Jg P f.type xs f.offset with
   | none=>simp [ha] at h
   | some a =>
    cases hb:Jg P f.type ys f.offset with
    | none=>simp [ha,hb] at h
    | some b =>
     simp only [ha,hb] at h
     cases hq:eq f.type a b with
     | none=>simp [hq] at h
     | some q =>
      cases hr:eqF P eq fs xs ys with
      | none=>simp [hq,hr] at h
      | some r =>
       simp [hq,hr] at h
       obtain ⟨a',h1,h2⟩:=J1 hx ha w
       obtain ⟨b',h3,h4⟩:=J1 hy hb w
       have h5:=H f.type a b q a' b' w hq h2 h4
       have h6:=Aig H fs xs ys r us vs w hr hx hy
       simp only [Op.eqFields,ne_eq,hn,not_false_eq_true,if_true,Sem.run_bind,h1,h3,h5,Result.andThen_ok,Sem.run_ite,h6]
       subst h
       cases q <;> simp
theorem Aub {a b:ByteArray} (h:a.data.toList=b.data.toList):a=b:=by
 obtain ⟨⟨x⟩⟩:=a
 obtain ⟨⟨y⟩⟩:=b
 simp at h
 rw [h]
theorem A3b (a b:ByteArray):(a==b)=(a.data.toList==b.data.toList):=by
 obtain ⟨x⟩:=a
 obtain ⟨y⟩:=b
 show (x==y)=(x.toList==y.toList)
 rw [Bool.eq_iff_iff,beq_iff_eq,beq_iff_eq]
 exact ⟨fun h=>by rw [h],fun h=>Array.ext' h⟩
theorem Aih {σ:Env} {d c:Nat} {e:TypeId} {eq:TypeId→AV→AV→Option Bool} (H:∀ (t:TypeId) (x y:AV) (p:Bool) (u v:Value) (w:World),eq t x y=some p→Rep σ x u→Rep σ y v→(Op.equalIn d t u v).run P w=.ok p w):∀ (is:List Nat) (xs ys:List AV) (p:Bool) (us vs:List Value) (w:World),eqI P eq e c xs ys is=some p→RepL σ xs us→RepL σ ys vs→(Op.eqItems d e c us.toArray vs.toArray is).run P w=.ok p w
 | [],_,_,p,_,_,w,h,_,_=>by simp [eqI] at h;subst h;rfl
 | i::is,xs,ys,p,us,vs,w,h,hx,hy=>by
  unfold eqI at h
  cases ha:Jg P e xs (i*c) with
  | none=>simp [ha] at h
  | some a =>
   cases hb:Jg P e ys (i*c) with
   | none=>simp [ha,hb] at h
   | some b =>
    simp only [ha,hb] at h
    cases hq:eq e a b with
    | none=>simp [hq] at h
    | some q =>
     cases hr:eqI P eq e c xs ys is with
     | none=>simp [hq,hr] at h
     | some r =>
      simp [hq,hr] at h
      obtain ⟨a',h1,h2⟩:=J1 hx ha w
      obtain ⟨b',h3,h4⟩:=J1 hy hb w
      have h5:=H e a b q a' b' w hq h2 h4
      have h6:=Aih H is xs ys r us vs w hr hx hy
      simp only [Op.eqItems,Sem.run_bind,h1,h3,h5,Result.andThen_ok,Sem.run_ite,h6]
      subst h
      cases q <;> simp
theorem Sw {σ:Env}:∀ (d:Nat) (t:TypeId) (x y:AV) (p:Bool) (u v:Value) (w:World),eqA P d t x y=some p→Rep σ x u→Rep σ y v→(Op.equalIn d t u v).run P w=.ok p w
 | 0,_,_,_,_,_,_,_,h,_,_=>by simp [eqA] at h
 | d+1,t,x,y,p,u,v,w,h,hx,hy=>by
  unfold eqA at h
  split at h
  ·rename_i a b hu
   simp only [Rep] at hx hy
   subst hx;subst hy
   simp at h;subst h
   exact run_equalIn_bool' w d t _ _ hu
  ·rename_i k0 k a k' b hu
   simp only [Rep] at hx hy
   obtain ⟨rfl,_⟩:=hx
   obtain ⟨rfl,_⟩:=hy
   by_cases hk:k=k'
   ·subst hk
    simp at h;subst h
    exact run_equalIn_int w d t k _ _ _ hu
   ·simp [hk] at h
  ·rename_i a b hu
   simp only [Rep] at hx hy
   subst hx;subst hy
   simp only [Option.some.injEq] at h;subst h
   rw [← A3b]
   simp [Op.equalIn,run_underlying hu]
  ·rename_i fs xs ys hu
   simp only [Rep] at hx hy
   obtain ⟨us,hx1,rfl⟩:=hx
   obtain ⟨vs,hy1,rfl⟩:=hy
   cases hp:P.stoodInHeld t with
   | true=>simp [hp] at h
   | false =>
    simp only [hp,cond_false] at h
    have hf:P.fieldsOf t=fs:=by simp [Program.fieldsOf,hu]
    rw [run_equalIn_struct w d t _ _ (by rw [hf];exact hu) hp,hf]
    exact Aig (Sw d) fs.toList xs ys p us vs w h hx1 hy1
  ·rename_i n e xs ys hu
   simp only [Rep] at hx hy
   obtain ⟨us,hx1,rfl⟩:=hx
   obtain ⟨vs,hy1,rfl⟩:=hy
   cases hi:P.info? e with
   | none=>simp [hi] at h
   | some inf =>
    simp only [hi] at h
    have hc:P.cellsOf e=inf.size:=by simp [Program.cellsOf,hi]
    rw [run_equalIn_array w d _ _ hu hi,hc]
    exact Aih (Sw d) (List.range n) xs ys p us vs w h hx1 hy1
  ·simp at h
end
structure VR (mem:Nat→Nat→Option Value) (c:TC) (x:TCT c) (v:Value):Prop where
 d:RepD mem c x v.cells.toList
 a:(∃ cs,c=.st cs)→∃ vs:Array Value,v=.agg vs
 o:(∀ cs,c≠.st cs)→v.oneCell'=true
theorem VR.rep {σ:Env} {c:TC} {x:TCT c} {v:Value} (h:VR σ.mem c x v):Rep σ (G8 c x) v:=Zt c x v h.d h.a h.o
theorem VR.of {σ:Env} {c:TC} {x:AV} {v:Value} {y:TCT c} (h:Nr c x=some y) (k:Rep σ x v):VR σ.mem c y v:=⟨(Su h k).1,(Su h k).2.1,(Su h k).2.2⟩
def RepDf (σ:Env):DfA→Deferred→Prop
 | .call f args cap,D=>∃ (us ks:List Value),RepL σ args us∧RepL σ cap ks∧D={ target:=.fn (.func f) ks.toArray,args:=us.toArray }
 | .mark id,D=>∃ b,σ id=some b∧D={ target:=.collected b,args:=#[] }
theorem RepDf.mono {σ τ:Env} (e:Ext σ τ) {d:DfA} {D:Deferred} (h:RepDf σ d D):RepDf τ d D:=by
 cases d with
 | call f args cap=>obtain ⟨us,ks,h1,h2,h3⟩:=h;exact ⟨us,ks,h1.mono e,h2.mono e,h3⟩
 | mark id=>obtain ⟨b,h1,h2⟩:=h;exact ⟨b,e.1 _ _ h1,h2⟩
def AOk (P:Program) (σ:Env) (w:World) (r:Result Next):Eff→Prop
 | .val x=>∃ v,r=.ok (.value v) w∧Rep σ x v
 | .load id row st col n agg=>(agg=false→n=1)∧∀ (b:Nat) (ty:TypeId) (vs:List Value),σ id=some b→w.heap[b]? = some (.cells vs.toArray ty (0,0))→row*st+col+n≤vs.length →
   r=.ok (.value (if agg then .agg ((vs.drop (row*st+col)).take n).toArray else vs.getD (row*st+col) undef)) w
 | .store id row st col xs=>∃ us,RepL σ xs us∧∀ (b:Nat) (ty:TypeId) (vs:List Value),σ id=some b→w.heap[b]? = some (.cells vs.toArray ty (0,0))→row*st+col+us.length≤vs.length →
   r=.ok .skip (w.setRow b (Bc vs (row*st+col) us).toArray)
 | .alloc blk mk=>∃ (us:List Value) (v:Value),RepL σ blk.cs us∧r=.ok (.value v) (w.alloc (.cells us.toArray blk.ty))∧∀ (τ:Env) (i:Nat),Ext σ τ→τ i=some w.heap.size→Rep τ (mk i) v
 | .list ty c xs=>∃ (us:List Value) (cap:Nat),r=.ok (.value (.slice (some ⟨w.heap.size,0,none⟩) xs.length cap)) (w.alloc (.cells us.toArray ty))∧us.length=cap*c.size∧xs.length≤cap∧cap≤maxLen∧0<c.size∧LR (RepD σ.mem c) xs (us.take (xs.length*c.size))
 | .listz ty c xs=>∃ (us:List Value) (cap:Nat),r=.ok (.value (.slice (some ⟨w.heap.size,0,none⟩) xs.length cap)) (w.drew.alloc (.cells us.toArray ty))∧us.length=cap*c.size∧xs.length≤cap∧cap≤maxLen∧0<c.size∧LR (RepD σ.mem c) xs (us.take (xs.length*c.size))
 | .app ty bytes st _ dst src=>∃ (t tr:TypeId) (v u:Value) (i:TypeInfo) (z:Value),Rep σ dst v∧Rep σ src u∧P.underlying t=some (.slice ty)∧P.info? ty=some i∧i.zero=some z∧i.size=st∧i.bytes=bytes∧z.cells.size=st∧0<st∧1≤bytes ∧
   r=(do pure (Next.value (← Builtin.append_ #[t,t] tr #[v,u])):Sem Next).run P w
 | .idx id st n=>∀ (b len cap:Nat),σ.sv id=some (.slice (some ⟨b,0,none⟩) len cap)→0≤n→n<len→r=.ok (.value (.pointer (some ⟨b,n.toNat*st,none⟩))) w
 | .len id=>∀ (a:Option Addr) (n cap:Nat),σ.sv id=some (.slice a n cap)→r=.ok (.value (.int .i64 n)) w
 | .call f xs=>∃ us:List Value,RepL σ xs us∧r=(callFunc f us.toArray).run P w
 | .round id xs=>∃ (us:List Value) (b:Nat),RepL σ xs us∧σ id=some b∧r=(Instr.yield b us.toArray).run P w
 | .dfr d=>∃ D,RepDf σ d D∧r=.ok (.defer D) w
 | .panic x=>∃ v,Rep σ x v∧r=.halt (.panic v) w
 | .test c a=>c=true→AOk P σ w r a
 | .alt c a b=>(c=true→AOk P σ w r a)∧(c=false→AOk P σ w r b)
 | .iter t=>r=.ok (.value (.pointer (some ⟨w.heap.size,0,none⟩))) (w.alloc (.stringIter t 0))
 | .nxt id=>∃ b,σ id=some b∧∀ (t:ByteArray) (pos:Nat),w.heap[b]? = some (.stringIter t pos) →
   (pos+1≤t.size→r=.ok (.value (.tuple #[.bool true,.int .i64 pos,.int .i32 (Utf8.decode t pos).1])) (w.putObj b (.stringIter t (pos+(Utf8.decode t pos).2)))) ∧
   (¬ pos+1≤t.size→r=.ok (.value (.tuple #[.bool false])) w)
 | .trunc id _ n=>∃ v,σ.sv id=some v∧(v=.slice none 0 0→n=0→r=.ok (.value (.slice none 0 0)) w) ∧
   ∀ (b len cap:Nat),v=.slice (some ⟨b,0,none⟩) len cap→0≤n→n≤cap→r=.ok (.value (.slice (some ⟨b,0,none⟩) n.toNat cap)) w
 | .mapNew _ _=>r=.ok (.value (.map (some w.heap.size))) (w.alloc (.map #[] 0))
 | .mapGet id kc vc z k ok=>∃ (b:Nat) (t kt vt:TypeId) (key zv:Value),σ id=some b∧P.underlying t=some (.map kt vt)∧Gh P 8 kt kc=true∧(zeroValue vt).run P w=.ok zv w∧VR σ.mem vc z zv∧VR σ.mem kc k key ∧
   r=(do pure (Next.value (← Instr.lookup t (.map (some b)) key ok)):Sem Next).run P w
 | .mapSet id kc vc k x=>∃ (b:Nat) (t kt vt:TypeId) (key v:Value),σ id=some b∧P.underlying t=some (.map kt vt)∧Gh P 8 kt kc=true∧VR σ.mem vc x v∧VR σ.mem kc k key ∧
   r=(do Instr.mapUpdate t (.map (some b)) key v;pure Next.skip:Sem Next).run P w
 | .mapEnt id kc vc z k=>∃ (b:Nat) (t kt vt:TypeId) (key zv:Value),σ id=some b∧P.underlying t=some (.map kt vt)∧Gh P 8 kt kc=true∧(zeroValue vt).run P w=.ok zv w∧VR σ.mem vc z zv∧VR σ.mem kc k key ∧
   r=(do pure (Next.value (← Instr.mapEntry t (.map (some b)) key)):Sem Next).run P w
 | .entSet id st vc x=>∃ (b:Nat) (t:TypeId) (n:Int) (v:Value),σ id=some b∧σ.sv st=some (.int .i64 n)∧VR σ.mem vc x v ∧
   r=(do Instr.entryStore t (.map (some b)) (.int .i64 n) v;pure Next.skip:Sem Next).run P w
 | .mapDel id kc k=>∃ (b:Nat) (ts:Array TypeId) (ty t kt vt:TypeId) (key:Value),σ id=some b∧ts[0]? = some t∧P.underlying t=some (.map kt vt)∧Gh P 8 kt kc=true∧VR σ.mem kc k key ∧
   r=(do pure (Next.value (← Builtin.delete_ ts ty #[.map (some b),key])):Sem Next).run P w
 | .mapClr id=>∃ (b:Nat) (ts:Array TypeId) (ty t kt vt:TypeId),σ id=some b∧ts[0]? = some t∧P.underlying t=some (.map kt vt) ∧
   r=(do pure (Next.value (← Builtin.clear_ ts ty #[.map (some b)])):Sem Next).run P w
 | _=>True
section
variable {P:Program}
theorem Mw {σ:Env} {w:World} {r:Result Next} {o:Option AV} (h:∀ x,o=some x→∃ v,r=.ok (.value v) w∧Rep σ x v):AOk P σ w r (Q7 o):=by
 cases o with
 | none=>simp [Q7,AOk]
 | some x=>simp only [Q7,AOk];exact h x rfl
theorem B29 {σ:Env} {w:World} {r:Result Next} {o:Option Bool} (h:∀ b,o=some b→r=.ok (.value (.bool b)) w):AOk P σ w r (B26 o):=by
 cases o with
 | none=>simp [B26,AOk]
 | some b=>simp only [B26,AOk,Rep];exact ⟨_,h b rfl,rfl⟩
theorem B2a {σ:Env} {w:World} {r:Result Next} {o:Option Bool} (h:∀ b,o=some b→r=.ok (.value (.bool (!b))) w):AOk P σ w r (B25 o):=by
 cases o with
 | none=>simp [B25,AOk]
 | some b=>simp only [B25,AOk,Rep];exact ⟨_,h b rfl,rfl⟩
theorem Q8 (a b:Int) (ha:0≤a):a % b≤a:=by
 have key:∀ c:Int,0<c→a % c≤a:=by
  intro c hc
  have h1:=Int.mul_ediv_add_emod a c
  have h2:=Int.mul_nonneg (Int.le_of_lt hc) (Int.ediv_nonneg ha (Int.le_of_lt hc))
  omega
 rcases Int.lt_trichotomy b 0 with h | h | h
 ·rw [← Int.emod_neg];exact key (-b) (by omega)
 ·subst h;simp
 ·exact key b h
theorem B2b {k:IntKind} {a b:Int} (h:inK k a):inK k (a.tmod b):=by
 have h0:Iz k≤0∧0≤B7 k:=by cases k <;> simp [Iz,B7]
 obtain ⟨h1,h2⟩:=h
 rcases Int.le_total 0 a with ha | ha
 ·have k1:=Int.tmod_nonneg b ha
  have k2:a.tmod b≤a:=by rw [Int.tmod_eq_emod_of_nonneg ha];exact Q8 a b ha
  exact ⟨by omega,by omega⟩
 ·have e:a.tmod b = -((-a).tmod b):=by rw [Int.neg_tmod,Int.neg_neg]
  have k1:=Int.tmod_nonneg b (show 0 ≤ -a by omega)
  have k2:(-a).tmod b ≤ -a:=by rw [Int.tmod_eq_emod_of_nonneg (by omega)];exact Q8 (-a) b (by omega)
  rw [e]
  exact ⟨by omega,by omega⟩
theorem Alc {σ:Env} {w:World} (t:TypeId) (op:BinOp) (k:IntKind) (a b:Int) (ha:inK k a) (h1:op≠.shl) (h2:op≠.shr) :
  AOk P σ w ((do pure (Next.value (← binOp op t (.int k a) (.int k b))):Sem Next).run P w) (Aec op k a b):=by
 cases op <;> simp only [Aec,AOk,ne_eq,reduceCtorEq,not_true_eq_false,not_false_eq_true] at h1 h2 ⊢
 all_goals first
  | (
    intro hb
    have hb':b≠0:=by simpa using hb
    first
     | (
      refine ⟨_,?_,O9 _ _⟩
      simp [binOp,Op.intDiv,hb'];done)
     | (
      refine ⟨_,?_,Ev (B2b ha)⟩
      simp [binOp,Op.intDiv,hb'];done))
  | (
    refine ⟨_,?_,O9 _ _⟩
    simp [binOp,Op.intArith,Op.intBits];done)
  | (
    refine ⟨_,?_,Aua _⟩
    simp [binOp,Op.intCmp];done)
  | trivial
theorem Zu (g o:Nat) (t:TypeId):∀ (us:List Value) (i:Nat) (cur:List Value) (w:World),w.heap[g]? = some (.cells cur.toArray t (0,0))→o+i+us.length≤cur.length→(∀ v ∈ us,v.oneCell'=true) →
  (storeCells ⟨g,o,none⟩ us i).run P w=.ok () (w.setRow g (Bc cur (o+i) us).toArray)
 | [],i,cur,w,hg,_,_=>by
  simp only [storeCells,Bc]
  rw [setRow_self w g cur.toArray t (0,0) hg]
  rfl
 | v::us,i,cur,w,hg,hl,h1=>by
  have hi:o+i<cur.length:=by simp at hl;omega
  have hadd:(⟨g,o,none⟩:Addr).add i=⟨g,o+i,none⟩:=by unfold Addr.add;split <;> simp_all
  have hcell:w.cell? ⟨g,o+i,none⟩=some cur[o+i]:=by simp [World.cell?,hg,hi]
  have hfro:w.frozen? ⟨g,o+i,none⟩=false:=by simp [World.frozen?,hg]
  have hst:(store ((⟨g,o,none⟩:Addr).add i) v).run P w=.ok () (w.setRow g (cur.set (o+i) v).toArray):=by
   rw [hadd,run_store P w _ v _ (h1 v (by simp)),hcell]
   simp [hfro,setCell_eq_setRow w g (o+i) cur.toArray t (0,0) v hg]
  have hh:=setRow_heap w g cur.toArray (cur.set (o+i) v).toArray t (0,0) hg
  have ih:=Zu g o t us (i+1) (cur.set (o+i) v) _ hh (by simp at hl ⊢;omega) (fun x hx=>h1 x (by simp [hx]))
  simp only [storeCells,Sem.run_bind,hst,Result.andThen_ok,ih,setRow_setRow,Bc,Bp]
  rfl
theorem A3c {w:World} {b off n:Nat} {ty:TypeId} {vs:List Value} (hw:w.heap[b]? = some (.cells vs.toArray ty (0,0))) (hl:off+n≤vs.length) :
  (loadCells ⟨b,off,none⟩ n).run P w=.ok ((vs.drop off).take n).toArray w:=by
 have hlen:((vs.drop off).take n).length=n:=by simp;omega
 have:=run_loadCells_list (P:=P) w ⟨b,off,none⟩ ((vs.drop off).take n) (fun j v hv=>by
  have hadd:(⟨b,off,none⟩:Addr).add j=⟨b,off+j,none⟩:=by unfold Addr.add;split <;> simp_all
  rw [hadd,cell_of_row w b (off+j) vs.toArray ty (0,0) hw]
  rw [List.getElem?_take] at hv
  split at hv
  ·rw [List.getElem?_drop] at hv;simpa using hv
  ·simp at hv)
 rw [hlen] at this
 exact this
theorem A3d {w:World} {b off:Nat} {ty:TypeId} {vs:List Value} (hw:w.heap[b]? = some (.cells vs.toArray ty (0,0))) (hl:off+1≤vs.length) :
  (load ⟨b,off,none⟩).run P w=.ok (vs.getD off undef) w:=by
 rw [run_load,cell_of_row w b off vs.toArray ty (0,0) hw]
 simp [show off<vs.length by omega,List.getD]
theorem B2c {σ:Env} {xs:List AV} {vs:List Value} (h:RepL σ xs vs) (ho:xs.all one=true):∀ v ∈ vs,v.oneCell'=true:=by
 intro v hv
 obtain ⟨i,hi,rfl⟩:=List.getElem_of_mem hv
 have hx:i<xs.length:=by rw [h.length];exact hi
 exact A9v ((Dx.1 h).2 i xs[i] vs[i] (List.getElem?_eq_getElem hx) (List.getElem?_eq_getElem hi)) (List.all_eq_true.1 ho _ (List.getElem_mem hx))
variable {σ:Env} {w:World} {a:Go.Act} {s:St}
def MemOk (mem:Nat→Nat→Option Value) (w:World):Prop:=∀ (b o:Nat) (v:Value),mem b o=some v→w.cell? ⟨b,o,none⟩=some v
theorem Ald {mem:Nat→Nat→Option Value} (hm:MemOk mem w) {b o col n:Nat} {vs:List Value} (h:Reads mem b o vs) (hl:col+n≤vs.length) :
  (loadCells ⟨b,o+col,none⟩ n).run P w=.ok ((vs.drop col).take n).toArray w:=by
 have hlen:((vs.drop col).take n).length=n:=by simp;omega
 have:=run_loadCells_list (P:=P) w ⟨b,o+col,none⟩ ((vs.drop col).take n) (fun j v hv=>by
  have hadd:(⟨b,o+col,none⟩:Addr).add j=⟨b,o+(col+j),none⟩:=by unfold Addr.add;split <;> simp_all [Nat.add_assoc]
  rw [hadd]
  refine hm _ _ _ (h _ _ ?_)
  rw [List.getElem?_take] at hv
  split at hv
  ·rw [List.getElem?_drop] at hv;simpa using hv
  ·simp at hv)
 rw [hlen] at this
 exact this
theorem Ale {mem:Nat→Nat→Option Value} (hm:MemOk mem w) {b o col:Nat} {vs:List Value} {v:Value} (h:Reads mem b o vs) (hl:vs[col]? = some v) :
  (load ⟨b,o+col,none⟩).run P w=.ok v w:=by
 rw [run_load,hm _ _ _ (h _ _ hl)]
theorem Auc (hm:MemOk σ.mem w) (hρ:∀ x,Rep σ (s.eval x) (a.eval x)) (o:Oper) (t:TypeId) (x:Operand) (hop:o.op=.load t x):AOk P σ w ((execOp a.eval o).run P w) (eff P (.load t x) s.eval):=by
 have hx:=hρ x
 simp only [eff]
 split
 ·rename_i id row st col n h1 h2 h3
  rw [h1] at hx
  simp only [Rep] at hx
  obtain ⟨b,hb,hav⟩:=hx
  simp only [AOk]
  refine ⟨by simp,fun b' ty vs hσ hw hl=>?_⟩
  rw [hb] at hσ;cases hσ
  simp [execOp,hop,hav,Instr.loadAt,Instr.sureAddr,loadVar,Mv h2,Br h3,A3c hw hl]
 ·rename_i id row st col h1 h2
  rw [h1] at hx
  simp only [Rep] at hx
  obtain ⟨b,hb,hav⟩:=hx
  simp only [AOk]
  refine ⟨by simp,fun b' ty vs hσ hw hl=>?_⟩
  rw [hb] at hσ;cases hσ
  have:=A3d (P:=P) hw hl
  simp only [execOp,hop,hav,Instr.loadAt,Instr.sureAddr,loadVar,Sem.run_bind,Sem.run_pure,Result.andThen_ok,Mv h2,Bool.false_eq_true,if_false,this]
 ·rename_i c x col n h1 h2 h3
  cases hb:Nat.ble (col+n) c.size with
  | false=>simp only [cond_false,AOk]
  | true =>
   rw [h1] at hx
   simp only [Rep] at hx
   obtain ⟨b,o',vs,hav,hr,hd⟩:=hx
   have hlen:=RepD.len _ _ _ hd
   simp only [Nat.ble_eq] at hb
   have:=Ald (P:=P) hm hr (show col+n≤vs.length by omega)
   simp only [cond_true,AOk]
   refine ⟨.agg ((vs.drop col).take n).toArray,by simp [execOp,hop,hav,Instr.loadAt,Instr.sureAddr,loadVar,Mv h2,Br h3,this],?_⟩
   simp only [Rep,E9,Ea]
   exact ⟨_,((Ku _ _ _ hd).drop _).take _,rfl⟩
 ·rename_i c x col h1 h2
  rw [h1] at hx
  simp only [Rep] at hx
  obtain ⟨b,o',vs,hav,hr,hd⟩:=hx
  refine Mw fun y hy=>?_
  rw [E4] at hy
  obtain ⟨v,hv1,hv2⟩:=(Ku _ _ _ hd).get hy
  have:=Ale (P:=P) hm hr hv1
  refine ⟨v,?_,hv2⟩
  simp only [execOp,hop,hav,Instr.loadAt,Instr.sureAddr,loadVar,Sem.run_bind,Sem.run_pure,Result.andThen_ok,Mv h2,Bool.false_eq_true,if_false,this]
 ·simp only [AOk]
theorem Alf (hρ:∀ x,Rep σ (s.eval x) (a.eval x)) (o:Oper) (t:TypeId) (x y:Operand) (hop:o.op=.store t x y):AOk P σ w ((execOp a.eval o).run P w) (eff P (.store t x y) s.eval):=by
 have hx:=hρ x
 have hy:=hρ y
 simp only [eff]
 split
 ·rename_i id row st col cs n h1 h2 h3
  cases hb:(Nat.beq (Bz cs) n&&cs.all one) with
  | false=>simp only [cond_false,AOk]
  | true =>
   simp only [Bool.and_eq_true,Nat.beq_eq,Bg] at hb
   rw [h1] at hx
   simp only [Rep] at hx
   obtain ⟨b,hb1,hav⟩:=hx
   have hcr:=Ut hy h2
   simp only [cond_true,AOk]
   refine ⟨_,hcr,fun b' ty vs hσ hw hl=>?_⟩
   rw [hb1] at hσ;cases hσ
   have hsz:(a.eval y).cells.size=n:=by have:=hcr.length;simp at this;omega
   have h5:=Zu (P:=P) b (row*st+col) ty (a.eval y).cells.toList 0 vs w hw (by simpa using hl) (B2c hcr hb.2)
   simp only [execOp,hop,hav,Instr.storeAt,Instr.sureAddr,storeVar,Sem.run_bind,Sem.run_pure,Result.andThen_ok,Br h3,hsz,ne_eq,not_true_eq_false,if_false,h5,Nat.add_zero]
 ·simp only [AOk]
end
end V
end Go.Proofs.YtlangijnealfjaaGreat
namespace Go.Proofs.YtlangijnealfjaaGreat
open Go.RowKit
namespace V
section
variable {P:Program} {σ:Env} {w:World} {a:Go.Act} {s:St}
theorem Sx (hρ:∀ x,Rep σ (s.eval x) (a.eval x)) (l:List Operand):RepL σ (l.map s.eval) (l.map a.eval):=RepL.map hρ l
theorem Alg (hρ:∀ x,Rep σ (s.eval x) (a.eval x)) (o:Oper) (t:TypeId) (parts:Array (Nat×Operand)) (hop:o.op=.build t parts):AOk P σ w ((execOp a.eval o).run P w) (eff P (.build t parts) s.eval):=by
 simp only [eff]
 refine Mw fun x hx=>?_
 have hpl:(parts.toList.map fun p=>(p.1,s.eval p.2)).length=(parts.map fun (i,x)=>(i,a.eval x)).toList.length∧∀ (i:Nat) (p:Nat×AV) (q:Nat×Value),(parts.toList.map fun p=>(p.1,s.eval p.2))[i]? = some p→(parts.map fun (i,x)=>(i,a.eval x)).toList[i]? = some q→p.1=q.1∧Rep σ p.2 q.2:=by
  refine ⟨by simp,fun i p q hp hq=>?_⟩
  simp only [Array.toList_map,List.getElem?_map] at hp hq
  cases hi:parts.toList[i]? with
  | none=>simp [hi] at hp
  | some e =>
   simp [hi] at hp hq
   subst hp;subst hq
   exact ⟨rfl,hρ _⟩
 unfold Au4 at hx
 cases hz:M5 P t with
 | none=>simp [hz] at hx
 | some z =>
  cases hu:P.underlying t with
  | none=>simp [hz,hu] at hx
  | some d =>
   have hz':=hz
   unfold M5 at hz'
   cases hit:P.info? t with
   | none=>simp [hit] at hz'
   | some it =>
    cases hiz:it.zero with
    | none=>simp [hit,hiz] at hz'
    | some zv =>
     simp [hit,hiz] at hz'
     have hzr:RepL σ z zv.cells.toList:=by rw [← hz'];exact Oa σ _
     have key:∀ cells,P.built t (parts.map fun (i,x)=>(i,a.eval x)).toList=some cells→(execOp a.eval o).run P w=.ok (.value (.agg cells)) w:=by
      intro cells hc
      unfold execOp
      simp only [hop,Sem.run_bind,run_build w t _ cells hc,Result.andThen_ok,Sem.run_pure]
     cases d <;> try (simp [hz,hu] at hx;done)
     case array n e =>
      cases hs:Cn P e with
      | none=>simp [hz,hu,hs] at hx
      | some sz =>
       simp only [hz,hu,hs,Option.map_eq_some_iff] at hx
       obtain ⟨r,hf,rfl⟩:=hx
       obtain ⟨us,h1,h2,_⟩:=Ss _ _ _ _ _ _ hzr hpl hf
       unfold Cn at hs
       cases hie:P.info? e with
       | none=>simp [hie] at hs
       | some ie =>
        simp [hie] at hs;subst hs
        refine ⟨_,key us.toArray ?_,by simp only [Rep];exact ⟨us,h2,rfl⟩⟩
        unfold Program.built
        simp only [hit,hu,hiz,hie]
        simpa using h1
     case struct fields =>
      cases hp:placesA P fields.toList with
      | none=>simp [hz,hu,hp] at hx
      | some places =>
       simp only [hz,hu,hp,Option.map_eq_some_iff] at hx
       obtain ⟨r,hf,rfl⟩:=hx
       have hpm:∀ (fs:List Field) (pl:List (Nat×Nat)),placesA P fs=some pl→fs.mapM (fun f=>(P.info? f.type).map fun i=>(f.offset,i.size))=some pl:=by
        intro fs
        induction fs with
        | nil=>intro pl h;simp [placesA] at h;subst h;rfl
        | cons f fs ih =>
         intro pl h
         simp only [placesA,Cn] at h
         cases hi:P.info? f.type with
         | none=>simp [hi] at h
         | some i =>
          cases hr:placesA P fs with
          | none=>simp [hi,hr] at h
          | some r =>
           simp [hi,hr] at h;subst h
           simp [List.mapM_cons,hi,ih r hr]
       have hnth:nth places=(places.toArray[·]?):=by funext i;simp [E4]
       rw [hnth] at hf
       obtain ⟨us,h1,h2,_⟩:=Ss _ _ _ _ _ _ hzr hpl hf
       refine ⟨_,key us.toArray ?_,by simp only [Rep];exact ⟨us,h2,rfl⟩⟩
       unfold Program.built
       simp only [hit,hu,hiz,hpm _ _ hp]
       simpa using h1
theorem B2d {k:IntKind} {a:Int} (h:inK k a) (n:Nat):inK k (a.fdiv (2 ^ n)):=by
 have h0:Iz k≤0∧0≤B7 k:=by cases k <;> simp [Iz,B7]
 obtain ⟨h1,h2⟩:=h
 have hp:(0:Int)<2 ^ n:=Int.pow_pos (by decide)
 rw [Int.fdiv_eq_ediv_of_nonneg _ (Int.le_of_lt hp)]
 rcases Int.le_total 0 a with ha | ha
 ·have k1:=Int.ediv_nonneg ha (Int.le_of_lt hp)
  have k2:=Int.ediv_le_self (2 ^ n) ha
  exact ⟨by omega,by omega⟩
 ·have k1:a≤a / 2 ^ n:=by
   rw [Int.le_ediv_iff_mul_le hp]
   have:a*2 ^ n≤a*1:=Int.mul_le_mul_of_nonpos_left ha (by omega)
   omega
  have k2:a / 2 ^ n≤0:=Int.le_of_lt_add_one ((Int.ediv_lt_iff_lt_mul hp).2 (by simp;omega))
  exact ⟨by omega,by omega⟩
theorem Nj (w:World) (d:Nat) (t e:TypeId) (a:Addr) (n c:Nat) (hu:P.underlying t=some (.slice e)):(Op.equalIn (d+1) t (.slice (some a) n c) (.slice none 0 0)).run P w=.ok false w:=by
 simp [Op.equalIn,run_underlying hu]
theorem I9 {m:Nat→Nat→Option Value} {c:TC} {xs:List (TCT c)} {v:Value} (h:RepD m (.sl c) xs [v]):(v=.slice none 0 0∧xs=[])∨∃ b o s cap us,v=.slice (some ⟨b,o,s⟩) xs.length cap∧xs.length≤cap∧(cap:Int)≤B7 .i64∧((us=[]∨s=none)∧Reads m b o us)∧LR (RepD m c) xs us:=by
 simp only [RepD,List.cons.injEq,and_true] at h
 obtain ⟨v',rfl,h⟩:=h
 exact h
theorem A9w (w:World) (d:Nat) (t u:TypeId) (x:Value) (ms:_) (hu:P.underlying t=some (.interface ms)):(Op.equalIn (d+1) t (.iface u x) .nilIface).run P w=.ok false w:=by
 simp [Op.equalIn,run_underlying hu]
theorem A9x (w:World) (d:Nat) (t:TypeId) (ms:_) (hu:P.underlying t=some (.interface ms)):(Op.equalIn (d+1) t .nilIface .nilIface).run P w=.ok true w:=by
 simp [Op.equalIn,run_underlying hu]
theorem Aud (w:World) (d:Nat) (t:TypeId) (ms:_) (hu:P.underlying t=some (.interface ms)):(Op.eqGuardIn (d+1) t .nilIface .nilIface).run P w=.ok (!ms.isEmpty) w:=by
 simp [Op.eqGuardIn,run_underlying hu]
theorem B2e (w:World) (d:Nat) (t e:TypeId) (hu:P.underlying t=some (.slice e)):(Op.equalIn (d+1) t (.slice none 0 0) (.slice none 0 0)).run P w=.ok true w:=by
 simp [Op.equalIn,run_underlying hu]
theorem Zz (w:World) (op:BinOp) (t:TypeId) (xo yo:Operand) (ms:_) (hu:P.underlying t=some (.interface ms)) (hm:ms.isEmpty=true):(eqGuard op t xo yo .nilIface .nilIface).run P w=.ok () w:=by
 have h:(Op.eqGuardIn Op.maxDepth t .nilIface .nilIface).run P w=.ok false w:=by
  have:=Aud (P:=P) w 9999 t ms hu
  rw [hm] at this
  exact this
 cases op
 case eql=>cases xo <;> cases yo <;> simp [eqGuard,h]
 case neq=>cases xo <;> cases yo <;> simp [eqGuard,h]
 all_goals simp [eqGuard]
theorem B2f (op:BinOp) (t:TypeId) (xo yo:Operand) (ty:TypeId) (o:Oper) (hop:o.op=.binOp op t xo yo ty) {x y:AV} (hx:Rep σ x (a.eval xo)) (hy:Rep σ y (a.eval yo)) :
  AOk P σ w ((execOp a.eval o).run P w) (Bac P op t x y):=by
 have hrun:(execOp a.eval o).run P w=((eqGuard op t xo yo (a.eval xo) (a.eval yo)).run P w).andThen fun _ w'=>((do pure (Next.value (← binOp op t (a.eval xo) (a.eval yo))):Sem Next).run P w'):=by
  unfold execOp
  simp only [hop,Sem.run_bind]
  cases (eqGuard op t xo yo (a.eval xo) (a.eval yo)).run P w <;> rfl
 have hshift:∀ (op':BinOp) (k k':IntKind) (m n:Int),inK k m→(op'=.shl∨op'=.shr)→op=op'→a.eval xo=.int k m→a.eval yo=.int k' n→AOk P σ w ((execOp a.eval o).run P w) (Zj op' k m n):=by
  intro op' k k' m n hm hs ho h1 h2
  subst ho
  rw [hrun,h1,h2]
  rcases hs with rfl | rfl
  ·simp only [Zj,AOk]
   intro hb
   have hb':¬ n<0:=by simpa using hb
   refine ⟨_,?_,O9 _ _⟩
   simp [eqGuard,binOp,Op.shift,hb']
  ·simp only [Zj,AOk]
   intro hb
   have hb':¬ n<0:=by simpa using hb
   refine ⟨_,?_,Ev (B2d hm _)⟩
   simp [eqGuard,binOp,Op.shift,hb']
 unfold Bac
 split
 ·simp only [Rep] at hx hy
  exact hshift .shl _ _ _ _ hx.2 (.inl rfl) rfl hx.1 hy.1
 ·simp only [Rep] at hx hy
  exact hshift .shr _ _ _ _ hx.2 (.inr rfl) rfl hx.1 hy.1
 ·rename_i k m k' n hn1 hn2
  simp only [Rep] at hx hy
  by_cases hk:k=k'
  ·subst hk
   simp only [decide_true,cond_true]
   have h1:op≠.shl:=hn1
   have h2:op≠.shr:=hn2
   have hg:(eqGuard op t xo yo (.int k m) (.int k n)).run P w=.ok () w:=by cases op <;> simp [eqGuard]
   rw [hrun,hx.1,hy.1,hg,Result.andThen_ok]
   exact Alc t op k m n hx.2 h1 h2
  ·simp only [hk,decide_false,cond_false,AOk]
 ·rename_i p q
  simp only [Rep] at hx hy
  split
  ·rename_i hu
   simp only [cond_true,AOk]
   refine ⟨_,?_,by simp only [Rep];rfl⟩
   rw [hrun,hx,hy]
   have:=run_equalIn_bool' (P:=P) w 9999 t p q hu
   simp [eqGuard,binOp,Op.equal,Op.maxDepth,this]
  ·simp only [cond_false,AOk]
 ·rename_i p q
  simp only [Rep] at hx hy
  split
  ·rename_i hu
   simp only [cond_true,AOk]
   refine ⟨_,?_,by simp only [Rep];rfl⟩
   rw [hrun,hx,hy]
   have:=run_equalIn_bool' (P:=P) w 9999 t p q hu
   simp [eqGuard,binOp,Op.equal,Op.maxDepth,this]
  ·simp only [cond_false,AOk]
 ·rename_i xs ys
  cases hm:P.eqGuardType P.depth t with
  | true=>simp only [cond_true,AOk]
  | false =>
   simp only [cond_false]
   refine B29 fun b hb=>?_
   have h1:=Sw Op.maxDepth t _ _ b _ _ w hb hx hy
   simp only [Rep] at hx hy
   obtain ⟨us,hx1,hx2⟩:=hx
   obtain ⟨vs,hy1,hy2⟩:=hy
   rw [hrun,hx2,hy2,run_eqGuard_agg w _ t xo yo _ _ hm]
   rw [hx2,hy2] at h1
   simp [run_eql_struct,h1,show (10000:Nat)=Op.maxDepth from rfl]
 ·rename_i xs ys
  cases hm:P.eqGuardType P.depth t with
  | true=>simp only [cond_true,AOk]
  | false =>
   simp only [cond_false]
   refine B2a fun b hb=>?_
   have h1:=Sw Op.maxDepth t _ _ b _ _ w hb hx hy
   simp only [Rep] at hx hy
   obtain ⟨us,hx1,hx2⟩:=hx
   obtain ⟨vs,hy1,hy2⟩:=hy
   rw [hrun,hx2,hy2,run_eqGuard_agg w _ t xo yo _ _ hm]
   rw [hx2,hy2] at h1
   simp [run_neq_struct,h1,show (10000:Nat)=Op.maxDepth from rfl]
 ·simp only [Rep] at hx hy
  obtain ⟨_,_,b,_,hx⟩:=hx
  split
  ·rename_i e hu
   simp only [cond_true,AOk]
   refine ⟨_,?_,by simp only [Rep];rfl⟩
   rw [hrun,hx,hy]
   have:=fun ad n c=>Nj (P:=P) w 9999 t e ad n c hu
   simp [eqGuard,binOp,Op.equal,Op.maxDepth,this]
  ·simp only [cond_false,AOk]
 ·simp only [Rep] at hx hy
  simp only [AOk]
  refine ⟨_,?_,by simp only [Rep];rfl⟩
  rw [hrun,hx,hy]
  rename_i p q
  obtain ⟨⟨l⟩⟩:=p
  obtain ⟨⟨m⟩⟩:=q
  simp [eqGuard,binOp,Op.stringOp]
 ·simp only [Rep] at hx hy
  simp only [AOk]
  refine ⟨_,?_,by simp only [Rep];rfl⟩
  rw [hrun,hx,hy]
  rename_i p q
  obtain ⟨⟨l⟩⟩:=p
  obtain ⟨⟨m⟩⟩:=q
  simp [eqGuard,binOp,Op.stringOp]
 ·simp only [Rep] at hx hy
  obtain ⟨u,_,hx⟩:=hx
  split
  ·rename_i ms hu
   simp only [cond_true,AOk]
   refine ⟨_,?_,by simp only [Rep];rfl⟩
   rw [hrun,hx,hy]
   have:=fun u x=>A9w (P:=P) w 9999 t u x ms hu
   simp [eqGuard,binOp,Op.equal,Op.maxDepth,this]
  ·simp only [cond_false,AOk]
 ·simp only [Rep] at hx hy
  obtain ⟨u,_,hx⟩:=hx
  split
  ·rename_i ms hu
   simp only [cond_true,AOk]
   refine ⟨_,?_,by simp only [Rep];rfl⟩
   rw [hrun,hx,hy]
   have:=fun u x=>A9w (P:=P) w 9999 t u x ms hu
   simp [eqGuard,binOp,Op.equal,Op.maxDepth,this]
  ·simp only [cond_false,AOk]
 ·simp only [Rep] at hx hy
  split
  ·rename_i ms hu
   cases hms:ms.isEmpty with
   | false=>simp only [cond_false,AOk]
   | true =>
    simp only [cond_true,AOk]
    refine ⟨_,?_,by simp only [Rep];rfl⟩
    rw [hrun,hx,hy,Zz (P:=P) w _ t xo yo ms hu hms]
    have:=A9x (P:=P) w 9999 t ms hu
    simp [binOp,Op.equal,Op.maxDepth,this]
  ·simp only [cond_false,AOk]
 ·simp only [Rep] at hx hy
  split
  ·rename_i ms hu
   cases hms:ms.isEmpty with
   | false=>simp only [cond_false,AOk]
   | true =>
    simp only [cond_true,AOk]
    refine ⟨_,?_,by simp only [Rep];rfl⟩
    rw [hrun,hx,hy,Zz (P:=P) w _ t xo yo ms hu hms]
    have:=A9x (P:=P) w 9999 t ms hu
    simp [binOp,Op.equal,Op.maxDepth,this]
  ·simp only [cond_false,AOk]
 ·simp only [Rep] at hx hy
  split
  ·rename_i e hu
   simp only [cond_true,AOk]
   refine ⟨_,?_,by simp only [Rep];rfl⟩
   rw [hrun,hx,hy]
   have:=B2e (P:=P) w 9999 t e hu
   simp [eqGuard,binOp,Op.equal,Op.maxDepth,this]
  ·simp only [cond_false,AOk]
 ·rename_i xs
  simp only [Rep] at hx hy
  split
  ·rename_i e hu
   simp only [cond_true,AOk]
   intro hne
   refine ⟨_,?_,by simp only [Rep];rfl⟩
   rcases I9 hx with ⟨_,rfl⟩ | ⟨b,o',sp,cap,us,hx,_⟩
   ·simp at hne
   ·rw [hrun,hx,hy]
    have:=fun ad n c=>Nj (P:=P) w 9999 t e ad n c hu
    simp [eqGuard,binOp,Op.equal,Op.maxDepth,this]
  ·simp only [cond_false,AOk]
 ·simp only [AOk]
theorem Bag (hρ:∀ x,Rep σ (s.eval x) (a.eval x)) (o:Oper) (op:UnOp) (t:TypeId) (x:Operand) (hop:o.op=.unOp op t x):AOk P σ w ((execOp a.eval o).run P w) (eff P (.unOp op t x) s.eval):=by
 have hx:=hρ x
 simp only [eff,unA]
 split
 ·rename_i k n h
  rw [h] at hx;simp only [Rep] at hx
  simp only [AOk]
  refine ⟨_,?_,O9 _ _⟩
  simp [execOp,hop,hx.1,Op.unary,Op.intArith]
 ·rename_i b h
  rw [h] at hx;simp only [Rep] at hx
  simp only [AOk]
  refine ⟨_,?_,by simp only [Rep];rfl⟩
  simp [execOp,hop,hx,Op.unary]
 ·simp only [AOk]
theorem Aue (hρ:∀ x,Rep σ (s.eval x) (a.eval x)) (o:Oper) (src dst:TypeId) (x:Operand) (hop:o.op=.convert src dst x):AOk P σ w ((execOp a.eval o).run P w) (eff P (.convert src dst x) s.eval):=by
 have hx:=hρ x
 simp only [eff,B5j]
 split
 ·rename_i k0 k k' n hu1 hu2 h
  rw [h] at hx;simp only [Rep] at hx
  simp only [AOk]
  refine ⟨_,?_,O9 _ _⟩
  simp [execOp,hop,hx.1,convert,run_underlying hu1,run_underlying hu2,Conv.intToInt]
 ·simp only [AOk]
theorem Alh (hρ:∀ x,Rep σ (s.eval x) (a.eval x)) (o:Oper) (t:TypeId) (x:Operand) (i:Nat) (hop:o.op=.field t x i):AOk P σ w ((execOp a.eval o).run P w) (eff P (.field t x i) s.eval):=by
 have hx:=hρ x
 simp only [eff]
 split
 ·rename_i cs fs h hu
  rw [h] at hx;simp only [Rep] at hx
  obtain ⟨us,h1,h2⟩:=hx
  simp only [E4]
  cases hf:fs.toList[i]? with
  | none=>simp only [AOk]
  | some f =>
   refine Mw fun y hy=>?_
   obtain ⟨v,hv1,hv2⟩:=J1 h1 hy w
   refine ⟨v,?_,hv2⟩
   have hf':fs[i]? = some f:=by simpa using hf
   simp [execOp,hop,h2,Instr.field,run_underlying hu,hf',asAgg,hv1]
 ·simp only [AOk]
theorem A21 (hρ:∀ x,Rep σ (s.eval x) (a.eval x)) (o:Oper) (t:TypeId) (x:Operand) (i:Nat) (hop:o.op=.fieldAddr t x i):AOk P σ w ((execOp a.eval o).run P w) (eff P (.fieldAddr t x i) s.eval):=by
 have hx:=hρ x
 simp only [eff]
 split
 ·rename_i id row st col fs h hu
  rw [h] at hx;simp only [Rep] at hx
  obtain ⟨b,h1,h2⟩:=hx
  simp only [E4]
  cases hf:fs.toList[i]? with
  | none=>simp only [AOk]
  | some f =>
   simp only
   cases hs:Cn P f.type with
   | none=>simp only [AOk]
   | some sz =>
    simp only
    cases hz:Nat.beq sz 0 with
    | true=>simp only [cond_true,AOk]
    | false =>
     have hz':sz≠0:=by intro e;subst e;simp at hz
     simp only [cond_false,AOk]
     refine ⟨.pointer (some ⟨b,row*st+(col+f.offset),none⟩),?_,by simp only [Rep];exact ⟨b,h1,rfl⟩⟩
     have hf':fs[i]? = some f:=by simpa using hf
     simp [execOp,hop,h2,Instr.fieldAt,run_underlying hu,hf',Instr.sureAddr,fieldPlace,Br hs,hz',Addr.add_lit,Nat.add_assoc]
 ·rename_i c x' col fs h hu
  rw [h] at hx;simp only [Rep] at hx
  obtain ⟨b,o',vs,h1,h2,h3⟩:=hx
  simp only [E4]
  cases hf:fs.toList[i]? with
  | none=>simp only [AOk]
  | some f =>
   simp only
   cases hs:Cn P f.type with
   | none=>simp only [AOk]
   | some sz =>
    simp only
    cases hz:Nat.beq sz 0 with
    | true=>simp only [cond_true,AOk]
    | false =>
     have hz':sz≠0:=by intro e;subst e;simp at hz
     simp only [cond_false,AOk]
     refine ⟨.pointer (some ⟨b,o'+(col+f.offset),none⟩),?_,by simp only [Rep];exact ⟨b,o',vs,rfl,h2,h3⟩⟩
     have hf':fs[i]? = some f:=by simpa using hf
     simp [execOp,hop,h1,Instr.fieldAt,run_underlying hu,hf',Instr.sureAddr,fieldPlace,Br hs,hz',Addr.add_lit,Nat.add_assoc]
 ·simp only [AOk]
theorem A00 (b o n:Nat) (s:Option Nat):(⟨b,o,s⟩:Addr).add n=⟨b,o+n,if n=0 then s else none⟩:=by
 unfold Addr.add
 split
 ·rename_i h;simp
 ·rfl
theorem Oc {m:Nat→Nat→Option Value} {c:TC} {xs:List (TCT c)} {v:Value} (h:(v=.slice none 0 0∧xs=[])∨∃ b o s cap us,v=.slice (some ⟨b,o,s⟩) xs.length cap∧xs.length≤cap∧(cap:Int)≤B7 .i64∧((us=[]∨s=none)∧Reads m b o us)∧LR (RepD m c) xs us):RepD m (.sl c) xs [v]:=by
 simp only [RepD];exact ⟨v,rfl,h⟩
theorem Reads.sub {m:Nat→Nat→Option Value} {b o:Nat} {vs:List Value} (h:Reads m b o vs) (k n:Nat):Reads m b (o+k) ((vs.drop k).take n):=by
 intro j u hj
 rw [List.getElem?_take] at hj
 split at hj
 ·rw [List.getElem?_drop] at hj
  have:=h _ _ hj
  rwa [← Nat.add_assoc] at this
 ·simp at hj
theorem A01 {r:Result Next} {f:Nat→Eff} {n:Int}:∀ (m k:Nat),(∀ j:Nat,k≤j→j<k+m→n=(j:Int)→AOk P σ w r (f j))→AOk P σ w r (Alb f n k m)
 | 0,k,h=>by simp only [Alb,AOk]
 | m+1,k,h=>by
  simp only [Alb,AOk]
  exact ⟨fun hd=>h k (Nat.le_refl _) (by omega) (of_decide_eq_true hd),fun _=>A01 m (k+1) fun j h1 h2=>h j (by omega) (by omega)⟩
theorem Qr {r:Result Next} {len:Nat} {n:Int} {f:Nat→Eff} (h:0≤n∧n<(len:Int)→AOk P σ w r (f n.toNat)):AOk P σ w r (Zi len n f):=by
 unfold Zi
 cases Nat.ble len 8 with
 | true =>
  rw [cond_true]
  refine A01 len 0 fun j h1 h2 hj=>?_
  have:=h (by omega)
  rwa [show n.toNat=j by omega] at this
 | false =>
  simp only [cond_false,AOk]
  exact fun hd=>h (of_decide_eq_true hd)
theorem A22 (hρ:∀ x,Rep σ (s.eval x) (a.eval x)) (o:Oper) (t:TypeId) (x i:Operand) (hop:o.op=.indexAddr t x i):AOk P σ w ((execOp a.eval o).run P w) (eff P (.indexAddr t x i) s.eval):=by
 have hx:=hρ x
 have hi:=hρ i
 simp only [eff]
 split
 ·rename_i id row st col k n len e h h' hu
  rw [h] at hx;rw [h'] at hi;simp only [Rep] at hx hi
  replace hi:=hi.1
  obtain ⟨b,h1,h2⟩:=hx
  cases hs:Cn P e with
  | none=>simp only [AOk]
  | some sz =>
   refine Qr fun hb'=>?_
   simp only [AOk]
   refine ⟨.pointer (some ⟨b,row*st+(col+n.toNat*sz),none⟩),?_,by simp only [Rep];exact ⟨b,h1,rfl⟩⟩
   simp [execOp,hop,h2,hi,Instr.indexAt,asIntOf,run_underlying hu,Instr.sureAddr,Br hs,hb',Addr.add_lit,Nat.add_assoc]
 ·rename_i c y col k n len e h h' hu
  rw [h] at hx;rw [h'] at hi;simp only [Rep] at hx hi
  replace hi:=hi.1
  obtain ⟨b,o',vs,h1,h2,h3⟩:=hx
  cases hs:Cn P e with
  | none=>simp only [AOk]
  | some sz =>
   refine Qr fun hb'=>?_
   simp only [AOk]
   refine ⟨.pointer (some ⟨b,o'+(col+n.toNat*sz),none⟩),?_,by simp only [Rep];exact ⟨b,o',vs,rfl,h2,h3⟩⟩
   simp [execOp,hop,h1,hi,Instr.indexAt,asIntOf,run_underlying hu,Instr.sureAddr,Br hs,hb',Addr.add_lit,Nat.add_assoc]
 ·rename_i id off st len cap k n e h h' hu
  rw [h] at hx;rw [h'] at hi;simp only [Rep] at hx hi
  replace hi:=hi.1
  obtain ⟨_,_,b,h1,h2⟩:=hx
  cases hs:Cn P e with
  | none=>simp only [AOk]
  | some sz =>
   simp only
   cases hz:Nat.beq st sz with
   | false=>simp only [cond_false,AOk]
   | true =>
    have hz':st=sz:=by simpa using hz
    subst hz'
    simp only [cond_true,AOk]
    intro hb
    have hb':=of_decide_eq_true hb
    refine ⟨.pointer (some ⟨b,n.toNat*st+off,none⟩),?_,by simp only [Rep];exact ⟨b,h1,rfl⟩⟩
    simp [execOp,hop,h2,hi,Instr.indexAt,asIntOf,run_underlying hu,Br hs,hb',Addr.add_lit,Nat.add_comm]
 ·rename_i c xs k n e h h' hu
  rw [h] at hx;rw [h'] at hi;simp only [Rep] at hx hi
  replace hi:=hi.1
  cases hs:Cn P e with
  | none=>simp only [AOk]
  | some sz =>
   simp only
   cases hz:(Nat.beq c.size sz&&Nat.ble 1 sz) with
   | false=>simp only [cond_false,AOk]
   | true =>
    simp only [Bool.and_eq_true,Nat.beq_eq,Nat.ble_eq] at hz
    obtain ⟨hz,hz1⟩:=hz
    subst hz
    simp only [cond_true,AOk]
    intro hb
    have hb':=of_decide_eq_true hb
    have hlt:n.toNat<xs.length:=by omega
    rcases I9 hx with ⟨_,rfl⟩ | ⟨b,o',sp,cap,us,h2,h3,h4,⟨hsp,h5⟩,h6⟩
    ·simp at hlt
    ·have hne:sp=none:=hsp.resolve_left fun e=>by
      subst e
      have h7:=LR.len (fun x vs=>RepD.len c x vs) h6
      simp only [List.length_nil] at h7
      rcases Nat.mul_eq_zero.1 h7.symm with h7 | h7 <;> omega
     subst hne
     refine ⟨.pointer (some ⟨b,o'+n.toNat*c.size,none⟩),?_,?_⟩
     ·simp [execOp,hop,h2,hi,Instr.indexAt,asIntOf,run_underlying hu,Br hs,hb',Addr.add_lit]
     ·simp only [Rep]
      exact ⟨b,o'+n.toNat*c.size,_,rfl,h5.sub _ c.size,LR.get (fun x vs=>RepD.len c x vs) n.toNat _ h6 hlt⟩
 ·rename_i id k n e h h' hu
  rw [h] at hx;rw [h'] at hi;simp only [Rep] at hx hi
  replace hi:=hi.1
  cases hs:Cn P e with
  | none=>simp only [AOk]
  | some sz =>
   simp only [AOk]
   intro b len cap h1 h2 h3
   rw [hx.1] at h1
   have hv:=Option.some.inj h1
   simp [execOp,hop,hi,Instr.indexAt,asIntOf,run_underlying hu,Br hs,h2,h3,hv,Addr.add_lit]
 ·simp only [AOk]
theorem Ali (hρ:∀ x,Rep σ (s.eval x) (a.eval x)) (o:Oper) (t:TypeId) (x i:Operand) (hop:o.op=.index t x i):AOk P σ w ((execOp a.eval o).run P w) (eff P (.index t x i) s.eval):=by
 have hx:=hρ x
 have hi:=hρ i
 simp only [eff]
 split
 ·rename_i s0 k n h h' hu
  rw [h] at hx;rw [h'] at hi;simp only [Rep] at hx hi
  replace hi:=hi.1
  simp only [AOk]
  intro hb
  have hb':=of_decide_eq_true hb
  have hlt:n.toNat<s0.size:=by omega
  have hget:s0[n.toNat]? = some (s0.data.toList.getD n.toNat 0):=by
   have hlt':n.toNat<s0.data.size:=hlt
   rw [getElem?_pos s0 n.toNat hlt]
   congr 1
   simp only [List.getD,Array.getElem?_toList,Array.getElem?_eq_getElem hlt',Option.getD_some]
   rfl
  refine ⟨_,?_,Ev ⟨by simp only [Iz];omega,?_⟩⟩
  ·simp only [execOp,hop,hx,hi,Instr.index,asIntOf,Sem.run_bind,Sem.run_pure,Result.andThen_ok,run_underlying hu,if_pos hb'.1,hget]
  ·have:=UInt8.toNat_lt (s0.data.toList.getD n.toNat 0)
   simp only [B7];omega
 ·rename_i cs k n len e h h' hu
  rw [h] at hx;rw [h'] at hi;simp only [Rep] at hx hi
  replace hi:=hi.1
  obtain ⟨us,h1,h2⟩:=hx
  cases hs:Cn P e with
  | none=>simp only [AOk]
  | some sz =>
   refine Qr fun hb'=>?_
   refine Mw fun y hy=>?_
   obtain ⟨v,hv1,hv2⟩:=J1 h1 hy w
   refine ⟨v,?_,hv2⟩
   simp [execOp,hop,h2,hi,Instr.index,asIntOf,run_underlying hu,Br hs,hb',hv1]
 ·simp only [AOk]
theorem Alj (o:Oper) (t:TypeId) (hop:o.op=.alloc t):AOk P σ w ((execOp a.eval o).run P w) (eff P (.alloc t) s.eval):=by
 simp only [eff]
 cases hz:M5 P t with
 | none=>simp only [AOk]
 | some z =>
  obtain ⟨v,h1,h2⟩:=Sv (σ:=σ) hz w
  simp only [AOk]
  refine ⟨v.cells.toList,.pointer (some ⟨w.heap.size,0,none⟩),h2,?_,fun τ i _ hi=>?_⟩
  ·simp [execOp,hop,Instr.alloc,h1,newVar,newRow]
  ·simp only [Rep];exact ⟨_,hi,by simp⟩
theorem B2g (hρ:∀ x,Rep σ (s.eval x) (a.eval x)) (o:Oper) (t:TypeId) (x:Operand) (hop:o.op=.box t x):AOk P σ w ((execOp a.eval o).run P w) (eff P (.box t x) s.eval):=by
 simp only [eff]
 cases hc:O5 (s.eval x) with
 | none=>simp only [AOk]
 | some cs =>
  have h2:=Ut (hρ x) hc
  simp only [AOk]
  refine ⟨(a.eval x).cells.toList,.pointer (some ⟨w.heap.size,0,none⟩),h2,?_,fun τ i _ hi=>?_⟩
  ·simp [execOp,hop,Instr.box,newVar,newRow]
  ·simp only [Rep];exact ⟨_,hi,by simp⟩
theorem A3e {σ:Env} {z:List AV} {sz n:Nat} {v:Value} (h2:RepL σ z v.cells.toList) (h1:1≤sz) (hb3:z.length=sz):RepL σ (Zk z sz n) ((List.range n).map (v.cells[· % v.cells.size]!)):=by
 have hvl:v.cells.size=sz:=by have:=h2.length;simp at this;omega
 refine Dx.2 ⟨by simp [Zk],fun i x u hx hu=>?_⟩
 simp only [Zk,List.getElem?_map] at hx hu
 cases hr:(List.range n)[i]? with
 | none=>simp [hr] at hx
 | some j =>
  simp [hr] at hx hu
  have hj:j % sz<v.cells.toList.length:=by simp [hvl];exact Nat.mod_lt _ (by omega)
  have hjz:j % sz<z.length:=by rw [h2.length];exact hj
  rw [E4,List.getElem?_eq_getElem hjz] at hx
  simp only at hx
  subst hx;subst hu
  refine (Dx.1 h2).2 (j % sz) _ _ (List.getElem?_eq_getElem hjz) ?_
  rw [hvl,getElem!_pos v.cells (j % sz) (by simpa using hj)]
  rw [List.getElem?_eq_getElem hj]
  simp
theorem A02 {m:Nat→Nat→Option Value} {c:TC} {x:TCT c} {cells:List Value} (h:RepD m c x cells) (_hz:0<c.size):∀ (l:Nat),LR (RepD m c) (List.replicate l x) ((List.range (l*c.size)).map fun j=>cells[j % c.size]!):=by
 have hlen:=RepD.len c x cells h
 intro l
 induction l with
 | zero=>simp [LR]
 | succ l ih =>
  simp only [List.replicate_succ]
  refine ⟨cells,(List.range (l*c.size)).map fun j=>cells[j % c.size]!,?_,h,ih⟩
  rw [Nat.add_mul,Nat.one_mul,Nat.add_comm (l*c.size),List.range_add,List.map_append,List.map_map]
  congr 1
  ·refine List.ext_getElem (by simp [hlen]) fun i h1 h2=>?_
   simp at h1
   rw [List.getElem_map,List.getElem_range,Nat.mod_eq_of_lt h1,getElem!_pos cells i (by omega)]
  ·refine List.map_congr_left fun j _=>?_
   simp
theorem A03 (z:Array Value) (n:Nat):(Builtin.zeroCells z n).toList=(List.range (n*z.size)).map fun j=>z.toList[j % z.size]! := by
 unfold Builtin.zeroCells
 rw [Array.toList_map,Array.toList_range]
 refine List.map_congr_left fun j _=>?_
 rw [List.getElem!_eq_getElem?_getD,Array.getElem!_eq_getD,Array.getD_eq_getD_getElem?,Array.getElem?_toList]
theorem Auf {σ:Env} {w:World} {ats:Array TypeId} {t u tr:TypeId} {x y:AV} {v v':Value} {r:Result Next} (hx:Rep σ x v) (hy:Rep σ y v') (h0:ats[0]? = some t) (h1:ats[1]? = some u)
  (hr:r=(do pure (Next.value (← Builtin.append_ ats tr #[v,v'])):Sem Next).run P w):AOk P σ w r (Bad P t u x y):=by
 unfold Bad
 split
 ·rename_i k n e kn ht hu
  simp only [Rep] at hx hy
  subst hx
  obtain ⟨rfl,hk⟩:=hy
  split
  ·rename_i sz z by' hs hz hby
   cases hb:(Nat.ble 1 sz&&Nat.beq (Bz z) sz) with
   | false=>simp only [cond_false,AOk]
   | true =>
    simp only [Bool.and_eq_true,Nat.ble_eq,Nat.beq_eq,Bg] at hb
    simp only [cond_true,AOk]
    intro htest
    obtain ⟨t1,t2,t3⟩:=of_decide_eq_true htest
    unfold Up at hby
    unfold Cn at hs
    cases hie:P.info? e with
    | none=>simp [hie] at hby
    | some ie =>
     simp [hie] at hby hs
     subst hby hs
     split
     ·rename_i d hd
      split
      ·rename_i xd hxd
       cases hds:Nat.beq d.size ie.size with
       | false=>simp only [cond_false,AOk]
       | true =>
        have hds':d.size=ie.size:=by simpa using hds
        simp only [cond_true,AOk]
        have hz':=hz
        unfold M5 at hz'
        cases hiz:ie.zero with
        | none=>simp [hie,hiz] at hz'
        | some zv =>
         simp [hie,hiz] at hz'
         have hzl:zv.cells.size=ie.size:=by
                              have:zv.cells.size=z.length:=by rw [← hz'];simp
                              omega
         obtain ⟨zv',hv1,hv2⟩:=Sv (σ:=σ) hz w
         have hzz:zv'=zv:=by simpa [zeroValue,typeInfo,hie,hiz] using hv1.symm
         subst hzz
         have hxr:=Mt hxd hv2
         have en:((n.toNat:Nat):Int)=n:=by omega
         have hbb:n.toNat*ie.bytes≤281474976710656:=by
          have:((n.toNat*ie.bytes:Nat):Int)≤281474976710656:=by rw [Int.natCast_mul,en];exact t3
          omega
         have hrun:=Go.Lib.run_append_nil_zeros (P:=P) w t u tr e ie zv' k kn ht hu hie hiz n.toNat (by omega) (by omega) (by omega) hbb
         rw [en] at hrun
         have key:Builtin.append_ ats tr #[.slice none 0 0,.int k n]=Builtin.append_ #[t,u] tr #[.slice none 0 0,.int k n]:=by
          simp only [Builtin.append_,h0,h1]
          rfl
         have hcap:=grownCap_ge w n.toNat 0 e
         have hmx:=grownCap_le_maxLen w n.toNat 0 e (by simp only [maxLen];omega)
         refine ⟨(Builtin.zeroCells zv'.cells n.toNat++Builtin.zeroCells zv'.cells (grownCap w n.toNat 0 e-n.toNat)).toList,grownCap w n.toNat 0 e,?_,?_,by rw [List.length_replicate];exact hcap,hmx,by omega,?_⟩
         ·rw [hr,key,List.length_replicate,Array.toArray_toList]
          simp only [Sem.run_bind,hrun,Result.andThen_ok,Sem.run_pure]
         ·rw [Array.toList_append,List.length_append,Array.length_toList,Array.length_toList,size_zeroCells,size_zeroCells,hzl,hds',← Nat.add_mul]
          congr 1
          omega
         ·have hzl2:=A02 hxr (by omega) n.toNat
          rw [List.length_replicate,Array.toList_append]
          have hl1:(Builtin.zeroCells zv'.cells n.toNat).toList.length=n.toNat*d.size:=by rw [Array.length_toList,size_zeroCells,hzl,hds']
          rw [← hl1,List.take_left,A03,hzl]
          rw [hds'] at hzl2
          exact hzl2
      ·simp only [AOk]
     ·simp only [AOk]
  ·simp only [AOk]
 ·simp only [AOk]
theorem A04 (hρ:∀ x,Rep σ (s.eval x) (a.eval x)) (o:Oper) (t:TypeId) (len:Nat) (parts:Array (Nat×Operand)) (hop:o.op=.buildSlice t len parts):AOk P σ w ((execOp a.eval o).run P w) (eff P (.buildSlice t len parts) s.eval):=by
 simp only [eff]
 split
 ·rename_i e hu
  split
  ·rename_i sz z hs hz
   cases hb:(Nat.ble (len*sz) 4096&&(Nat.ble 1 sz&&Nat.beq (Bz z) sz)) with
   | false=>simp only [cond_false,AOk]
   | true =>
    simp only [Bool.and_eq_true,Nat.ble_eq,Nat.beq_eq,Bg] at hb
    obtain ⟨hb1,hb2,hb3⟩:=hb
    simp only [cond_true]
    split
    ·rename_i cs hf
     have hpl:(parts.toList.map fun p=>(p.1,s.eval p.2)).length=(parts.map fun (i,x)=>(i,a.eval x)).toList.length∧∀ (i:Nat) (p:Nat×AV) (q:Nat×Value),(parts.toList.map fun p=>(p.1,s.eval p.2))[i]? = some p→(parts.map fun (i,x)=>(i,a.eval x)).toList[i]? = some q→p.1=q.1∧Rep σ p.2 q.2:=by
      refine ⟨by simp,fun i p q hp hq=>?_⟩
      simp only [Array.toList_map,List.getElem?_map] at hp hq
      cases hi:parts.toList[i]? with
      | none=>simp [hi] at hp
      | some e =>
       simp [hi] at hp hq
       subst hp;subst hq
       exact ⟨rfl,hρ _⟩
     obtain ⟨v,h1,h2⟩:=Sv (σ:=σ) hz w
     have hvl:v.cells.size=sz:=by have:=h2.length;simp at this;omega
     have hrep:=A3e (σ:=σ) (n:=len*sz) h2 hb2 hb3
     obtain ⟨us,h3,h4,h5⟩:=Ss _ _ _ _ _ _ hrep hpl hf
     have hlen5:us.length=len*sz:=by rw [h5];simp
     have hrun:(execOp a.eval o).run P w=.ok (.value (.slice (some ⟨w.heap.size,0,none⟩) len len)) (w.alloc (.cells us.toArray e)):=by
      have hbig:¬ len*sz>2 ^ 24:=by omega
      have hcells:(Array.range (len*sz)).map (v.cells[· % v.cells.size]!)=((List.range (len*sz)).map (v.cells[· % v.cells.size]!)).toArray:=by
       apply Array.ext';simp
      by_cases h0:len*sz=0
      ·have hz0:(Array.range (len*sz)).map ((#[]:Array Value)[· % (#[]:Array Value).size]!)=(Array.range (len*sz)).map (v.cells[· % v.cells.size]!):=by
        rw [h0];simp
       simp only [execOp,hop,Instr.buildSlice,Sem.run_bind,run_underlying hu,Result.andThen_ok,Br hs,if_neg hbig,if_pos h0,Sem.run_pure,hz0,hcells,h3,newRow,run_newObj]
       rfl
      ·simp only [execOp,hop,Instr.buildSlice,Sem.run_bind,run_underlying hu,Result.andThen_ok,Br hs,if_neg hbig,if_neg h0,h1,Sem.run_pure,hcells,h3,newRow,run_newObj]
       rfl
     have hll:len≤len*sz:=Nat.le_mul_of_pos_right len (by omega)
     split
     ·rename_i x hx
      cases hd:Gg P 8 e with
      | none=>simp [hd] at hx
      | some d =>
       simp only [hd,Option.bind_some] at hx
       cases hbd:Nat.beq d.size sz with
       | false=>simp [hbd] at hx
       | true =>
        simp only [hbd,cond_true,Option.map_eq_some_iff] at hx
        obtain ⟨xs,hxs,rfl⟩:=hx
        have hsz:d.size=sz:=by simpa using hbd
        have hcl:cs.length=len*d.size:=by have:=h4.length;rw [hsz];omega
        obtain ⟨k1,k2⟩:=J0 len cs us xs hxs h4 hcl
        simp only [AOk]
        refine ⟨us,len,by rw [k2];exact hrun,by rw [hsz];exact hlen5,by omega,by simp only [maxLen];omega,by omega,?_⟩
        rw [k2,hsz,← hlen5,List.take_length]
        exact k1
     ·simp only [AOk]
      refine ⟨us,.slice (some ⟨w.heap.size,0,none⟩) len len,h4,hrun,fun τ i _ hi=>?_⟩
      simp only [Rep]
      refine ⟨⟨?_,Nat.le_refl _⟩,?_,_,hi,by simp⟩ <;> (simp only [B7];omega)
    ·simp only [AOk]
  ·simp only [AOk]
 ·simp only [AOk]
theorem Aii:∀ (l:List AV) (vs:List Value) (k:IntKind) (x:Int) (y:AV),inK k x→RepL σ l vs→Au5 k x l=some y→∃ v,(vs.foldlM Builtin.max2 (.int k x)).run P w=.ok v w∧Rep σ y v
 | [],vs,k,x,y,hx,h,hm=>by
  simp only [RepL] at h;subst h
  simp [Au5] at hm;subst hm
  exact ⟨_,rfl,Ev hx⟩
 | z::l,vs,k,x,y,hx,h,hm=>by
  simp only [RepL] at h
  obtain ⟨v,us,rfl,h1,h2⟩:=h
  cases z <;> simp only [Au5] at hm <;> try (simp at hm;done)
  rename_i k' n
  by_cases hk:k=k'
  ·subst hk
   simp only [decide_true,cond_true] at hm
   simp only [Rep] at h1
   obtain ⟨rfl,h1⟩:=h1
   obtain ⟨r,hr1,hr2⟩:=Aii l us k _ y (by unfold inK at *;omega) h2 hm
   refine ⟨r,?_,hr2⟩
   simp only [List.foldlM_cons,Builtin.max2,Sem.run_bind,Sem.run_pure,Result.andThen_ok]
   rw [show (if n>x then n else x)=max x n by split <;> omega]
   exact hr1
  ·simp [hk] at hm
theorem Aij:∀ (l:List AV) (vs:List Value) (k:IntKind) (x:Int) (y:AV),inK k x→RepL σ l vs→Au6 k x l=some y→∃ v,(vs.foldlM Builtin.min2 (.int k x)).run P w=.ok v w∧Rep σ y v
 | [],vs,k,x,y,hx,h,hm=>by
  simp only [RepL] at h;subst h
  simp [Au6] at hm;subst hm
  exact ⟨_,rfl,Ev hx⟩
 | z::l,vs,k,x,y,hx,h,hm=>by
  simp only [RepL] at h
  obtain ⟨v,us,rfl,h1,h2⟩:=h
  cases z <;> simp only [Au6] at hm <;> try (simp at hm;done)
  rename_i k' n
  by_cases hk:k=k'
  ·subst hk
   simp only [decide_true,cond_true] at hm
   simp only [Rep] at h1
   obtain ⟨rfl,h1⟩:=h1
   obtain ⟨r,hr1,hr2⟩:=Aij l us k _ y (by unfold inK at *;omega) h2 hm
   refine ⟨r,?_,hr2⟩
   simp only [List.foldlM_cons,Builtin.min2,Sem.run_bind,Sem.run_pure,Result.andThen_ok]
   rw [show (if n<x then n else x)=min x n by split <;> omega]
   exact hr1
  ·simp [hk] at hm
theorem Gn {o:Option TypeId} (h:F9 P o=true):∃ t e,o=some t∧P.underlying t=some (.slice e):=by
 cases o with
 | none=>simp [F9] at h
 | some t =>
  simp only [F9] at h
  split at h
  ·rename_i e hu;exact ⟨t,e,rfl,hu⟩
  ·simp at h
theorem A05 {o:Option TypeId} (h:M6 P o=true):∃ t,o=some t∧P.underlying t=some .string:=by
 cases o with
 | none=>simp [M6] at h
 | some t =>
  simp only [M6] at h
  split at h
  ·rename_i hu;exact ⟨t,rfl,hu⟩
  ·simp at h
theorem A23 {w:World} {b pos:Nat} {t:ByteArray} (o:Obj) (h:w.heap[b]? = some (.stringIter t pos)):(setObj b o).run P w=.ok () (w.putObj b o):=by simp [setObj,Sem.run,h,World.putObj]
theorem Q9 {w:World} {b pos:Nat} {t:ByteArray} (h:w.heap[b]? = some (.stringIter t pos)):(getObj b).run P w=.ok (.stringIter t pos) w:=by simp [getObj,Sem.run,h]
theorem A06 {σ:Env} {t:TypeId} {c:TC} {z:TCT c} (h:Ai7 P t c=some z):∃ zv,(∀ w,(zeroValue t).run P w=.ok zv w)∧VR σ.mem c z zv:=by
 unfold Ai7 at h
 cases hi:P.info? t with
 | none=>simp [hi] at h
 | some i =>
  cases hz:i.zero with
  | none=>simp [hi,hz] at h
  | some v =>
   simp [hi,hz] at h
   exact ⟨v,fun w=>by simp [zeroValue,typeInfo,hi,hz],VR.of h (Aie σ v)⟩
theorem Aug (hρ:∀ x,Rep σ (s.eval x) (a.eval x)) (o:Oper) (c:Call) (hop:o.op=.call c):AOk P σ w ((execOp a.eval o).run P w) (eff P (.call c) s.eval):=by
 have hargs:RepL σ (c.args.toList.map s.eval) (c.args.map a.eval).toList:=by simpa using Sx hρ c.args.toList
 obtain ⟨callee,args,argTypes⟩:=c
 simp only at hargs
 cases callee with
 | invoke r m=>simp only [eff,AOk]
 | value f =>
  simp only [eff]
  split
  ·rename_i g first captured hf
   have hfr:=hρ f
   rw [hf] at hfr;simp only [Rep] at hfr
   obtain ⟨x,y,h1,h2,h3⟩:=hfr
   simp only [AOk]
   refine ⟨x++(args.map a.eval).toList++y,(h1.append hargs).append h2,?_⟩
   have he:(x++(args.map a.eval).toList++y).toArray=x.toArray++args.map a.eval++y.toArray:=by apply Array.ext';simp
   rw [he]
   simp only [execOp,hop,resolve,h3,Deferred.ofValue,invoke,Sem.run_bind,Sem.run_pure,Result.andThen_ok]
  ·rename_i id hf
   have hfr:=hρ f
   rw [hf] at hfr;simp only [Rep] at hfr
   obtain ⟨b,h1,h2⟩:=hfr
   simp only [AOk]
   refine ⟨(args.map a.eval).toList,b,hargs,h1,?_⟩
   have he:(args.map a.eval).toList.toArray=args.map a.eval:=Array.toArray_toList
   rw [he]
   simp [execOp,hop,resolve,h2,Deferred.ofValue,invoke]
  ·simp only [AOk]
 | builtin b =>
  generalize hxs:args.toList.map s.eval=xs at hargs
  simp only [eff,hxs,A9q]
  have hlenrun:b=.len→∀ (aa:Option Addr) (n cap:Nat) (t e:TypeId),argTypes[0]? = some t→P.underlying t=some (.slice e)→(args.map a.eval)[0]? = some (.slice aa n cap)→(execOp a.eval o).run P w=.ok (.value (.int .i64 n)) w:=by
   intro hbl aa n cap t e ht hu h0
   subst hbl
   simp only [execOp,hop,resolve,invoke,builtin,Builtin.len_,ht,h0,Sem.run_bind,Sem.run_pure,Result.andThen_ok,run_underlying hu,goInt]
  have hhead:∀ (v:Value) (us:List Value),(args.map a.eval).toList=v::us→(args.map a.eval)[0]? = some v:=by
   intro v us h1
   have:=congrArg (fun l=>l[0]?) h1
   simpa using this
  split
  ·rename_i id off st n cap
   simp only [RepL] at hargs
   obtain ⟨v,us,h1,h2,rfl⟩:=hargs
   simp only [Rep] at h2
   obtain ⟨hlen,_,b,h3,rfl⟩:=h2
   cases hb:F9 P argTypes[0]? with
   | false=>simp only [cond_false,AOk]
   | true =>
    obtain ⟨t,e,ht,hu⟩:=Gn hb
    simp only [cond_true,AOk]
    exact ⟨_,hlenrun rfl _ _ _ t e ht hu (hhead _ _ h1),Ev ⟨by simp only [Iz];omega,hlen.1⟩⟩
  ·rename_i c xs
   simp only [RepL] at hargs
   obtain ⟨v,us,h1,h2,rfl⟩:=hargs
   simp only [Rep] at h2
   cases hb:F9 P argTypes[0]? with
   | false=>simp only [cond_false,AOk]
   | true =>
    obtain ⟨t,e,ht,hu⟩:=Gn hb
    simp only [cond_true,AOk]
    rcases I9 h2 with ⟨rfl,rfl⟩ | ⟨b,o',sp,cap,us,rfl,h3,h4,_,_⟩
    ·exact ⟨_,hlenrun rfl _ _ _ t e ht hu (hhead _ _ h1),Ev ⟨by simp [Iz],by simp [B7]⟩⟩
    ·exact ⟨_,hlenrun rfl _ _ _ t e ht hu (hhead _ _ h1),Ev ⟨by simp only [Iz];omega,by omega⟩⟩
  ·rename_i id
   simp only [RepL] at hargs
   obtain ⟨v,us,h1,h2,rfl⟩:=hargs
   simp only [Rep] at h2
   cases hb:F9 P argTypes[0]? with
   | false=>simp only [cond_false,AOk]
   | true =>
    obtain ⟨t,e,ht,hu⟩:=Gn hb
    simp only [cond_true,AOk]
    intro aa n cap hsv
    rw [h2.1] at hsv
    cases hsv
    exact hlenrun rfl _ _ _ t e ht hu (hhead _ _ h1)
  ·simp only [RepL] at hargs
   obtain ⟨v,us,h1,h2,rfl⟩:=hargs
   simp only [Rep] at h2
   subst h2
   cases hb:F9 P argTypes[0]? with
   | false=>simp only [cond_false,AOk]
   | true =>
    obtain ⟨t,e,ht,hu⟩:=Gn hb
    simp only [cond_true,AOk]
    exact ⟨_,hlenrun rfl _ _ _ t e ht hu (hhead _ _ h1),Ev ⟨by simp [Iz],by simp [B7]⟩⟩
  ·rename_i u
   simp only [RepL] at hargs
   obtain ⟨v,us,h1,h2,rfl⟩:=hargs
   simp only [Rep] at h2
   subst h2
   cases hb:M6 P argTypes[0]? with
   | false=>simp only [cond_false,AOk]
   | true =>
    obtain ⟨t,ht,hu⟩:=A05 hb
    simp only [cond_true,AOk]
    intro hk
    refine ⟨_,?_,Ev (M8.1 hk)⟩
    simp only [execOp,hop,resolve,invoke,builtin,Builtin.len_,ht,hhead _ _ h1,Sem.run_bind,Sem.run_pure,Result.andThen_ok,run_underlying hu,goInt]
  ·simp only [RepL] at hargs
   obtain ⟨v,us,h1,h2,rfl⟩:=hargs
   simp only [Rep] at h2
   subst h2
   cases hb:F9 P argTypes[0]? with
   | false=>simp only [cond_false,AOk]
   | true =>
    obtain ⟨t,e,ht,hu⟩:=Gn hb
    simp only [cond_true,AOk]
    refine ⟨_,?_,Ev ⟨by simp [Iz],by simp [B7]⟩⟩
    simp only [execOp,hop,resolve,invoke,builtin,Builtin.cap_,ht,hhead _ _ h1,Sem.run_bind,Sem.run_pure,Result.andThen_ok,run_underlying hu,goInt]
    rfl
  ·rename_i x y
   simp only [RepL] at hargs
   obtain ⟨v,us,h1,h2,v',us',h1',h2',rfl⟩:=hargs
   subst h1'
   split
   ·rename_i t u ht hu
    cases hbt:Nat.beq t u with
    | false =>
     simp only [cond_false]
     have h0:args.map a.eval=#[v,v']:=by apply Array.ext';simpa using h1
     exact Auf (ats:=argTypes) (tr:=o.type) h2 h2' ht hu (by simp only [execOp,hop,resolve,invoke,builtin,Sem.run_bind,Sem.run_pure,Result.andThen_ok,h0])
    | true =>
     have htu:t=u:=by simpa using hbt
     subst htu
     simp only [cond_true]
     split
     ·rename_i e hte
      split
      ·rename_i sz by' z hs hby hz
       cases hb:(Nat.ble 1 sz&&(decide (1≤by')&&Nat.beq (Bz z) sz)) with
       | false=>simp only [cond_false,AOk]
       | true =>
        simp only [Bool.and_eq_true,Nat.ble_eq,decide_eq_true_eq,Nat.beq_eq,Bg] at hb
        obtain ⟨hb1,hb2,hb3⟩:=hb
        simp only [cond_true,AOk]
        unfold Up at hby
        unfold Cn at hs
        unfold M5 at hz
        cases hie:P.info? e with
        | none=>simp [hie] at hby
        | some ie =>
         cases hiz:ie.zero with
         | none=>simp [hie,hiz] at hz
         | some zv =>
          simp [hie] at hby hs
          simp [hie,hiz] at hz
          have hzl:zv.cells.size=z.length:=by rw [← hz];simp
          refine ⟨t,o.type,v,v',ie,zv,h2,h2',hte,rfl,hiz,hs,by omega,by omega,by omega,by omega,?_⟩
          have h0:args.map a.eval=#[v,v']:=by apply Array.ext';simpa using h1
          have hat:argTypes[0]? = some t∧argTypes[1]? = some t:=⟨ht,hu⟩
          simp only [execOp,hop,resolve,invoke,builtin,Sem.run_bind,Sem.run_pure,Result.andThen_ok,h0]
          have key:∀ tr,Builtin.append_ argTypes tr #[v,v']=Builtin.append_ #[t,t] tr #[v,v']:=by
           intro tr
           simp only [Builtin.append_,ht,hu]
           rfl
          rw [key]
      ·simp only [AOk]
     ·simp only [AOk]
   ·simp only [AOk]
  ·rename_i id k
   simp only [RepL] at hargs
   obtain ⟨v,us,h1,h2,v',us',h1',h2',rfl⟩:=hargs
   subst h1'
   simp only [Rep] at h2
   obtain ⟨b,hb,rfl⟩:=h2
   split
   ·rename_i kt vt hu
    obtain ⟨t,ht,hu⟩:=Option.bind_eq_some_iff.1 hu
    split
    ·rename_i kc hkc
     cases hk:Gh P 8 kt kc with
     | false=>simp only [cond_false,AOk]
     | true =>
      simp only [cond_true]
      split
      ·rename_i y hy
       have h0:args.map a.eval=#[.map (some b),v']:=by apply Array.ext';simpa using h1
       simp only [AOk]
       exact ⟨b,argTypes,o.type,t,kt,vt,v',hb,ht,hu,hk,VR.of hy h2',by simp [execOp,hop,resolve,invoke,builtin,h0]⟩
      ·simp only [AOk]
    ·simp only [AOk]
   ·simp only [AOk]
  ·rename_i id
   simp only [RepL] at hargs
   obtain ⟨v,us,h1,h2,rfl⟩:=hargs
   simp only [Rep] at h2
   obtain ⟨b,hb,rfl⟩:=h2
   split
   ·rename_i kt vt hu
    obtain ⟨t,ht,hu⟩:=Option.bind_eq_some_iff.1 hu
    have h0:args.map a.eval=#[.map (some b)]:=by apply Array.ext';simpa using h1
    simp only [AOk]
    exact ⟨b,argTypes,o.type,t,kt,vt,hb,ht,hu,by simp [execOp,hop,resolve,invoke,builtin,h0]⟩
   ·simp only [AOk]
  ·rename_i k x l
   simp only [RepL] at hargs
   obtain ⟨v,us,h1,h2,h3⟩:=hargs
   simp only [Rep] at h2
   obtain ⟨rfl,hin⟩:=h2
   refine Mw fun y hy=>?_
   obtain ⟨r,hr1,hr2⟩:=Aii (w:=w) (P:=P) l us k x y hin h3 hy
   refine ⟨r,?_,hr2⟩
   simp only [execOp,hop,resolve,invoke,builtin,Builtin.max_,h1,Sem.run_bind,Sem.run_pure,Result.andThen_ok,hr1]
  ·rename_i k x l
   simp only [RepL] at hargs
   obtain ⟨v,us,h1,h2,h3⟩:=hargs
   simp only [Rep] at h2
   obtain ⟨rfl,hin⟩:=h2
   refine Mw fun y hy=>?_
   obtain ⟨r,hr1,hr2⟩:=Aij (w:=w) (P:=P) l us k x y hin h3 hy
   refine ⟨r,?_,hr2⟩
   simp only [execOp,hop,resolve,invoke,builtin,Builtin.min_,h1,Sem.run_bind,Sem.run_pure,Result.andThen_ok,hr1]
  ·simp only [AOk]
theorem El {x:Value} {k:IntKind} {n:Int} (hx:x=.int k n) (y:Nat) (code:BoundsCode) (h:0≤n∧n≤y) (w:World):(Instr.sliceBound x y code).run P w=.ok n.toNat w:=by
 subst hx
 simp only [Instr.sliceBound,asIntOf,Sem.run_bind,Sem.run_pure,Result.andThen_ok,if_pos h]
theorem Alk (hρ:∀ x,Rep σ (s.eval x) (a.eval x)) (o:Oper) (t:TypeId) (x:Operand) (lo hi mx:Option Operand) (hop:o.op=.slice t x lo hi mx):AOk P σ w ((execOp a.eval o).run P w) (eff P (.slice t x lo hi mx) s.eval):=by
 have hx:=hρ x
 simp only [eff]
 split
 ·rename_i c xs e h hu
  rw [h] at hx;simp only [Rep] at hx
  have hat:∀ lo hi:Option Value,Instr.sliceAt t (a.eval x) lo hi none=Instr.sliceAt t (a.eval x) lo hi none:=fun _ _=>rfl
  have hres:∀ (l h:Nat) (b o':Nat) (sp:Option Nat) (cap:Nat) (us:List Value),l≤h→h≤xs.length→xs.length≤cap→(cap:Int)≤B7 .i64→(us=[]∨sp=none)→Reads σ.mem b o' us→LR (RepD σ.mem c) xs us →
    Rep σ (.ro c ((xs.take h).drop l)) (.slice (if cap=l then some ⟨b,o',sp⟩ else some ((⟨b,o',sp⟩:Addr).add (l*c.size))) (h-l) (cap-l)):=by
   intro l h b o' sp cap us h1 h2 h3 h4 hsp h5 h6
   have hlen:((xs.take h).drop l).length=h-l:=by simp;omega
   simp only [Rep]
   refine Oc (.inr ?_)
   have k1:=LR.take (fun x vs=>RepD.len c x vs) h h6 h2
   have k2:=LR.drop (fun x vs=>RepD.len c x vs) l k1 (by simp;omega)
   have k3:Reads σ.mem b (o'+l*c.size) ((us.take (h*c.size)).drop (l*c.size)):=by
    rw [List.drop_take];exact h5.sub _ _
   rw [hlen]
   by_cases hc:cap=l
   ·subst hc
    rw [if_pos rfl]
    have e0:h-cap=0:=by omega
    have hnil:(xs.take h).drop cap=[]:=List.eq_nil_of_length_eq_zero (by omega)
    rw [hnil] at k2 ⊢
    exact ⟨b,o',sp,_,[],rfl,by omega,by omega,⟨.inl rfl,fun j u hj=>by simp at hj⟩,by simp [LR]⟩
   ·rw [if_neg hc,A00]
    exact ⟨b,o'+l*c.size,_,_,_,rfl,by omega,by omega,⟨hsp.imp (fun e=>by simp [e]) (fun e=>by rw [e];simp),k3⟩,k2⟩
  split
  ·rename_i sz k hv hs hlo hhi
   cases hb:Nat.beq c.size sz with
   | false=>simp only [cond_false,AOk]
   | true =>
    have hb':c.size=sz:=by simpa using hb
    subst hb'
    simp only [cond_true,AOk]
    intro ht
    have ht':=of_decide_eq_true ht
    obtain ⟨hio,rfl,hie⟩:=Option.map_eq_some_iff.1 hhi
    have hie':=hρ hio
    rw [hie] at hie';simp only [Rep] at hie'
    have hlo':lo=none:=by cases lo <;> simp at hlo ⊢
    subst hlo'
    rcases I9 hx with ⟨h2,rfl⟩ | ⟨b,o',sp,cap,us,h2,h3,h4,⟨hsp,h5⟩,h6⟩
    ·refine ⟨.slice none 0 0,?_,by simp only [Rep];exact Oc (.inl ⟨rfl,by simp⟩)⟩
     have hz:hv.toNat=0:=by simp at ht';omega
     have hb0:=fun code=>El (P:=P) hie'.1 0 code (by simp at ht' ⊢;omega) w
     simp only [execOp,hop,h2,Instr.sliceAt,Instr.slice,Instr.sliceBounds,Option.map_none,Option.map_some,Sem.run_bind,Sem.run_pure,Result.andThen_ok,run_underlying hu,Br hs,hb0,hz]
     simp
    ·have hb0:=fun code=>El (P:=P) hie'.1 cap code (by omega) w
     have hr:=hres 0 hv.toNat b o' sp cap us (by omega) (by omega) h3 h4 hsp h5 h6
     simp only [List.drop_zero] at hr
     refine ⟨_,?_,hr⟩
     simp only [execOp,hop,h2,Instr.sliceAt,Instr.slice,Instr.sliceBounds,Option.map_none,Option.map_some,Sem.run_bind,Sem.run_pure,Result.andThen_ok,run_underlying hu,Br hs,hb0]
  ·rename_i sz k lv hs hlo hhi
   cases hb:Nat.beq c.size sz with
   | false=>simp only [cond_false,AOk]
   | true =>
    have hb':c.size=sz:=by simpa using hb
    subst hb'
    simp only [cond_true,AOk]
    intro ht
    have ht':=of_decide_eq_true ht
    obtain ⟨loo,rfl,hle⟩:=Option.map_eq_some_iff.1 hlo
    have hle':=hρ loo
    rw [hle] at hle';simp only [Rep] at hle'
    have hhi':hi=none:=by cases hi <;> simp at hhi ⊢
    subst hhi'
    rcases I9 hx with ⟨h2,rfl⟩ | ⟨b,o',sp,cap,us,h2,h3,h4,⟨hsp,h5⟩,h6⟩
    ·refine ⟨.slice none 0 0,?_,by simp only [Rep];exact Oc (.inl ⟨rfl,by simp⟩)⟩
     have hz:lv.toNat=0:=by simp at ht';omega
     have hb0:=fun code=>El (P:=P) hle'.1 0 code (by simp at ht' ⊢;omega) w
     simp only [execOp,hop,h2,Instr.sliceAt,Instr.slice,Instr.sliceBounds,Option.map_none,Option.map_some,Sem.run_bind,Sem.run_pure,Result.andThen_ok,run_underlying hu,Br hs,hb0,hz]
     simp
    ·have hb0:=fun code=>El (P:=P) hle'.1 xs.length code (by omega) w
     have hr:=hres lv.toNat xs.length b o' sp cap us (by omega) (Nat.le_refl _) h3 h4 hsp h5 h6
     rw [List.take_length] at hr
     refine ⟨_,?_,hr⟩
     simp only [execOp,hop,h2,Instr.sliceAt,Instr.slice,Instr.sliceBounds,Option.map_none,Option.map_some,Sem.run_bind,Sem.run_pure,Result.andThen_ok,run_underlying hu,Br hs,hb0]
  ·rename_i sz k lv k' hv hs hlo hhi
   cases hb:Nat.beq c.size sz with
   | false=>simp only [cond_false,AOk]
   | true =>
    have hb':c.size=sz:=by simpa using hb
    subst hb'
    simp only [cond_true,AOk]
    intro ht
    have ht':=of_decide_eq_true ht
    obtain ⟨loo,rfl,hle⟩:=Option.map_eq_some_iff.1 hlo
    have hle':=hρ loo
    rw [hle] at hle';simp only [Rep] at hle'
    obtain ⟨hio,rfl,hie⟩:=Option.map_eq_some_iff.1 hhi
    have hie':=hρ hio
    rw [hie] at hie';simp only [Rep] at hie'
    rcases I9 hx with ⟨h2,rfl⟩ | ⟨b,o',sp,cap,us,h2,h3,h4,⟨hsp,h5⟩,h6⟩
    ·refine ⟨.slice none 0 0,?_,by simp only [Rep];exact Oc (.inl ⟨rfl,by simp⟩)⟩
     have hz:lv.toNat=0∧hv.toNat=0:=by simp at ht';omega
     have hb0:=fun code=>El (P:=P) hie'.1 0 code (by simp at ht' ⊢;omega) w
     have hb1:=fun code=>El (P:=P) hle'.1 0 code (by simp at ht' ⊢;omega) w
     simp only [execOp,hop,h2,Instr.sliceAt,Instr.slice,Instr.sliceBounds,Option.map_none,Option.map_some,Sem.run_bind,Sem.run_pure,Result.andThen_ok,run_underlying hu,Br hs,hb0,hb1,hz.1,hz.2]
     simp
    ·have hb0:=fun code=>El (P:=P) hie'.1 cap code (by omega) w
     have hb1:=fun code=>El (P:=P) hle'.1 hv.toNat code (by omega) w
     have hr:=hres lv.toNat hv.toNat b o' sp cap us (by omega) (by omega) h3 h4 hsp h5 h6
     refine ⟨_,?_,hr⟩
     simp only [execOp,hop,h2,Instr.sliceAt,Instr.slice,Instr.sliceBounds,Option.map_none,Option.map_some,Sem.run_bind,Sem.run_pure,Result.andThen_ok,run_underlying hu,Br hs,hb0,hb1]
  ·simp only [AOk]
 ·rename_i id st col n e h hu
  rw [h] at hx;simp only [Rep] at hx
  obtain ⟨b,h1,h2⟩:=hx
  split
  ·rename_i sz hmap hs
   cases hb:(Nat.ble 1 n&&Nat.ble n 65536) with
   | false=>simp only [cond_false,AOk]
   | true =>
    simp only [Bool.and_eq_true,Nat.ble_eq] at hb
    simp only [cond_true,AOk]
    refine ⟨.slice (some ⟨b,col,none⟩) n n,?_,by simp only [Rep,B7];exact ⟨⟨by omega,Nat.le_refl _⟩,by omega,b,h1,rfl⟩⟩
    have hn:¬ n=0:=by omega
    have hhi':hi=none:=by cases hi <;> simp at hmap ⊢
    subst hhi'
    simp [execOp,hop,h2,Instr.sliceAt,Instr.sureAddr,Instr.sliceBounds,run_underlying hu,Br hs,Addr.add]
  ·rename_i k hv sz hhi hs
   cases hb:(Nat.ble 1 n&&Nat.ble n 8) with
   | false=>simp only [cond_false,AOk]
   | true =>
    simp only [Bool.and_eq_true,Nat.ble_eq] at hb
    rw [cond_true]
    obtain ⟨hio,rfl,hie⟩:=Option.map_eq_some_iff.1 hhi
    have hie':=hρ hio
    rw [hie] at hie';simp only [Rep] at hie'
    refine A01 (n+1) 0 fun j _ hj hjv=>?_
    subst hjv
    simp only [AOk]
    refine ⟨.slice (some ⟨b,col,none⟩) j n,?_,by simp only [Rep,B7];exact ⟨⟨by omega,by omega⟩,by omega,b,h1,rfl⟩⟩
    have hn:¬ n=0:=by omega
    have hb0:=fun code=>El (P:=P) hie'.1 n code (by omega) w
    simp [execOp,hop,h2,Instr.sliceAt,Instr.sureAddr,Instr.sliceBounds,run_underlying hu,Br hs,Addr.add,hb0]
  ·simp only [AOk]
 ·rename_i id e h hu
  rw [h] at hx;simp only [Rep] at hx
  split
  ·rename_i sz k hv hs hhi
   obtain ⟨hio,rfl,hie⟩:=Option.map_eq_some_iff.1 hhi
   have hie':=hρ hio
   rw [hie] at hie';simp only [Rep] at hie'
   simp only [AOk]
   refine ⟨_,hx.1,fun h2 h0=>?_,fun b len cap h2 h0 h1=>?_⟩
   ·have hb0:=fun code=>El (P:=P) hie'.1 0 code (by omega) w
    simp only [execOp,hop,h2,Instr.sliceAt,Instr.slice,Instr.sliceBounds,Option.map_none,Option.map_some,Sem.run_bind,Sem.run_pure,Result.andThen_ok,run_underlying hu,Br hs,hb0,h0]
    simp
   ·have hb0:=fun code=>El (P:=P) hie'.1 cap code (by omega) w
    simp only [execOp,hop,h2,Instr.sliceAt,Instr.slice,Instr.sliceBounds,Option.map_none,Option.map_some,Sem.run_bind,Sem.run_pure,Result.andThen_ok,run_underlying hu,Br hs,hb0]
    simp [Addr.add]
  ·simp only [AOk]
 ·rename_i e h hu
  rw [h] at hx;simp only [Rep] at hx
  split
  ·rename_i sz k hv hs hhi
   obtain ⟨hio,rfl,hie⟩:=Option.map_eq_some_iff.1 hhi
   have hie':=hρ hio
   rw [hie] at hie';simp only [Rep] at hie'
   simp only [AOk]
   intro h0
   have h0':=of_decide_eq_true h0
   have hb0:=fun code=>El (P:=P) hie'.1 0 code (by omega) w
   refine ⟨.slice none 0 0,?_,by simp only [Rep]⟩
   simp only [execOp,hop,hx,Instr.sliceAt,Instr.slice,Instr.sliceBounds,Option.map_none,Option.map_some,Sem.run_bind,Sem.run_pure,Result.andThen_ok,run_underlying hu,Br hs,hb0,h0']
   simp
  ·simp only [AOk]
 ·simp only [AOk]
theorem A5u (hm:MemOk σ.mem w) (hρ:∀ x,Rep σ (s.eval x) (a.eval x)) (o:Oper):AOk P σ w ((execOp a.eval o).run P w) (eff P o.op s.eval):=by
 cases hop:o.op with
 | move x=>simp only [eff,AOk];exact ⟨_,by simp [execOp,hop],hρ x⟩
 | assign x=>simp only [eff,AOk];exact ⟨_,by simp [execOp,hop],hρ x⟩
 | pick c x y =>
  have hc:=hρ c
  simp only [eff]
  split
  ·rename_i b h1
   rw [h1] at hc;simp only [Rep] at hc
   cases b with
   | true =>
    simp only [cond_true,AOk]
    exact ⟨_,by simp [execOp,hop,hc,asBool],hρ x⟩
   | false =>
    simp only [cond_false,AOk]
    exact ⟨_,by simp [execOp,hop,hc,asBool],hρ y⟩
  ·simp only [AOk]
 | alloc t=>exact Alj o t hop
 | box t x=>exact B2g hρ o t x hop
 | build t parts=>exact Alg hρ o t parts hop
 | buildSlice t len parts=>exact A04 hρ o t len parts hop
 | load t x=>exact Auc hm hρ o t x hop
 | store t x y=>exact Alf hρ o t x y hop
 | nilCheck x =>
  have hx:=hρ x
  simp only [eff]
  split
  ·rename_i id row st col h
   rw [h] at hx
   have hx':=hx
   simp only [Rep] at hx'
   obtain ⟨b,h1,h2⟩:=hx'
   simp only [AOk]
   exact ⟨.pointer (some ⟨b,row*st+col,none⟩),by simp [execOp,hop,h2],by simp only [Rep];exact ⟨b,h1,rfl⟩⟩
  ·rename_i c y col h
   rw [h] at hx
   have hx':=hx
   simp only [Rep] at hx'
   obtain ⟨b,o',vs,h1,h2,h3⟩:=hx'
   simp only [AOk]
   exact ⟨.pointer (some ⟨b,o'+col,none⟩),by simp [execOp,hop,h1],by simp only [Rep];exact ⟨b,o',vs,rfl,h2,h3⟩⟩
  ·rename_i f p q h
   rw [h] at hx
   have hx':=hx
   simp only [Rep] at hx'
   obtain ⟨u,v,h1,h2,h3⟩:=hx'
   simp only [AOk]
   exact ⟨.func (.func f) u.toArray v.toArray,by simp [execOp,hop,h3],by simp only [Rep];exact ⟨u,v,h1,h2,rfl⟩⟩
  ·rename_i id h
   rw [h] at hx
   have hx':=hx
   simp only [Rep] at hx'
   obtain ⟨b,h1,h2⟩:=hx'
   simp only [AOk]
   exact ⟨.func (.yield b) #[] #[],by simp [execOp,hop,h2],by simp only [Rep];exact ⟨b,h1,rfl⟩⟩
  ·simp only [AOk]
 | binOp op t x y ty=>simp only [eff];exact B2f op t x y ty o hop (hρ x) (hρ y)
 | unOp op t x=>exact Bag hρ o op t x hop
 | convert src dst x=>exact Aue hρ o src dst x hop
 | makeFunc fn first captured =>
  simp only [eff,AOk]
  refine ⟨.func fn (first.map a.eval) (captured.map a.eval),by simp [execOp,hop,Instr.makeFunc],?_⟩
  simp only [Rep]
  refine ⟨first.toList.map a.eval,captured.toList.map a.eval,Sx hρ _,Sx hρ _,?_⟩
  congr 1 <;> (apply Array.ext';simp)
 | makeInterface t x =>
  simp only [eff]
  split
  ·simp only [AOk]
  ·rename_i d hd hu
   simp only [AOk]
   refine ⟨.iface t (a.eval x),?_,by simp only [Rep];exact ⟨_,hρ x,rfl⟩⟩
   cases d with
   | interface m=>exact (hd m rfl).elim
   | _=>simp only [execOp,hop,Instr.makeInterface,Sem.run_bind,run_underlying hu,Result.andThen_ok];rfl
  ·simp only [AOk]
 | defer c =>
  obtain ⟨callee,args,argTypes⟩:=c
  cases callee with
  | value f =>
   simp only [eff]
   split
   ·rename_i g first captured hf
    have hfr:=hρ f
    rw [hf] at hfr;simp only [Rep] at hfr
    obtain ⟨x,y,h1,h2,h3⟩:=hfr
    have hargs:RepL σ (args.toList.map s.eval) (args.map a.eval).toList:=by simpa using Sx hρ args.toList
    simp only [AOk]
    refine ⟨_,⟨x++(args.map a.eval).toList,y,h1.append hargs,h2,rfl⟩,?_⟩
    have he:(x++(args.map a.eval).toList).toArray=x.toArray++args.map a.eval:=by apply Array.ext';simp
    rw [he]
    simp only [execOp,hop,resolve,h3,Deferred.ofValue,Sem.run_bind,Sem.run_pure,Result.andThen_ok]
   ·simp only [AOk]
  | _=>simp only [eff,AOk]
 | panic x =>
  have hx:=hρ x
  simp only [eff]
  split
  ·rename_i t y h
   rw [h] at hx
   have hx':=hx
   simp only [Rep] at hx'
   obtain ⟨u,_,h2⟩:=hx'
   simp only [AOk]
   refine ⟨.iface t u,by rw [← h2];exact hx,?_⟩
   simp only [execOp,hop,h2,Instr.panic,goPanic,Sem.run_bind]
   rfl
  ·simp only [AOk]
 | typeAssert x xt t ok =>
  have hx:=hρ x
  cases ok with
  | false=>simp only [eff,AOk]
  | true =>
   simp only [eff]
   split
   ·rename_i u y d h hu
    rw [h] at hx;simp only [Rep] at hx
    obtain ⟨v,h1,h2⟩:=hx
    split
    ·simp only [AOk]
    ·rename_i hd
     cases hb:Nat.beq u t with
     | false=>simp only [cond_false,AOk]
     | true =>
      have hut:u=t:=by simpa using hb
      subst hut
      simp only [cond_true,AOk]
      refine ⟨.tuple #[v,.bool true],?_,by simp only [Rep,RepL];exact ⟨[v,.bool true],⟨v,_,rfl,h1,_,_,rfl,rfl,rfl⟩,rfl⟩⟩
      cases d with
      | interface m=>exact (hd m rfl).elim
      | _=>simp [execOp,hop,h2,Instr.typeAssert,run_underlying hu]
   ·rename_i d h hu
    rw [h] at hx;simp only [Rep] at hx
    split
    ·simp only [AOk]
    ·rename_i hd
     have hfail:∀ v:Value,(zeroValue t).run P w=.ok v w→(execOp a.eval o).run P w=.ok (.value (.tuple #[v,.bool false])) w:=by
      intro v hv
      cases d with
      | interface m=>exact (hd m rfl).elim
      | _=>simp [execOp,hop,hx,Instr.typeAssert,run_underlying hu,hv]
     split
     ·rename_i k n hz
      cases hk:I6 k n with
      | false=>simp only [cond_false,AOk]
      | true =>
       simp only [cond_true,AOk]
       have hv:(zeroValue t).run P w=.ok (.int k n) w:=by
        cases hi:P.info? t with
        | none=>simp [hi] at hz
        | some i=>simp [hi] at hz;simp [zeroValue,typeInfo,hi,hz]
       refine ⟨.tuple #[.int k n,.bool false],hfail _ hv,by simp only [Rep,RepL];exact ⟨[.int k n,.bool false],⟨_,_,rfl,⟨rfl,M8.1 hk⟩,_,_,rfl,rfl,rfl⟩,rfl⟩⟩
     ·simp only [AOk]
   ·simp only [AOk]
 | slice t x lo hi mx=>exact Alk hρ o t x lo hi mx hop
 | fieldAddr t x i=>exact A21 hρ o t x i hop
 | field t x i=>exact Alh hρ o t x i hop
 | indexAddr t x i=>exact A22 hρ o t x i hop
 | index t x i=>exact Ali hρ o t x i hop
 | makeSlice t l c =>
  have hl:=hρ l
  have hc:=hρ c
  simp only [eff]
  split
  ·rename_i k1 l' k2 c' e h1 h2 hu
   rw [h1] at hl;rw [h2] at hc;simp only [Rep] at hl hc
   obtain ⟨hl,hl'⟩:=hl
   obtain ⟨hc,hc'⟩:=hc
   split
   ·rename_i sz z by' hs hz hby
    cases hb:(Nat.ble 1 sz&&Nat.beq (Bz z) sz) with
    | false=>simp only [cond_false,AOk]
    | true =>
     simp only [Bool.and_eq_true,Nat.ble_eq,Nat.beq_eq,Bg] at hb
     simp only [cond_true,AOk]
     intro ht
     obtain ⟨t1,t2,t3,t4⟩:=of_decide_eq_true ht
     obtain ⟨v,hv1,hv2⟩:=Sv (σ:=σ) hz w
     have hvl:v.cells.size=sz:=by have:=hv2.length;simp at this;omega
     unfold Up at hby
     cases hie:P.info? e with
     | none=>simp [hie] at hby
     | some ie =>
      simp [hie] at hby
      subst hby
      have hsz:ie.size=sz:=by unfold Cn at hs;simp [hie] at hs;exact hs
      have w1:IntKind.i64.wrap l'=l':=by unfold IntKind.wrap;simp [IntKind.bits,IntKind.signed];split <;> omega
      have w2:IntKind.i64.wrap c'=c':=by unfold IntKind.wrap;simp [IntKind.bits,IntKind.signed];split <;> omega
      have hrep:=A3e (σ:=σ) (n:=c'.toNat*sz) hv2 hb.1 hb.2
      have hcells:(Array.range (c'.toNat*sz)).map (v.cells[· % v.cells.size]!)=((List.range (c'.toNat*sz)).map (v.cells[· % v.cells.size]!)).toArray:=by
       apply Array.ext';simp
      have hrun:(execOp a.eval o).run P w=.ok (.value (.slice (some ⟨w.heap.size,0,none⟩) l'.toNat c'.toNat)) (w.alloc (.cells ((List.range (c'.toNat*sz)).map (v.cells[· % v.cells.size]!)).toArray e)):=by
       have ht1:¬ (c'<0∨(ie.bytes:Int)*c'>2 ^ 48):=by omega
       have hz0:c'.toNat*sz=0→(Array.range (c'.toNat*sz)).map ((#[]:Array Value)[· % (#[]:Array Value).size]!)=(Array.range (c'.toNat*sz)).map (v.cells[· % v.cells.size]!):=by
        intro e;rw [e];simp
       have hti:(typeInfo e).run P w=.ok ie w:=by simp [typeInfo,hie]
       have c1:(decide (c'<0)||decide ((ie.bytes:Int)*c'>2 ^ 48)||decide (l'<0)||decide (l'>c'))=false:=by simp;omega
       simp only [execOp,hop,hl,hc,Instr.makeSlice,asInt,asIntOf,Sem.run_bind,Sem.run_pure,Result.andThen_ok,run_underlying hu,hti,w1,w2,c1,Bool.false_eq_true,if_false,run_askRoom,Br hs]
       by_cases h0:c'.toNat*sz=0
       ·simp only [if_pos h0,Sem.run_pure,Result.andThen_ok,newRow,Sem.run_bind,run_newObj,hz0 h0,hcells]
        rfl
       ·simp only [if_neg h0,Sem.run_bind,hv1,Sem.run_pure,Result.andThen_ok,newRow,run_newObj,hcells]
        rfl
      split
      ·rename_i d hd
       split
       ·rename_i x hx
        cases hds:Nat.beq d.size sz with
        | false=>simp only [cond_false,AOk]
        | true =>
         have hds':d.size=sz:=by simpa using hds
         simp only [cond_true,AOk]
         have hxr:=Mt hx hv2
         have hzl:=A02 hxr (by omega) l'.toNat
         refine ⟨_,c'.toNat,by rw [List.length_replicate];exact hrun,by simp [hds'],by simp;omega,by simp only [maxLen];omega,by omega,?_⟩
         rw [List.length_replicate,hds',← List.map_take,List.take_range,Nat.min_eq_left (Nat.mul_le_mul_right sz (by omega))]
         rw [hds'] at hzl
         rw [hvl]
         have he:(fun j=>v.cells.toList[j % sz]!)=fun j=>v.cells[j % sz]! := by funext j;rw [List.getElem!_eq_getElem?_getD,Array.getElem!_eq_getD,Array.getD_eq_getD_getElem?,Array.getElem?_toList]
         rw [he] at hzl
         exact hzl
       ·simp only [AOk]
      ·simp only [AOk]
       refine ⟨_,.slice (some ⟨w.heap.size,0,none⟩) l'.toNat c'.toNat,hrep,hrun,fun τ i _ hi=>?_⟩
       simp only [Rep]
       exact ⟨⟨by simp only [B7];omega,by omega⟩,by simp only [B7];omega,_,hi,by simp⟩
   ·simp only [AOk]
  ·simp only [AOk]
 | extract x i =>
  have hx:=hρ x
  simp only [eff]
  split
  ·rename_i vs h
   rw [h] at hx;simp only [Rep] at hx
   obtain ⟨us,h1,h2⟩:=hx
   refine Mw fun y hy=>?_
   rw [E4] at hy
   obtain ⟨v,hv1,hv2⟩:=h1.get hy
   refine ⟨v,?_,hv2⟩
   simp [execOp,hop,h2,Instr.extract,hv1]
  ·simp only [AOk]
 | call c=>exact Aug hρ o c hop
 | range t x =>
  have hx:=hρ x
  simp only [eff]
  split
  ·rename_i u h hu
   rw [h] at hx;simp only [Rep] at hx
   simp only [AOk]
   simp [execOp,hop,hx,Instr.range,run_underlying hu]
  ·simp only [AOk]
 | next x b =>
  have hx:=hρ x
  cases b with
  | false=>simp only [eff,AOk]
  | true =>
   simp only [eff]
   split
   ·rename_i id h
    rw [h] at hx;simp only [Rep] at hx
    obtain ⟨b,h1,h2⟩:=hx
    simp only [AOk]
    refine ⟨b,h1,fun t pos hw=>⟨fun hp=>?_,fun hp=>?_⟩⟩
    ·simp [execOp,hop,h2,Instr.next,Q9 hw,A23 _ hw,show pos<t.size by omega,goInt]
    ·simp [execOp,hop,h2,Instr.next,Q9 hw,show ¬ pos<t.size by omega]
   ·simp only [AOk]
 | makeMap t r =>
  cases r with
  | some r=>simp only [eff,AOk]
  | none =>
   simp only [eff]
   split
   ·split
    ·simp only [AOk]
     simp [execOp,hop,Instr.makeMap,newObj,Sem.run]
    ·simp only [AOk]
   ·simp only [AOk]
 | lookup t m k ok =>
  have h1:=hρ m
  have h2:=hρ k
  simp only [eff]
  split
  ·rename_i id kt vt h hu
   rw [h] at h1;simp only [Rep] at h1
   obtain ⟨b,h3,h4⟩:=h1
   split
   ·rename_i kc vc hkc hvc
    cases hk:Gh P 8 kt kc with
    | false=>simp only [cond_false,AOk]
    | true =>
     simp only [cond_true]
     split
     ·rename_i z y hz hy
      obtain ⟨zv,z1,z2⟩:=A06 (σ:=σ) hz
      simp only [AOk]
      exact ⟨b,t,kt,vt,_,zv,h3,hu,hk,z1 w,z2,VR.of hy h2,by simp [execOp,hop,h4]⟩
     ·simp only [AOk]
   ·simp only [AOk]
  ·simp only [AOk]
 | mapEntry t m k =>
  have h1:=hρ m
  have h2:=hρ k
  simp only [eff]
  split
  ·rename_i id kt vt h hu
   rw [h] at h1;simp only [Rep] at h1
   obtain ⟨b,h3,h4⟩:=h1
   split
   ·rename_i kc vc hkc hvc
    cases hk:Gh P 8 kt kc with
    | false=>simp only [cond_false,AOk]
    | true =>
     simp only [cond_true]
     split
     ·rename_i z y hz hy
      obtain ⟨zv,z1,z2⟩:=A06 (σ:=σ) hz
      simp only [AOk]
      exact ⟨b,t,kt,vt,_,zv,h3,hu,hk,z1 w,z2,VR.of hy h2,by simp [execOp,hop,h4]⟩
     ·simp only [AOk]
   ·simp only [AOk]
  ·simp only [AOk]
 | mapUpdate t m k x =>
  have h1:=hρ m
  have h2:=hρ k
  have h5:=hρ x
  simp only [eff]
  split
  ·rename_i id kt vt h hu
   rw [h] at h1;simp only [Rep] at h1
   obtain ⟨b,h3,h4⟩:=h1
   split
   ·rename_i kc vc hkc hvc
    cases hk:Gh P 8 kt kc with
    | false=>simp only [cond_false,AOk]
    | true =>
     simp only [cond_true]
     split
     ·rename_i z y hz hy
      simp only [AOk]
      exact ⟨b,t,kt,vt,_,_,h3,hu,hk,VR.of hy h5,VR.of hz h2,by simp [execOp,hop,h4]⟩
     ·simp only [AOk]
   ·simp only [AOk]
  ·simp only [AOk]
 | entryStore t m st x =>
  have h1:=hρ m
  have h2:=hρ st
  have h5:=hρ x
  simp only [eff]
  split
  ·rename_i id st' kt vt h hs hu
   rw [h] at h1;simp only [Rep] at h1
   obtain ⟨b,h3,h4⟩:=h1
   rw [hs] at h2;simp only [Rep] at h2
   obtain ⟨h6,n,h7⟩:=h2
   split
   ·rename_i vc hvc
    split
    ·rename_i y hy
     simp only [AOk]
     exact ⟨b,t,n,_,h3,by rw [h6,h7],VR.of hy h5,by simp [execOp,hop,h4,h7]⟩
    ·simp only [AOk]
   ·simp only [AOk]
  ·simp only [AOk]
 | _=>simp only [eff,AOk]
end
end V
end Go.Proofs.YtlangijnealfjaaGreat
