import Derived.Test.YtkiaifmbbnnliaaGreatZd
namespace Go.Proofs.YtkiaifmbbnnliaaGreat
open Go.RowKit Go.ChangeShapes Go.WideShapes Go.ChangeAt
namespace V
mutual
def SOk : (c : TC) → TCT c → Prop
 | .s, x => (x.size : Int) ≤ As .i64
 | .st cs, x => SOks cs x
 | _, _ => True
def SOks : (cs : List TC) → TCTs cs → Prop
 | [], _ => True
 | c :: cs, x => SOk c x.1 ∧ SOks cs x.2
end
def A86 (vs : List Value) : Prop := ∀ t : ByteArray, Value.string t ∈ vs → (t.size : Int) ≤ As .i64
theorem RepL.cut {σ : Env} : ∀ {a b : List AV} {vs : List Value}, RepL σ (a ++ b) vs → ∃ u v, vs = u ++ v ∧ RepL σ a u ∧ RepL σ b v
 | [], b, vs, h => ⟨[], vs, rfl, by simp only [RepL], h⟩
 | x :: a, b, vs, h => by
  simp only [List.cons_append, RepL] at h
  obtain ⟨v, us, rfl, h1, h2⟩ := h
  obtain ⟨p, q, rfl, h3, h4⟩ := RepL.cut h2
  exact ⟨v :: p, q, rfl, by simp only [RepL]; exact ⟨v, p, rfl, h1, h3⟩, h4⟩
mutual
theorem Awj {σ : Env} : ∀ (c : TC) (x : TCT c) (vs : List Value), RepL σ (enc c x) vs → A86 vs → SOk c x
 | .b, _, _, _, _ => by simp only [SOk]
 | .i _, _, _, _, _ => by simp only [SOk]
 | .s, x, vs, h, hs => by
  simp only [enc, RepL, Rep] at h
  obtain ⟨v, us, rfl, rfl, rfl⟩ := h
  simp only [SOk]
  exact hs x (by simp)
 | .sl _, _, _, _, _ => by simp only [SOk]
 | .st cs, x, vs, h, hs => by
  simp only [enc] at h
  simp only [SOk]
  exact encs_str cs x vs h hs
theorem encs_str {σ : Env} : ∀ (cs : List TC) (x : TCTs cs) (vs : List Value), RepL σ (encs cs x) vs → A86 vs → SOks cs x
 | [], _, _, _, _ => by simp only [SOks]
 | c :: cs, x, vs, h, hs => by
  simp only [encs] at h
  obtain ⟨u, v, rfl, h1, h2⟩ := RepL.cut h
  simp only [SOks]
  exact ⟨Awj c x.1 u h1 fun t ht => hs t (List.mem_append_left _ ht), encs_str cs x.2 v h2 fun t ht => hs t (List.mem_append_right _ ht)⟩
end
theorem Aq4 {σ : Env} (c : TC) (x : TCT c) (v : Value) (h : Rep σ (E9 c x) v) (hs : A86 v.cells.toList) : SOk c x := by
 cases c with
 | st cs =>
  simp only [E9, Rep] at h
  obtain ⟨vs, h1, rfl⟩ := h
  simp only [SOk]
  exact encs_str cs x vs h1 (by simpa [Value.cells] using hs)
 | s =>
  simp only [E9, Rep] at h
  subst h
  simp only [SOk]
  exact hs x (by simp [Value.cells])
 | _ => simp only [SOk]
theorem A87 {P : Program} {w : World} {r : Reach} {b0 : Nat} {t : TypeId} {s : ByteArray} (h : Cell.okWide P w r b0 t (.string s)) : (s.size : Int) ≤ As .i64 := by
 unfold Cell.okWide at h
 have h2 : Cell.ok P w r b0 t (.string s) := by
  split at h <;> first | exact h | (rename_i heq; cases heq)
 unfold Cell.ok at h2
 split at h2 <;> first | (rename_i heq; cases heq; exact h2) | (rename_i heq; cases heq) | exact h2.elim
theorem Aq5 {P : Program} {w : World} {r : Reach} {b0 : Nat} {t : TypeId} {v : Value} (h : Value.okWide P w r b0 t v) : A86 v.cells.toList := by
 intro s hs
 have one : ∀ u, Cell.okWide P w r b0 t u → Value.string s ∈ u.cells.toList → (s.size : Int) ≤ As .i64 := by
  intro u hu hm
  cases u with
  | string x =>
   have : s = x := by simpa [Value.cells] using hm
   subst this
   exact A87 hu
  | agg cs =>
   exfalso
   unfold Cell.okWide at hu
   have h2 : Cell.ok P w r b0 t (.agg cs) := by split at hu <;> first | exact hu | (rename_i heq; cases heq)
   unfold Cell.ok at h2
   split at h2 <;> first | (rename_i heq; cases heq) | exact h2.elim
  | _ => simp [Value.cells] at hm
 unfold Value.okWide at h
 have row : ∀ cs : Array Value, Row.okWide P w r b0 t cs → Value.string s ∈ cs.toList → (s.size : Int) ≤ As .i64 := by
  intro cs h2 hm
  obtain ⟨ts, _, _, h3⟩ := h2
  obtain ⟨i, hi, he⟩ := List.getElem_of_mem hm
  obtain ⟨u, _, h4⟩ := h3 i (.string s) (by
   rw [← Array.getElem?_toList]
   exact List.getElem?_eq_some_iff.2 ⟨hi, he⟩)
  exact A87 h4
 split at h
 ·obtain ⟨cs, rfl, _, h2⟩ := h
  exact row cs h2 (by simpa [Value.cells] using hs)
 ·obtain ⟨cs, rfl, _, h2⟩ := h
  exact row cs h2 (by simpa [Value.cells] using hs)
 ·exact one v h hs
theorem A0r {P : Program} : ∀ {ts : List TypeId} {cs : List TC}, Es P ts cs = true → ts.length = cs.length
 | [], [], _ => rfl
 | [], _ :: _, h => by simp [Es] at h
 | _ :: _, [], h => by simp [Es] at h
 | t :: ts, c :: cs, h => by
  simp only [Es, Bool.and_eq_true] at h
  simp only [List.length_cons, A0r h.2.2.2.2]
theorem A88 {σ : Env} : ∀ (cs : List TC) (y : TCTs cs) (vs : List Value), RepL σ (Co cs y) vs → (∀ (j : Nat) (v : Value), vs[j]? = some v → A86 v.cells.toList) → SOks cs y
 | [], _, _, _, _ => by simp only [SOks]
 | c :: cs, y, vs, h, hs => by
  simp only [Co, RepL] at h
  obtain ⟨v, us, rfl, h1, h2⟩ := h
  simp only [SOks]
  exact ⟨Aq4 c y.1 v h1 (hs 0 v rfl), A88 cs y.2 us h2 fun j v hj => hs (j + 1) v hj⟩
structure LawSat2 (X : Ctx) (f : FuncId) (cs : List TC) (m : Nat) : Prop where
 sat : ∀ y : TCTs cs, WFDs cs y → SOks cs y → (Ch X m (.fn f) (Co cs y) Bl 0 Abe).sat (fun _ => True)
theorem Awk {X : Ctx} {f : FuncId} {cs : List TC} (m : Nat) (T : TCTs cs → Tree Unit) (hT : ∀ y : TCTs cs, Ch X m (.fn f) (Co cs y) Bl 0 Abe = T y) (h : ∀ y : TCTs cs, WFDs cs y → SOks cs y → (T y).sat (fun _ => True)) : LawSat2 X f cs m :=
 ⟨fun y hw hs => by rw [hT y]; exact h y hw hs⟩
section
variable {H : Type} {enc : TypeId × Value → H}
theorem law_contract2 {X : Ctx} (hX : CtxOk X) {P : Program} (hP : X.P = P) (hl : laidOutB P = true) {f : FuncId} {fn : Func} {s : ChangeSpec} {apart fresh handsOn again : Bool} {tb : TypeId} (cs : List TC) (m : Nat)
  (hvars : s.vars = []) (hcs : Es P fn.params.toList cs = true) (hr : fn.resultTypes = #[tb]) (hu : P.underlying tb = some .bool)
  (n : Nat) (hn : fn.params.toList.length = n) (hs : ∀ ds : List (DataW H), ds.length = n → s.fn H ds = { results := [.lit (.bool true)], args := ds, vars := [] })
  (hsat : LawSat2 X f cs m)
  {args : Array Value} {ds gs : List (DataW H)} {before : List MemPlace} {base : Nat} {W : World}
  (hval : ∀ (j : Nat) t v, fn.params[j]? = some t → args[j]? = some v → Value.okWide P W .any base t v)
  (hW : DataW.Whole enc P fn.params.toList s.vars apart W args.toList ds gs before) :
  Calls P f args W fun e W' => ∃ v, e = .returned v ∧ s.post enc P fn apart fresh handsOn again W args v W' := by
 subst hP
 have hW' := hW
 obtain ⟨p, q, hA, hV, rfl, hfz, hnd⟩ := hW
 have hlt : ∀ x ∈ p ++ q, x.block < W.heap.size := fun x hx => hW'.lt x hx
 rw [hvars] at hV
 obtain ⟨rfl, rfl⟩ := trodVars_none hV
 obtain ⟨y, hy, hwf⟩ := A7h (τ := Lr (A3c W)) rfl fn.params.toList args.toList ds p cs hcs hA (w := W) (r := .any) (b0 := base) fun j t v hj hv => hval j t v (by simpa using hj) (by simpa using hv)
 have hso : SOks cs y := A88 cs y args.toList hy fun j v hj => by
  have hlen : fn.params.toList.length = args.toList.length := by rw [A0r hcs, ← Sf cs y]; exact hy.length
  have hj' : j < fn.params.toList.length := by rw [hlen]; exact (List.getElem?_eq_some_iff.1 hj).1
  exact Aq5 (hval j fn.params.toList[j] v (by rw [← Array.getElem?_toList]; exact List.getElem?_eq_some_iff.2 ⟨hj', rfl⟩) (by simpa using hj))
 have hc := Ahf hX m (Aw6 W) hy (hsat.sat y hwf hso)
 rw [show args.toList.toArray = args from by simp] at hc
 refine hc.mono ?_
 rintro e W' ⟨rfl, hb⟩
 have hfn := hs ds ((T1 hA).trans hn)
 refine ⟨_, rfl, Apy (pa := p) (pv := []) hW' (fun _ _ _ => ?_) (fun sp hsp => ?_) (fun sp _ => ?_) (by simp) hb (ok_one hr rfl (okWide_bool_mk hu _))⟩
 ·rw [List.append_nil, hfn, hr]
  exact trodAll_cons_mk (shut_bool hu _) trodAll_mk0
 ·rw [List.append_nil, hfn]
  exact Qw hl hb _ _ _ _ cs hcs hA (fun x hx => hlt x (by simp [hx])) sp (fun x hx => hsp x (by simp [hx]))
 ·rw [List.append_nil, hfn, hvars]
  rfl
end
end V
end Go.Proofs.YtkiaifmbbnnliaaGreat
