/- That the symbolic evaluator of the text Ea is sound: a region whose order is open. -/
import Derived.Test.YtmmhbianajpdgaaEd
namespace Go.Proofs.Ytmmhbianajpdgaa
open Go.RowKit
namespace Ev

/-- the function is one with a body, and no name that the machine treats by itself -/
def Plain (P : Program) (f : FuncId) : Prop := ∃ fn, P.funcs[f]? = some fn ∧ (fn.name == "runtime.NumGoroutine") = false ∧ fn.body.isSome = true
theorem Plain.run {P : Program} {f : FuncId} (h : Plain P f) (us : Array Value) (w : World) : (callFunc f us).run P w = .ok (.enter f us) w := by
  obtain ⟨fn, h1, h2, h3⟩ := h
  have h4 : fn.body.isNone = false := by cases hb : fn.body <;> simp [hb] at h3 ⊢
  simp only [callFunc, Sem.run_bind, run_program, Result.andThen_ok, h1, h2, h4, Bool.false_eq_true, if_false, Sem.run_pure]

theorem assoc_mem {β : Type} : ∀ {l : List (Nat × β)} {i : Nat} {x : β}, assoc l i = some x → (i, x) ∈ l
  | [], _, _, h => by simp [assoc] at h
  | (k, y) :: l, i, x, h => by
    simp only [assoc] at h
    by_cases hk : k = i
    · subst hk
      simp at h; subst h; simp
    · simp only [beq_ne hk, cond_false] at h
      exact List.mem_cons_of_mem _ (assoc_mem h)

/-- what is owed for the summary of a function that leaves memory alone -/
def PureOk (P : Program) (f : FuncId) (g : PureT) : Prop :=
  ∀ (σ : Nat → Option Nat) (w : World) (xs : List AV) (us : List Value) (x : AV), RepL σ xs us → g xs = some (true, x) →
    Calls P f us.toArray w fun e w' => ∃ v, e = .returned v ∧ Rep σ x v ∧ Below w.heap.size w w'

theorem setsA_get {β : Type} : ∀ (vs : List β) (lo : Nat) (cs : List β) (c : Nat), (setsA cs lo vs)[c]? = if lo ≤ c ∧ c < lo + vs.length ∧ c < cs.length then vs[c - lo]? else cs[c]?
  | [], lo, cs, c => by
    simp only [setsA, List.length_nil]
    rw [if_neg (by omega)]
  | v :: vs, lo, cs, c => by
    simp only [setsA, setA_eq]
    rw [setsA_get vs (lo + 1) (cs.set lo v) c]
    simp only [List.length_set, List.length_cons]
    by_cases h1 : lo + 1 ≤ c ∧ c < lo + 1 + vs.length ∧ c < cs.length
    · rw [if_pos h1, if_pos (by omega)]
      have : c - lo = (c - (lo + 1)) + 1 := by omega
      rw [this, List.getElem?_cons_succ]
    · rw [if_neg h1, List.getElem?_set]
      by_cases h2 : lo = c
      · subst h2
        rw [if_pos rfl]
        by_cases h3 : lo < cs.length
        · rw [if_pos h3, if_pos (by omega)]; simp
        · rw [if_neg h3, if_neg (by omega), List.getElem?_eq_none (by omega)]
      · rw [if_neg h2, if_neg (by omega)]
theorem setsA_comm {β : Type} (cs : List β) {lo lo' : Nat} {vs vs' : List β} (h : lo + vs.length ≤ lo' ∨ lo' + vs'.length ≤ lo) : setsA (setsA cs lo vs) lo' vs' = setsA (setsA cs lo' vs') lo vs := by
  apply List.ext_getElem?
  intro c
  rw [setsA_get, setsA_get, setsA_get, setsA_get, setsA_length, setsA_length]
  by_cases h1 : lo ≤ c ∧ c < lo + vs.length ∧ c < cs.length
  · by_cases h2 : lo' ≤ c ∧ c < lo' + vs'.length ∧ c < cs.length
    · omega
    · rw [if_neg h2, if_pos h1, if_pos h1]
  · by_cases h2 : lo' ≤ c ∧ c < lo' + vs'.length ∧ c < cs.length
    · rw [if_pos h2, if_neg h1, if_pos h2]
    · rw [if_neg h2, if_neg h1, if_neg h1, if_neg h2]

def appD (nx : Nat) (D : Nat → Bool) : Nat → List It → St → St
  | _, [], s => s
  | k, it :: l, s => appD nx D (k + 1) l (bif D k then it.app (nx + k) s else s)

theorem app_n (id0 : Nat) (it : It) (s : St) : (it.app id0 s).n = s.n := by
  unfold It.app St.put; split <;> rfl
theorem app_nx (id0 : Nat) (it : It) (s : St) : (it.app id0 s).nx = s.nx := by
  unfold It.app St.put; split <;> rfl
theorem app_hp (id0 : Nat) (it : It) (s : St) : (it.app id0 s).hp = it.mem.app id0 s.hp := by
  unfold It.app St.put; split <;> rfl
theorem app_tm (id0 : Nat) (it : It) (s : St) (t : Nat) : (it.app id0 s).tm t = if it.dst = some t then it.res else s.tm t := by
  unfold It.app St.put
  cases h : it.dst with
  | none => simp
  | some d =>
    simp only
    by_cases hd : t = d
    · subst hd; rw [upd_same]; simp
    · rw [upd_other _ _ hd, if_neg (by simp; exact fun e => hd e.symm)]

section
variable {nx : Nat}
theorem appD_n (D : Nat → Bool) : ∀ (l : List It) (k : Nat) (s : St), (appD nx D k l s).n = s.n
  | [], _, _ => rfl
  | it :: l, k, s => by
    simp only [appD]; rw [appD_n D l]; cases D k
    · rfl
    · exact app_n _ _ _
theorem appD_nx (D : Nat → Bool) : ∀ (l : List It) (k : Nat) (s : St), (appD nx D k l s).nx = s.nx
  | [], _, _ => rfl
  | it :: l, k, s => by
    simp only [appD]; rw [appD_nx D l]; cases D k
    · rfl
    · exact app_nx _ _ _

theorem appD_tm {D E : Nat → Bool} {t : Nat} : ∀ (l : List It) (k : Nat) (s s' : St), s.tm t = s'.tm t → (∀ m it, l[m]? = some it → it.dst = some t → D (k + m) = E (k + m)) → (appD nx D k l s).tm t = (appD nx E k l s').tm t
  | [], _, _, _, h, _ => h
  | it :: l, k, s, s', h, hd => by
    simp only [appD]
    refine appD_tm l (k + 1) _ _ ?_ (fun m it' hm hi => by have := hd (m + 1) it' (by simpa using hm) hi; rwa [show k + (m + 1) = k + 1 + m by omega] at this)
    by_cases hi : it.dst = some t
    · have h0 : D k = E k := hd 0 it rfl hi
      rw [h0]
      cases E k
      · exact h
      · simp only [cond_true]; rw [app_tm, app_tm, if_pos hi, if_pos hi]
    · cases D k <;> cases E k <;> simp only [cond_true, cond_false, app_tm, if_neg hi] <;> exact h
theorem appD_tm_some {D : Nat → Bool} {t : Nat} : ∀ (l : List It) (k : Nat) (s : St) (m : Nat) (it : It), l[m]? = some it → it.dst = some t → D (k + m) = true → (∀ m' it', m' ≠ m → l[m']? = some it' → it'.dst ≠ some t) → (appD nx D k l s).tm t = it.res
  | [], _, _, m, it, h, _, _, _ => by simp at h
  | i0 :: l, k, s, 0, it, h, hd, hD, hu => by
    simp at h; subst h
    have hD' : D k = true := hD
    simp only [appD, hD', cond_true]
    rw [appD_tm (E := fun _ => false) l (k + 1) _ ((i0.app (nx + k) s)) rfl (fun m it' hm hi => absurd hi (hu (m + 1) it' (by omega) (by simpa using hm)))]
    have : ∀ (l : List It) (k : Nat) (s : St), appD nx (fun _ => false) k l s = s := by
      intro l; induction l with
      | nil => intros; rfl
      | cons a l ih => intro k s; simp only [appD, cond_false]; exact ih _ _
    rw [this, app_tm, if_pos hd]
  | i0 :: l, k, s, m + 1, it, h, hd, hD, hu => by
    simp only [appD]
    exact appD_tm_some l (k + 1) _ m it (by simpa using h) hd (by rwa [show k + (m + 1) = k + 1 + m by omega] at hD) (fun m' it' hm' hi => hu (m' + 1) it' (by omega) (by simpa using hi))

/-- what a block's cell is, and its block's form -/
def info (hp : Heap) (id c : Nat) : Option (TypeId × Bool × Nat × Option AV) := (hp id).map fun b => (b.ty, b.own, b.cs.length, b.cs[c]?)
def writes (m : Mem) (id0 id c : Nat) : Prop :=
  match m with
  | .st id' lo vs => id' = id ∧ lo ≤ c ∧ c < lo + vs.length
  | .al _ => id0 = id
  | _ => False
theorem info_same {m : Mem} {id0 id c : Nat} (h : ¬ writes m id0 id c) (hp : Heap) : info (m.app id0 hp) id c = info hp id c := by
  cases m with
  | st id' lo vs =>
    simp only [Mem.app, info]
    by_cases hid : id = id'
    · subst hid
      rw [upd_same]
      cases hb : hp id with
      | none => rfl
      | some b =>
        simp only [Option.map_some, setsA_length, setsA_get]
        rw [if_neg (fun hh => h ⟨rfl, hh.1, hh.2.1⟩)]
    · rw [upd_other _ _ hid]
  | al b =>
    simp only [Mem.app, info]
    rw [upd_other _ _ (fun e => h e.symm)]
  | _ => rfl
theorem info_congr (m : Mem) (id0 : Nat) {id c : Nat} {hp hp' : Heap} (h : info hp id c = info hp' id c) : info (m.app id0 hp) id c = info (m.app id0 hp') id c := by
  cases m with
  | st id' lo vs =>
    simp only [Mem.app, info] at h ⊢
    by_cases hid : id = id'
    · subst hid
      rw [upd_same, upd_same]
      cases hb : hp id with
      | none => cases hb' : hp' id with
        | none => rfl
        | some b' => simp [hb, hb'] at h
      | some b => cases hb' : hp' id with
        | none => simp [hb, hb'] at h
        | some b' =>
          simp only [hb, hb', Option.map_some, Option.some.injEq, Prod.mk.injEq] at h ⊢
          obtain ⟨h1, h2, h3, h4⟩ := h
          refine ⟨h1, h2, by rw [setsA_length, setsA_length, h3], ?_⟩
          rw [setsA_get, setsA_get, h3, h4]
    · rw [upd_other _ _ hid, upd_other _ _ hid]; exact h
  | al b =>
    simp only [Mem.app, info] at h ⊢
    by_cases hid : id = id0
    · subst hid; rw [upd_same, upd_same]
    · rw [upd_other _ _ hid, upd_other _ _ hid]; exact h
  | _ => exact h
theorem appD_info {D E : Nat → Bool} {id c : Nat} : ∀ (l : List It) (k : Nat) (s s' : St), info s.hp id c = info s'.hp id c → (∀ m it, l[m]? = some it → writes it.mem (nx + (k + m)) id c → D (k + m) = E (k + m)) → info (appD nx D k l s).hp id c = info (appD nx E k l s').hp id c
  | [], _, _, _, h, _ => h
  | it :: l, k, s, s', h, hd => by
    simp only [appD]
    refine appD_info l (k + 1) _ _ ?_ (fun m it' hm hi => by
      have := hd (m + 1) it' (by simpa using hm) (by rw [show k + (m + 1) = k + 1 + m by omega]; exact hi)
      rwa [show k + (m + 1) = k + 1 + m by omega] at this)
    by_cases hi : writes it.mem (nx + k) id c
    · have h0 : D k = E k := hd 0 it rfl hi
      rw [h0]
      cases E k
      · exact h
      · simp only [cond_true]; rw [app_hp, app_hp]; exact info_congr _ _ h
    · cases D k <;> cases E k <;> simp only [cond_true, cond_false, app_hp, info_same hi] <;> exact h

theorem mem_comm {a b : Nat} {m k : Mem} (hab : a ≠ b) (h : memIndep a m b k = true) (hp : Heap) : m.app a (k.app b hp) = k.app b (m.app a hp) := by
  have ap : ∀ {id lo hi id' lo' hi' : Nat}, apartB id lo hi id' lo' hi' = true → id ≠ id' ∨ hi ≤ lo' ∨ hi' ≤ lo := by
    intro id lo hi id' lo' hi' hh
    simp only [apartB, Bool.or_eq_true, Bool.not_eq_true', Nat.ble_eq] at hh
    rcases hh with hh | hh
    · exact .inl (fun e => by subst e; simp at hh)
    · exact .inr hh
  have ne : ∀ {x y : Nat}, (!(Nat.beq x y)) = true → x ≠ y := fun hh e => by subst e; simp at hh
  cases m <;> cases k <;> simp only [memIndep] at h <;> simp only [Mem.app] <;> funext j
  · rename_i id lo vs id' lo' vs'
    have := ap h
    rw [lenA_eq, lenA_eq] at this
    by_cases hid : id = id'
    · subst hid
      by_cases hj : j = id
      · subst hj
        simp only [upd_same]
        cases hp j with
        | none => rfl
        | some b =>
          simp only
          rw [setsA_comm]
          rcases this with h1 | h1 | h1
          · exact absurd rfl h1
          · exact .inr h1
          · exact .inl h1
      · simp only [upd_other _ _ hj]
    · by_cases hj : j = id
      · subst hj; simp only [upd_same, upd_other _ _ hid]
      · by_cases hj' : j = id'
        · subst hj'; simp only [upd_same, upd_other _ _ (Ne.symm hid)]
        · simp only [upd_other _ _ hj, upd_other _ _ hj']
  · rename_i id lo vs blk
    have hid := ne h
    by_cases hj : j = id
    · subst hj; simp only [upd_same, upd_other _ _ hid]
    · by_cases hj' : j = b
      · subst hj'; simp only [upd_same, upd_other _ _ (Ne.symm hid)]
      · simp only [upd_other _ _ hj, upd_other _ _ hj']
  · rename_i blk id lo vs
    have hid := ne h
    by_cases hj : j = id
    · subst hj; simp only [upd_same, upd_other _ _ hid]
    · by_cases hj' : j = a
      · subst hj'; simp only [upd_same, upd_other _ _ (Ne.symm hid)]
      · simp only [upd_other _ _ hj, upd_other _ _ hj']
  · by_cases hj : j = a
    · subst hj; simp only [upd_same, upd_other _ _ hab]
    · by_cases hj' : j = b
      · subst hj'; simp only [upd_same, upd_other _ _ (Ne.symm hab)]
      · simp only [upd_other _ _ hj, upd_other _ _ hj']

/-- all of a list's items, in their order: one more item is put in at its place, or at the end -/
theorem appD_push {D : Nat → Bool} {i : Nat} {it : It} : ∀ (l : List It) (k : Nat) (hp : Heap) (s : St), s.hp = it.mem.app (nx + i) hp → ∀ (s' : St), s'.hp = hp → i < k →
    (∀ m q, l[m]? = some q → D (k + m) = true → memIndep (nx + i) it.mem (nx + (k + m)) q.mem = true) → (appD nx D k l s).hp = it.mem.app (nx + i) (appD nx D k l s').hp
  | [], _, _, _, h, _, h', _, _ => by simp only [appD]; rw [h, h']
  | q :: l, k, hp, s, h, s', h', hk, hm => by
    simp only [appD]
    cases hD : D k
    · simp only [cond_false]
      exact appD_push l (k + 1) hp _ h _ h' (by omega) (fun m q' hq hd => by
        have := hm (m + 1) q' (by simpa using hq) (by rw [show k + (m + 1) = k + 1 + m by omega]; exact hd)
        rwa [show k + (m + 1) = k + 1 + m by omega] at this)
    · simp only [cond_true]
      have h0 := hm 0 q rfl (by simpa using hD)
      refine appD_push l (k + 1) (q.mem.app (nx + k) hp) _ ?_ _ ?_ (by omega) (fun m q' hq hd => by
        have := hm (m + 1) q' (by simpa using hq) (by rw [show k + (m + 1) = k + 1 + m by omega]; exact hd)
        rwa [show k + (m + 1) = k + 1 + m by omega] at this)
      · rw [app_hp, h]; exact (mem_comm (by omega) (by simpa using h0) hp).symm
      · rw [app_hp, h']

theorem appD_insert_hp {D : Nat → Bool} {i : Nat} {it : It} (hi : D i = false) : ∀ (l : List It) (k : Nat) (s : St), k ≤ i → l[i - k]? = some it →
    (∀ m q, l[m]? = some q → i < k + m → D (k + m) = true → memIndep (nx + i) it.mem (nx + (k + m)) q.mem = true) →
    (appD nx (fun j => D j || Nat.beq j i) k l s).hp = it.mem.app (nx + i) (appD nx D k l s).hp
  | [], _, _, _, h, _ => by simp at h
  | q :: l, k, s, hk, h, hm => by
    simp only [appD]
    by_cases hki : k = i
    · subst hki
      simp at h; subst h
      rw [hi, show Nat.beq k k = true by simp]
      simp only [Bool.or_true, cond_true, cond_false]
      have hext : ∀ (l : List It) (k' : Nat) (s : St), k < k' → appD nx (fun j => D j || Nat.beq j k) k' l s = appD nx D k' l s := by
        intro l
        induction l with
        | nil => intros; rfl
        | cons a l ih =>
          intro k' s hlt
          simp only [appD]
          rw [beq_ne (show k' ≠ k by omega), Bool.or_false, ih _ _ (by omega)]
      rw [hext l (k + 1) _ (by omega)]
      exact appD_push l (k + 1) s.hp _ (app_hp _ _ _) s rfl (by omega) (fun m q' hq hd => by
        have := hm (m + 1) q' (by simpa using hq) (by omega) (by rw [show k + (m + 1) = k + 1 + m by omega]; exact hd)
        rwa [show k + (m + 1) = k + 1 + m by omega] at this)
    · rw [beq_ne hki, Bool.or_false]
      refine appD_insert_hp hi l (k + 1) _ (by omega) ?_ (fun m q' hq hlt hd => by
        have := hm (m + 1) q' (by simpa using hq) (by omega) (by rw [show k + (m + 1) = k + 1 + m by omega]; exact hd)
        rwa [show k + (m + 1) = k + 1 + m by omega] at this)
      have : i - k = (i - (k + 1)) + 1 := by omega
      rw [this] at h; simpa using h

theorem appD_insert {D : Nat → Bool} {i : Nat} {it : It} {l : List It} {s : St} (hi : D i = false) (hl : l[i]? = some it)
    (hu : ∀ (m : Nat) (q : It) (d : Nat), m ≠ i → l[m]? = some q → it.dst = some d → q.dst ≠ some d)
    (hm : ∀ (m : Nat) (q : It), l[m]? = some q → i < m → D m = true → memIndep (nx + i) it.mem (nx + m) q.mem = true) :
    appD nx (fun j => D j || Nat.beq j i) 0 l s = it.app (nx + i) (appD nx D 0 l s) := by
  have h1 : (appD nx (fun j => D j || Nat.beq j i) 0 l s).hp = (it.app (nx + i) (appD nx D 0 l s)).hp := by
    rw [app_hp]
    exact appD_insert_hp hi l 0 s (Nat.zero_le _) (by simpa using hl) (fun m q hq hlt hd => by have := hm m q hq (by omega) (by simpa using hd); simpa using this)
  have h2 : (appD nx (fun j => D j || Nat.beq j i) 0 l s).tm = (it.app (nx + i) (appD nx D 0 l s)).tm := by
    funext t
    rw [app_tm]
    by_cases hd : it.dst = some t
    · rw [if_pos hd]
      exact appD_tm_some l 0 s i it hl hd (by simp) (fun m' q hne hq => hu m' q t hne hq hd)
    · rw [if_neg hd]
      refine appD_tm l 0 s s rfl (fun m q hq hq' => ?_)
      simp only [Nat.zero_add]
      have hne : m ≠ i := fun e => by subst e; rw [hl] at hq; cases hq; exact hd hq'
      rw [beq_ne hne, Bool.or_false]
  have h3 : (appD nx (fun j => D j || Nat.beq j i) 0 l s).n = (it.app (nx + i) (appD nx D 0 l s)).n := by rw [app_n, appD_n, appD_n]
  have h4 : (appD nx (fun j => D j || Nat.beq j i) 0 l s).nx = (it.app (nx + i) (appD nx D 0 l s)).nx := by rw [app_nx, appD_nx, appD_nx]
  cases ha : appD nx (fun j => D j || Nat.beq j i) 0 l s with
  | mk a b c d =>
    cases hb : it.app (nx + i) (appD nx D 0 l s) with
    | mk a' b' c' d' =>
      rw [ha, hb] at h1 h2 h3 h4
      simp only at h1 h2 h3 h4
      subst h1; subst h2; subst h3; subst h4; rfl
end

section
variable {P : Program} (pu : List (Nat × PureT)) (id0 : Nat)
/-- what an item of a plan says of its operation, in a state -/
def EffIt (s : St) (it : It) : Eff → Prop
  | .val x => it.res = x ∧ it.mem = .no
  | .load id row st col n agg => ∃ b, s.hp id = some b ∧ 1 ≤ n ∧ row * st + col + n ≤ b.cs.length ∧ it.mem = .ld id (row * st + col) (row * st + col + n) ∧
      (if agg = true then it.res = .agg ((b.cs.drop (row * st + col)).take n) else b.cs[row * st + col]? = some it.res)
  | .store id row st col vs => ∃ b, s.hp id = some b ∧ b.own = true ∧ 1 ≤ vs.length ∧ row * st + col + vs.length ≤ b.cs.length ∧ it.mem = .st id (row * st + col) vs ∧ it.res = .val undef
  | .alloc b mk => it.mem = .al b ∧ it.res = mk id0
  | .call f args => ∃ g x, assoc pu f = some g ∧ g args = some (true, x) ∧ it.res = x ∧ it.mem = .no
  | .app .. => False
  | .test c e => c = true ∧ EffIt s it e
  | .bad => False
def Runs (ops : Array Oper) (o : Oper) (s : St) : Prop :=
  match o.guard with
  | none => True
  | some (j, want) => ∃ d, (ops[j]?).bind (·.dst) = some d ∧ d < s.n ∧ s.tm d = .bool want
def Skips (ops : Array Oper) (o : Oper) (s : St) : Prop :=
  ∃ j want d, o.guard = some (j, want) ∧ (ops[j]?).bind (·.dst) = some d ∧ d < s.n ∧ (s.tm d = .bool (!want) ∨ ∃ vs, s.tm d = .val (.tuple vs))
def ItemOk (P : Program) (ops : Array Oper) (i : Nat) (it : It) (s : St) : Prop :=
  ∃ o, ops[i]? = some o ∧ it.dst = o.dst ∧ o.dst.getD 0 < s.n ∧ ((Runs ops o s ∧ EffIt pu id0 s it (eff P o.op s.eval)) ∨ (Skips ops o s ∧ it.res = .val undef ∧ it.mem = .no))
end
end Ev
end Go.Proofs.Ytmmhbianajpdgaa
