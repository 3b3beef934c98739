/- That the symbolic evaluator of the text Ea is sound: a region whose order is open, third part: every order that the edges allow. -/
import Derived.Test.YtmmhbianajpdgaaVi
namespace Go.Proofs.Ytmmhbianajpdgaa
open Go.RowKit
namespace V

section
variable {P : Program} {pu : List (Nat × PureT)} {nx : Nat} {ops : Array Oper}

theorem blt_t {a b : Nat} : Nat.blt a b = true ↔ a < b := by unfold Nat.blt; rw [Nat.ble_eq]; exact Iff.rfl
/-- all operations that have to come before operation j are in D -/
def Pre (ops : Array Oper) (D : Nat → Bool) (j : Nat) : Prop := ∀ o, ops[j]? = some o → ∀ e ∈ o.after, Region.binds .any e = true → D e.on = true
def Closed (ops : Array Oper) (D : Nat → Bool) : Prop := ∀ j, D j = true → Pre ops D j

theorem maskOf_spec {D : Nat → Bool} {acc : List Nat} (hacc : ∀ j m, acc[j]? = some m → D j = true → ∀ i, Nat.testBit m i = true → D i = true) : ∀ (l : List Edge), (∀ e ∈ l, Region.binds .any e = true → D e.on = true) → ∀ i, Nat.testBit (maskOf acc l) i = true → D i = true
  | [], _, i, h => by simp [maskOf] at h
  | e :: l, hl, i, h => by
    simp only [maskOf] at h
    cases hb : Region.binds .any e with
    | false =>
      simp only [hb, cond_false] at h
      exact maskOf_spec hacc l (fun e' he' => hl e' (by simp [he'])) i h
    | true =>
      simp only [hb, cond_true, Nat.testBit_or, Bool.or_eq_true] at h
      have hD := hl e (by simp) hb
      rcases h with (h | h) | h
      · rw [Nat.testBit_two_pow] at h
        have : e.on = i := by simpa using h
        rw [← this]; exact hD
      · rw [nth_eq] at h
        cases hm : acc[e.on]? with
        | none => simp [hm] at h
        | some m => rw [hm] at h; exact hacc e.on m hm hD i h
      · exact maskOf_spec hacc l (fun e' he' => hl e' (by simp [he'])) i h

theorem masks_spec : ∀ (l : List Oper) (acc : List Nat), (∀ k, l[k]? = ops[acc.length + k]?) →
    (∀ j m, acc[j]? = some m → ∀ D, Closed ops D → Pre ops D j → ∀ i, Nat.testBit m i = true → D i = true) →
    (masks l acc).length = acc.length + l.length ∧ ∀ j m, (masks l acc)[j]? = some m → ∀ D, Closed ops D → Pre ops D j → ∀ i, Nat.testBit m i = true → D i = true
  | [], acc, _, hacc => ⟨rfl, hacc⟩
  | o :: l, acc, hl, hacc => by
    simp only [masks]
    have ho : ops[acc.length]? = some o := by have := hl 0; simpa using this.symm
    have ih := masks_spec l (acc ++ [maskOf acc o.after.toList]) (fun k => by
      have := hl (k + 1)
      simp only [List.getElem?_cons_succ] at this
      rw [this]
      congr 1
      simp; omega) ?_
    · exact ⟨by rw [ih.1]; simp; omega, ih.2⟩
    · intro j m hj D hD hpre i hi
      rw [List.getElem?_append] at hj
      split at hj
      · exact hacc j m hj D hD hpre i hi
      · rename_i hlt
        have hj' : j = acc.length := by
          by_cases h0 : j - acc.length = 0
          · omega
          · have : j - acc.length = (j - acc.length - 1) + 1 := by omega
            rw [this] at hj; simp at hj
        subst hj'
        simp at hj
        subst hj
        exact maskOf_spec (fun j m hj hDj => hacc j m hj D hD (hD j hDj)) _ (fun e he hb => hpre o ho e (Array.mem_toList_iff.1 he) hb) i hi

theorem edges_spec : ∀ (l : List Oper) (i : Nat), edgesOk l i = true → ∀ k o, l[k]? = some o → ∀ e ∈ o.after, Region.binds .any e = true → e.on < i + k
  | [], _, _, _, _, h => by simp at h
  | o :: l, i, h, k, o', hk => by
    simp only [edgesOk, Bool.and_eq_true] at h
    cases k with
    | zero =>
      simp at hk; subst hk
      intro e he hb
      have := List.all_eq_true.1 h.1 e (Array.mem_toList_iff.2 he)
      rw [hb] at this
      simpa using blt_t.1 this
    | succ k =>
      intro e he hb
      have := edges_spec l (i + 1) h.2 k o' (by simpa using hk) e he hb
      omega

theorem rowOk_spec {i : Nat} {r : Row} : ∀ (l : List Row) (j : Nat), rowOk nx i r j l = true → ∀ k q, l[k]? = some q → pairOk nx i r (j + k) q = true
  | [], _, _, _, _, h => by simp at h
  | q :: l, j, h, k, q', hk => by
    simp only [rowOk, Bool.and_eq_true] at h
    cases k with
    | zero => simp at hk; subst hk; exact h.1
    | succ k =>
      have := rowOk_spec l (j + 1) h.2 k q' (by simpa using hk)
      rwa [show j + (k + 1) = j + 1 + k by omega]
theorem rowsOk_spec : ∀ (l : List Row) (i : Nat), rowsOk nx i l = true → ∀ a b r q, a < b → l[a]? = some r → l[b]? = some q → pairOk nx (i + a) r (i + b) q = true
  | [], _, _, _, _, _, _, _, h, _ => by simp at h
  | x :: l, i, h, a, b, r, q, hab, ha, hb => by
    simp only [rowsOk, Bool.and_eq_true] at h
    cases b with
    | zero => omega
    | succ b =>
      cases a with
      | zero =>
        simp at ha; subst ha
        have := rowOk_spec l (i + 1) h.1 b q (by simpa using hb)
        rwa [show i + (b + 1) = i + 1 + b by omega]
      | succ a =>
        have := rowsOk_spec l (i + 1) h.2 a b r q (by omega) (by simpa using ha) (by simpa using hb)
        rwa [show i + (a + 1) = i + 1 + a by omega, show i + (b + 1) = i + 1 + b by omega]
theorem rowsOf_get : ∀ (l : List Oper) (is : List It) (ms : List Nat) (k : Nat) (o : Oper) (it : It) (m : Nat), l[k]? = some o → is[k]? = some it → ms[k]? = some m → (rowsOf ops l is ms)[k]? = some ⟨it.dst, looks ops o, it.mem, m⟩
  | [], _, _, _, _, _, _, h, _, _ => by simp at h
  | _ :: _, [], _, _, _, _, _, _, h, _ => by simp at h
  | _ :: _, _ :: _, [], _, _, _, _, _, _, h => by simp at h
  | a :: l, b :: is, c :: ms, k, o, it, m, h1, h2, h3 => by
    cases k with
    | zero => simp at h1 h2 h3; subst h1; subst h2; subst h3; rfl
    | succ k =>
      simp only [rowsOf, List.getElem?_cons_succ]
      exact rowsOf_get l is ms k o it m (by simpa using h1) (by simpa using h2) (by simpa using h3)

/-- a pair of operations that no edge orders leave each other alone -/
structure Apart (nx i : Nat) (r : It) (lr : List Nat) (j : Nat) (q : It) (lq : List Nat) : Prop where
  d1 : ∀ d, r.dst = some d → d ∉ lq
  d2 : ∀ d, q.dst = some d → d ∉ lr
  m : memIndep (nx + i) r.mem (nx + j) q.mem = true

theorem plan_pairs {items : List It} (hp : planOk nx ops items = true) (hlen : items.length ≤ ops.size) {i j : Nat} {r q : It} {o o' : Oper} (hij : i < j) (hr : items[i]? = some r) (hq : items[j]? = some q) (ho : ops[i]? = some o) (ho' : ops[j]? = some o') :
    (∀ d, r.dst = some d → q.dst ≠ some d) ∧ ((∀ D, Closed ops D → Pre ops D j → D i = true) ∨ Apart nx i r (looks ops o) j q (looks ops o')) := by
  simp only [planOk, Bool.and_eq_true] at hp
  have hm := masks_spec (ops := ops) ops.toList [] (fun k => by simp) (fun j m h => by simp at h)
  have hjlt : j < items.length := (List.getElem?_eq_some_iff.1 hq).1
  have hml : (masks ops.toList []).length = ops.size := by rw [hm.1]; simp
  obtain ⟨mi, hmi⟩ : ∃ m, (masks ops.toList [])[i]? = some m := ⟨_, List.getElem?_eq_getElem (by rw [hml]; omega)⟩
  obtain ⟨mj, hmj⟩ : ∃ m, (masks ops.toList [])[j]? = some m := ⟨_, List.getElem?_eq_getElem (by rw [hml]; omega)⟩
  have h1 := rowsOf_get (ops := ops) ops.toList items (masks ops.toList []) i o r mi (by simpa using ho) hr hmi
  have h2 := rowsOf_get (ops := ops) ops.toList items (masks ops.toList []) j o' q mj (by simpa using ho') hq hmj
  have h3 := rowsOk_spec _ 0 hp.2 i j _ _ hij h1 h2
  simp only [Nat.zero_add, pairOk, Bool.and_eq_true, Bool.or_eq_true] at h3
  obtain ⟨h4, h5⟩ := h3
  have hnot : ∀ (d : Option Nat) (l : List Nat), notIn d l = true → ∀ x, d = some x → x ∉ l := by
    intro d l h x hx hmem
    subst hx
    simp only [notIn] at h
    have := List.all_eq_true.1 h x hmem
    simp at this
  refine ⟨fun d hd hd' => ?_, ?_⟩
  · rw [hd, hd'] at h4
    simp [diffD] at h4
  · rcases h5 with h5 | ⟨h5, h6, h7⟩
    · exact .inl fun D hD hpre => hm.2 j mj hmj D hD hpre i h5
    · exact .inr ⟨hnot _ _ h5, hnot _ _ h6, h7⟩

theorem memIndep_writes {a b : Nat} {m k : Mem} (h : memIndep a m b k = true) : match m with
    | .ld id lo hi => ∀ c, lo ≤ c → c < hi → ¬ writes k b id c
    | .st id lo vs => ∀ c, lo ≤ c → c < lo + vs.length → ¬ writes k b id c
    | _ => True := by
  have ap : ∀ {id lo hi id' lo' hi' : Nat}, apartB id lo hi id' lo' hi' = true → id ≠ id' ∨ hi ≤ lo' ∨ hi' ≤ lo := by
    intro id lo hi id' lo' hi' hh
    simp only [apartB, Bool.or_eq_true, Bool.not_eq_true', Nat.ble_eq] at hh
    rcases hh with hh | hh
    · exact .inl (fun e => by subst e; simp at hh)
    · exact .inr hh
  have ne : ∀ {x y : Nat}, (!(Nat.beq x y)) = true → x ≠ y := fun hh e => by subst e; simp at hh
  cases m <;> cases k <;> simp only [memIndep, writes] at h ⊢ <;> try (intros; simp; done)
  · rename_i id lo hi id' lo' vs
    have := ap h
    rw [lenA_eq] at this
    rintro c h1 h2 ⟨rfl, h3, h4⟩
    rcases this with h5 | h5 | h5
    · exact h5 rfl
    · omega
    · omega
  · rename_i id lo hi blk
    intro c _ _ e
    exact ne h e.symm
  · rename_i id lo vs id' lo' vs'
    have := ap h
    rw [lenA_eq, lenA_eq] at this
    rintro c h1 h2 ⟨rfl, h3, h4⟩
    rcases this with h5 | h5 | h5
    · exact h5 rfl
    · omega
    · omega
  · rename_i id lo vs blk
    intro c _ _ e
    exact ne h e.symm
theorem memIndep_symm {a b : Nat} {m k : Mem} (h : memIndep a m b k = true) : memIndep b k a m = true := by
  have sy : ∀ {id lo hi id' lo' hi' : Nat}, apartB id lo hi id' lo' hi' = true → apartB id' lo' hi' id lo hi = true := by
    intro id lo hi id' lo' hi' hh
    simp only [apartB, Bool.or_eq_true, Bool.not_eq_true', Nat.ble_eq] at hh ⊢
    rcases hh with hh | hh | hh
    · left
      cases hb : Nat.beq id' id with
      | false => rfl
      | true =>
        have := Nat.eq_of_beq_eq_true hb
        subst this; simp at hh
    · exact .inr (.inr hh)
    · exact .inr (.inl hh)
  cases m <;> cases k <;> simp only [memIndep] at h ⊢ <;> first | exact sy h | exact h

/-- items that are right in the text's order are right in every state that the edges allow -/
theorem plan_item {items : List It} {s : St} (hp : planOk nx ops items = true) (hlen : items.length ≤ ops.size) {D : Nat → Bool} (hD : Closed ops D) {i : Nat} {it : It} (hit : items[i]? = some it) (hi : D i = false) (hpre : Pre ops D i) (hna : ∀ id A, s.hp id = some (.arr A) → id < nx)
    (hv : ItemOk pu (nx + i) P ops i it (appD nx (fun k => Nat.blt k i) 0 items s)) : ItemOk pu (nx + i) P ops i it (appD nx D 0 items s) := by
  obtain ⟨o, ho⟩ : ∃ o, ops[i]? = some o := by obtain ⟨o, h, _⟩ := hv; exact ⟨o, h⟩
  have ilt : i < items.length := (List.getElem?_eq_some_iff.1 hit).1
  -- whoever stands on another side in the two states is ordered with i by no edge
  have key : ∀ (m : Nat) (q : It), items[m]? = some q → D m ≠ Nat.blt m i → m ≠ i → (∀ d, q.dst = some d → d ∉ looks ops o) ∧ memIndep (nx + i) it.mem (nx + m) q.mem = true := by
    intro m q hq hne hmi
    have mlt : m < items.length := (List.getElem?_eq_some_iff.1 hq).1
    obtain ⟨o', ho'⟩ : ∃ o', ops[m]? = some o' := ⟨_, Array.getElem?_eq_getElem (by omega)⟩
    rcases Nat.lt_or_gt_of_ne hmi with hlt | hgt
    · have hb : Nat.blt m i = true := blt_t.2 hlt
      have hDm : D m = false := by cases h : D m with
        | false => rfl
        | true => rw [h, hb] at hne; exact absurd rfl hne
      rcases (plan_pairs hp hlen hlt hq hit ho' ho).2 with h | h
      · rw [h D hD hpre] at hDm; simp at hDm
      · exact ⟨h.d1, memIndep_symm h.m⟩
    · have hb : Nat.blt m i = false := by
        cases h : Nat.blt m i with
        | false => rfl
        | true => have : m < i := blt_t.1 h
                  omega
      have hDm : D m = true := by cases h : D m with
        | true => rfl
        | false => rw [h, hb] at hne; exact absurd rfl hne
      rcases (plan_pairs hp hlen hgt hit hq ho ho').2 with h | h
      · have := h D hD (hD m hDm); rw [this] at hi; simp at hi
      · exact ⟨h.d2, h.m⟩
  have hbi : Nat.blt i i = false := by
    cases h : Nat.blt i i with
    | false => rfl
    | true => have : i < i := blt_t.1 h
              omega
  refine item_transport hv (by rw [appD_n, appD_n]) ?_ ?_ (fun id A h => by
    have h0 := appD_arr_back _ items 0 s h
    exact (appD_arr _ (hna id A h0) items 0 s).2 h0)
  · intro o1 ho1 t ht
    rw [ho] at ho1; cases ho1
    refine appD_tm items 0 s s rfl (fun m q hq hd => ?_)
    simp only [Nat.zero_add]
    by_cases hmi : m = i
    · subst hmi; rw [hi, hbi]
    · by_cases hne : D m = Nat.blt m i
      · exact hne
      · exact absurd ht ((key m q hq hne hmi).1 t hd)
  · have hagree : ∀ id c, (∀ m q, items[m]? = some q → memIndep (nx + i) it.mem (nx + m) q.mem = true → ¬ writes q.mem (nx + m) id c) → info (appD nx D 0 items s).hp id c = info (appD nx (fun k => Nat.blt k i) 0 items s).hp id c := by
      intro id c hw
      refine appD_info items 0 s s rfl (fun m q hq hwr => ?_)
      simp only [Nat.zero_add] at hwr ⊢
      by_cases hmi : m = i
      · subst hmi; rw [hi, hbi]
      · by_cases hne : D m = Nat.blt m i
        · exact hne
        · exact absurd hwr (hw m q hq (key m q hq hne hmi).2)
    cases hmem : it.mem with
    | ld id lo hi' =>
      intro c h1 h2
      refine hagree id c (fun m q hq hind => ?_)
      rw [hmem] at hind
      exact memIndep_writes hind c h1 h2
    | st id lo vs =>
      intro c h1 h2
      refine hagree id c (fun m q hq hind => ?_)
      rw [hmem] at hind
      exact memIndep_writes hind c h1 h2
    | _ => trivial

def cnt (n : Nat) (listed : Array Bool) : Nat := (List.range n).countP fun i => !(listed.getD i true)
theorem countP_drop {p q : Nat → Bool} {i : Nat} (hp : p i = true) (hq : q i = false) (h : ∀ j, j ≠ i → q j = p j) : ∀ (l : List Nat), l.Nodup → i ∈ l → l.countP q + 1 = l.countP p
  | [], _, hm => by simp at hm
  | a :: l, hn, hm => by
    rw [List.nodup_cons] at hn
    by_cases ha : a = i
    · subst ha
      rw [List.countP_cons_of_pos hp, List.countP_cons_of_neg (by simp [hq])]
      congr 1
      exact List.countP_congr fun j hj => by rw [h j (fun e => hn.1 (e ▸ hj))]
    · have him : i ∈ l := by rcases List.mem_cons.1 hm with e | e
                             · exact absurd e.symm ha
                             · exact e
      have ih := countP_drop hp hq h l hn.2 him
      by_cases hpa : p a = true
      · rw [List.countP_cons_of_pos hpa, List.countP_cons_of_pos (by rw [h a ha]; exact hpa)]; omega
      · rw [List.countP_cons_of_neg (by rw [h a ha]; exact hpa), List.countP_cons_of_neg hpa]; omega

theorem full_spec {m : Nat} : ∀ (l : List Nat) (k0 : Nat), fullOk m k0 l = true → ∀ k x, l[k]? = some x → m ≤ k0 + k → ∀ j, j < k0 + k → Nat.testBit x j = true
  | [], _, _, _, _, h => by simp at h
  | y :: l, k0, h, k, x, hk => by
    simp only [fullOk, Bool.and_eq_true] at h
    cases k with
    | zero =>
      simp at hk; subst hk
      intro hm j hj
      have hb : Nat.ble m k0 = true := by simpa using hm
      rw [hb, cond_true] at h
      exact List.all_eq_true.1 h.1 j (List.mem_range.2 (by omega))
    | succ k =>
      intro hm j hj
      exact full_spec l (k0 + 1) h.2 k x (by simpa using hk) (by omega) j (by omega)
/-- from a number on each operation comes after all before it -/
def Full (ops : Array Oper) (m : Nat) : Prop := ∀ k, m ≤ k → k < ops.size → ∀ D, Closed ops D → Pre ops D k → ∀ j, j < k → D j = true
theorem full_of {m : Nat} (h : fullOk m 0 (masks ops.toList []) = true) : Full ops m := by
  intro k hm hk D hD hpre j hj
  have hs := masks_spec (ops := ops) ops.toList [] (fun k => by simp) (fun j m h => by simp at h)
  obtain ⟨x, hx⟩ : ∃ x, (masks ops.toList [])[k]? = some x := ⟨_, List.getElem?_eq_getElem (by rw [hs.1]; simpa using hk)⟩
  exact hs.2 k x hx D hD hpre j (full_spec _ 0 h k x hx (by omega) j (by omega))

theorem plan_any (hpu : PuOk P pu) {rd : Bool} {w0 : World} {items : List It} {s : St} (hp : planOk nx ops items = true) (hlen : items.length ≤ ops.size) (hfull : Full ops items.length) (hnx : s.nx = nx + ops.size) (hna : ∀ id A, s.hp id = some (.arr A) → id < nx)
    (hv : ∀ i it, items[i]? = some it → ItemOk pu (nx + i) P ops i it (appD nx (fun k => Nat.blt k i) 0 items s)) {Q : Exit → Go.Act → World → Prop} :
    ∀ (fuel : Nat) (listed : Array Bool) (σ : Env) (a : Go.Act) (w : World), listed.size = ops.size → cnt ops.size listed ≤ fuel → Closed ops (fun k => listed.getD k false) → (∀ k, items.length ≤ k → listed.getD k false = false) →
      Sat rd w0 σ (appD nx (fun k => listed.getD k false) 0 items s) a w → (∀ k, k < ops.size → listed.getD k false = false → σ (nx + k) = none) →
      (∀ fuel' (listed' : Array Bool) τ a' w', Ext σ τ → listed'.size = ops.size → cnt ops.size listed' ≤ fuel' → (∀ k, listed'.getD k false = Nat.blt k items.length) → Sat rd w0 τ (appD nx (fun _ => true) 0 items s) a' w' → wpAnyX P rd ops Q fuel' listed' a' w') → wpAnyX P rd ops Q fuel listed a w := by
  have hedge : ∀ j o, ops[j]? = some o → ∀ e ∈ o.after, Region.binds .any e = true → e.on < j := by
    intro j o ho e he hb
    simp only [planOk, Bool.and_eq_true] at hp
    have := edges_spec ops.toList 0 hp.1 j o (by simpa using ho) e he hb
    omega
  -- where nothing is ready, all are listed
  have hall : ∀ (listed : Array Bool), listed.size = ops.size → Region.ready .any ops listed = [] → ∀ k, k < ops.size → listed.getD k false = true := by
    intro listed hsz hr k
    induction k using Nat.strongRecOn with
    | _ k ih =>
      intro hk
      cases hl : listed.getD k false with
      | true => rfl
      | false =>
        have : k ∈ Region.ready .any ops listed := by
          rw [mem_ready]
          refine ⟨?_, ops[k], Array.getElem?_eq_getElem hk, fun e he hb => ?_⟩
          · simp only [Array.getD_eq_getD_getElem?] at hl ⊢
            rw [Array.getElem?_eq_getElem (by omega)] at hl ⊢
            simpa using hl
          · have hlt := hedge k _ (Array.getElem?_eq_getElem hk) e he hb
            exact ih e.on hlt (by omega)
        rw [hr] at this; simp at this
  -- where the plan's own are all listed
  have hfin : ∀ fuel (listed : Array Bool) σ a w, listed.size = ops.size → cnt ops.size listed ≤ fuel → (∀ k, items.length ≤ k → listed.getD k false = false) → (∀ k, k < items.length → listed.getD k false = true) → Sat rd w0 σ (appD nx (fun k => listed.getD k false) 0 items s) a w →
      (∀ fuel' (listed' : Array Bool) τ a' w', Ext σ τ → listed'.size = ops.size → cnt ops.size listed' ≤ fuel' → (∀ k, listed'.getD k false = Nat.blt k items.length) → Sat rd w0 τ (appD nx (fun _ => true) 0 items s) a' w' → wpAnyX P rd ops Q fuel' listed' a' w') → wpAnyX P rd ops Q fuel listed a w := by
    intro fuel listed σ a w hsz hc htl hdone hS hK
    refine hK fuel listed σ a w (Ext.refl _) hsz hc (fun k => ?_) ?_
    · rcases Nat.lt_or_ge k items.length with h | h
      · rw [hdone k h, blt_t.2 h]
      · rw [htl k h]
        cases hb : Nat.blt k items.length with
        | false => rfl
        | true => have := blt_t.1 hb; omega
    have hcong : ∀ (l : List It) (k : Nat) (s : St), k + l.length ≤ items.length → appD nx (fun k => listed.getD k false) k l s = appD nx (fun _ => true) k l s := by
      intro l
      induction l with
      | nil => intros; rfl
      | cons x l ih =>
        intro k s hk
        simp only [List.length_cons] at hk
        simp only [appD]
        rw [hdone k (by omega)]
        exact ih _ _ (by omega)
    rw [← hcong items 0 s (by omega)]
    exact hS
  intro fuel
  induction fuel with
  | zero =>
    intro listed σ a w hsz hc hcl htl hS hfree hK
    refine hfin 0 listed σ a w hsz hc htl (fun k hk => ?_) hS hK
    cases hl : listed.getD k false with
    | true => rfl
    | false =>
      have hpos : 0 < cnt ops.size listed := by
        unfold cnt
        rw [List.countP_pos_iff]
        refine ⟨k, List.mem_range.2 (by omega), ?_⟩
        simp only [Array.getD_eq_getD_getElem?] at hl ⊢
        rw [Array.getElem?_eq_getElem (by omega)] at hl ⊢
        simpa using hl
      omega
  | succ fuel ih =>
    intro listed σ a w hsz hc hcl htl hS hfree hK
    by_cases hdone : ∀ k, k < items.length → listed.getD k false = true
    · exact hfin (fuel + 1) listed σ a w hsz hc htl hdone hS hK
    refine ⟨fun hr => absurd (fun k hk => hall listed hsz hr k (by omega)) hdone, fun i hi => ?_⟩
    rw [mem_ready] at hi
    obtain ⟨h1, o, ho, hpre⟩ := hi
    have hilt : i < ops.size := (Array.getElem?_eq_some_iff.1 ho).1
    have h1' : listed.getD i false = false := by
      simp only [Array.getD_eq_getD_getElem?] at h1 ⊢
      rw [Array.getElem?_eq_getElem (by omega)] at h1 ⊢
      simpa using h1
    have hPre : Pre ops (fun k => listed.getD k false) i := by
      intro o' ho' e he hb
      rw [ho] at ho'; cases ho'
      exact hpre e he hb
    have him : i < items.length := by
      rcases Nat.lt_or_ge i items.length with x | x
      · exact x
      · exact absurd (fun k hk => hfull i x hilt _ hcl hPre k (by omega)) hdone
    obtain ⟨it, hit⟩ : ∃ it, items[i]? = some it := ⟨_, List.getElem?_eq_getElem him⟩
    have hI := plan_item hp hlen hcl hit h1' hPre hna (hv i it hit)
    have hset : ∀ k, (listed.setIfInBounds i true).getD k false = (listed.getD k false || Nat.beq k i) := by
      intro k
      by_cases hki : k = i
      · subst hki
        simp [Array.getD, hsz, hilt]
      · rw [beq_ne hki, Bool.or_false]
        exact getD_set_ne (i := i) (j := k) false (fun e => hki e.symm)
    refine item_step hpu hS (hfree i hilt h1') (by rw [appD_nx, hnx]; omega) hI (fun τ a' w' hext hoth hS' => ?_)
    have hins := appD_insert (nx := nx) (D := fun k => listed.getD k false) (i := i) (it := it) (l := items) (s := s) h1' hit
      (fun m q d hmi hq hd hqd => by
        have mlt : m < items.length := (List.getElem?_eq_some_iff.1 hq).1
        obtain ⟨o', ho'⟩ : ∃ o', ops[m]? = some o' := ⟨_, Array.getElem?_eq_getElem (by omega)⟩
        rcases Nat.lt_or_gt_of_ne hmi with hlt | hgt
        · exact (plan_pairs hp hlen hlt hq hit ho' ho).1 d hqd hd
        · exact (plan_pairs hp hlen hgt hit hq ho ho').1 d hd hqd)
      (fun m q hq hlt hDm => by
        have mlt : m < items.length := (List.getElem?_eq_some_iff.1 hq).1
        obtain ⟨o', ho'⟩ : ∃ o', ops[m]? = some o' := ⟨_, Array.getElem?_eq_getElem (by omega)⟩
        rcases (plan_pairs hp hlen hlt hit hq ho ho').2 with h | h
        · have := h _ hcl (hcl m hDm); rw [h1'] at this; simp at this
        · exact h.m)
    rw [← hins] at hS'
    have hfun : (fun k => (listed.setIfInBounds i true).getD k false) = fun j => listed.getD j false || Nat.beq j i := funext hset
    refine ih (listed.setIfInBounds i true) τ a' w' (by simp [hsz]) ?_ ?_ (fun k hk => by rw [hset, htl k hk, beq_ne (show k ≠ i by omega)]; rfl) (by rw [hfun]; exact hS') ?_ (fun f' l' τ' a2 w2 e2 => hK f' l' τ' a2 w2 (hext.trans e2))
    · have hcd := countP_drop (p := fun k => !(listed.getD k true)) (q := fun k => !((listed.setIfInBounds i true).getD k true)) (i := i) (by simp [h1]) (by simp [Array.getD, hsz, hilt])
        (fun j hj => by rw [getD_set_ne (i := i) (j := j) true (fun e => hj e.symm)]) (List.range ops.size) List.nodup_range (List.mem_range.2 hilt)
      unfold cnt at hc ⊢
      omega
    · intro j hj o' ho' e he hb
      have hj' : (listed.setIfInBounds i true).getD j false = true := hj
      show (listed.setIfInBounds i true).getD e.on false = true
      rw [hset] at hj'
      rw [hset]
      rcases Bool.or_eq_true_iff.1 hj' with h | h
      · have h9 : listed.getD e.on false = true := hcl j h o' ho' e he hb
        rw [h9]; rfl
      · have := Nat.eq_of_beq_eq_true h
        subst this
        have h9 : listed.getD e.on false = true := hPre o' ho' e he hb
        rw [h9]; rfl
    · intro k hk hl
      rw [hset] at hl
      have h2 : listed.getD k false = false ∧ Nat.beq k i = false := by simpa using hl
      have hki : k ≠ i := fun e => by subst e; simp at h2
      rw [hoth (nx + k) (by omega)]
      exact hfree k hk h2.1

/-- a list's items all carried out, in the text's order -/
def appAll (nx : Nat) : Nat → List It → St → St
  | _, [], s => s
  | k, it :: l, s => appAll nx (k + 1) l (it.app (nx + k) s)
theorem appAll_D : ∀ (l : List It) (k : Nat) (s : St), appD nx (fun _ => true) k l s = appAll nx k l s
  | [], _, _ => rfl
  | it :: l, k, s => by simp only [appD, appAll, cond_true]; exact appAll_D l _ _
theorem appAll_snoc : ∀ (l : List It) (k : Nat) (s : St) (it : It), appAll nx k (l ++ [it]) s = it.app (nx + (k + l.length)) (appAll nx k l s)
  | [], k, s, it => rfl
  | x :: l, k, s, it => by
    simp only [List.cons_append, appAll, List.length_cons]
    rw [appAll_snoc l (k + 1)]
    congr 1; omega
theorem appD_take {i : Nat} : ∀ (l : List It) (k : Nat) (s : St), k ≤ i → appD nx (fun j => Nat.blt j i) k l s = appAll nx k (l.take (i - k)) s
  | [], _, _, _ => by simp [appD, appAll]
  | it :: l, k, s, hk => by
    simp only [appD]
    by_cases hki : k = i
    · subst hki
      have hb : ∀ (l : List It) (m : Nat) (s : St), k ≤ m → appD nx (fun j => Nat.blt j k) m l s = s := by
        intro l
        induction l with
        | nil => intros; rfl
        | cons x l ih =>
          intro m s hm
          have hf : Nat.blt m k = false := by
            cases h : Nat.blt m k with
            | false => rfl
            | true => have := blt_t.1 h; omega
          simp only [appD, hf, cond_false]
          exact ih _ _ (by omega)
      have hf : Nat.blt k k = false := by
        cases h : Nat.blt k k with
        | false => rfl
        | true => have := blt_t.1 h; omega
      rw [hf]
      simp only [cond_false, Nat.sub_self, List.take_zero, appAll]
      exact hb l (k + 1) s (by omega)
    · rw [blt_t.2 (show k < i by omega)]
      have : i - k = (i - (k + 1)) + 1 := by omega
      rw [this, List.take_succ_cons]
      simp only [cond_true, appAll]
      exact appD_take l (k + 1) _ (by omega)

variable {α : Type} {R : α → Prop}

theorem plEff_sat {id0 : Nat} {dst : Option Nat} {s : St} {stop : Tree α} {k : It → Tree α} : ∀ (e : Eff), (plEff pu id0 dst s stop k e).sat R → stop.sat R ∨ ∃ it, it.dst = dst ∧ EffIt pu id0 s it e ∧ (k it).sat R
  | .val x, h => .inr ⟨⟨dst, x, .no⟩, rfl, ⟨rfl, rfl⟩, h⟩
  | .load id row st col n agg, h => by
    right
    simp only [plEff] at h
    split at h <;> try (simp [Tree.sat] at h; done)
    · rename_i b hb
      cases hl : (Nat.ble 1 n && Nat.ble (row * st + col + n) (lenA b.cs)) with
      | false => simp [hl, Tree.sat] at h
      | true =>
        simp only [hl, cond_true, takeA_eq, dropA_eq, nth_eq] at h
        simp only [Bool.and_eq_true, Nat.ble_eq, lenA_eq] at hl
        cases agg with
        | true =>
          simp only [cond_true] at h
          exact ⟨_, rfl, .inl ⟨b, hb, hl.1, hl.2, rfl, by simp⟩, h⟩
        | false =>
          simp only [cond_false] at h
          have hlt : row * st + col < b.cs.length := by omega
          rw [List.getElem?_eq_getElem hlt] at h
          exact ⟨_, rfl, .inl ⟨b, hb, hl.1, hl.2, rfl, by simp only [Bool.false_eq_true, if_false]; exact List.getElem?_eq_getElem hlt⟩, h⟩
    · rename_i A hA
      cases hl : (Nat.beq A.c.size st && Nat.ble (col + n) st) with
      | false => simp [hl, Tree.sat] at h
      | true =>
        simp only [hl, cond_true] at h
        simp only [Bool.and_eq_true, Nat.beq_eq, Nat.ble_eq] at hl
        cases hr : decide (row < A.xs.length) with
        | false => simp [hr, Tree.sat] at h
        | true =>
          have hr' := of_decide_eq_true hr
          simp only [hr, cond_true, takeA_eq, dropA_eq, nth_eq] at h
          cases agg with
          | true =>
            simp only [cond_true] at h
            exact ⟨_, rfl, .inr ⟨A, hA, hl.1, hl.2, hr', rfl, by simp⟩, h⟩
          | false =>
            simp only [cond_false] at h
            cases hx : (enc A.c (getA A.xs row (dflt A.c)))[col]? with
            | none => simp [hx, Tree.sat] at h
            | some x =>
              simp only [hx] at h
              exact ⟨_, rfl, .inr ⟨A, hA, hl.1, hl.2, hr', rfl, by simp only [Bool.false_eq_true, if_false]; exact hx⟩, h⟩
  | .store id row st col vs, h => by
    simp only [plEff] at h
    split at h
    · rename_i b hb
      right
      cases hl : (Nat.ble 1 (lenA vs) && Nat.ble (row * st + col + lenA vs) (lenA b.cs)) with
      | false => simp [hl, Tree.sat] at h
      | true =>
        simp only [hl, cond_true] at h
        simp only [Bool.and_eq_true, Nat.ble_eq, lenA_eq] at hl
        exact ⟨_, rfl, ⟨b, hb, hl.1, hl.2, rfl, rfl⟩, h⟩
    · exact .inl h
  | .alloc b mk, h => .inr ⟨⟨dst, mk id0, .al b⟩, rfl, ⟨rfl, rfl⟩, h⟩
  | .idx id st n, h => by
    right
    simp only [plEff] at h
    split at h <;> try (simp [Tree.sat] at h; done)
    rename_i A hA
    cases hl : Nat.beq A.c.size st with
    | false => simp [hl, Tree.sat] at h
    | true =>
      simp only [hl, cond_true] at h
      cases hr : decide (0 ≤ n ∧ n < A.xs.length) with
      | false => simp [hr, Tree.sat] at h
      | true =>
        have hr' := of_decide_eq_true hr
        simp only [hr, cond_true] at h
        exact ⟨_, rfl, ⟨A, hA, by simpa using hl, hr'.1, hr'.2, rfl, rfl⟩, h⟩
  | .len id, h => by
    right
    simp only [plEff] at h
    split at h <;> try (simp [Tree.sat] at h; done)
    rename_i A hA
    exact ⟨_, rfl, ⟨A, hA, rfl, rfl⟩, h⟩
  | .call f args, h => by
    simp only [plEff] at h
    cases hg : assoc pu f with
    | none => simp only [hg, Option.bind_none] at h; exact .inl h
    | some g =>
      simp only [hg, Option.bind_some] at h
      cases hfl : g.flat with
      | false => simp only [hfl, cond_false] at h; exact .inl h
      | true =>
        simp only [hfl, cond_true] at h
        cases hx : g.run args with
        | none => simp only [hx] at h; exact .inl h
        | some y =>
          obtain ⟨c, x⟩ := y
          simp only [hx] at h
          cases c with
          | false => simp [Tree.sat] at h
          | true => exact .inr ⟨⟨dst, x, .no⟩, rfl, ⟨g, x, hg, hfl, hx, rfl, rfl⟩, by simpa using h⟩
  | .test c e, h => by
    simp only [plEff] at h
    cases c with
    | false => simp [Tree.sat] at h
    | true =>
      rcases plEff_sat e (by simpa using h) with h | ⟨it, h1, h2, h3⟩
      · exact .inl h
      · exact .inr ⟨it, h1, ⟨rfl, h2⟩, h3⟩
  | .bad, h => by simp [plEff, Tree.sat] at h
  | .list .., h => .inl h
  | .app .., h => .inl h
  | .round .., h => .inl h
  | .dfr _, h => .inl h
  | .panic _, h => .inl h
  | .mapNew, h => .inl h
  | .mapGet .., h => .inl h
  | .mapSet .., h => .inl h

theorem put_same {s : St} {d : Nat} {x : AV} (h : s.tm d = x) : s.put (some d) x = s := by
  unfold St.put
  simp only
  have : upd s.tm d x = s.tm := by
    funext j
    by_cases hj : j = d
    · subst hj; rw [upd_same, h]
    · rw [upd_other _ _ hj]
  rw [this]

theorem evPlan_sat {s0 : St} {K : List It → St → Tree α} : ∀ (rest : List Nat) (acc : List It) (s : St), s = appAll nx 0 acc s0 → (∀ k, rest[k]? = if k < rest.length then some (acc.length + k) else none) →
    (∀ i it, acc[i]? = some it → ItemOk pu (nx + i) P ops i it (appAll nx 0 (acc.take i) s0)) → (evPlan P pu nx ops K rest acc s).sat R →
    ∃ items, items.length ≤ acc.length + rest.length ∧ (∀ i it, items[i]? = some it → ItemOk pu (nx + i) P ops i it (appAll nx 0 (items.take i) s0)) ∧ (K items (appAll nx 0 items s0)).sat R
  | [], acc, s, hs, _, hv, h => ⟨acc, Nat.le_refl _, hv, by rw [← hs]; exact h⟩
  | i :: rest, acc, s, hs, hr, hv, h => by
    have hi : i = acc.length := by have := hr 0; simpa using this
    have hr' : ∀ it : It, ∀ k, rest[k]? = if k < rest.length then some ((acc ++ [it]).length + k) else none := by
      intro it k
      have := hr (k + 1)
      simp only [List.getElem?_cons_succ, List.length_cons, Nat.add_lt_add_iff_right] at this
      rw [this]
      split
      · congr 1; simp; omega
      · rfl
    have go : ∀ (it : It), ItemOk pu (nx + i) P ops i it s → (evPlan P pu nx ops K rest (acc ++ [it]) (it.app (nx + i) s)).sat R →
        ∃ items, items.length ≤ acc.length + (i :: rest).length ∧ (∀ i it, items[i]? = some it → ItemOk pu (nx + i) P ops i it (appAll nx 0 (items.take i) s0)) ∧ (K items (appAll nx 0 items s0)).sat R := by
      intro it hit hh
      have hv' : ∀ j q, (acc ++ [it])[j]? = some q → ItemOk pu (nx + j) P ops j q (appAll nx 0 ((acc ++ [it]).take j) s0) := by
        intro j q hj
        rw [List.getElem?_append] at hj
        split at hj
        · rename_i hlt
          rw [List.take_append_of_le_length (by omega)]
          exact hv j q hj
        · rename_i hge
          have hj' : j = acc.length := by
            by_cases h0 : j - acc.length = 0
            · omega
            · have : j - acc.length = (j - acc.length - 1) + 1 := by omega
              rw [this] at hj; simp at hj
          subst hj'
          simp at hj; subst hj
          rw [List.take_left' rfl, ← hs, ← hi]
          exact hit
      obtain ⟨items, h1, h2, h3⟩ := evPlan_sat (s0 := s0) rest (acc ++ [it]) (it.app (nx + i) s) (by rw [appAll_snoc, Nat.zero_add, ← hi, ← hs]) (hr' it) hv' hh
      exact ⟨items, by simp at h1 ⊢; omega, h2, h3⟩
    simp only [evPlan] at h
    cases ho : ops[i]? with
    | none => simp [ho, Tree.sat] at h
    | some o =>
      simp only [ho] at h
      cases hd : Nat.ble s.n (o.dst.getD 0) with
      | true => simp [hd, Tree.sat] at h
      | false =>
        simp only [hd, cond_false] at h
        have hd' : o.dst.getD 0 < s.n := by
          rcases Nat.lt_or_ge (o.dst.getD 0) s.n with x | x
          · exact x
          · have : Nat.ble s.n (o.dst.getD 0) = true := by simpa using x
            rw [this] at hd; simp at hd
        have run : ∀ (_ : Runs ops o s), (plEff pu (nx + i) o.dst s (K acc s) (fun it => evPlan P pu nx ops K rest (acc ++ [it]) (it.app (nx + i) s)) (eff P o.op s.eval)).sat R →
            ∃ items, items.length ≤ acc.length + (i :: rest).length ∧ (∀ i it, items[i]? = some it → ItemOk pu (nx + i) P ops i it (appAll nx 0 (items.take i) s0)) ∧ (K items (appAll nx 0 items s0)).sat R := by
          intro hrun hh
          rcases plEff_sat _ hh with hh | ⟨it, h1, h2, h3⟩
          · exact ⟨acc, by omega, hv, by rw [← hs]; exact hh⟩
          exact go it ⟨o, ho, h1, hd', .inl ⟨hrun, h2⟩⟩ h3
        have skip : ∀ (_ : Skips ops o s), (evPlan P pu nx ops K rest (acc ++ [⟨o.dst, .val undef, .no⟩]) (s.put o.dst (.val undef))).sat R →
            ∃ items, items.length ≤ acc.length + (i :: rest).length ∧ (∀ i it, items[i]? = some it → ItemOk pu (nx + i) P ops i it (appAll nx 0 (items.take i) s0)) ∧ (K items (appAll nx 0 items s0)).sat R := by
          intro hsk hh
          exact go ⟨o.dst, .val undef, .no⟩ ⟨o, ho, rfl, hd', .inr ⟨hsk, rfl, rfl⟩⟩ hh
        cases hg : o.guard with
        | none =>
          simp only [hg] at h
          exact run (by simp [Runs, hg]) h
        | some g =>
          obtain ⟨j, want⟩ := g
          simp only [hg] at h
          cases hdst : (ops[j]?).bind (·.dst) with
          | none => simp [hdst, Tree.sat] at h
          | some d =>
            simp only [hdst] at h
            cases hn : Nat.ble s.n d with
            | true => simp [hn, Tree.sat] at h
            | false =>
              simp only [hn, cond_false] at h
              have hlt : d < s.n := by
                rcases Nat.lt_or_ge d s.n with x | x
                · exact x
                · have : Nat.ble s.n d = true := by simpa using x
                  rw [this] at hn; simp at hn
              cases hx : s.tm d with
              | bool b =>
                rw [hx] at h
                simp only at h
                have hrn : b = want → Runs ops o s := fun e => by
                  unfold Runs; rw [hg]; exact ⟨d, hdst, hlt, by rw [hx, e]⟩
                have hsk : b = (!want) → Skips ops o s := fun e => ⟨j, want, d, hg, hdst, hlt, .inl (by rw [hx, e])⟩
                cases b <;> cases want <;> simp only [cond_true, cond_false] at h <;> rw [put_same hx] at h
                · exact run (hrn rfl) h
                · exact skip (hsk rfl) h
                · exact skip (hsk rfl) h
                · exact run (hrn rfl) h
              | val v =>
                rw [hx] at h
                cases v with
                | tuple vs => exact skip ⟨j, want, d, hg, hdst, hlt, .inr ⟨vs, hx⟩⟩ h
                | _ => simp [Tree.sat] at h
              | _ => rw [hx] at h; simp [Tree.sat] at h

theorem tail_any {cT : CallT α} (hc : CTok P cT R) {rd : Bool} {w0 : World} {m : Nat} (hfull : Full ops m) (hedge : ∀ j o, ops[j]? = some o → ∀ e ∈ o.after, Region.binds .any e = true → e.on < j) {K : XE → St → Tree α} {Q : Exit → Go.Act → World → Prop} :
    ∀ (n i : Nat), i + n = ops.size → m ≤ i → ∀ (fuel : Nat) (listed : Array Bool) (σ : Env) (s : St) (a : Go.Act) (w : World), listed.size = ops.size → cnt ops.size listed ≤ fuel → (∀ k, listed.getD k false = Nat.blt k i) →
      Sat rd w0 σ s a w → (evOps P cT ops ((List.range ops.size).drop i) s K).sat R → (∀ τ s' a' w' e ex, Ext σ τ → Sat rd w0 τ s' a' w' → ExR τ e ex → (K e s').sat R → Q ex a' w') → wpAnyX P rd ops Q fuel listed a w := by
  have hun : ∀ (listed : Array Bool) (k : Nat), k < listed.size → listed.getD k true = listed.getD k false := by
    intro listed k hk
    simp only [Array.getD_eq_getD_getElem?]
    rw [Array.getElem?_eq_getElem hk]; rfl
  intro n
  induction n with
  | zero =>
    intro i hi hm fuel listed σ s a w hsz hcn hl hS h hK
    have hr : Region.ready .any ops listed = [] := by
      cases hrd : Region.ready .any ops listed with
      | nil => rfl
      | cons j rest =>
        have hj : j ∈ Region.ready .any ops listed := by rw [hrd]; simp
        rw [mem_ready] at hj
        obtain ⟨h1, o, ho, _⟩ := hj
        have hjl : j < ops.size := (Array.getElem?_eq_some_iff.1 ho).1
        rw [hun listed j (by omega), hl j, blt_t.2 (by omega)] at h1
        simp at h1
    have hq : Q .normal a w := by
      refine hK σ s a w .normal .normal (Ext.refl _) hS trivial ?_
      rw [List.drop_eq_nil_of_le (by simp; omega)] at h
      exact h
    cases fuel with
    | zero => exact ⟨hr, hq⟩
    | succ fuel => exact ⟨fun _ => hq, fun j hj => by rw [hr] at hj; simp at hj⟩
  | succ n ih =>
    intro i hi hm fuel listed σ s a w hsz hcn hl hS h hK
    have hil : i < ops.size := by omega
    have hui : listed.getD i true = false := by
      rw [hun listed i (by omega), hl i]
      cases hb : Nat.blt i i with
      | false => rfl
      | true => have := blt_t.1 hb; omega
    have hpos : 0 < cnt ops.size listed := by
      unfold cnt
      rw [List.countP_pos_iff]
      exact ⟨i, List.mem_range.2 hil, by simp [hui]⟩
    cases fuel with
    | zero => omega
    | succ fuel =>
      have hcl : Closed ops (fun k => listed.getD k false) := by
        intro j hj o ho e he hb
        have hj' : listed.getD j false = true := hj
        show listed.getD e.on false = true
        rw [hl] at hj' ⊢
        have h1 := blt_t.1 hj'
        have h2 := hedge j o ho e he hb
        exact blt_t.2 (by omega)
      have hmem : i ∈ Region.ready .any ops listed := by
        rw [mem_ready]
        refine ⟨hui, ops[i], Array.getElem?_eq_getElem hil, fun e he hb => ?_⟩
        rw [hl]
        exact blt_t.2 (hedge i _ (Array.getElem?_eq_getElem hil) e he hb)
      refine ⟨fun hr => by rw [hr] at hmem; simp at hmem, fun j hj => ?_⟩
      rw [mem_ready] at hj
      obtain ⟨h1, o, ho, hpre⟩ := hj
      have hjl : j < ops.size := (Array.getElem?_eq_some_iff.1 ho).1
      have hji : j = i := by
        rcases Nat.lt_trichotomy j i with x | x | x
        · rw [hun listed j (by omega), hl j, blt_t.2 x] at h1; simp at h1
        · exact x
        · have := hfull j (by omega) hjl _ hcl (by intro o' ho' e he hb; rw [ho] at ho'; cases ho'; exact hpre e he hb) i x
          have h2 : listed.getD i false = true := this
          rw [← hun listed i (by omega), hui] at h2; simp at h2
      subst hji
      have hdrop : (List.range ops.size).drop j = j :: (List.range ops.size).drop (j + 1) := by
        rw [List.drop_eq_getElem_cons (by simpa using hjl)]
        simp
      rw [hdrop] at h
      refine evOps_step hc hS h (fun τ s' x ch a' w' e hS' hx hk => hK τ s' a' w' _ _ e hS' hx hk) fun τ s' a' w' e hS' h' => ?_
      refine ih (j + 1) (by omega) (by omega) fuel (listed.setIfInBounds j true) τ s' a' w' (by simp [hsz]) ?_ ?_ hS' h' (fun τ' s2 a2 w2 x2 ex2 e2 => hK τ' s2 a2 w2 x2 ex2 (e.trans e2))
      · have hcd := countP_drop (p := fun k => !(listed.getD k true)) (q := fun k => !((listed.setIfInBounds j true).getD k true)) (i := j) (by simp [hui]) (by simp [Array.getD, hsz, hjl])
          (fun k hk => by rw [getD_set_ne (i := j) (j := k) true (fun e => hk e.symm)]) (List.range ops.size) List.nodup_range (List.mem_range.2 hjl)
        unfold cnt at hcn ⊢
        omega
      · intro k
        by_cases hk : k = j
        · subst hk
          rw [blt_t.2 (show k < k + 1 by omega)]
          simp [Array.getD, hsz, hjl]
        · rw [getD_set_ne (i := j) (j := k) false (fun e => hk e.symm), hl k]
          rw [Bool.eq_iff_iff, blt_t, blt_t]; omega

theorem draw_sound {cT : CallT α} (hc : CTok P cT R) (hmix : P.follows .mixedOrders = true) (hpu : PuOk P pu) {rd : Bool} {w0 : World} {σ : Env} {s : St} {a : Go.Act} {w : World} {K : XE → St → Tree α} {fn : FuncId} {id : Nat} {ops : Array Oper} (hS : Sat rd w0 σ s a w) (hnd : rd = true → noDefer ops = true)
    (h : (evPlan P pu s.nx ops (fun items s' =>
      bif planOk s.nx ops items && fullOk (lenA items) 0 (masks ops.toList []) then evOps P cT ops ((List.range ops.size).drop (lenA items)) s' K else .fail) (List.range ops.size) [] { s with nx := s.nx + ops.size }).sat R) :
    Code.wpX P rd fn (.region id ops true) (fun e a' w' => ∃ τ x s', Ext σ τ ∧ Sat rd w0 τ s' a' w' ∧ ExR τ x e ∧ (K x s').sat R) a w := by
  obtain ⟨items, h1, h2, h3⟩ := evPlan_sat (s0 := { s with nx := s.nx + ops.size }) (List.range ops.size) [] _ rfl (fun k => by
    simp only [List.length_range, List.length_nil, Nat.zero_add]
    split
    · rename_i hk; simp [hk]
    · rename_i hk; exact List.getElem?_eq_none (by simp; omega)) (fun i it hi => by simp at hi) h
  have hlen : items.length ≤ ops.size := by simpa using h1
  simp only [lenA_eq] at h3
  cases hp : (planOk s.nx ops items && fullOk items.length 0 (masks ops.toList [])) with
  | false => simp [hp, Tree.sat] at h3
  | true =>
    simp only [hp, cond_true] at h3
    rw [Bool.and_eq_true] at hp
    obtain ⟨hp, hfl⟩ := hp
    have hfull : Full ops items.length := full_of hfl
    have hedge : ∀ j o, ops[j]? = some o → ∀ e ∈ o.after, Region.binds .any e = true → e.on < j := by
      intro j o ho e he hb
      simp only [planOk, Bool.and_eq_true] at hp
      have := edges_spec ops.toList 0 hp.1 j o (by simpa using ho) e he hb
      omega
    refine wpX_region_any hmix hnd ?_
    have hh0 : HRel w0.heap.size σ s.hp (s.nx + ops.size) { w with drawn := w.drawn + 1 } := by
      have hk := hS.h
      exact ⟨fun id o hi => (hk.ob id o hi).keep (Ext.refl σ) rfl (fun _ _ => rfl), hk.inj, fun i hi => hk.fresh i (by omega), hk.bound, hk.mem.keep (fun _ _ _ _ => rfl), hk.sep, hk.low⟩
    have hS0 : Sat rd w0 σ { s with nx := s.nx + ops.size } a { w with drawn := w.drawn + 1 } := ⟨hh0, hS.tm, hS.n, hS.df, hS.bl.drew, hS.rd⟩
    have hD0 : (fun k => (Array.replicate ops.size false).getD k false) = fun _ => false := by
      funext k
      simp only [Array.getD_eq_getD_getElem?, Array.getElem?_replicate]
      split <;> rfl
    have hnone : ∀ (l : List It) (k : Nat) (s' : St), appD s.nx (fun _ => false) k l s' = s' := by
      intro l
      induction l with
      | nil => intros; rfl
      | cons x l ih => intro k s'; simp only [appD, cond_false]; exact ih _ _
    have hna : ∀ id A, s.hp id = some (.arr A) → id < s.nx := by
      intro id A hid
      rcases Nat.lt_or_ge id s.nx with x | x
      · exact x
      · rw [(hS.h.fresh id x).2.2] at hid; cases hid
    refine plan_any (w0 := w0) hpu hp hlen hfull (s := { s with nx := s.nx + ops.size }) rfl hna (fun i it hi => by
      rw [appD_take items 0 _ (Nat.zero_le _)]; exact h2 i it hi) ops.size (Array.replicate ops.size false) σ a _ (by simp) ?_ ?_ (fun k _ => congrFun hD0 k) ?_ ?_ ?_
    · unfold cnt
      exact Nat.le_trans List.countP_le_length (by simp)
    · rw [hD0]; intro j hj; simp at hj
    · rw [hD0, hnone]; exact hS0
    · intro k _ _; exact (hS.h.fresh _ (by omega)).1
    · intro fuel' listed' τ a' w' he hsz hcn hl hS'
      rw [appAll_D] at hS'
      exact tail_any hc hfull hedge (ops.size - items.length) items.length (by omega) (Nat.le_refl _) fuel' listed' τ _ a' w' hsz hcn hl hS' h3 (fun τ' s' a2 w2 x2 ex2 e2 hS2 hx2 hk2 => ⟨τ', x2, s', he.trans e2, hS2, hx2, hk2⟩)
end
end V
end Go.Proofs.Ytmmhbianajpdgaa
