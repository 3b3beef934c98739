/- That the symbolic evaluator of the text Ea is sound: a region whose order is open, third part: every order that the edges allow. -/
import Derived.Test.YtgchccljmjmibaaVB
import Derived.ProofKit
namespace Go.Proofs.Ytgchccljmjmibaa
open Go.RowKit
namespace V

section
variable {P : Program} {pu : List (Nat × PureT)} {nx : Nat} {ops : Array Oper}

theorem blt_t {a b : Nat} : Nat.blt a b = true ↔ a < b := by unfold Nat.blt; rw [Nat.ble_eq]; exact Iff.rfl
/-- all operations that have to come before operation j are in D -/
def Pre (ops : Array Oper) (D : Nat → Bool) (j : Nat) : Prop := ∀ o, ops[j]? = some o → ∀ e ∈ o.after, Region.binds .any e = true → D e.on = true
def Closed (ops : Array Oper) (D : Nat → Bool) : Prop := ∀ j, D j = true → Pre ops D j

theorem maskOf_spec {D : Nat → Bool} {acc : List Nat} (hacc : ∀ j m, acc[j]? = some m → D j = true → ∀ i, Nat.testBit m i = true → D i = true) : ∀ (l : List Edge), (∀ e ∈ l, Region.binds .any e = true → D e.on = true) → ∀ i, Nat.testBit (maskOf acc l) i = true → D i = true
  | [], _, i, h => by simp [maskOf] at h
  | e :: l, hl, i, h => by
    simp only [maskOf] at h
    cases hb : Region.binds .any e with
    | false =>
      simp only [hb, cond_false] at h
      exact maskOf_spec hacc l (fun e' he' => hl e' (by simp [he'])) i h
    | true =>
      simp only [hb, cond_true, Nat.testBit_or, Bool.or_eq_true] at h
      have hD := hl e (by simp) hb
      rcases h with (h | h) | h
      · rw [Nat.testBit_two_pow] at h
        have : e.on = i := by simpa using h
        rw [← this]; exact hD
      · rw [nth_eq] at h
        cases hm : acc[e.on]? with
        | none => simp [hm] at h
        | some m => rw [hm] at h; exact hacc e.on m hm hD i h
      · exact maskOf_spec hacc l (fun e' he' => hl e' (by simp [he'])) i h

theorem masks_spec : ∀ (l : List Oper) (acc : List Nat), (∀ k, l[k]? = ops[acc.length + k]?) →
    (∀ j m, acc[j]? = some m → ∀ D, Closed ops D → Pre ops D j → ∀ i, Nat.testBit m i = true → D i = true) →
    (masks l acc).length = acc.length + l.length ∧ ∀ j m, (masks l acc)[j]? = some m → ∀ D, Closed ops D → Pre ops D j → ∀ i, Nat.testBit m i = true → D i = true
  | [], acc, _, hacc => ⟨rfl, hacc⟩
  | o :: l, acc, hl, hacc => by
    simp only [masks]
    have ho : ops[acc.length]? = some o := by have := hl 0; simpa using this.symm
    have ih := masks_spec l (acc ++ [maskOf acc o.after.toList]) (fun k => by
      have := hl (k + 1)
      simp only [List.getElem?_cons_succ] at this
      rw [this]
      congr 1
      simp; omega) ?_
    · exact ⟨by rw [ih.1]; simp; omega, ih.2⟩
    · intro j m hj D hD hpre i hi
      rw [List.getElem?_append] at hj
      split at hj
      · exact hacc j m hj D hD hpre i hi
      · rename_i hlt
        have hj' : j = acc.length := by
          by_cases h0 : j - acc.length = 0
          · omega
          · have : j - acc.length = (j - acc.length - 1) + 1 := by omega
            rw [this] at hj; simp at hj
        subst hj'
        simp at hj
        subst hj
        exact maskOf_spec (fun j m hj hDj => hacc j m hj D hD (hD j hDj)) _ (fun e he hb => hpre o ho e (Array.mem_toList_iff.1 he) hb) i hi

theorem edges_spec : ∀ (l : List Oper) (i : Nat), edgesOk l i = true → ∀ k o, l[k]? = some o → ∀ e ∈ o.after, Region.binds .any e = true → e.on < i + k
  | [], _, _, _, _, h => by simp at h
  | o :: l, i, h, k, o', hk => by
    simp only [edgesOk, Bool.and_eq_true] at h
    cases k with
    | zero =>
      simp at hk; subst hk
      intro e he hb
      have := List.all_eq_true.1 h.1 e (Array.mem_toList_iff.2 he)
      rw [hb] at this
      simpa using blt_t.1 this
    | succ k =>
      intro e he hb
      have := edges_spec l (i + 1) h.2 k o' (by simpa using hk) e he hb
      omega

theorem rowOk_spec {i : Nat} {r : Row} : ∀ (l : List Row) (j : Nat), rowOk nx i r j l = true → ∀ k q, l[k]? = some q → pairOk nx i r (j + k) q = true
  | [], _, _, _, _, h => by simp at h
  | q :: l, j, h, k, q', hk => by
    simp only [rowOk, Bool.and_eq_true] at h
    cases k with
    | zero => simp at hk; subst hk; exact h.1
    | succ k =>
      have := rowOk_spec l (j + 1) h.2 k q' (by simpa using hk)
      rwa [show j + (k + 1) = j + 1 + k by omega]
theorem rowsOk_spec : ∀ (l : List Row) (i : Nat), rowsOk nx i l = true → ∀ a b r q, a < b → l[a]? = some r → l[b]? = some q → pairOk nx (i + a) r (i + b) q = true
  | [], _, _, _, _, _, _, _, h, _ => by simp at h
  | x :: l, i, h, a, b, r, q, hab, ha, hb => by
    simp only [rowsOk, Bool.and_eq_true] at h
    cases b with
    | zero => omega
    | succ b =>
      cases a with
      | zero =>
        simp at ha; subst ha
        have := rowOk_spec l (i + 1) h.1 b q (by simpa using hb)
        rwa [show i + (b + 1) = i + 1 + b by omega]
      | succ a =>
        have := rowsOk_spec l (i + 1) h.2 a b r q (by omega) (by simpa using ha) (by simpa using hb)
        rwa [show i + (a + 1) = i + 1 + a by omega, show i + (b + 1) = i + 1 + b by omega]
theorem rowsOf_get : ∀ (l : List Oper) (is : List It) (ms : List Nat) (k : Nat) (o : Oper) (it : It) (m : Nat), l[k]? = some o → is[k]? = some it → ms[k]? = some m → (rowsOf ops l is ms)[k]? = some ⟨it.dst, looks ops o, it.mem, m⟩
  | [], _, _, _, _, _, _, h, _, _ => by simp at h
  | _ :: _, [], _, _, _, _, _, _, h, _ => by simp at h
  | _ :: _, _ :: _, [], _, _, _, _, _, _, h => by simp at h
  | a :: l, b :: is, c :: ms, k, o, it, m, h1, h2, h3 => by
    cases k with
    | zero => simp at h1 h2 h3; subst h1; subst h2; subst h3; rfl
    | succ k =>
      simp only [rowsOf, List.getElem?_cons_succ]
      exact rowsOf_get l is ms k o it m (by simpa using h1) (by simpa using h2) (by simpa using h3)

/-- a pair of operations that no edge orders leave each other alone -/
structure Apart (nx i : Nat) (r : It) (lr : List Nat) (j : Nat) (q : It) (lq : List Nat) : Prop where
  d1 : ∀ d, r.dst = some d → d ∉ lq
  d2 : ∀ d, q.dst = some d → d ∉ lr
  m : memIndep (nx + i) r.mem (nx + j) q.mem = true

theorem plan_pairs {items : List It} (hp : planOk nx ops items = true) (hlen : items.length ≤ ops.size) {i j : Nat} {r q : It} {o o' : Oper} (hij : i < j) (hr : items[i]? = some r) (hq : items[j]? = some q) (ho : ops[i]? = some o) (ho' : ops[j]? = some o') :
    (∀ d, r.dst = some d → q.dst ≠ some d) ∧ ((∀ D, Closed ops D → Pre ops D j → D i = true) ∨ Apart nx i r (looks ops o) j q (looks ops o')) := by
  simp only [planOk, Bool.and_eq_true] at hp
  have hm := masks_spec (ops := ops) ops.toList [] (fun k => by simp) (fun j m h => by simp at h)
  have hjlt : j < items.length := (List.getElem?_eq_some_iff.1 hq).1
  have hml : (masks ops.toList []).length = ops.size := by rw [hm.1]; simp
  obtain ⟨mi, hmi⟩ : ∃ m, (masks ops.toList [])[i]? = some m := ⟨_, List.getElem?_eq_getElem (by rw [hml]; omega)⟩
  obtain ⟨mj, hmj⟩ : ∃ m, (masks ops.toList [])[j]? = some m := ⟨_, List.getElem?_eq_getElem (by rw [hml]; omega)⟩
  have h1 := rowsOf_get (ops := ops) ops.toList items (masks ops.toList []) i o r mi (by simpa using ho) hr hmi
  have h2 := rowsOf_get (ops := ops) ops.toList items (masks ops.toList []) j o' q mj (by simpa using ho') hq hmj
  have h3 := rowsOk_spec _ 0 hp.2 i j _ _ hij h1 h2
  simp only [Nat.zero_add, pairOk, Bool.and_eq_true, Bool.or_eq_true] at h3
  obtain ⟨h4, h5⟩ := h3
  have hnot : ∀ (d : Option Nat) (l : List Nat), notIn d l = true → ∀ x, d = some x → x ∉ l := by
    intro d l h x hx hmem
    subst hx
    simp only [notIn] at h
    have := List.all_eq_true.1 h x hmem
    simp at this
  refine ⟨fun d hd hd' => ?_, ?_⟩
  · rw [hd, hd'] at h4
    simp [diffD] at h4
  · rcases h5 with h5 | ⟨h5, h6, h7⟩
    · exact .inl fun D hD hpre => hm.2 j mj hmj D hD hpre i h5
    · exact .inr ⟨hnot _ _ h5, hnot _ _ h6, h7⟩

theorem memIndep_writes {a b : Nat} {m k : Mem} (h : memIndep a m b k = true) : match m with
    | .ld id lo hi => ∀ c, lo ≤ c → c < hi → ¬ writes k b id c
    | .lp id lo hi _ _ => ∀ c, lo ≤ c → c < hi → ¬ writes k b id c
    | .st id lo vs => ∀ c, lo ≤ c → c < lo + vs.length → ¬ writes k b id c
    | .la id => ¬ writes k b id 0
    | .sa id _ => ¬ writes k b id 0
    | .sm id _ => ¬ writes k b id 0
    | _ => True := by
  have ap : ∀ {id lo hi id' lo' hi' : Nat}, apartB id lo hi id' lo' hi' = true → id ≠ id' ∨ hi ≤ lo' ∨ hi' ≤ lo := by
    intro id lo hi id' lo' hi' hh
    simp only [apartB, Bool.or_eq_true, Bool.not_eq_true', Nat.ble_eq] at hh
    rcases hh with hh | hh
    · exact .inl (fun e => by subst e; simp at hh)
    · exact .inr hh
  have ne : ∀ {x y : Nat}, (!(Nat.beq x y)) = true → x ≠ y := fun hh e => by subst e; simp at hh
  cases m with
  | no => trivial
  | al _ => trivial
  | aa _ => trivial
  | lp id lo hi c0 p0 =>
    cases k with
    | st id' lo' vs =>
      have := ap (by simpa only [memIndep, Mem.nrm, memIndep0] using h)
      rw [lenA_eq] at this
      rintro c h1 h2 ⟨rfl, h3, h4⟩
      rcases this with h5 | h5 | h5
      · exact h5 rfl
      · omega
      · omega
    | al blk => intro c _ _ e; exact ne (by simpa only [memIndep, Mem.nrm, memIndep0] using h) e.symm
    | aa A => intro c _ _ e; exact ne (by simpa only [memIndep, Mem.nrm, memIndep0] using h) e.symm
    | sa id' A => intro c _ _ e; exact ne (by simpa only [memIndep, Mem.nrm, memIndep0] using h) e
    | sm id' A => intro c _ _ e; exact ne (by simpa only [memIndep, Mem.nrm, memIndep0] using h) e
    | _ => intro c _ _ e; exact e
  | ld id lo hi =>
    cases k with
    | st id' lo' vs =>
      have := ap (by simpa only [memIndep, Mem.nrm, memIndep0] using h)
      rw [lenA_eq] at this
      rintro c h1 h2 ⟨rfl, h3, h4⟩
      rcases this with h5 | h5 | h5
      · exact h5 rfl
      · omega
      · omega
    | al blk => intro c _ _ e; exact ne (by simpa only [memIndep, Mem.nrm, memIndep0] using h) e.symm
    | aa A => intro c _ _ e; exact ne (by simpa only [memIndep, Mem.nrm, memIndep0] using h) e.symm
    | sa id' A => intro c _ _ e; exact ne (by simpa only [memIndep, Mem.nrm, memIndep0] using h) e
    | sm id' A => intro c _ _ e; exact ne (by simpa only [memIndep, Mem.nrm, memIndep0] using h) e
    | _ => intro c _ _ e; exact e
  | st id lo vs =>
    cases k with
    | st id' lo' vs' =>
      have := ap (by simpa only [memIndep, Mem.nrm, memIndep0] using h)
      rw [lenA_eq, lenA_eq] at this
      rintro c h1 h2 ⟨rfl, h3, h4⟩
      rcases this with h5 | h5 | h5
      · exact h5 rfl
      · omega
      · omega
    | al blk => intro c _ _ e; exact ne (by simpa only [memIndep, Mem.nrm, memIndep0] using h) e.symm
    | aa A => intro c _ _ e; exact ne (by simpa only [memIndep, Mem.nrm, memIndep0] using h) e.symm
    | sa id' A => intro c _ _ e; exact ne (by simpa only [memIndep, Mem.nrm, memIndep0] using h) e
    | sm id' A => intro c _ _ e; exact ne (by simpa only [memIndep, Mem.nrm, memIndep0] using h) e
    | _ => intro c _ _ e; exact e
  | la id =>
    cases k with
    | st id' lo' vs' => rintro ⟨e, _⟩; exact ne (by simpa only [memIndep, Mem.nrm, memIndep0] using h) e.symm
    | al blk => intro e; exact ne (by simpa only [memIndep, Mem.nrm, memIndep0] using h) e.symm
    | aa A => intro e; exact ne (by simpa only [memIndep, Mem.nrm, memIndep0] using h) e.symm
    | sa id' A => intro e; exact ne (by simpa only [memIndep, Mem.nrm, memIndep0] using h) e.symm
    | sm id' A => intro e; exact ne (by simpa only [memIndep, Mem.nrm, memIndep0] using h) e
    | _ => intro e; exact e
  | sm id M =>
    cases k with
    | st id' lo' vs' => rintro ⟨e, _⟩; exact ne (by simpa only [memIndep, Mem.nrm, memIndep0] using h) e.symm
    | al blk => intro e; exact ne (by simpa only [memIndep, Mem.nrm, memIndep0] using h) e.symm
    | aa A => intro e; exact ne (by simpa only [memIndep, Mem.nrm, memIndep0] using h) e.symm
    | sa id' A => intro e; exact ne (by simpa only [memIndep, Mem.nrm, memIndep0] using h) e.symm
    | sm id' A' =>
      simp only [memIndep, Mem.nrm, memIndep0, Bool.and_eq_true] at h
      intro e; exact ne h.1 e.symm
    | _ => intro e; exact e
  | sa id A =>
    cases k with
    | st id' lo' vs' => rintro ⟨e, _⟩; exact ne (by simpa only [memIndep, Mem.nrm, memIndep0] using h) e.symm
    | al blk => intro e; exact ne (by simpa only [memIndep, Mem.nrm, memIndep0] using h) e.symm
    | aa A => intro e; exact ne (by simpa only [memIndep, Mem.nrm, memIndep0] using h) e.symm
    | sa id' A' =>
      simp only [memIndep, Mem.nrm, memIndep0, Bool.and_eq_true] at h
      intro e; exact ne h.1 e.symm
    | sm id' A' => intro e; exact ne (by simpa only [memIndep, Mem.nrm, memIndep0] using h) e
    | _ => intro e; exact e
theorem memIndep_symm {a b : Nat} {m k : Mem} (h : memIndep a m b k = true) : memIndep b k a m = true := by
  have sy : ∀ {id lo hi id' lo' hi' : Nat}, apartB id lo hi id' lo' hi' = true → apartB id' lo' hi' id lo hi = true := by
    intro id lo hi id' lo' hi' hh
    simp only [apartB, Bool.or_eq_true, Bool.not_eq_true', Nat.ble_eq] at hh ⊢
    rcases hh with hh | hh | hh
    · left
      cases hb : Nat.beq id' id with
      | false => rfl
      | true =>
        have := Nat.eq_of_beq_eq_true hb
        subst this; simp at hh
    · exact .inr (.inr hh)
    · exact .inr (.inl hh)
  cases m <;> cases k <;> simp only [memIndep, Mem.nrm, memIndep0] at h ⊢ <;> first | exact sy h | exact h | (rw [Bool.and_comm]; exact h)

/-- items that are right in the text's order are right in every state that the edges allow -/
theorem plan_item {items : List It} {s : St} (hp : planOk nx ops items = true) (hlen : items.length ≤ ops.size) {D : Nat → Bool} (hD : Closed ops D) {i : Nat} {it : It} (hit : items[i]? = some it) (hi : D i = false) (hpre : Pre ops D i)
    (hv : ItemOk pu (nx + i) P ops i it (appD nx (fun k => Nat.blt k i) 0 items s)) : ItemOk pu (nx + i) P ops i it (appD nx D 0 items s) := by
  obtain ⟨o, ho⟩ : ∃ o, ops[i]? = some o := by obtain ⟨o, h, _⟩ := hv; exact ⟨o, h⟩
  have ilt : i < items.length := (List.getElem?_eq_some_iff.1 hit).1
  -- whoever stands on another side in the two states is ordered with i by no edge
  have key : ∀ (m : Nat) (q : It), items[m]? = some q → D m ≠ Nat.blt m i → m ≠ i → (∀ d, q.dst = some d → d ∉ looks ops o) ∧ memIndep (nx + i) it.mem (nx + m) q.mem = true := by
    intro m q hq hne hmi
    have mlt : m < items.length := (List.getElem?_eq_some_iff.1 hq).1
    obtain ⟨o', ho'⟩ : ∃ o', ops[m]? = some o' := ⟨_, Array.getElem?_eq_getElem (by omega)⟩
    rcases Nat.lt_or_gt_of_ne hmi with hlt | hgt
    · have hb : Nat.blt m i = true := blt_t.2 hlt
      have hDm : D m = false := by cases h : D m with
        | false => rfl
        | true => rw [h, hb] at hne; exact absurd rfl hne
      rcases (plan_pairs hp hlen hlt hq hit ho' ho).2 with h | h
      · rw [h D hD hpre] at hDm; simp at hDm
      · exact ⟨h.d1, memIndep_symm h.m⟩
    · have hb : Nat.blt m i = false := by
        cases h : Nat.blt m i with
        | false => rfl
        | true => have : m < i := blt_t.1 h
                  omega
      have hDm : D m = true := by cases h : D m with
        | true => rfl
        | false => rw [h, hb] at hne; exact absurd rfl hne
      rcases (plan_pairs hp hlen hgt hit hq ho ho').2 with h | h
      · have := h D hD (hD m hDm); rw [this] at hi; simp at hi
      · exact ⟨h.d2, h.m⟩
  have hbi : Nat.blt i i = false := by
    cases h : Nat.blt i i with
    | false => rfl
    | true => have : i < i := blt_t.1 h
              omega
  refine item_transport hv (by rw [appD_n, appD_n]) ?_ ?_
  · intro o1 ho1 t ht
    rw [ho] at ho1; cases ho1
    refine appD_tm items 0 s s rfl (fun m q hq hd => ?_)
    simp only [Nat.zero_add]
    by_cases hmi : m = i
    · subst hmi; rw [hi, hbi]
    · by_cases hne : D m = Nat.blt m i
      · exact hne
      · exact absurd ht ((key m q hq hne hmi).1 t hd)
  · have hagree : ∀ id c, (∀ m q, items[m]? = some q → memIndep (nx + i) it.mem (nx + m) q.mem = true → ¬ writes q.mem (nx + m) id c) → info (appD nx D 0 items s).hp id c = info (appD nx (fun k => Nat.blt k i) 0 items s).hp id c := by
      intro id c hw
      refine appD_info items 0 s s rfl (fun m q hq hwr => ?_)
      simp only [Nat.zero_add] at hwr ⊢
      by_cases hmi : m = i
      · subst hmi; rw [hi, hbi]
      · by_cases hne : D m = Nat.blt m i
        · exact hne
        · exact absurd hwr (hw m q hq (key m q hq hne hmi).2)
    cases hmem : it.mem with
    | ld id lo hi' =>
      intro c h1 h2
      refine hagree id c (fun m q hq hind => ?_)
      rw [hmem] at hind
      exact memIndep_writes hind c h1 h2
    | lp id lo hi' c0 p0 =>
      intro c h1 h2
      refine hagree id c (fun m q hq hind => ?_)
      rw [hmem] at hind
      exact memIndep_writes hind c h1 h2
    | st id lo vs =>
      intro c h1 h2
      refine hagree id c (fun m q hq hind => ?_)
      rw [hmem] at hind
      exact memIndep_writes hind c h1 h2
    | la id =>
      refine hagree id 0 (fun m q hq hind => ?_)
      rw [hmem] at hind
      exact memIndep_writes hind
    | sa id A =>
      refine hagree id 0 (fun m q hq hind => ?_)
      rw [hmem] at hind
      exact memIndep_writes hind
    | sm id A =>
      refine hagree id 0 (fun m q hq hind => ?_)
      rw [hmem] at hind
      exact memIndep_writes hind
    | _ => trivial

def cnt (n : Nat) (listed : Array Bool) : Nat := (List.range n).countP fun i => !(listed.getD i true)
theorem countP_drop {p q : Nat → Bool} {i : Nat} (hp : p i = true) (hq : q i = false) (h : ∀ j, j ≠ i → q j = p j) : ∀ (l : List Nat), l.Nodup → i ∈ l → l.countP q + 1 = l.countP p
  | [], _, hm => by simp at hm
  | a :: l, hn, hm => by
    rw [List.nodup_cons] at hn
    by_cases ha : a = i
    · subst ha
      rw [List.countP_cons_of_pos hp, List.countP_cons_of_neg (by simp [hq])]
      congr 1
      exact List.countP_congr fun j hj => by rw [h j (fun e => hn.1 (e ▸ hj))]
    · have him : i ∈ l := by rcases List.mem_cons.1 hm with e | e
                             · exact absurd e.symm ha
                             · exact e
      have ih := countP_drop hp hq h l hn.2 him
      by_cases hpa : p a = true
      · rw [List.countP_cons_of_pos hpa, List.countP_cons_of_pos (by rw [h a ha]; exact hpa)]; omega
      · rw [List.countP_cons_of_neg (by rw [h a ha]; exact hpa), List.countP_cons_of_neg hpa]; omega

theorem full_spec {m : Nat} : ∀ (l : List Nat) (k0 : Nat), fullOk m k0 l = true → ∀ k x, l[k]? = some x → m ≤ k0 + k → ∀ j, j < k0 + k → Nat.testBit x j = true
  | [], _, _, _, _, h => by simp at h
  | y :: l, k0, h, k, x, hk => by
    simp only [fullOk, Bool.and_eq_true] at h
    cases k with
    | zero =>
      simp at hk; subst hk
      intro hm j hj
      have hb : Nat.ble m k0 = true := by simpa using hm
      rw [hb, cond_true] at h
      exact List.all_eq_true.1 h.1 j (List.mem_range.2 (by omega))
    | succ k =>
      intro hm j hj
      exact full_spec l (k0 + 1) h.2 k x (by simpa using hk) (by omega) j (by omega)
/-- from a number on each operation comes after all before it -/
def Full (ops : Array Oper) (m : Nat) : Prop := ∀ k, m ≤ k → k < ops.size → ∀ D, Closed ops D → Pre ops D k → ∀ j, j < k → D j = true
theorem full_of {m : Nat} (h : fullOk m 0 (masks ops.toList []) = true) : Full ops m := by
  intro k hm hk D hD hpre j hj
  have hs := masks_spec (ops := ops) ops.toList [] (fun k => by simp) (fun j m h => by simp at h)
  obtain ⟨x, hx⟩ : ∃ x, (masks ops.toList [])[k]? = some x := ⟨_, List.getElem?_eq_getElem (by rw [hs.1]; simpa using hk)⟩
  exact hs.2 k x hx D hD hpre j (full_spec _ 0 h k x hx (by omega) j (by omega))

theorem plan_any (hpu : PuOk P pu) {rd : Bool} {w0 : World} {items : List It} {s : St} (hp : planOk nx ops items = true) (hlen : items.length ≤ ops.size) (hfull : Full ops items.length) (hnx : s.nx = nx + ops.size)
    (hv : ∀ i it, items[i]? = some it → ItemOk pu (nx + i) P ops i it (appD nx (fun k => Nat.blt k i) 0 items s)) {Q : Exit → Go.Act → World → Prop} :
    ∀ (fuel : Nat) (listed : Array Bool) (σ : Env) (a : Go.Act) (w : World), listed.size = ops.size → cnt ops.size listed ≤ fuel → Closed ops (fun k => listed.getD k false) → (∀ k, items.length ≤ k → listed.getD k false = false) →
      Sat rd w0 σ (appD nx (fun k => listed.getD k false) 0 items s) a w → (∀ k, k < ops.size → listed.getD k false = false → Free σ (nx + k)) →
      (∀ k it, items[k]? = some it → listed.getD k false = true → lpOk it.mem) →
      (∀ (D : Nat → Bool) τ a' w' (p : TypeId × IntKind × Int), Ext σ τ → Sat rd w0 τ (appD nx D 0 items s) a' w' → inK p.2.1 p.2.2 → (∃ (i : Nat) (it : It) (id lo hi : Nat), items[i]? = some it ∧ it.mem = .lp id lo hi false p) → Q (.panic [{ v := .iface p.1 (.int p.2.1 p.2.2), recovered := false }]) a' w') →
      (∀ fuel' (listed' : Array Bool) τ a' w', Ext σ τ → listed'.size = ops.size → cnt ops.size listed' ≤ fuel' → (∀ k, listed'.getD k false = Nat.blt k items.length) → (∀ it ∈ items, lpOk it.mem) → Sat rd w0 τ (appD nx (fun _ => true) 0 items s) a' w' → wpAnyX P rd ops Q fuel' listed' a' w') → wpAnyX P rd ops Q fuel listed a w := by
  have hedge : ∀ j o, ops[j]? = some o → ∀ e ∈ o.after, Region.binds .any e = true → e.on < j := by
    intro j o ho e he hb
    simp only [planOk, Bool.and_eq_true] at hp
    have := edges_spec ops.toList 0 hp.1 j o (by simpa using ho) e he hb
    omega
  -- where nothing is ready, all are listed
  have hall : ∀ (listed : Array Bool), listed.size = ops.size → Region.ready .any ops listed = [] → ∀ k, k < ops.size → listed.getD k false = true := by
    intro listed hsz hr k
    induction k using Nat.strongRecOn with
    | _ k ih =>
      intro hk
      cases hl : listed.getD k false with
      | true => rfl
      | false =>
        have : k ∈ Region.ready .any ops listed := by
          rw [mem_ready]
          refine ⟨?_, ops[k], Array.getElem?_eq_getElem hk, fun e he hb => ?_⟩
          · simp only [Array.getD_eq_getD_getElem?] at hl ⊢
            rw [Array.getElem?_eq_getElem (by omega)] at hl ⊢
            simpa using hl
          · have hlt := hedge k _ (Array.getElem?_eq_getElem hk) e he hb
            exact ih e.on hlt (by omega)
        rw [hr] at this; simp at this
  -- where the plan's own are all listed
  have hfin : ∀ fuel (listed : Array Bool) σ a w, listed.size = ops.size → cnt ops.size listed ≤ fuel → (∀ k, items.length ≤ k → listed.getD k false = false) → (∀ k, k < items.length → listed.getD k false = true) → Sat rd w0 σ (appD nx (fun k => listed.getD k false) 0 items s) a w →
      (∀ k it, items[k]? = some it → listed.getD k false = true → lpOk it.mem) →
      (∀ fuel' (listed' : Array Bool) τ a' w', Ext σ τ → listed'.size = ops.size → cnt ops.size listed' ≤ fuel' → (∀ k, listed'.getD k false = Nat.blt k items.length) → (∀ it ∈ items, lpOk it.mem) → Sat rd w0 τ (appD nx (fun _ => true) 0 items s) a' w' → wpAnyX P rd ops Q fuel' listed' a' w') → wpAnyX P rd ops Q fuel listed a w := by
    intro fuel listed σ a w hsz hc htl hdone hS hlp hK
    refine hK fuel listed σ a w (Ext.refl _) hsz hc (fun k => ?_) (fun it hit => ?_) ?_
    rotate_left
    · obtain ⟨k, hk⟩ := List.getElem?_of_mem hit
      exact hlp k it hk (hdone k (List.getElem?_eq_some_iff.1 hk).1)
    rotate_left
    · rcases Nat.lt_or_ge k items.length with h | h
      · rw [hdone k h, blt_t.2 h]
      · rw [htl k h]
        cases hb : Nat.blt k items.length with
        | false => rfl
        | true => have := blt_t.1 hb; omega
    have hcong : ∀ (l : List It) (k : Nat) (s : St), k + l.length ≤ items.length → appD nx (fun k => listed.getD k false) k l s = appD nx (fun _ => true) k l s := by
      intro l
      induction l with
      | nil => intros; rfl
      | cons x l ih =>
        intro k s hk
        simp only [List.length_cons] at hk
        simp only [appD]
        rw [hdone k (by omega)]
        exact ih _ _ (by omega)
    rw [← hcong items 0 s (by omega)]
    exact hS
  intro fuel
  induction fuel with
  | zero =>
    intro listed σ a w hsz hc hcl htl hS hfree hlp hP hK
    refine hfin 0 listed σ a w hsz hc htl (fun k hk => ?_) hS hlp hK
    cases hl : listed.getD k false with
    | true => rfl
    | false =>
      have hpos : 0 < cnt ops.size listed := by
        unfold cnt
        rw [List.countP_pos_iff]
        refine ⟨k, List.mem_range.2 (by omega), ?_⟩
        simp only [Array.getD_eq_getD_getElem?] at hl ⊢
        rw [Array.getElem?_eq_getElem (by omega)] at hl ⊢
        simpa using hl
      omega
  | succ fuel ih =>
    intro listed σ a w hsz hc hcl htl hS hfree hlp hP hK
    by_cases hdone : ∀ k, k < items.length → listed.getD k false = true
    · exact hfin (fuel + 1) listed σ a w hsz hc htl hdone hS hlp hK
    refine ⟨fun hr => absurd (fun k hk => hall listed hsz hr k (by omega)) hdone, fun i hi => ?_⟩
    rw [mem_ready] at hi
    obtain ⟨h1, o, ho, hpre⟩ := hi
    have hilt : i < ops.size := (Array.getElem?_eq_some_iff.1 ho).1
    have h1' : listed.getD i false = false := by
      simp only [Array.getD_eq_getD_getElem?] at h1 ⊢
      rw [Array.getElem?_eq_getElem (by omega)] at h1 ⊢
      simpa using h1
    have hPre : Pre ops (fun k => listed.getD k false) i := by
      intro o' ho' e he hb
      rw [ho] at ho'; cases ho'
      exact hpre e he hb
    have him : i < items.length := by
      rcases Nat.lt_or_ge i items.length with x | x
      · exact x
      · exact absurd (fun k hk => hfull i x hilt _ hcl hPre k (by omega)) hdone
    obtain ⟨it, hit⟩ : ∃ it, items[i]? = some it := ⟨_, List.getElem?_eq_getElem him⟩
    have hI := plan_item hp hlen hcl hit h1' hPre (hv i it hit)
    have hset : ∀ k, (listed.setIfInBounds i true).getD k false = (listed.getD k false || Nat.beq k i) := by
      intro k
      by_cases hki : k = i
      · subst hki
        simp [Array.getD, hsz, hilt]
      · rw [beq_ne hki, Bool.or_false]
        exact getD_set_ne (i := i) (j := k) false (fun e => hki e.symm)
    refine item_step hpu hS (hfree i hilt h1') (by rw [appD_nx, hnx]; omega) hI (fun w' p ⟨id, lo, hi, hm⟩ hin hS' => hP _ σ a w' p (Ext.refl _) hS' hin ⟨i, it, id, lo, hi, hit, hm⟩) (fun τ a' w' hext hoth hlpi hS' => ?_)
    have hins := appD_insert (nx := nx) (D := fun k => listed.getD k false) (i := i) (it := it) (l := items) (s := s) h1' hit
      (fun m q d hmi hq hd hqd => by
        have mlt : m < items.length := (List.getElem?_eq_some_iff.1 hq).1
        obtain ⟨o', ho'⟩ : ∃ o', ops[m]? = some o' := ⟨_, Array.getElem?_eq_getElem (by omega)⟩
        rcases Nat.lt_or_gt_of_ne hmi with hlt | hgt
        · exact (plan_pairs hp hlen hlt hq hit ho' ho).1 d hqd hd
        · exact (plan_pairs hp hlen hgt hit hq ho ho').1 d hd hqd)
      (fun m q hq hlt hDm => by
        have mlt : m < items.length := (List.getElem?_eq_some_iff.1 hq).1
        obtain ⟨o', ho'⟩ : ∃ o', ops[m]? = some o' := ⟨_, Array.getElem?_eq_getElem (by omega)⟩
        rcases (plan_pairs hp hlen hlt hit hq ho ho').2 with h | h
        · have := h _ hcl (hcl m hDm); rw [h1'] at this; simp at this
        · exact h.m)
    rw [← hins] at hS'
    have hfun : (fun k => (listed.setIfInBounds i true).getD k false) = fun j => listed.getD j false || Nat.beq j i := funext hset
    refine ih (listed.setIfInBounds i true) τ a' w' (by simp [hsz]) ?_ ?_ (fun k hk => by rw [hset, htl k hk, beq_ne (show k ≠ i by omega)]; rfl) (by rw [hfun]; exact hS') ?_ (fun k q hq hkl => ?_) (fun D τ' a2 w2 p e2 => hP D τ' a2 w2 p (hext.trans e2)) (fun f' l' τ' a2 w2 e2 => hK f' l' τ' a2 w2 (hext.trans e2))
    · have hcd := countP_drop (p := fun k => !(listed.getD k true)) (q := fun k => !((listed.setIfInBounds i true).getD k true)) (i := i) (by simp [h1]) (by simp [Array.getD, hsz, hilt])
        (fun j hj => by rw [getD_set_ne (i := i) (j := j) true (fun e => hj e.symm)]) (List.range ops.size) List.nodup_range (List.mem_range.2 hilt)
      unfold cnt at hc ⊢
      omega
    · intro j hj o' ho' e he hb
      have hj' : (listed.setIfInBounds i true).getD j false = true := hj
      show (listed.setIfInBounds i true).getD e.on false = true
      rw [hset] at hj'
      rw [hset]
      rcases Bool.or_eq_true_iff.1 hj' with h | h
      · have h9 : listed.getD e.on false = true := hcl j h o' ho' e he hb
        rw [h9]; rfl
      · have := Nat.eq_of_beq_eq_true h
        subst this
        have h9 : listed.getD e.on false = true := hPre o' ho' e he hb
        rw [h9]; rfl
    · intro k hk hl
      rw [hset] at hl
      have h2 : listed.getD k false = false ∧ Nat.beq k i = false := by simpa using hl
      have hki : k ≠ i := fun e => by subst e; simp at h2
      have hf := hfree k hk h2.1
      exact ⟨(hoth (nx + k) (by omega)).1.trans hf.at_, (hoth (nx + k) (by omega)).2.trans hf.sv, by rw [hext.5.2.2.1]; exact hf.dd, by rw [hext.5.2.2.2]; exact hf.ds⟩
    · rw [hset] at hkl
      rcases Bool.or_eq_true_iff.1 hkl with h | h
      · exact hlp k q hq h
      · have := Nat.eq_of_beq_eq_true h
        subst this
        rw [hit] at hq; cases hq
        exact hlpi

/-- a list's items all carried out, in the text's order -/
def appAll (nx : Nat) : Nat → List It → St → St
  | _, [], s => s
  | k, it :: l, s => appAll nx (k + 1) l (it.app (nx + k) s)
theorem appAll_D : ∀ (l : List It) (k : Nat) (s : St), appD nx (fun _ => true) k l s = appAll nx k l s
  | [], _, _ => rfl
  | it :: l, k, s => by simp only [appD, appAll, cond_true]; exact appAll_D l _ _
theorem appAll_snoc : ∀ (l : List It) (k : Nat) (s : St) (it : It), appAll nx k (l ++ [it]) s = it.app (nx + (k + l.length)) (appAll nx k l s)
  | [], k, s, it => rfl
  | x :: l, k, s, it => by
    simp only [List.cons_append, appAll, List.length_cons]
    rw [appAll_snoc l (k + 1)]
    congr 1; omega
theorem appD_take {i : Nat} : ∀ (l : List It) (k : Nat) (s : St), k ≤ i → appD nx (fun j => Nat.blt j i) k l s = appAll nx k (l.take (i - k)) s
  | [], _, _, _ => by simp [appD, appAll]
  | it :: l, k, s, hk => by
    simp only [appD]
    by_cases hki : k = i
    · subst hki
      have hb : ∀ (l : List It) (m : Nat) (s : St), k ≤ m → appD nx (fun j => Nat.blt j k) m l s = s := by
        intro l
        induction l with
        | nil => intros; rfl
        | cons x l ih =>
          intro m s hm
          have hf : Nat.blt m k = false := by
            cases h : Nat.blt m k with
            | false => rfl
            | true => have := blt_t.1 h; omega
          simp only [appD, hf, cond_false]
          exact ih _ _ (by omega)
      have hf : Nat.blt k k = false := by
        cases h : Nat.blt k k with
        | false => rfl
        | true => have := blt_t.1 h; omega
      rw [hf]
      simp only [cond_false, Nat.sub_self, List.take_zero, appAll]
      exact hb l (k + 1) s (by omega)
    · rw [blt_t.2 (show k < i by omega)]
      have : i - k = (i - (k + 1)) + 1 := by omega
      rw [this, List.take_succ_cons]
      simp only [cond_true, appAll]
      exact appD_take l (k + 1) _ (by omega)

variable {α : Type} {R : α → Prop}

theorem plEff_sat {id0 : Nat} {dst : Option Nat} {s : St} {stop : Tree α} {k : It → Tree α} : ∀ (e : Eff), (plEff pu id0 dst s stop k e).sat R → stop.sat R ∨ ∃ it, it.dst = dst ∧ EffIt pu id0 s it e ∧ (k it).sat R
  | .val x, h => .inr ⟨⟨dst, x, .no⟩, rfl, ⟨rfl, rfl⟩, h⟩
  | .load id row st col n agg, h => by
    simp only [plEff] at h
    split at h <;> try first | exact .inl h | (simp [Tree.sat] at h; done)
    · rename_i b hb
      right
      cases hl : (Nat.ble 1 n && Nat.ble (row * st + col + n) (lenA b.cs)) with
      | false => simp [hl, Tree.sat] at h
      | true =>
        simp only [hl, cond_true, takeA_eq, dropA_eq, nth_eq] at h
        simp only [Bool.and_eq_true, Nat.ble_eq, lenA_eq] at hl
        cases agg with
        | true =>
          simp only [cond_true] at h
          exact ⟨_, rfl, .inl ⟨b, hb, hl.1, hl.2, rfl, by simp⟩, h⟩
        | false =>
          simp only [cond_false] at h
          have hlt : row * st + col < b.cs.length := by omega
          rw [List.getElem?_eq_getElem hlt] at h
          exact ⟨_, rfl, .inl ⟨b, hb, hl.1, hl.2, rfl, by simp only [Bool.false_eq_true, if_false]; exact List.getElem?_eq_getElem hlt⟩, h⟩
    · rename_i A hA
      right
      cases hl : (Nat.beq A.c.size st && Nat.ble (col + n) st) with
      | false => simp [hl, Tree.sat] at h
      | true =>
        simp only [hl, cond_true] at h
        simp only [Bool.and_eq_true, Nat.beq_eq, Nat.ble_eq] at hl
        cases hr : decide (row < A.xs.length) with
        | false => simp [hr, Tree.sat] at h
        | true =>
          have hr' := of_decide_eq_true hr
          simp only [hr, cond_true, takeA_eq, dropA_eq, nth_eq] at h
          cases agg with
          | true =>
            simp only [cond_true] at h
            exact ⟨_, rfl, .inr ⟨A, hA, hl.1, hl.2, hr', rfl, by simp⟩, h⟩
          | false =>
            simp only [cond_false] at h
            cases hx : (enc A.c (getA A.xs row (dflt A.c)))[col]? with
            | none => simp [hx, Tree.sat] at h
            | some x =>
              simp only [hx] at h
              exact ⟨_, rfl, .inr ⟨A, hA, hl.1, hl.2, hr', rfl, by simp only [Bool.false_eq_true, if_false]; exact hx⟩, h⟩
  | .store id row st col vs, h => by
    simp only [plEff] at h
    split at h
    · rename_i b hb
      right
      cases hl : (Nat.ble 1 (lenA vs) && Nat.ble (row * st + col + lenA vs) (lenA b.cs)) with
      | false => simp [hl, Tree.sat] at h
      | true =>
        simp only [hl, cond_true] at h
        simp only [Bool.and_eq_true, Nat.ble_eq, lenA_eq] at hl
        exact ⟨_, rfl, .inl ⟨b, hb, hl.1, hl.2, rfl, rfl⟩, h⟩
    · rename_i A hA
      right
      cases hl : (Nat.beq A.c.size st && Nat.ble (col + lenA vs) st) with
      | false => simp [hl, Tree.sat] at h
      | true =>
        simp only [hl, cond_true] at h
        simp only [Bool.and_eq_true, Nat.beq_eq, Nat.ble_eq, lenA_eq] at hl
        cases hr : decide (row < A.xs.length) with
        | false => simp [hr, Tree.sat] at h
        | true =>
          have hr' := of_decide_eq_true hr
          simp only [hr, cond_true] at h
          split at h
          case h_2 => simp [Tree.sat] at h
          rename_i x hx
          exact ⟨_, rfl, .inr ⟨A, x, hA, hl.1, hl.2, hr', hx, rfl, rfl⟩, h⟩
    · exact .inl h
  | .alloc b mk, h => .inr ⟨⟨dst, mk id0, .al b⟩, rfl, ⟨rfl, rfl⟩, h⟩
  | .idx id st n, h => by
    simp only [plEff] at h
    split at h <;> try first | exact .inl h | (simp [Tree.sat] at h; done)
    rename_i A hA
    right
    cases hl : Nat.beq A.c.size st with
    | false => simp [hl, Tree.sat] at h
    | true =>
      simp only [hl, cond_true] at h
      cases hr : decide (0 ≤ n ∧ n < A.xs.length) with
      | false => simp [hr, Tree.sat] at h
      | true =>
        have hr' := of_decide_eq_true hr
        simp only [hr, cond_true] at h
        exact ⟨_, rfl, ⟨A, hA, by simpa using hl, hr'.1, hr'.2, rfl, rfl⟩, h⟩
  | .win id st l h', h => by
    simp only [plEff] at h
    split at h <;> try first | exact .inl h | (simp [Tree.sat] at h; done)
    rename_i A hA
    right
    cases hl : Nat.beq A.c.size st with
    | false => simp [hl, Tree.sat] at h
    | true =>
      simp only [hl, cond_true] at h
      cases hr : decide (0 ≤ l ∧ l ≤ h'.getD A.xs.length ∧ h'.getD A.xs.length ≤ A.xs.length) with
      | false => rw [hr, cond_false] at h; simp [Tree.sat] at h
      | true =>
        rw [hr, cond_true] at h
        exact ⟨_, rfl, ⟨A, hA, of_decide_eq_true hr, rfl, rfl⟩, h⟩
  | .copy .., h => .inl h
  | .len id, h => by
    simp only [plEff] at h
    split at h <;> try first | exact .inl h | (simp [Tree.sat] at h; done)
    rename_i A hA
    right
    exact ⟨_, rfl, ⟨A, hA, rfl, rfl⟩, h⟩
  | .call f args, h => by
    simp only [plEff] at h
    cases hg : assoc pu f with
    | none => simp only [hg, Option.bind_none] at h; exact .inl h
    | some g =>
      simp only [hg, Option.bind_some] at h
      cases hfl : (g.flat || noVw g) with
      | false => simp only [hfl, cond_false] at h; exact .inl h
      | true =>
        simp only [hfl, cond_true] at h
        cases hv : view1 s.hp g.vw args with
        | none => simp only [hv, Option.bind_none] at h; exact .inl h
        | some v =>
          obtain ⟨ys, m⟩ := v
          simp only [hv, Option.bind_some] at h
          cases hx : g.run ys with
          | none => simp only [hx, Option.map_none] at h; exact .inl h
          | some y =>
            obtain ⟨c, x⟩ := y
            simp only [hx, Option.map_some] at h
            cases hpv : g.pv with
            | some p =>
              simp only [hpv] at h
              exact .inr ⟨⟨dst, x, lookPan m c p⟩, rfl, ⟨g, x, ys, m, c, hg, hfl, hv, hx, rfl, .inr ⟨p, hpv, rfl⟩⟩, h⟩
            | none =>
              simp only [hpv] at h
              cases c with
              | false => simp [Tree.sat] at h
              | true => exact .inr ⟨⟨dst, x, lookMem m⟩, rfl, ⟨g, x, ys, m, true, hg, hfl, hv, hx, rfl, .inl ⟨hpv, rfl, rfl⟩⟩, by simpa using h⟩
  | .mapGet id kc vc z k' ok, h => by
    right
    simp only [plEff] at h
    split at h <;> try (simp [Tree.sat] at h; done)
    rename_i M ho
    split at h <;> try (simp [Tree.sat] at h; done)
    rename_i j z' h1 h2
    exact ⟨_, rfl, ⟨M, j, z', ho, h1, h2, rfl, rfl⟩, h⟩
  | .mapSet id kc vc k' x, h => by
    right
    simp only [plEff] at h
    split at h <;> try (simp [Tree.sat] at h; done)
    rename_i M ho
    split at h <;> try (simp [Tree.sat] at h; done)
    rename_i j z' h1 h2
    exact ⟨_, rfl, ⟨M, j, z', ho, h1, h2, rfl, rfl⟩, h⟩
  | .test c e, h => by
    simp only [plEff] at h
    cases c with
    | false => simp [Tree.sat] at h
    | true =>
      rcases plEff_sat e (by simpa using h) with h | ⟨it, h1, h2, h3⟩
      · exact .inl h
      · exact .inr ⟨it, h1, ⟨rfl, h2⟩, h3⟩
  | .alt c x y, h => by
    simp only [plEff] at h
    cases c with
    | false =>
      rcases plEff_sat y (by simpa using h) with h | ⟨it, h1, h2, h3⟩
      · exact .inl h
      · exact .inr ⟨it, h1, .inr ⟨rfl, h2⟩, h3⟩
    | true =>
      rcases plEff_sat x (by simpa using h) with h | ⟨it, h1, h2, h3⟩
      · exact .inl h
      · exact .inr ⟨it, h1, .inl ⟨rfl, h2⟩, h3⟩
  | .bad, h => by simp [plEff, Tree.sat] at h
  | .list ty c xs, h => .inr ⟨⟨dst, .own id0, .aa ⟨ty, c, xs⟩⟩, rfl, ⟨rfl, rfl⟩, h⟩
  | .app .., h => .inl h
  | .round .., h => .inl h
  | .dfr _, h => .inl h
  | .panic _, h => .inl h
  | .mapNew .., h => .inl h
  | .mapDel .., h => .inl h
  | .mapClr .., h => .inl h
  | .mapEnt .., h => .inl h
  | .entSet .., h => .inl h
  | .iter _, h => .inl h
  | .nxt _, h => .inl h
  | .trunc .., h => .inl h
  | .listz .., h => .inl h

theorem put_same {s : St} {d : Nat} {x : AV} (h : s.tm d = x) : s.put (some d) x = s := by
  unfold St.put
  simp only
  have : upd s.tm d x = s.tm := by
    funext j
    by_cases hj : j = d
    · subst hj; rw [upd_same, h]
    · rw [upd_other _ _ hj]
  rw [this]

theorem evPlan_sat {s0 : St} {K : List It → St → Tree α} : ∀ (rest : List Nat) (acc : List It) (s : St), s = appAll nx 0 acc s0 → (∀ k, rest[k]? = if k < rest.length then some (acc.length + k) else none) →
    (∀ i it, acc[i]? = some it → ItemOk pu (nx + i) P ops i it (appAll nx 0 (acc.take i) s0)) → (evPlan P pu nx ops K rest acc s).sat R →
    ∃ items, items.length ≤ acc.length + rest.length ∧ (∀ i it, items[i]? = some it → ItemOk pu (nx + i) P ops i it (appAll nx 0 (items.take i) s0)) ∧ (K items (appAll nx 0 items s0)).sat R
  | [], acc, s, hs, _, hv, h => ⟨acc, Nat.le_refl _, hv, by rw [← hs]; exact h⟩
  | i :: rest, acc, s, hs, hr, hv, h => by
    have hi : i = acc.length := by have := hr 0; simpa using this
    have hr' : ∀ it : It, ∀ k, rest[k]? = if k < rest.length then some ((acc ++ [it]).length + k) else none := by
      intro it k
      have := hr (k + 1)
      simp only [List.getElem?_cons_succ, List.length_cons, Nat.add_lt_add_iff_right] at this
      rw [this]
      split
      · congr 1; simp; omega
      · rfl
    have go : ∀ (it : It), ItemOk pu (nx + i) P ops i it s → (evPlan P pu nx ops K rest (acc ++ [it]) (it.app (nx + i) s)).sat R →
        ∃ items, items.length ≤ acc.length + (i :: rest).length ∧ (∀ i it, items[i]? = some it → ItemOk pu (nx + i) P ops i it (appAll nx 0 (items.take i) s0)) ∧ (K items (appAll nx 0 items s0)).sat R := by
      intro it hit hh
      have hv' : ∀ j q, (acc ++ [it])[j]? = some q → ItemOk pu (nx + j) P ops j q (appAll nx 0 ((acc ++ [it]).take j) s0) := by
        intro j q hj
        rw [List.getElem?_append] at hj
        split at hj
        · rename_i hlt
          rw [List.take_append_of_le_length (by omega)]
          exact hv j q hj
        · rename_i hge
          have hj' : j = acc.length := by
            by_cases h0 : j - acc.length = 0
            · omega
            · have : j - acc.length = (j - acc.length - 1) + 1 := by omega
              rw [this] at hj; simp at hj
          subst hj'
          simp at hj; subst hj
          rw [List.take_left' rfl, ← hs, ← hi]
          exact hit
      obtain ⟨items, h1, h2, h3⟩ := evPlan_sat (s0 := s0) rest (acc ++ [it]) (it.app (nx + i) s) (by rw [appAll_snoc, Nat.zero_add, ← hi, ← hs]) (hr' it) hv' hh
      exact ⟨items, by simp at h1 ⊢; omega, h2, h3⟩
    simp only [evPlan] at h
    cases ho : ops[i]? with
    | none => simp [ho, Tree.sat] at h
    | some o =>
      simp only [ho] at h
      cases hd : Nat.ble s.n (o.dst.getD 0) with
      | true => simp [hd, Tree.sat] at h
      | false =>
        simp only [hd, cond_false] at h
        have hd' : o.dst.getD 0 < s.n := by
          rcases Nat.lt_or_ge (o.dst.getD 0) s.n with x | x
          · exact x
          · have : Nat.ble s.n (o.dst.getD 0) = true := by simpa using x
            rw [this] at hd; simp at hd
        have run : ∀ (_ : Runs ops o s), (plEff pu (nx + i) o.dst s (K acc s) (fun it => evPlan P pu nx ops K rest (acc ++ [it]) (it.app (nx + i) s)) (eff P o.op s.eval)).sat R →
            ∃ items, items.length ≤ acc.length + (i :: rest).length ∧ (∀ i it, items[i]? = some it → ItemOk pu (nx + i) P ops i it (appAll nx 0 (items.take i) s0)) ∧ (K items (appAll nx 0 items s0)).sat R := by
          intro hrun hh
          rcases plEff_sat _ hh with hh | ⟨it, h1, h2, h3⟩
          · exact ⟨acc, by omega, hv, by rw [← hs]; exact hh⟩
          exact go it ⟨o, ho, h1, hd', .inl ⟨hrun, h2⟩⟩ h3
        have skip : ∀ (_ : Skips ops o s), (evPlan P pu nx ops K rest (acc ++ [⟨o.dst, .val undef, .no⟩]) (s.put o.dst (.val undef))).sat R →
            ∃ items, items.length ≤ acc.length + (i :: rest).length ∧ (∀ i it, items[i]? = some it → ItemOk pu (nx + i) P ops i it (appAll nx 0 (items.take i) s0)) ∧ (K items (appAll nx 0 items s0)).sat R := by
          intro hsk hh
          exact go ⟨o.dst, .val undef, .no⟩ ⟨o, ho, rfl, hd', .inr ⟨hsk, rfl, rfl⟩⟩ hh
        cases hg : o.guard with
        | none =>
          simp only [hg] at h
          exact run (by simp [Runs, hg]) h
        | some g =>
          obtain ⟨j, want⟩ := g
          simp only [hg] at h
          cases hdst : (ops[j]?).bind (·.dst) with
          | none => simp [hdst, Tree.sat] at h
          | some d =>
            simp only [hdst] at h
            cases hn : Nat.ble s.n d with
            | true => simp [hn, Tree.sat] at h
            | false =>
              simp only [hn, cond_false] at h
              have hlt : d < s.n := by
                rcases Nat.lt_or_ge d s.n with x | x
                · exact x
                · have : Nat.ble s.n d = true := by simpa using x
                  rw [this] at hn; simp at hn
              cases hx : s.tm d with
              | bool b =>
                rw [hx] at h
                simp only at h
                have hrn : b = want → Runs ops o s := fun e => by
                  unfold Runs; rw [hg]; exact ⟨d, hdst, hlt, by rw [hx, e]⟩
                have hsk : b = (!want) → Skips ops o s := fun e => ⟨j, want, d, hg, hdst, hlt, .inl (by rw [hx, e])⟩
                cases b <;> cases want <;> simp only [cond_true, cond_false] at h <;> rw [put_same hx] at h
                · exact run (hrn rfl) h
                · exact skip (hsk rfl) h
                · exact skip (hsk rfl) h
                · exact run (hrn rfl) h
              | val v =>
                rw [hx] at h
                cases v with
                | tuple vs => exact skip ⟨j, want, d, hg, hdst, hlt, .inr ⟨vs, hx⟩⟩ h
                | _ => simp [Tree.sat] at h
              | _ => rw [hx] at h; simp [Tree.sat] at h

theorem tail_any {cT : CallT α} (hc : CTok P cT R) {rd : Bool} {w0 : World} {m : Nat} (hfull : Full ops m) (hedge : ∀ j o, ops[j]? = some o → ∀ e ∈ o.after, Region.binds .any e = true → e.on < j) {K : XE → St → Tree α} {Q : Exit → Go.Act → World → Prop} :
    ∀ (n i : Nat), i + n = ops.size → m ≤ i → ∀ (fuel : Nat) (listed : Array Bool) (σ : Env) (s : St) (a : Go.Act) (w : World), listed.size = ops.size → cnt ops.size listed ≤ fuel → (∀ k, listed.getD k false = Nat.blt k i) →
      Sat rd w0 σ s a w → (evOps P cT ops ((List.range ops.size).drop i) s K).sat R → (∀ τ s' a' w' e ex, Ext σ τ → Sat rd w0 τ s' a' w' → ExR τ e ex → (K e s').sat R → Q ex a' w') → wpAnyX P rd ops Q fuel listed a w := by
  have hun : ∀ (listed : Array Bool) (k : Nat), k < listed.size → listed.getD k true = listed.getD k false := by
    intro listed k hk
    simp only [Array.getD_eq_getD_getElem?]
    rw [Array.getElem?_eq_getElem hk]; rfl
  intro n
  induction n with
  | zero =>
    intro i hi hm fuel listed σ s a w hsz hcn hl hS h hK
    have hr : Region.ready .any ops listed = [] := by
      cases hrd : Region.ready .any ops listed with
      | nil => rfl
      | cons j rest =>
        have hj : j ∈ Region.ready .any ops listed := by rw [hrd]; simp
        rw [mem_ready] at hj
        obtain ⟨h1, o, ho, _⟩ := hj
        have hjl : j < ops.size := (Array.getElem?_eq_some_iff.1 ho).1
        rw [hun listed j (by omega), hl j, blt_t.2 (by omega)] at h1
        simp at h1
    have hq : Q .normal a w := by
      refine hK σ s a w .normal .normal (Ext.refl _) hS trivial ?_
      rw [List.drop_eq_nil_of_le (by simp; omega)] at h
      exact h
    cases fuel with
    | zero => exact ⟨hr, hq⟩
    | succ fuel => exact ⟨fun _ => hq, fun j hj => by rw [hr] at hj; simp at hj⟩
  | succ n ih =>
    intro i hi hm fuel listed σ s a w hsz hcn hl hS h hK
    have hil : i < ops.size := by omega
    have hui : listed.getD i true = false := by
      rw [hun listed i (by omega), hl i]
      cases hb : Nat.blt i i with
      | false => rfl
      | true => have := blt_t.1 hb; omega
    have hpos : 0 < cnt ops.size listed := by
      unfold cnt
      rw [List.countP_pos_iff]
      exact ⟨i, List.mem_range.2 hil, by simp [hui]⟩
    cases fuel with
    | zero => omega
    | succ fuel =>
      have hcl : Closed ops (fun k => listed.getD k false) := by
        intro j hj o ho e he hb
        have hj' : listed.getD j false = true := hj
        show listed.getD e.on false = true
        rw [hl] at hj' ⊢
        have h1 := blt_t.1 hj'
        have h2 := hedge j o ho e he hb
        exact blt_t.2 (by omega)
      have hmem : i ∈ Region.ready .any ops listed := by
        rw [mem_ready]
        refine ⟨hui, ops[i], Array.getElem?_eq_getElem hil, fun e he hb => ?_⟩
        rw [hl]
        exact blt_t.2 (hedge i _ (Array.getElem?_eq_getElem hil) e he hb)
      refine ⟨fun hr => by rw [hr] at hmem; simp at hmem, fun j hj => ?_⟩
      rw [mem_ready] at hj
      obtain ⟨h1, o, ho, hpre⟩ := hj
      have hjl : j < ops.size := (Array.getElem?_eq_some_iff.1 ho).1
      have hji : j = i := by
        rcases Nat.lt_trichotomy j i with x | x | x
        · rw [hun listed j (by omega), hl j, blt_t.2 x] at h1; simp at h1
        · exact x
        · have := hfull j (by omega) hjl _ hcl (by intro o' ho' e he hb; rw [ho] at ho'; cases ho'; exact hpre e he hb) i x
          have h2 : listed.getD i false = true := this
          rw [← hun listed i (by omega), hui] at h2; simp at h2
      subst hji
      have hdrop : (List.range ops.size).drop j = j :: (List.range ops.size).drop (j + 1) := by
        rw [List.drop_eq_getElem_cons (by simpa using hjl)]
        simp
      rw [hdrop] at h
      refine evOps_step hc hS h (fun τ s' x ch a' w' e hS' hx hk => hK τ s' a' w' _ _ e hS' hx hk) fun τ s' a' w' e hS' h' => ?_
      refine ih (j + 1) (by omega) (by omega) fuel (listed.setIfInBounds j true) τ s' a' w' (by simp [hsz]) ?_ ?_ hS' h' (fun τ' s2 a2 w2 x2 ex2 e2 => hK τ' s2 a2 w2 x2 ex2 (e.trans e2))
      · have hcd := countP_drop (p := fun k => !(listed.getD k true)) (q := fun k => !((listed.setIfInBounds j true).getD k true)) (i := j) (by simp [hui]) (by simp [Array.getD, hsz, hjl])
          (fun k hk => by rw [getD_set_ne (i := j) (j := k) true (fun e => hk e.symm)]) (List.range ops.size) List.nodup_range (List.mem_range.2 hjl)
        unfold cnt at hcn ⊢
        omega
      · intro k
        by_cases hk : k = j
        · subst hk
          rw [blt_t.2 (show k < k + 1 by omega)]
          simp [Array.getD, hsz, hjl]
        · rw [getD_set_ne (i := j) (j := k) false (fun e => hk e.symm), hl k]
          rw [Bool.eq_iff_iff, blt_t, blt_t]; omega

/-- what the panics of a region's calls come to -/
theorem pans_spec : ∀ {items : List It} {o : Option (Bool × TypeId × IntKind × Int)}, pans items = some o →
    (∀ it ∈ items, ∀ id lo hi c' p', it.mem = .lp id lo hi c' p' → ∃ c, o = some (c, p') ∧ (c = true → c' = true)) ∧ ∀ c p, o = some (c, p) → (∀ it ∈ items, ∀ id lo hi c' p', it.mem = .lp id lo hi c' p' → c' = true) → c = true
  | [], o, h => by
    simp only [pans, Option.some.injEq] at h
    subst h
    exact ⟨by simp, fun c p h => by cases h⟩
  | it :: l, o, h => by
    have other : (∀ id lo hi c p, it.mem ≠ .lp id lo hi c p) → pans l = some o → (∀ it' ∈ it :: l, ∀ id lo hi c' p', it'.mem = .lp id lo hi c' p' → ∃ c, o = some (c, p') ∧ (c = true → c' = true)) ∧ ∀ c p, o = some (c, p) → (∀ it' ∈ it :: l, ∀ id lo hi c' p', it'.mem = .lp id lo hi c' p' → c' = true) → c = true := by
      intro hne hl
      obtain ⟨k1, k2⟩ := pans_spec hl
      refine ⟨fun it' hit' => ?_, fun c p ho hall => k2 c p ho fun it' hit' => hall it' (List.mem_cons_of_mem _ hit')⟩
      rcases List.mem_cons.1 hit' with rfl | hit'
      · intro id lo hi c' p' hm; exact absurd hm (hne id lo hi c' p')
      · exact k1 it' hit'
    simp only [pans] at h
    split at h
    · rename_i id lo hi c p hm
      split at h
      · rename_i hl
        obtain ⟨k1, k2⟩ := pans_spec hl
        simp only [Option.some.injEq] at h
        subst h
        refine ⟨fun it' hit' id' lo' hi' c' p' hm' => ?_, fun c1 p1 ho hall => ?_⟩
        · rcases List.mem_cons.1 hit' with rfl | hit'
          · rw [hm] at hm'
            cases hm'
            exact ⟨_, rfl, fun h => h⟩
          · obtain ⟨c2, e, _⟩ := k1 it' hit' id' lo' hi' c' p' hm'
            cases e
        · cases ho
          exact hall it (by simp) id lo hi c p hm
      · rename_i c2 p2 hl
        obtain ⟨k1, k2⟩ := pans_spec hl
        cases hd : decide (p = p2) with
        | false => rw [hd] at h; cases h
        | true =>
          have hpp := of_decide_eq_true hd
          subst hpp
          rw [hd, cond_true, Option.some.injEq] at h
          subst h
          refine ⟨fun it' hit' id' lo' hi' c' p' hm' => ?_, fun c1 p1 ho hall => ?_⟩
          · rcases List.mem_cons.1 hit' with rfl | hit'
            · rw [hm] at hm'
              cases hm'
              exact ⟨_, rfl, fun h => (Bool.and_eq_true_iff.1 h).1⟩
            · obtain ⟨c3, e, k3⟩ := k1 it' hit' id' lo' hi' c' p' hm'
              cases e
              exact ⟨_, rfl, fun h => k3 (Bool.and_eq_true_iff.1 h).2⟩
          · cases ho
            rw [hall it (by simp) id lo hi c p hm, k2 c2 p rfl fun it' hit' => hall it' (List.mem_cons_of_mem _ hit')]
            rfl
      · cases h
    · rename_i hne
      exact other (fun id lo hi c p hm => hne id lo hi c p hm) h
theorem wipeTm_get {t : Nat} : ∀ (items : List It) (tm : Nat → AV), (wipeTm items tm t = .top) ∨ (wipeTm items tm t = tm t ∧ ∀ it ∈ items, it.dst ≠ some t)
  | [], tm => .inr ⟨rfl, by simp⟩
  | it :: l, tm => by
    simp only [wipeTm]
    cases hd : it.dst with
    | none =>
      rcases wipeTm_get (t := t) l tm with h | ⟨h1, h2⟩
      · exact .inl h
      · refine .inr ⟨h1, fun it' hit' => ?_⟩
        rcases List.mem_cons.1 hit' with rfl | hit'
        · rw [hd]; simp
        · exact h2 it' hit'
    | some d =>
      rcases wipeTm_get (t := t) l (upd tm d .top) with h | ⟨h1, h2⟩
      · exact .inl h
      · by_cases htd : t = d
        · subst htd
          rw [upd_same] at h1
          exact .inl h1
        · rw [upd_other _ _ htd] at h1
          refine .inr ⟨h1, fun it' hit' => ?_⟩
          rcases List.mem_cons.1 hit' with rfl | hit'
          · rw [hd]; intro e; cases e; exact htd rfl
          · exact h2 it' hit'
theorem wipeHp_get {j : Nat} {o : Ob} : ∀ (items : List It) (hp : Heap), wipeHp items hp j = some o → hp j = some o ∧ ∀ it ∈ items, (∀ lo vs, it.mem ≠ .st j lo vs) ∧ (∀ A, it.mem ≠ .sa j A) ∧ ∀ M, it.mem ≠ .sm j M
  | [], hp, h => ⟨h, by simp⟩
  | it :: l, hp, h => by
    simp only [wipeHp] at h
    obtain ⟨h1, h2⟩ := wipeHp_get l _ h
    have key : ∀ id, (upd hp id none) j = some o → j ≠ id ∧ hp j = some o := by
      intro id hk
      by_cases hj : j = id
      · subst hj; rw [upd_same] at hk; cases hk
      · rw [upd_other _ _ hj] at hk; exact ⟨hj, hk⟩
    cases hm : it.mem with
    | st id lo vs =>
      rw [hm] at h1
      obtain ⟨k1, k2⟩ := key id h1
      refine ⟨k2, fun it' hit' => ?_⟩
      rcases List.mem_cons.1 hit' with rfl | hit'
      · rw [hm]; exact ⟨fun _ _ e => (by cases e; exact k1 rfl), fun _ e => (by cases e), fun _ e => (by cases e)⟩
      · exact h2 it' hit'
    | sa id A =>
      rw [hm] at h1
      obtain ⟨k1, k2⟩ := key id h1
      refine ⟨k2, fun it' hit' => ?_⟩
      rcases List.mem_cons.1 hit' with rfl | hit'
      · rw [hm]; exact ⟨fun _ _ e => (by cases e), fun _ e => (by cases e; exact k1 rfl), fun _ e => (by cases e)⟩
      · exact h2 it' hit'
    | sm id A =>
      rw [hm] at h1
      obtain ⟨k1, k2⟩ := key id h1
      refine ⟨k2, fun it' hit' => ?_⟩
      rcases List.mem_cons.1 hit' with rfl | hit'
      · rw [hm]; exact ⟨fun _ _ e => (by cases e), fun _ e => (by cases e), fun _ e => (by cases e; exact k1 rfl)⟩
      · exact h2 it' hit'
    | _ =>
      rw [hm] at h1
      refine ⟨h1, fun it' hit' => ?_⟩
      rcases List.mem_cons.1 hit' with rfl | hit'
      · rw [hm]; exact ⟨fun _ _ e => (by cases e), fun _ e => (by cases e), fun _ e => (by cases e)⟩
      · exact h2 it' hit'
theorem appD_untouched {D : Nat → Bool} {nx j : Nat} : ∀ (l : List It) (k : Nat) (s : St), (∀ i, j ≠ nx + i) → (∀ it ∈ l, (∀ lo vs, it.mem ≠ .st j lo vs) ∧ (∀ A, it.mem ≠ .sa j A) ∧ ∀ M, it.mem ≠ .sm j M) → (appD nx D k l s).hp j = s.hp j
  | [], _, _, _, _ => rfl
  | it :: l, k, s, hj, h => by
    simp only [appD]
    rw [appD_untouched l (k + 1) _ hj fun it' hit' => h it' (List.mem_cons_of_mem _ hit')]
    cases D k with
    | false => rfl
    | true =>
      simp only [cond_true, app_hp]
      obtain ⟨h1, h2, h3⟩ := h it (by simp)
      cases hm : it.mem with
      | st id lo vs => simp only [Mem.app]; exact upd_other _ _ fun e => h1 lo vs (by rw [hm, e])
      | sa id A => simp only [Mem.app]; exact upd_other _ _ fun e => h2 A (by rw [hm, e])
      | sm id A => simp only [Mem.app]; exact upd_other _ _ fun e => h3 A (by rw [hm, e])
      | al b => simp only [Mem.app]; exact upd_other _ _ (hj k)
      | aa b => simp only [Mem.app]; exact upd_other _ _ (hj k)
      | _ => rfl
theorem Sat.wiped {rd : Bool} {w0 : World} {τ : Env} {nx : Nat} {D : Nat → Bool} {items : List It} {s0 : St} {a : Go.Act} {w : World} (h : Sat rd w0 τ (appD nx D 0 items s0) a w) (hf : ∀ i, nx ≤ i → s0.hp i = none) {m : Nat} (_ : m = nx) : Sat rd w0 τ (wipe items s0) a w := by
  have hnone : ∀ (l : List It) (k : Nat) (s' : St), appD nx (fun _ => false) k l s' = s' := by
    intro l
    induction l with
    | nil => intros; rfl
    | cons x l ih => intro k s'; simp only [appD, cond_false]; exact ih _ _
  refine ⟨?_, fun t => ?_, ?_, ?_, h.bl, ?_⟩
  · have := h.h.less (hp' := wipeHp items s0.hp) fun j o hj => by
      obtain ⟨h1, h2⟩ := wipeHp_get items _ hj
      rw [appD_untouched items 0 s0 (fun i e => by rw [hf j (by omega)] at h1; cases h1) h2]
      exact h1
    rwa [appD_nx] at this
  · show Rep τ (wipeTm items s0.tm t) _
    rcases wipeTm_get (t := t) items s0.tm with k | ⟨k1, k2⟩
    · rw [k]; simp only [Rep]
    · rw [k1]
      have := h.tm t
      rw [appD_tm (E := fun _ => false) items 0 s0 s0 rfl (fun m it hm hd => absurd hd (k2 it (List.mem_of_getElem? hm))), hnone] at this
      exact this
  · have := h.n; rwa [appD_n] at this
  · have := h.df; rwa [appD_df] at this
  · have := h.rd; rwa [appD_rd] at this
/-! masks say which operations come before one -/
/-- one operation comes before another one, whatever the order -/
def Bef (ops : Array Oper) (i j : Nat) : Prop := ∀ D, Closed ops D → Pre ops D j → D i = true
theorem Bef.trans {ops : Array Oper} {i j k : Nat} (h1 : Bef ops i j) (h2 : Bef ops j k) : Bef ops i k := fun D hD hp => h1 D hD (hD j (h2 D hD hp))
/-- edges go back in the text -/
def Back (ops : Array Oper) : Prop := ∀ j o, ops[j]? = some o → ∀ e ∈ o.after, Region.binds .any e = true → e.on < j
theorem Bef.lt {ops : Array Oper} (hb : Back ops) {i j : Nat} (h : Bef ops i j) : i < j := by
  have h1 : Closed ops (fun k => Nat.blt k j) := by
    intro k hk o ho e he hbd
    have h2 : Nat.blt k j = true := hk
    have := hb k o ho e he hbd
    have h3 := blt_t.1 h2
    exact blt_t.2 (by omega)
  exact blt_t.1 (h _ h1 (fun o ho e he hbd => blt_t.2 (hb j o ho e he hbd)))
/-- a mask holds the edges of what it stands for, and those of what it holds -/
def MaskFull (ops : Array Oper) (j m : Nat) : Prop :=
  (∀ o, ops[j]? = some o → ∀ e ∈ o.after, Region.binds .any e = true → Nat.testBit m e.on = true) ∧
  ∀ k, Nat.testBit m k = true → ∀ o, ops[k]? = some o → ∀ e ∈ o.after, Region.binds .any e = true → Nat.testBit m e.on = true
theorem maskOf_has {acc : List Nat} : ∀ (l : List Edge) (e : Edge), e ∈ l → Region.binds .any e = true → Nat.testBit (maskOf acc l) e.on = true ∧ ∀ m, acc[e.on]? = some m → ∀ i, Nat.testBit m i = true → Nat.testBit (maskOf acc l) i = true
  | [], _, h, _ => by simp at h
  | e0 :: l, e, h, hb => by
    rcases List.mem_cons.1 h with rfl | h
    · simp only [maskOf, hb, cond_true, Nat.testBit_or, Bool.or_eq_true]
      refine ⟨.inl (.inl (by rw [Nat.testBit_two_pow]; simp)), fun m hm i hi => .inl (.inr ?_)⟩
      rw [nth_eq, hm]; exact hi
    · have ih := maskOf_has (acc := acc) l e h hb
      simp only [maskOf]
      cases Region.binds .any e0
      · simpa only [cond_false] using ih
      · simp only [cond_true, Nat.testBit_or, Bool.or_eq_true]
        exact ⟨.inr ih.1, fun m hm i hi => .inr (ih.2 m hm i hi)⟩
theorem maskOf_from {acc : List Nat} : ∀ (l : List Edge) (k : Nat), Nat.testBit (maskOf acc l) k = true → ∃ e ∈ l, Region.binds .any e = true ∧ (e.on = k ∨ ∃ m, acc[e.on]? = some m ∧ Nat.testBit m k = true)
  | [], k, h => by simp [maskOf] at h
  | e :: l, k, h => by
    simp only [maskOf] at h
    cases hb : Region.binds .any e with
    | false =>
      rw [hb, cond_false] at h
      obtain ⟨e', h1, h2⟩ := maskOf_from l k h
      exact ⟨e', by simp [h1], h2⟩
    | true =>
      simp only [hb, cond_true, Nat.testBit_or, Bool.or_eq_true] at h
      rcases h with (h | h) | h
      · rw [Nat.testBit_two_pow] at h
        exact ⟨e, by simp, hb, .inl (by simpa using h)⟩
      · rw [nth_eq] at h
        cases hm : acc[e.on]? with
        | none => simp [hm] at h
        | some m => rw [hm] at h; exact ⟨e, by simp, hb, .inr ⟨m, hm, h⟩⟩
      · obtain ⟨e', h1, h2⟩ := maskOf_from l k h
        exact ⟨e', by simp [h1], h2⟩
theorem masks_full (hb : Back ops) : ∀ (l : List Oper) (acc : List Nat), (∀ k, l[k]? = ops[acc.length + k]?) → (∀ j m, acc[j]? = some m → MaskFull ops j m) → ∀ j m, (masks l acc)[j]? = some m → MaskFull ops j m
  | [], acc, _, hacc => hacc
  | o :: l, acc, hl, hacc => by
    simp only [masks]
    have ho : ops[acc.length]? = some o := by have := hl 0; simpa using this.symm
    refine masks_full hb l (acc ++ [maskOf acc o.after.toList]) (fun k => by
      have := hl (k + 1)
      simp only [List.getElem?_cons_succ] at this
      rw [this]
      congr 1
      simp; omega) ?_
    intro j m hj
    rw [List.getElem?_append] at hj
    split at hj
    · exact hacc j m hj
    · rename_i hlt
      have hj' : j = acc.length := by
        by_cases h0 : j - acc.length = 0
        · omega
        · have : j - acc.length = (j - acc.length - 1) + 1 := by omega
          rw [this] at hj; simp at hj
      subst hj'
      simp at hj
      subst hj
      refine ⟨fun o' ho' e he hbd => ?_, fun k hk o' ho' e he hbd => ?_⟩
      · rw [ho] at ho'; cases ho'
        exact (maskOf_has _ e (Array.mem_toList_iff.2 he) hbd).1
      · obtain ⟨e1, h1, h2, h3⟩ := maskOf_from _ k hk
        have hhas := maskOf_has (acc := acc) _ e1 h1 h2
        have hlt1 : e1.on < acc.length := hb _ o ho e1 (Array.mem_toList_iff.1 h1) h2
        obtain ⟨m1, hm1⟩ : ∃ m, acc[e1.on]? = some m := ⟨_, List.getElem?_eq_getElem hlt1⟩
        have hf := hacc e1.on m1 hm1
        rcases h3 with rfl | ⟨m2, h4, h5⟩
        · exact hhas.2 m1 hm1 _ (hf.1 o' ho' e he hbd)
        · rw [hm1] at h4; cases h4
          exact hhas.2 m1 hm1 _ (hf.2 k h5 o' ho' e he hbd)
theorem mask_iff (hb : Back ops) {j : Nat} (hj : j < ops.size) (i : Nat) : Nat.testBit ((nth (masks ops.toList []) j).getD 0) i = true ↔ Bef ops i j := by
  have hs := masks_spec (ops := ops) ops.toList [] (fun k => by simp) (fun j m h => by simp at h)
  obtain ⟨m, hm⟩ : ∃ m, (masks ops.toList [])[j]? = some m := ⟨_, List.getElem?_eq_getElem (by rw [hs.1]; simpa using hj)⟩
  rw [nth_eq, hm]
  constructor
  · intro h D hD hp
    exact hs.2 j m hm D hD hp i h
  · intro h
    have hf := masks_full hb ops.toList [] (fun k => by simp) (fun j m h => by simp at h) j m hm
    exact h (fun k => Nat.testBit m k) (fun k hk o ho e he hbd => hf.2 k hk o ho e he hbd) (fun o ho e he hbd => hf.1 o ho e he hbd)

/-! items of a set -/
theorem appD_congr {D E : Nat → Bool} : ∀ {l l' : List It} (k : Nat) (s : St), l.length = l'.length → (∀ m, m < l.length → D (k + m) = E (k + m) ∧ (E (k + m) = true → l[m]? = l'[m]?)) → appD nx D k l s = appD nx E k l' s
  | [], [], _, _, _, _ => rfl
  | [], _ :: _, _, _, h, _ => by simp at h
  | _ :: _, [], _, _, h, _ => by simp at h
  | it :: l, it' :: l', k, s, hlen, h => by
    simp only [appD]
    have h0 := h 0 (by simp)
    simp only [Nat.add_zero, List.getElem?_cons_zero, Option.some.injEq] at h0
    have e : (bif D k then it.app (nx + k) s else s) = (bif E k then it'.app (nx + k) s else s) := by
      rw [h0.1]
      cases hE : E k with
      | true => rw [h0.2 hE]
      | false => rfl
    rw [e]
    exact appD_congr (k + 1) _ (by simpa using hlen) (fun m hm => by
      have := h (m + 1) (by simpa using hm)
      rwa [show k + (m + 1) = k + 1 + m by omega, List.getElem?_cons_succ, List.getElem?_cons_succ] at this)
theorem appD_none : ∀ (l : List It) (k : Nat) (s : St) (D : Nat → Bool), (∀ m, m < l.length → D (k + m) = false) → appD nx D k l s = s
  | [], _, _, _, _ => rfl
  | it :: l, k, s, D, h => by
    simp only [appD]
    rw [show D k = false from h 0 (by simp)]
    exact appD_none l (k + 1) s D fun m hm => by have := h (m + 1) (by simpa using hm); rwa [show k + (m + 1) = k + 1 + m by omega] at this
/-- every pair of items: no slot twice, and what no edge orders leaves each other alone -/
def Prs (nx : Nat) (ops : Array Oper) (items : List It) : Prop := ∀ i j r q o o', i < j → items[i]? = some r → items[j]? = some q → ops[i]? = some o → ops[j]? = some o' →
  (∀ d, r.dst = some d → q.dst ≠ some d) ∧ (Bef ops i j ∨ Apart nx i r (looks ops o) j q (looks ops o'))
theorem prs_of {items : List It} (hp : planOk nx ops items = true) (hlen : items.length ≤ ops.size) : Prs nx ops items := fun _ _ _ _ _ _ hij hr hq ho ho' => plan_pairs hp hlen hij hr hq ho ho'
theorem Prs.sym {items : List It} (h : Prs nx ops items) {i j : Nat} {r q : It} {o o' : Oper} (hij : i ≠ j) (hr : items[i]? = some r) (hq : items[j]? = some q) (ho : ops[i]? = some o) (ho' : ops[j]? = some o') :
    (∀ d, r.dst = some d → q.dst ≠ some d) ∧ (Bef ops i j ∨ Bef ops j i ∨ Apart nx i r (looks ops o) j q (looks ops o')) := by
  rcases Nat.lt_or_gt_of_ne hij with k | k
  · obtain ⟨h1, h2⟩ := h i j r q o o' k hr hq ho ho'
    refine ⟨h1, ?_⟩
    rcases h2 with h2 | h2
    · exact .inl h2
    · exact .inr (.inr h2)
  · obtain ⟨h1, h2⟩ := h j i q r o' o k hq hr ho' ho
    refine ⟨fun d hd hd' => h1 d hd' hd, ?_⟩
    rcases h2 with h2 | h2
    · exact .inr (.inl h2)
    · exact .inr (.inr ⟨h2.d2, h2.d1, memIndep_symm h2.m⟩)
/-- those of one set first -/
theorem appD_split {items : List It} (hp : Prs nx ops items) (hlen : items.length ≤ ops.size) {M X : Nat → Bool} (s : St) (hdis : ∀ k, X k = true → M k = false) (hno : ∀ x m, X x = true → M m = true → ¬ Bef ops x m) :
    appD nx (fun k => M k || X k) 0 items s = appD nx X 0 items (appD nx M 0 items s) := by
  have key : ∀ k, k ≤ items.length → appD nx (fun j => M j || (X j && Nat.blt j k)) 0 items s = appD nx (fun j => X j && Nat.blt j k) 0 items (appD nx M 0 items s) := by
    intro k
    induction k with
    | zero =>
      intro _
      have h0 : ∀ j, Nat.blt j 0 = false := fun j => by
        cases h : Nat.blt j 0 with
        | false => rfl
        | true => have := blt_t.1 h; omega
      rw [appD_none items 0 _ (fun j => X j && Nat.blt j 0) (fun m _ => by simp [h0])]
      refine congrArg (fun D => appD nx D 0 items s) (funext fun j => ?_)
      rw [h0, Bool.and_false, Bool.or_false]
    | succ k ih =>
      intro hk
      have ih := ih (by omega)
      have hbs : ∀ j, Nat.blt j (k + 1) = (Nat.blt j k || Nat.beq j k) := fun j => by
        rw [Bool.eq_iff_iff, blt_t, Bool.or_eq_true, blt_t, Nat.beq_eq]; omega
      cases hX : X k with
      | false =>
        have e1 : ∀ j, (X j && Nat.blt j (k + 1)) = (X j && Nat.blt j k) := fun j => by
          rw [hbs]
          cases hj : Nat.beq j k with
          | false => rw [Bool.or_false]
          | true => have := Nat.eq_of_beq_eq_true hj; subst this; rw [hX]; rfl
        simp only [e1]
        exact ih
      | true =>
        obtain ⟨it, hit⟩ : ∃ it, items[k]? = some it := ⟨_, List.getElem?_eq_getElem (by omega)⟩
        obtain ⟨o, ho⟩ : ∃ o, ops[k]? = some o := ⟨_, Array.getElem?_eq_getElem (by omega)⟩
        have hkk : Nat.blt k k = false := by
          cases h : Nat.blt k k with
          | false => rfl
          | true => have := blt_t.1 h; omega
        have hops : ∀ m q, items[m]? = some q → ∃ o', ops[m]? = some o' := fun m q hq => ⟨_, Array.getElem?_eq_getElem (by have := (List.getElem?_eq_some_iff.1 hq).1; omega)⟩
        have hu : ∀ (m : Nat) (q : It) (d : Nat), m ≠ k → items[m]? = some q → it.dst = some d → q.dst ≠ some d := by
          intro m q d hmk hq hd
          obtain ⟨o', ho'⟩ := hops m q hq
          exact (hp.sym (fun e => hmk e.symm) hit hq ho ho').1 d hd
        have e1 : (fun j => M j || (X j && Nat.blt j (k + 1))) = fun j => (M j || (X j && Nat.blt j k)) || Nat.beq j k := funext fun j => by
          rw [hbs]
          cases hj : Nat.beq j k with
          | false => simp
          | true => have := Nat.eq_of_beq_eq_true hj; subst this; rw [hX]; simp
        have e2 : (fun j => X j && Nat.blt j (k + 1)) = fun j => (X j && Nat.blt j k) || Nat.beq j k := funext fun j => by
          rw [hbs]
          cases hj : Nat.beq j k with
          | false => simp
          | true => have := Nat.eq_of_beq_eq_true hj; subst this; rw [hX]; simp
        rw [e1, e2, appD_insert (it := it) (by simp [hdis k hX, hkk]) hit hu ?_, appD_insert (it := it) (by simp [hkk]) hit hu ?_, ih]
        · intro m q hq hlt hm
          simp only [Bool.and_eq_true] at hm
          have := blt_t.1 hm.2; omega
        · intro m q hq hlt hm
          simp only [Bool.or_eq_true, Bool.and_eq_true] at hm
          rcases hm with hm | hm
          · obtain ⟨o', ho'⟩ := hops m q hq
            rcases (hp k m it q o o' hlt hit hq ho ho').2 with h | h
            · exact absurd h (hno k m hX hm)
            · exact h.m
          · have := blt_t.1 hm.2; omega
  have hk := key items.length (Nat.le_refl _)
  have c1 : appD nx (fun k => M k || X k) 0 items s = appD nx (fun j => M j || (X j && Nat.blt j items.length)) 0 items s :=
    appD_congr 0 s rfl (fun m hm => ⟨by simp only [Nat.zero_add]; rw [blt_t.2 hm, Bool.and_true], fun _ => rfl⟩)
  have c2 : appD nx X 0 items (appD nx M 0 items s) = appD nx (fun j => X j && Nat.blt j items.length) 0 items (appD nx M 0 items s) :=
    appD_congr 0 _ rfl (fun m hm => ⟨by simp only [Nat.zero_add]; rw [blt_t.2 hm, Bool.and_true], fun _ => rfl⟩)
  rw [c1, c2, hk]
def memId : Mem → Option Nat
  | .ld id _ _ => some id
  | .lp id _ _ _ _ => some id
  | .st id _ _ => some id
  | .la id => some id
  | .sa id _ => some id
  | .sm id _ => some id
  | _ => none
/-- an item that is right in one state is right in another one that looks alike to it -/
theorem item_agree {items : List It} {s s' : St} {D E : Nat → Bool} {i : Nat} {it : It} (hiD : D i = false) (hiE : E i = false)
    (hn : s'.n = s.n) (ht : ∀ o, ops[i]? = some o → ∀ t ∈ looks ops o, s'.tm t = s.tm t) (hb : ∀ id, memId it.mem = some id → s'.hp id = s.hp id)
    (key : ∀ m q, items[m]? = some q → D m ≠ E m → m ≠ i → (∀ d, q.dst = some d → ∀ o, ops[i]? = some o → d ∉ looks ops o) ∧ memIndep (nx + i) it.mem (nx + m) q.mem = true)
    (hv : ItemOk pu (nx + i) P ops i it (appD nx D 0 items s)) : ItemOk pu (nx + i) P ops i it (appD nx E 0 items s') := by
  refine item_transport hv (by rw [appD_n, appD_n, hn]) ?_ ?_
  · intro o1 ho1 t htl
    refine appD_tm items 0 s' s (ht o1 ho1 t htl) (fun m q hq hd => ?_)
    simp only [Nat.zero_add]
    by_cases hmi : m = i
    · subst hmi; rw [hiD, hiE]
    · by_cases hne : D m = E m
      · exact hne.symm
      · exact absurd htl ((key m q hq hne hmi).1 t hd o1 ho1)
  · have hagree : ∀ id c, memId it.mem = some id → (∀ m q, items[m]? = some q → memIndep (nx + i) it.mem (nx + m) q.mem = true → ¬ writes q.mem (nx + m) id c) → info (appD nx E 0 items s').hp id c = info (appD nx D 0 items s).hp id c := by
      intro id c hid hw
      refine appD_info items 0 s' s (by unfold info; rw [hb id hid]) (fun m q hq hwr => ?_)
      simp only [Nat.zero_add] at hwr ⊢
      by_cases hmi : m = i
      · subst hmi; rw [hiD, hiE]
      · by_cases hne : D m = E m
        · exact hne.symm
        · exact absurd hwr (hw m q hq (key m q hq hne hmi).2)
    cases hmem : it.mem with
    | ld id lo hi' =>
      intro c h1 h2
      refine hagree id c (by rw [hmem]; rfl) (fun m q hq hind => ?_)
      rw [hmem] at hind
      exact memIndep_writes hind c h1 h2
    | lp id lo hi' c0 p0 =>
      intro c h1 h2
      refine hagree id c (by rw [hmem]; rfl) (fun m q hq hind => ?_)
      rw [hmem] at hind
      exact memIndep_writes hind c h1 h2
    | st id lo vs =>
      intro c h1 h2
      refine hagree id c (by rw [hmem]; rfl) (fun m q hq hind => ?_)
      rw [hmem] at hind
      exact memIndep_writes hind c h1 h2
    | la id =>
      refine hagree id 0 (by rw [hmem]; rfl) (fun m q hq hind => ?_)
      rw [hmem] at hind
      exact memIndep_writes hind
    | sa id A =>
      refine hagree id 0 (by rw [hmem]; rfl) (fun m q hq hind => ?_)
      rw [hmem] at hind
      exact memIndep_writes hind
    | sm id A =>
      refine hagree id 0 (by rw [hmem]; rfl) (fun m q hq hind => ?_)
      rw [hmem] at hind
      exact memIndep_writes hind
    | _ => trivial

/-! the walk -/
theorem testBit_or1 (a i k : Nat) : Nat.testBit (a ||| 2 ^ i) k = (Nat.testBit a k || Nat.beq k i) := by
  rw [Nat.testBit_or, Nat.testBit_two_pow]
  congr 1
  rw [Bool.eq_iff_iff, Nat.beq_eq, decide_eq_true_eq]
  exact ⟨fun h => h.symm, fun h => h.symm⟩
theorem setA_get {β : Type} (l : List β) (n : Nat) (y : β) (k : Nat) : (setA l n y)[k]? = if k = n ∧ n < l.length then some y else l[k]? := by
  rw [setA_eq, List.getElem?_set]
  by_cases h : n = k
  · subst h
    by_cases hl : n < l.length
    · simp [hl]
    · simp [hl]
  · rw [if_neg h, if_neg (fun e => h e.1.symm)]
/-- an item behind all of a set -/
theorem appD_last {D : Nat → Bool} {items : List It} {i : Nat} {it : It} (s : St) (hi : i < items.length) (hD : ∀ k, i ≤ k → D k = false) :
    appD nx (fun k => D k || Nat.beq k i) 0 (setA items i it) s = it.app (nx + i) (appD nx D 0 items s) := by
  have go : ∀ (l : List It) (k : Nat) (s : St), k ≤ i → i - k < l.length → appD nx (fun k => D k || Nat.beq k i) k (setA l (i - k) it) s = it.app (nx + i) (appD nx D k l s) := by
    intro l
    induction l with
    | nil => intro k s _ h; simp at h
    | cons x l ih =>
      intro k s hk hl
      by_cases hki : k = i
      · subst hki
        rw [Nat.sub_self]
        simp only [setA, appD]
        rw [hD k (Nat.le_refl _), show Nat.beq k k = true from Nat.beq_refl k]
        simp only [Bool.false_or, cond_true, cond_false]
        rw [appD_none l (k + 1) s D (fun m _ => hD _ (by omega)), appD_none l (k + 1) _ _ (fun m _ => by
          rw [hD _ (by omega), beq_ne (show k + 1 + m ≠ k by omega)]; rfl)]
      · have e : i - k = (i - (k + 1)) + 1 := by omega
        rw [e]
        simp only [setA, appD]
        rw [beq_ne hki, Bool.or_false]
        exact ih (k + 1) _ (by omega) (by simp at hl; omega)
  have := go items 0 s (Nat.zero_le _) (by simpa using hi)
  simpa using this
/-- what a walk has come to, before an operation -/
structure Wk (P : Program) (pu : List (Nat × PureT)) (nx : Nat) (ops : Array Oper) (skip : Nat) (items0 : List It) (sc : St) (i : Nat) (items : List It) (live hvy : Nat) (first : Option Nat) (s : St) : Prop where
  len : items.length = ops.size
  old : ∀ k, Nat.testBit skip k = true → items[k]? = items0[k]?
  nil : ∀ k, k < ops.size → Nat.testBit skip k = false → Nat.testBit live k = false → items[k]? = some nilIt
  new : ∀ k, Nat.testBit live k = true → Nat.testBit skip k = false → k < i
  all : ∀ k, k < i → Nat.testBit skip k = true ∨ Nat.testBit live k = true ∨ Nat.testBit hvy k = true
  hv : ∀ k, Nat.testBit hvy k = true → k < i ∧ Nat.testBit skip k = false ∧ Nat.testBit live k = false
  fst : match first with
    | none => ∀ k, Nat.testBit hvy k = false
    | some h => Nat.testBit hvy h = true
  st : s = appD nx (fun k => Nat.testBit live k && !Nat.testBit skip k) 0 items sc
  ok : ∀ k it, Nat.testBit live k = true → Nat.testBit skip k = false → items[k]? = some it → notLp it.mem = true ∧ (∀ m, Nat.testBit ((nth (masks ops.toList []) k).getD 0) m = true → Nat.testBit hvy m = false) ∧
    ItemOk pu (nx + k) P ops k it (appD nx (fun m => (Nat.testBit live m && !Nat.testBit skip m) && Nat.blt m k) 0 items sc)

theorem Wk.skip {skip : Nat} {items0 : List It} {sc : St} {i : Nat} {items : List It} {live hvy : Nat} {first : Option Nat} {s : St} (h : Wk P pu nx ops skip items0 sc i items live hvy first s) (hs : Nat.testBit skip i = true) : Wk P pu nx ops skip items0 sc (i + 1) items live hvy first s :=
  ⟨h.len, h.old, h.nil, fun k a b => Nat.lt_succ_of_lt (h.new k a b), fun k hk => by
    rcases Nat.lt_or_ge k i with x | x
    · exact h.all k x
    · have : k = i := by omega
      subst this; exact .inl hs, fun k hk => ⟨Nat.lt_succ_of_lt (h.hv k hk).1, (h.hv k hk).2⟩, h.fst, h.st, h.ok⟩
theorem Wk.heavy (hb : Back ops) {skip : Nat} {items0 : List It} {sc : St} {i : Nat} {items : List It} {live hvy : Nat} {first first' : Option Nat} {s : St} (h : Wk P pu nx ops skip items0 sc i items live hvy first s) (hlive : ∀ k, Nat.testBit live k = true → Nat.testBit skip k = false → k < ops.size) (hs : Nat.testBit skip i = false) (hl : Nat.testBit live i = false)
    (hf : match first' with
      | none => False
      | some h => Nat.testBit (hvy ||| 2 ^ i) h = true) : Wk P pu nx ops skip items0 sc (i + 1) items live (hvy ||| 2 ^ i) first' s := by
  refine ⟨h.len, h.old, h.nil, fun k a b => Nat.lt_succ_of_lt (h.new k a b), fun k hk => ?_, fun k hk => ?_, ?_, h.st, fun k it a b c => ?_⟩
  · rcases Nat.lt_or_ge k i with x | x
    · rcases h.all k x with y | y | y
      · exact .inl y
      · exact .inr (.inl y)
      · exact .inr (.inr (by rw [testBit_or1, y]; rfl))
    · have : k = i := by omega
      subst this
      exact .inr (.inr (by rw [testBit_or1, show Nat.beq k k = true from Nat.beq_refl k, Bool.or_true]))
  · rw [testBit_or1, Bool.or_eq_true] at hk
    rcases hk with hk | hk
    · exact ⟨Nat.lt_succ_of_lt (h.hv k hk).1, (h.hv k hk).2⟩
    · have := Nat.eq_of_beq_eq_true hk
      subst this
      exact ⟨Nat.lt_succ_self _, hs, hl⟩
  · cases first' with
    | none => exact hf.elim
    | some h' => exact hf
  · obtain ⟨h1, h2, h3⟩ := h.ok k it a b c
    refine ⟨h1, fun m hm => ?_, h3⟩
    rw [testBit_or1, h2 m hm, Bool.false_or]
    refine beq_ne fun e => ?_
    subst e
    have hki := h.new k a b
    have := Bef.lt hb ((mask_iff hb (hlive k a b) m).1 hm)
    omega
theorem Wk.item {skip : Nat} {items0 : List It} {sc : St} {i : Nat} {items : List It} {live hvy : Nat} {first : Option Nat} {s : St} {it : It} (h : Wk P pu nx ops skip items0 sc i items live hvy first s) (hiN : i < ops.size) (hs : Nat.testBit skip i = false) (hl : Nat.testBit live i = false)
    (hm : ∀ m, Nat.testBit ((nth (masks ops.toList []) i).getD 0) m = true → Nat.testBit hvy m = false) (hh : Nat.testBit hvy i = false) (hlp : notLp it.mem = true) (hit : ItemOk pu (nx + i) P ops i it s) :
    Wk P pu nx ops skip items0 sc (i + 1) (setA items i it) (live ||| 2 ^ i) hvy first (it.app (nx + i) s) := by
  have hge : ∀ k, i ≤ k → (Nat.testBit live k && !Nat.testBit skip k) = false := by
    intro k hk
    cases h1 : Nat.testBit live k with
    | false => rfl
    | true =>
      cases h2 : Nat.testBit skip k with
      | true => rfl
      | false => have := h.new k h1 h2; omega
  have hnew : ∀ k, (Nat.testBit (live ||| 2 ^ i) k && !Nat.testBit skip k) = ((Nat.testBit live k && !Nat.testBit skip k) || Nat.beq k i) := by
    intro k
    rw [testBit_or1]
    cases hk : Nat.beq k i with
    | false => simp
    | true => have := Nat.eq_of_beq_eq_true hk; subst this; simp [hs]
  have hbef : ∀ k, k ≤ i → appD nx (fun m => (Nat.testBit (live ||| 2 ^ i) m && !Nat.testBit skip m) && Nat.blt m k) 0 (setA items i it) sc = appD nx (fun m => (Nat.testBit live m && !Nat.testBit skip m) && Nat.blt m k) 0 items sc := by
    intro k hk
    refine appD_congr 0 sc (by simp [setA_eq]) (fun m _ => ?_)
    simp only [Nat.zero_add]
    rw [hnew]
    by_cases hmi : m = i
    · subst hmi
      have : Nat.blt m k = false := by
        cases hb : Nat.blt m k with
        | false => rfl
        | true => have := blt_t.1 hb; omega
      rw [this, Bool.and_false, Bool.and_false]
      exact ⟨rfl, fun e => by cases e⟩
    · rw [beq_ne hmi, Bool.or_false]
      refine ⟨rfl, fun _ => ?_⟩
      rw [setA_get, if_neg (fun e => hmi e.1)]
  refine ⟨by simp [setA_eq, h.len], fun k hk => ?_, fun k a b c => ?_, fun k a b => ?_, fun k hk => ?_, fun k hk => ?_, h.fst, ?_, fun k q a b c => ?_⟩
  · have : k ≠ i := fun e => by rw [e, hs] at hk; cases hk
    rw [setA_get, if_neg (fun e => this e.1)]
    exact h.old k hk
  · rw [testBit_or1, Bool.or_eq_false_iff] at c
    have : k ≠ i := fun e => by subst e; simp at c
    rw [setA_get, if_neg (fun e => this e.1)]
    exact h.nil k a b c.1
  · rw [testBit_or1, Bool.or_eq_true] at a
    rcases a with a | a
    · exact Nat.lt_succ_of_lt (h.new k a b)
    · have := Nat.eq_of_beq_eq_true a; omega
  · rcases Nat.lt_or_ge k i with x | x
    · rcases h.all k x with y | y | y
      · exact .inl y
      · exact .inr (.inl (by rw [testBit_or1, y]; rfl))
      · exact .inr (.inr y)
    · have : k = i := by omega
      subst this
      exact .inr (.inl (by rw [testBit_or1, show Nat.beq k k = true from Nat.beq_refl k, Bool.or_true]))
  · obtain ⟨h1, h2, h3⟩ := h.hv k hk
    refine ⟨Nat.lt_succ_of_lt h1, h2, ?_⟩
    rw [testBit_or1, h3, Bool.false_or]
    exact beq_ne (by omega)
  · rw [show (fun k => Nat.testBit (live ||| 2 ^ i) k && !Nat.testBit skip k) = fun k => (Nat.testBit live k && !Nat.testBit skip k) || Nat.beq k i from funext hnew]
    rw [appD_last sc (by rw [h.len]; exact hiN) hge, ← h.st]
  · by_cases hki : k = i
    · subst hki
      rw [setA_get, if_pos ⟨rfl, by rw [h.len]; exact hiN⟩] at c
      cases c
      refine ⟨hlp, hm, ?_⟩
      rw [hbef k (Nat.le_refl _)]
      have e : appD nx (fun m => (Nat.testBit live m && !Nat.testBit skip m) && Nat.blt m k) 0 items sc = s := by
        rw [h.st]
        refine appD_congr 0 sc rfl (fun m _ => ⟨?_, fun _ => rfl⟩)
        simp only [Nat.zero_add]
        rcases Nat.lt_or_ge m k with x | x
        · rw [blt_t.2 x, Bool.and_true]
        · rw [hge m x, Bool.false_and]
      rw [e]; exact hit
    · have a' : Nat.testBit live k = true := by
        rw [testBit_or1, beq_ne hki, Bool.or_false] at a; exact a
      rw [setA_get, if_neg (fun e => hki e.1)] at c
      have hlt := h.new k a' b
      rw [hbef k (by omega)]
      exact h.ok k q a' b c
theorem evWalk_sat (hb : Back ops) {skip : Nat} {items0 : List It} {sc : St} {K : List It → Nat → Nat → Option Nat → St → Tree α} : ∀ (rest : List Nat) (i : Nat) (items : List It) (live hvy : Nat) (first : Option Nat) (s : St),
    (∀ k, rest[k]? = if k < rest.length then some (i + k) else none) → i + rest.length = ops.size → Wk P pu nx ops skip items0 sc i items live hvy first s →
    (evWalk P pu nx ops (masks ops.toList []) skip K rest items live hvy first s).sat R →
    ∃ items' live' hvy' first' s', Wk P pu nx ops skip items0 sc ops.size items' live' hvy' first' s' ∧ (∀ k, Nat.testBit skip k = true → Nat.testBit live' k = Nat.testBit live k) ∧ (K items' live' hvy' first' s').sat R
  | [], i, items, live, hvy, first, s, _, hi, hw, h => by
    have : i = ops.size := by simpa using hi
    subst this
    exact ⟨items, live, hvy, first, s, hw, fun _ _ => rfl, h⟩
  | i' :: rest, i, items, live, hvy, first, s, hr, hi, hw, h => by
    have hii : i' = i := by have := hr 0; simpa using this
    subst hii
    have hr' : ∀ k, rest[k]? = if k < rest.length then some (i' + 1 + k) else none := by
      intro k
      have := hr (k + 1)
      simp only [List.getElem?_cons_succ, List.length_cons, Nat.add_lt_add_iff_right] at this
      rw [this]
      split
      · congr 1; omega
      · rfl
    have hi' : i' + 1 + rest.length = ops.size := by simp only [List.length_cons] at hi; omega
    have hiN : i' < ops.size := by omega
    have hN : ∀ k, Nat.testBit live k = true → Nat.testBit skip k = false → k < ops.size := fun k a b => by have := hw.new k a b; omega
    simp only [evWalk] at h
    cases hsk : Nat.testBit skip i' with
    | true =>
      rw [hsk, cond_true] at h
      exact evWalk_sat hb rest (i' + 1) items live hvy first s hr' hi' (hw.skip hsk) h
    | false =>
      rw [hsk, cond_false] at h
      have hl : Nat.testBit live i' = false := by
        cases hl : Nat.testBit live i' with
        | false => rfl
        | true => have := hw.new i' hl hsk; omega
      have hh : Nat.testBit hvy i' = false := by
        cases hh : Nat.testBit hvy i' with
        | false => rfl
        | true => have := (hw.hv i' hh).1; omega
      cases hz : Nat.beq (((nth (masks ops.toList []) i').getD 0) &&& hvy) 0 with
      | false =>
        rw [hz, Bool.not_false, cond_true] at h
        refine evWalk_sat hb rest (i' + 1) items live _ first s hr' hi' (hw.heavy hb hN hsk hl ?_) h
        cases hf : first with
        | none =>
          have h0 := hw.fst
          rw [hf] at h0
          have : hvy = 0 := Nat.eq_of_testBit_eq fun k => by rw [h0 k, Nat.zero_testBit]
          rw [this, Nat.and_zero] at hz
          cases hz
        | some h0 =>
          have h1 := hw.fst
          rw [hf] at h1
          show Nat.testBit (hvy ||| 2 ^ i') h0 = true
          rw [testBit_or1, h1]; rfl
      | true =>
        rw [hz, Bool.not_true, cond_false] at h
        have hm : ∀ m, Nat.testBit ((nth (masks ops.toList []) i').getD 0) m = true → Nat.testBit hvy m = false := by
          intro m hmm
          have h0 := Nat.eq_of_beq_eq_true hz
          have h1 := congrArg (fun x => Nat.testBit x m) h0
          simp only [Nat.testBit_and, Nat.zero_testBit, hmm, Bool.true_and] at h1
          exact h1
        have hstop : (evWalk P pu nx ops (masks ops.toList []) skip K rest items live (hvy ||| 2 ^ i') (firstOf first i') s).sat R → ∃ items' live' hvy' first' s', Wk P pu nx ops skip items0 sc ops.size items' live' hvy' first' s' ∧ (∀ k, Nat.testBit skip k = true → Nat.testBit live' k = Nat.testBit live k) ∧ (K items' live' hvy' first' s').sat R := by
          intro h
          refine evWalk_sat hb rest (i' + 1) items live _ _ s hr' hi' (hw.heavy hb hN hsk hl ?_) h
          cases hf : first with
          | none =>
            show Nat.testBit (hvy ||| 2 ^ i') i' = true
            rw [testBit_or1, show Nat.beq i' i' = true from Nat.beq_refl i', Bool.or_true]
          | some h0 =>
            have h1 := hw.fst
            rw [hf] at h1
            show Nat.testBit (hvy ||| 2 ^ i') h0 = true
            rw [testBit_or1, h1]; rfl
        have go : ∀ it : It, notLp it.mem = true → ItemOk pu (nx + i') P ops i' it s → (evWalk P pu nx ops (masks ops.toList []) skip K rest (setA items i' it) (live ||| 2 ^ i') hvy first (it.app (nx + i') s)).sat R → ∃ items' live' hvy' first' s', Wk P pu nx ops skip items0 sc ops.size items' live' hvy' first' s' ∧ (∀ k, Nat.testBit skip k = true → Nat.testBit live' k = Nat.testBit live k) ∧ (K items' live' hvy' first' s').sat R := by
          intro it h1 h2 h3
          obtain ⟨a1, a2, a3, a4, a5, a6, a7, a8⟩ := evWalk_sat hb rest (i' + 1) _ _ hvy first _ hr' hi' (hw.item hiN hsk hl hm hh h1 h2) h3
          refine ⟨a1, a2, a3, a4, a5, a6, fun k hk => ?_, a8⟩
          rw [a7 k hk, testBit_or1, beq_ne (fun e => by rw [e, hsk] at hk; cases hk), Bool.or_false]
        obtain ⟨o, ho⟩ : ∃ o, ops[i']? = some o := ⟨_, Array.getElem?_eq_getElem hiN⟩
        simp only [ho] at h
        cases hd : Nat.ble s.n (o.dst.getD 0) with
        | true => simp [hd, Tree.sat] at h
        | false =>
          simp only [hd, cond_false] at h
          have hd' : o.dst.getD 0 < s.n := by
            rcases Nat.lt_or_ge (o.dst.getD 0) s.n with x | x
            · exact x
            · have : Nat.ble s.n (o.dst.getD 0) = true := by simpa using x
              rw [this] at hd; simp at hd
          have run : ∀ (_ : Runs ops o s), (plEff pu (nx + i') o.dst s (evWalk P pu nx ops (masks ops.toList []) skip K rest items live (hvy ||| 2 ^ i') (firstOf first i') s)
              (fun it => bif notLp it.mem then evWalk P pu nx ops (masks ops.toList []) skip K rest (setA items i' it) (live ||| 2 ^ i') hvy first (it.app (nx + i') s)
                else evWalk P pu nx ops (masks ops.toList []) skip K rest items live (hvy ||| 2 ^ i') (firstOf first i') s) (eff P o.op s.eval)).sat R →
              ∃ items' live' hvy' first' s', Wk P pu nx ops skip items0 sc ops.size items' live' hvy' first' s' ∧ (∀ k, Nat.testBit skip k = true → Nat.testBit live' k = Nat.testBit live k) ∧ (K items' live' hvy' first' s').sat R := by
            intro hrun hh
            rcases plEff_sat _ hh with hh | ⟨it, h1, h2, h3⟩
            · exact hstop hh
            · cases hlp : notLp it.mem with
              | false => rw [hlp, cond_false] at h3; exact hstop h3
              | true => rw [hlp, cond_true] at h3; exact go it hlp ⟨o, ho, h1, hd', .inl ⟨hrun, h2⟩⟩ h3
          have skp : ∀ (_ : Skips ops o s), (evWalk P pu nx ops (masks ops.toList []) skip K rest (setA items i' ⟨o.dst, .val undef, .no⟩) (live ||| 2 ^ i') hvy first (s.put o.dst (.val undef))).sat R →
              ∃ items' live' hvy' first' s', Wk P pu nx ops skip items0 sc ops.size items' live' hvy' first' s' ∧ (∀ k, Nat.testBit skip k = true → Nat.testBit live' k = Nat.testBit live k) ∧ (K items' live' hvy' first' s').sat R := by
            intro hsk' hh
            exact go ⟨o.dst, .val undef, .no⟩ rfl ⟨o, ho, rfl, hd', .inr ⟨hsk', rfl, rfl⟩⟩ hh
          cases hg : o.guard with
          | none =>
            simp only [hg] at h
            exact run (by simp [Runs, hg]) h
          | some g =>
            obtain ⟨j, want⟩ := g
            simp only [hg] at h
            cases hdst : (ops[j]?).bind (·.dst) with
            | none => simp [hdst, Tree.sat] at h
            | some d =>
              simp only [hdst] at h
              cases hn : Nat.ble s.n d with
              | true => simp [hn, Tree.sat] at h
              | false =>
                simp only [hn, cond_false] at h
                have hlt : d < s.n := by
                  rcases Nat.lt_or_ge d s.n with x | x
                  · exact x
                  · have : Nat.ble s.n d = true := by simpa using x
                    rw [this] at hn; simp at hn
                cases hx : s.tm d with
                | bool b =>
                  rw [hx] at h
                  simp only at h
                  have hrn : b = want → Runs ops o s := fun e => by
                    unfold Runs; rw [hg]; exact ⟨d, hdst, hlt, by rw [hx, e]⟩
                  have hskp : b = (!want) → Skips ops o s := fun e => ⟨j, want, d, hg, hdst, hlt, .inl (by rw [hx, e])⟩
                  cases b <;> cases want <;> simp only [cond_true, cond_false] at h <;> rw [put_same hx] at h
                  · exact run (hrn rfl) h
                  · exact skp (hskp rfl) h
                  · exact skp (hskp rfl) h
                  · exact run (hrn rfl) h
                | val v =>
                  rw [hx] at h
                  cases v with
                  | tuple vs => exact skp ⟨j, want, d, hg, hdst, hlt, .inr ⟨vs, hx⟩⟩ h
                  | _ => simp [Tree.sat] at h
                | _ => rw [hx] at h; simp [Tree.sat] at h
/-! a part of memory is hidden while an operation runs -/
theorem inB_t {l : List Nat} {i : Nat} : inB l i = true ↔ i ∈ l := by
  induction l with
  | nil => simp [inB]
  | cons j l ih =>
    simp only [inB, Bool.or_eq_true, ih, List.mem_cons, Nat.beq_eq]
    exact ⟨fun h => h.imp (fun e => e.symm) id, fun h => h.imp (fun e => e.symm) id⟩
theorem ObRel.keep3 {B : Nat} {σ τ : Env} {w w' : World} {id : Nat} {o : Ob} (e : Ext3 σ τ) (hat : τ id = σ id) (hk : ∀ n, σ id = some n → w'.heap[n]? = w.heap[n]?) (h : ObRel B σ w id o) : ObRel B τ w' id o := by
  cases o with
  | blk b =>
    obtain ⟨n, vs, h1, h2, h3, h4⟩ := h
    exact ⟨n, vs, hat.trans h1, (hk n h1).trans h2, RepL.mono3 e _ _ h3, h4⟩
  | arr A =>
    obtain ⟨v, us, h1, h2, h3, h4, h5⟩ := h
    refine ⟨v, us, e.3 _ _ h1, ⟨h2.1, ?_⟩, LR.mono (fun x vs => RepD.mono e.2 _ x vs) h3, h4, fun n => by rw [hat]; exact h5 n⟩
    rcases h2.2 with k | ⟨g, cap, cur, k1, k2, k3, k4⟩
    · exact .inl k
    · subst k1
      exact .inr ⟨g, cap, cur, rfl, k2, (hk g ((h5 g).1 rfl)).trans k3, k4⟩
  | lp r =>
    obtain ⟨n, L, h1, h2, h3, h4⟩ := h
    exact ⟨n, L, hat.trans h1, (hk n h1).trans h2, ⟨fun t => Rep.mono3 e _ _ (h3.tm t), h3.n, h3.fn, h3.params, h3.assign, h3.body, h3.st, h3.pend⟩, h4⟩
  | dfr =>
    obtain ⟨n, h1, h2, h3⟩ := h
    exact ⟨n, hat.trans h1, (hk n h1).trans h2, h3⟩
  | it t pos =>
    obtain ⟨n, h1, h2, h3⟩ := h
    exact ⟨n, hat.trans h1, (hk n h1).trans h2, h3⟩
  | lit L =>
    obtain ⟨v, us, h1, h2, h3, h4, h5⟩ := h
    refine ⟨v, us, e.3 _ _ h1, ⟨h2.1, ?_⟩, RepL.mono3 e _ _ h3, h4, fun n => by rw [hat]; exact h5 n⟩
    rcases h2.2 with k | ⟨g, cap, cur, k1, k2, k3, k4⟩
    · exact .inl k
    · subst k1
      exact .inr ⟨g, cap, cur, rfl, k2, (hk g ((h5 g).1 rfl)).trans k3, k4⟩
  | mp M =>
    obtain ⟨n, es, clock, h1, h2, h3, h4⟩ := h
    exact ⟨n, es, clock, hat.trans h1, (hk n h1).trans h2, h3.mono e.2 e.3, h4⟩
theorem DfL.mono3 {σ τ : Env} (e : Ext3 σ τ) {ds : List DfA} {Ds : List Deferred} (h : DfL σ ds Ds) : DfL τ ds Ds := by
  induction h with
  | nil => exact .nil
  | @cons d D _ _ h _ ih =>
    refine .cons ?_ ih
    cases d with
    | call f args cap => obtain ⟨us, ks, h1, h2, h3⟩ := h; exact ⟨us, ks, RepL.mono3 e _ _ h1, RepL.mono3 e _ _ h2, h3⟩
    | mark id => obtain ⟨b, h1, h2⟩ := h; exact ⟨b, e.1 _ _ h1, h2⟩
noncomputable def hideEnv (ids : List Nat) (nx : Nat) (σ : Env) (hp : Heap) (w : World) : Env where
  at_ := σ.at_
  mem := σ.mem
  sv := σ.sv
  low := σ.low
  kp n := open Classical in if ∃ i ∈ ids, hp i ≠ none ∧ σ i = some n then w.heap[n]? else σ.kp n
  sz := w.heap.size
  dd i := σ.dd i || (Nat.blt i nx && (σ i).isNone)
  ds i := σ.ds i || (Nat.blt i nx && (σ.sv i).isNone)
theorem hide_e3 (ids : List Nat) (nx : Nat) (σ : Env) (hp : Heap) (w : World) : Ext3 σ (hideEnv ids nx σ hp w) := ⟨fun _ _ h => h, fun _ _ _ h => h, fun _ _ h => h⟩
theorem HRel.hide {B : Nat} {σ : Env} {hp hp' : Heap} {nx : Nat} {w : World} (h : HRel B σ hp nx w) (ids : List Nat) (hsub : ∀ j o, hp' j = some o → hp j = some o ∧ j ∉ ids) : HRel B (hideEnv ids nx σ hp w) hp' nx w := by
  have hlive : ∀ j, hp' j ≠ none → hp j ≠ none ∧ j ∉ ids := by
    intro j hj
    cases hc : hp' j with
    | none => exact absurd hc hj
    | some o => rw [(hsub j o hc).1]; exact ⟨by simp, (hsub j o hc).2⟩
  have hdd : ∀ i, (hideEnv ids nx σ hp w).dd i = true → i < nx ∧ σ i = none := by
    intro i hi
    have hi : (σ.dd i || (Nat.blt i nx && (σ i).isNone)) = true := hi
    rw [Bool.or_eq_true, Bool.and_eq_true] at hi
    rcases hi with hi | ⟨h1, h2⟩
    · exact ⟨h.rs.lt i (.inl hi), h.rs.at_ i hi⟩
    · exact ⟨blt_t.1 h1, by simpa using h2⟩
  have hds : ∀ i, (hideEnv ids nx σ hp w).ds i = true → i < nx ∧ σ.sv i = none := by
    intro i hi
    have hi : (σ.ds i || (Nat.blt i nx && (σ.sv i).isNone)) = true := hi
    rw [Bool.or_eq_true, Bool.and_eq_true] at hi
    rcases hi with hi | ⟨h1, h2⟩
    · exact ⟨h.rs.lt i (.inr hi), h.rs.sv i hi⟩
    · exact ⟨blt_t.1 h1, by simpa using h2⟩
  refine ⟨fun i o ho => (h.ob i o (hsub i o ho).1).keep3 (hide_e3 ids nx σ hp w) rfl (fun _ _ => rfl), fun i j n hi hj h1 h2 => h.inj i j n (hlive i hi).1 (hlive j hj).1 h1 h2, fun i hi => ?_, h.bound, h.mem, fun i n hi h1 o => h.sep i n (hlive i hi).1 h1 o, h.low, ⟨Nat.le_refl _, fun n o ho => ?_, fun i n hi h1 => ?_, fun n o v hv => ?_⟩, ⟨fun i hi => hi.elim (fun k => (hdd i k).1) (fun k => (hds i k).1), fun i hi => (hdd i hi).2, fun i hi => (hds i hi).2⟩⟩
  · obtain ⟨f1, f2, f3⟩ := h.fresh i hi
    refine ⟨f1, f2, ?_⟩
    cases hc : hp' i with
    | none => rfl
    | some o => rw [(hsub i o hc).1] at f3; cases f3
  · simp only [hideEnv] at ho
    split at ho
    · exact ho
    · exact h.kp.ok n o ho
  · simp only [hideEnv]
    split
    · rename_i hex
      obtain ⟨j, j1, j2, j3⟩ := hex
      have := h.inj j i n j2 (hlive i hi).1 j3 h1
      subst this
      exact absurd j1 (hlive j hi).2
    · exact h.kp.sep i n (hlive i hi).1 h1
  · simp only [hideEnv]
    split
    · rename_i hex
      obtain ⟨j, _, j2, j3⟩ := hex
      rw [show (hideEnv ids nx σ hp w).mem n o = σ.mem n o from rfl] at hv
      rw [h.sep j n j2 j3 o] at hv; cases hv
    · exact h.kp.mem n o v hv
def showEnv (σ τ : Env) : Env := { τ with low := σ.low, kp := σ.kp, sz := σ.sz, dd := σ.dd, ds := σ.ds }
theorem show_e3 (σ τ : Env) : Ext3 τ (showEnv σ τ) := ⟨fun _ _ h => h, fun _ _ _ h => h, fun _ _ h => h⟩
theorem HRel.unhide {B : Nat} {σ τ : Env} {hp hp' : Heap} {nx nx' : Nat} {w w' : World} (h : HRel B σ hp nx w) (ids : List Nat) (hx : Ext (hideEnv ids nx σ hp w) τ) (hc : HRel B τ hp' nx' w') (hnx : nx ≤ nx') :
    Ext σ (showEnv σ τ) ∧ HRel B (showEnv σ τ) (mergeHp ids hp hp') nx' w' ∧ ∀ i, i < nx → τ i = σ i ∧ τ.sv i = σ.sv i := by
  have hext : Ext σ (showEnv σ τ) := ⟨fun i b hi => hx.1 i b hi, fun b o v hv => hx.2 b o v hv, fun i v hi => hx.3 i v hi, rfl, rfl, rfl, rfl, rfl⟩
  have hkp : τ.kp = (hideEnv ids nx σ hp w).kp := hx.5.1
  have hsz : w.heap.size ≤ w'.heap.size := by
    have := hc.kp.sz
    rw [hx.5.2.1] at this
    exact this
  have hin : ∀ i, i ∈ ids → mergeHp ids hp hp' i = hp i := fun i hi => by unfold mergeHp; rw [inB_t.2 hi]; rfl
  have hout : ∀ i, i ∉ ids → mergeHp ids hp hp' i = hp' i := fun i hi => by
    unfold mergeHp
    cases hb : inB ids i with
    | true => exact absurd (inB_t.1 hb) hi
    | false => rfl
  have low : ∀ i, hp i ≠ none → i < nx := fun i hi => by
    rcases Nat.lt_or_ge i nx with k | k
    · exact k
    · exact absurd (h.fresh i k).2.2 hi
  have kpin : ∀ i n, i ∈ ids → hp i ≠ none → σ i = some n → τ.kp n = w.heap[n]? := by
    intro i n hi hl hn
    rw [hkp]
    simp only [hideEnv]
    rw [if_pos ⟨i, hi, hl, hn⟩]
  have kpne : ∀ i n, i ∈ ids → hp i ≠ none → σ i = some n → τ.kp n ≠ none := by
    intro i n hi hl hn
    rw [kpin i n hi hl hn, Array.getElem?_eq_getElem (h.bound i n hn)]; simp
  have kp_keep : ∀ n o, σ.kp n = some o → τ.kp n = some o := by
    intro n o ho
    rw [hkp]
    simp only [hideEnv]
    split
    · exact h.kp.ok n o ho
    · exact ho
  have hat : ∀ i, i < nx → τ i = σ i := by
    intro i hi
    cases hs : σ i with
    | some b => exact hx.1 i b hs
    | none =>
      refine hc.rs.at_ i ?_
      rw [hx.5.2.2.1]
      show (σ.dd i || (Nat.blt i nx && (σ i).isNone)) = true
      rw [hs, blt_t.2 hi]; simp
  have hsv : ∀ i, i < nx → τ.sv i = σ.sv i := by
    intro i hi
    cases hs : σ.sv i with
    | some b => exact hx.3 i b hs
    | none =>
      refine hc.rs.sv i ?_
      rw [hx.5.2.2.2]
      show (σ.ds i || (Nat.blt i nx && (σ.sv i).isNone)) = true
      rw [hs, blt_t.2 hi]; simp
  refine ⟨hext, ⟨fun i o ho => ?_, fun i j n hi hj h1 h2 => ?_, fun i hi => ?_, hc.bound, hc.mem, fun i n hi h1 o => ?_, fun b o v hv hlt => ?_, ⟨Nat.le_trans h.kp.sz hsz, fun n o ho => hc.kp.ok n o (kp_keep n o ho), fun i n hi h1 => ?_, fun n o v hv => ?_⟩, ⟨fun i hi => Nat.lt_of_lt_of_le (h.rs.lt i hi) hnx, fun i hi => (hat i (h.rs.lt i (.inl hi))).trans (h.rs.at_ i hi), fun i hi => (hsv i (h.rs.lt i (.inr hi))).trans (h.rs.sv i hi)⟩⟩, fun i hi => ⟨hat i hi, hsv i hi⟩⟩
  · by_cases hi : i ∈ ids
    · rw [hin i hi] at ho
      have hl : hp i ≠ none := by rw [ho]; simp
      refine (h.ob i o ho).keep hext (hat i (low i hl)) fun n hn => ?_
      have e := kpin i n hi hl hn
      have hb := h.bound i n hn
      rw [Array.getElem?_eq_getElem hb] at e
      rw [hc.kp.ok n _ e, Array.getElem?_eq_getElem hb]
    · rw [hout i hi] at ho
      exact (hc.ob i o ho).keep3 (show_e3 σ τ) rfl (fun _ _ => rfl)
  · have h1 : τ i = some n := h1
    have h2 : τ j = some n := h2
    by_cases hi' : i ∈ ids
    · rw [hin i hi'] at hi
      have e1 : σ i = some n := (hat i (low i hi)).symm.trans h1
      by_cases hj' : j ∈ ids
      · rw [hin j hj'] at hj
        exact h.inj i j n hi hj e1 ((hat j (low j hj)).symm.trans h2)
      · rw [hout j hj'] at hj
        exact absurd (hc.kp.sep j n hj h2) (kpne i n hi' hi e1)
    · rw [hout i hi'] at hi
      by_cases hj' : j ∈ ids
      · rw [hin j hj'] at hj
        exact absurd (hc.kp.sep i n hi h1) (kpne j n hj' hj ((hat j (low j hj)).symm.trans h2))
      · rw [hout j hj'] at hj
        exact hc.inj i j n hi hj h1 h2
  · obtain ⟨f1, f2, f3⟩ := hc.fresh i hi
    refine ⟨f1, f2, ?_⟩
    by_cases hi' : i ∈ ids
    · rw [hin i hi']; exact (h.fresh i (by omega)).2.2
    · rw [hout i hi']; exact f3
  · have h1 : τ i = some n := h1
    by_cases hi' : i ∈ ids
    · rw [hin i hi'] at hi
      have e1 : σ i = some n := (hat i (low i hi)).symm.trans h1
      cases hm : τ.mem n o with
      | none => exact hm
      | some v => exact absurd (hc.kp.mem n o v hm) (kpne i n hi' hi e1)
    · rw [hout i hi'] at hi
      exact hc.sep i n hi h1 o
  · have := hc.low b o v hv hlt
    rw [hx.4] at this
    exact this
  · have h1 : τ i = some n := h1
    show σ.kp n = none
    cases hs : σ.kp n with
    | none => rfl
    | some o =>
      exfalso
      by_cases hi' : i ∈ ids
      · rw [hin i hi'] at hi
        have e1 : σ i = some n := (hat i (low i hi)).symm.trans h1
        rw [h.kp.sep i n hi e1] at hs; cases hs
      · rw [hout i hi'] at hi
        have := hc.kp.sep i n hi h1
        rw [kp_keep n o hs] at this; cases this
  · show σ.kp n = none
    cases hs : σ.kp n with
    | none => rfl
    | some o' =>
      have := hc.kp.mem n o v hv
      rw [kp_keep n o' hs] at this; cases this

/-- an operation turns no slot but its own -/
theorem put_other {o : Option Nat} {a : Go.Act} {v : Value} {t : Nat} (h : o ≠ some t) : (a.put o v).tmps.getD t undef = a.tmps.getD t undef := by
  cases o with
  | none => rfl
  | some d =>
    show (a.tmps.setIfInBounds d v).getD t undef = _
    simp only [Array.getD_eq_getD_getElem?, Array.getElem?_setIfInBounds]
    rw [if_neg (fun e => h (by rw [e]))]
theorem put_size (o : Option Nat) (a : Go.Act) (v : Value) : (a.put o v).tmps.size = a.tmps.size := by
  cases o with
  | none => rfl
  | some d => show (a.tmps.setIfInBounds d v).size = _; simp
theorem wpOpX_shape {P : Program} {rd : Bool} {ops : Array Oper} {Q : Exit → Go.Act → World → Prop} {i : Nat} {K : Go.Act → World → Prop} {a : Go.Act} {w : World}
    (h : wpOpX P rd ops Q i (fun a' w' => (∀ o, ops[i]? = some o → a'.tmps.size = a.tmps.size ∧ ∀ t, o.dst ≠ some t → a'.tmps.getD t undef = a.tmps.getD t undef) → K a' w') a w) : wpOpX P rd ops Q i K a w := by
  unfold wpOpX at h ⊢
  cases ho : ops[i]? with
  | none => simp only [ho] at h ⊢; exact h (fun o e => by cases e)
  | some o =>
    simp only [ho] at h ⊢
    have key : ∀ v ds, (∀ o', some o = some o' → (Go.Act.put { a with defers := ds } o.dst v).tmps.size = a.tmps.size ∧ ∀ t, o'.dst ≠ some t → (Go.Act.put { a with defers := ds } o.dst v).tmps.getD t undef = a.tmps.getD t undef) := by
      intro v ds o' e
      cases e
      exact ⟨put_size _ _ _, fun t ht => put_other ht⟩
    split
    · rename_i hw
      rw [if_pos hw] at h
      revert h
      generalize (execOp a.eval o).run P w = r
      intro h
      cases r with
      | ok n w' =>
        cases n <;> simp only [Oper.uponX] at h ⊢ <;>
          first
            | exact h (key _ a.defers)
            | exact ⟨h.1, h.2 (key _ _)⟩
            | exact Calls'.mono h (fun e w'' he => by cases e <;> first | exact he (key _ a.defers) | exact he)
            | exact RoundX.mono h (fun e w'' he => by cases e <;> first | exact he (key _ a.defers) | exact he)
      | halt x w' => cases x <;> simp only [Oper.uponX] at h ⊢ <;> exact h
    · rename_i hw
      rw [if_neg hw] at h
      exact h (key _ a.defers)
theorem inB_mem {l : List Nat} {i : Nat} (h : inB l i = true) : i ∈ l := by
  induction l with
  | nil => cases h
  | cons j l ih =>
    simp only [inB, Bool.or_eq_true] at h
    rcases h with h | h
    · rw [Nat.eq_of_beq_eq_true h]; simp
    · exact List.mem_cons_of_mem _ (ih h)
theorem memId_hid {vis : List Nat} {id0 id : Nat} {m : Mem} (h : memId m = some id) : id ∈ hidMem vis id0 m ∨ (id ∈ vis ∧ ((∃ lo hi, m = .ld id lo hi) ∨ m = .la id)) := by
  cases m with
  | la i =>
    simp only [memId, Option.some.injEq] at h
    subst h
    simp only [hidMem]
    cases hb : inB vis i with
    | true => exact .inr ⟨inB_mem hb, .inr trivial⟩
    | false => left; simp
  | ld i lo hi =>
    simp only [memId, Option.some.injEq] at h
    subst h
    simp only [hidMem]
    cases hb : inB vis i with
    | true => exact .inr ⟨inB_mem hb, .inl ⟨lo, hi, rfl⟩⟩
    | false => left; simp
  | _ => left; simp only [memId, hidMem, Option.some.injEq, reduceCtorEq] at h ⊢ <;> simp [h]
theorem ldsOf_mem {q j : Nat} : ∀ {l : List It} {k m : Nat} {it : It}, l[m]? = some it → Nat.testBit q (k + m) = true → ((∃ lo hi, it.mem = .ld j lo hi) ∨ it.mem = .la j) → j ∈ ldsOf q k l
  | [], _, _, _, h, _, _ => by simp at h
  | x :: l, k, m, it, h, hq, hj => by
    simp only [ldsOf, List.mem_append]
    cases m with
    | zero =>
      simp at h; subst h
      left
      rw [show Nat.testBit q k = true from hq, cond_true]
      rcases hj with ⟨lo, hi, hj⟩ | hj
      · rw [hj]; simp
      · rw [hj]; simp
    | succ m => exact .inr (ldsOf_mem (k := k + 1) (by simpa using h) (by rwa [show k + (m + 1) = k + 1 + m by omega] at hq) hj)
theorem bothB_mem {m : List Nat} {i : Nat} : ∀ {l : List Nat}, i ∈ l → i ∈ m → i ∈ bothB m l
  | [], h, _ => by cases h
  | j :: l, h, hm => by
    simp only [bothB]
    rcases List.mem_cons.1 h with h | h
    · subst h
      have : inB m i = true := inB_t.2 hm
      rw [this]; simp
    · cases inB m j with
      | true => exact List.mem_cons_of_mem _ (bothB_mem h hm)
      | false => exact bothB_mem h hm
theorem agreeHp_at {hp hp' : Heap} : ∀ {ids : List Nat}, agreeHp ids hp hp' → ∀ i ∈ ids, hp i = hp' i
  | [], _, _, h => by cases h
  | j :: l, h, i, hi => by
    rcases List.mem_cons.1 hi with e | e
    · rw [e]; exact h.1
    · exact agreeHp_at h.2 i e
theorem needHp_sat {α : Type} {ids : List Nat} {hp hp' : Heap} {t : Tree α} {R : α → Prop} (h : (needHp ids hp hp' t).sat R) : (∀ i ∈ ids, hp i = hp' i) ∧ t.sat R := by
  unfold needHp at h
  cases ids with
  | nil => exact ⟨fun i hi => (by cases hi), h⟩
  | cons i l => exact ⟨agreeHp_at h.1, h.2⟩
theorem app_out {vis : List Nat} {m : Mem} {id0 j : Nat} (hp : Heap) (h : j ∉ hidMem vis id0 m) : m.app id0 hp j = hp j := by
  cases m <;> first | rfl | (simp only [hidMem, List.mem_singleton] at h; exact upd_other _ _ h)
theorem app_at {m : Mem} {id0 j : Nat} {hp hp' : Heap} (h : hp j = hp' j) : m.app id0 hp j = m.app id0 hp' j := by
  cases m <;> simp only [Mem.app] <;> first | exact h | (rename_i id _; by_cases e : j = id <;> first | (subst e; rw [upd_same, upd_same]; done) | (rw [upd_other _ _ e, upd_other _ _ e]; exact h)) | (rename_i id _ _; by_cases e : j = id <;> first | (subst e; rw [upd_same, upd_same, h]; done) | (rw [upd_other _ _ e, upd_other _ _ e]; exact h)) | (by_cases e : j = id0 <;> first | (subst e; rw [upd_same, upd_same]; done) | (rw [upd_other _ _ e, upd_other _ _ e]; exact h))
theorem appD_out {vis : List Nat} {E : Nat → Bool} {j : Nat} : ∀ (l : List It) (k : Nat) (s : St), (∀ m it, l[m]? = some it → E (k + m) = true → j ∉ hidMem vis (nx + (k + m)) it.mem) → (appD nx E k l s).hp j = s.hp j
  | [], _, _, _ => rfl
  | it :: l, k, s, h => by
    simp only [appD]
    rw [appD_out l (k + 1) _ (fun m it' hm hE => by have := h (m + 1) it' (by simpa using hm) (by rwa [show k + (m + 1) = k + 1 + m by omega]); rwa [show k + (m + 1) = k + 1 + m by omega] at this)]
    cases hE : E k with
    | false => rfl
    | true => rw [cond_true, app_hp]; exact app_out _ (h 0 it rfl hE)
theorem appD_hat {E : Nat → Bool} {j : Nat} : ∀ (l : List It) (k : Nat) (s s' : St), s.hp j = s'.hp j → (appD nx E k l s).hp j = (appD nx E k l s').hp j
  | [], _, _, _, h => h
  | it :: l, k, s, s', h => by
    simp only [appD]
    refine appD_hat l (k + 1) _ _ ?_
    cases E k with
    | false => exact h
    | true => rw [cond_true, cond_true, app_hp, app_hp]; exact app_at h
theorem hidOf_mem {vis : List Nat} {q j : Nat} : ∀ {l : List It} {k m : Nat} {it : It}, l[m]? = some it → Nat.testBit q (k + m) = true → j ∈ hidMem vis (nx + (k + m)) it.mem → j ∈ hidOf vis nx q k l
  | [], _, _, _, h, _, _ => by simp at h
  | x :: l, k, m, it, h, hq, hj => by
    simp only [hidOf, List.mem_append]
    cases m with
    | zero =>
      simp at h; subst h
      left
      rw [show Nat.testBit q k = true from hq]
      exact hj
    | succ m => exact .inr (hidOf_mem (k := k + 1) (by simpa using h) (by rwa [show k + (m + 1) = k + 1 + m by omega] at hq) (by rwa [show k + (m + 1) = k + 1 + m by omega] at hj))
theorem dstsOf_mem {q t : Nat} : ∀ {l : List It} {k m : Nat} {it : It}, l[m]? = some it → Nat.testBit q (k + m) = true → it.dst = some t → t ∈ dstsOf q k l
  | [], _, _, _, h, _, _ => by simp at h
  | x :: l, k, m, it, h, hq, hj => by
    simp only [dstsOf, List.mem_append]
    cases m with
    | zero =>
      simp at h; subst h
      left
      rw [show Nat.testBit q k = true from hq, hj]
      simp
    | succ m => exact .inr (dstsOf_mem (k := k + 1) (by simpa using h) (by rwa [show k + (m + 1) = k + 1 + m by omega] at hq) hj)
theorem dstsOf_from {q t : Nat} : ∀ {l : List It} {k : Nat}, t ∈ dstsOf q k l → ∃ m it, l[m]? = some it ∧ Nat.testBit q (k + m) = true ∧ it.dst = some t
  | [], _, h => by simp [dstsOf] at h
  | x :: l, k, h => by
    simp only [dstsOf, List.mem_append] at h
    rcases h with h | h
    · cases hq : Nat.testBit q k with
      | false => rw [hq] at h; simp at h
      | true =>
        rw [hq, cond_true] at h
        exact ⟨0, x, rfl, hq, by simpa using h⟩
    · obtain ⟨m, it, h1, h2, h3⟩ := dstsOf_from h
      exact ⟨m + 1, it, by simpa using h1, by rwa [show k + (m + 1) = k + 1 + m by omega], h3⟩

/-- an operation that turns memory, while others are not carried out yet -/
theorem hvy_step {vis : List Nat} {cT : CallT α} (hc : CTok P cT R) {rd : Bool} {w0 : World} {σ : Env} {sH : St} {a : Go.Act} {w : World} {items : List It} {q h : Nat} {E : Nat → Bool} {o : Oper} {K : XE → St → Tree α} {Q : Exit → Go.Act → World → Prop} {next : Go.Act → World → Prop}
    (ho : ops[h]? = some o) (hE : ∀ k, E k = true → Nat.testBit q k = true) (hS : Sat rd w0 σ (appD nx E 0 items sH) a w) (hdst : ∀ t, o.dst = some t → t ∉ dstsOf q 0 items)
    (hK : ∀ e s1, (K e s1).sat R → sH.nx ≤ s1.nx)
    (ht : (evOps P cT ops [h] { sH with tm := hideTm (dstsOf q 0 items) sH.tm, hp := hideHp (hidOf vis nx q 0 items) sH.hp } K).sat R)
    (hP : ∀ τ s1 x ch a' w', Ext σ τ → Sat rd w0 τ { s1 with hp := hideHp (hidOf vis nx q 0 items) s1.hp } a' w' → ExR τ (.panic x) (.panic ch) → (K (.panic x) s1).sat R → Q (.panic ch) a' w')
    (hN : ∀ τ s1 a' w', Ext σ τ → (∀ i, i < sH.nx → τ i = σ i ∧ τ.sv i = σ.sv i) → s1.n = sH.n → Sat rd w0 τ (appD nx E 0 items { s1 with tm := oneTm o.dst sH.tm s1.tm, hp := mergeHp (hidOf vis nx q 0 items) sH.hp s1.hp }) a' w' → (K .normal s1).sat R → next a' w') : wpOpX P rd ops Q h next a w := by
  have hout : ∀ (s : St) j, j ∉ hidOf vis nx q 0 items → (appD nx E 0 items s).hp j = s.hp j := fun s j hj =>
    appD_out items 0 s fun m it hm hEm hx => hj (hidOf_mem hm (by simpa using hE _ hEm) hx)
  have htm : ∀ (s : St) t, t ∉ dstsOf q 0 items → (appD nx E 0 items s).tm t = s.tm t := by
    intro s t htn
    have h1 := appD_tm (nx := nx) (D := E) (E := fun _ => false) (t := t) items 0 s s rfl (fun m it hm hd => by
      cases hc : E (0 + m) with
      | false => rfl
      | true => exact absurd (dstsOf_mem hm (by simpa using hE _ hc) hd) htn)
    rw [h1, appD_none items 0 s _ (fun _ _ => rfl)]
  have hSH : Sat rd w0 (hideEnv (hidOf vis nx q 0 items) sH.nx σ (appD nx E 0 items sH).hp w) { sH with tm := hideTm (dstsOf q 0 items) sH.tm, hp := hideHp (hidOf vis nx q 0 items) sH.hp } a w := by
    have hh := hS.h
    rw [appD_nx] at hh
    refine ⟨hh.hide (hidOf vis nx q 0 items) (fun j o hj => ?_), fun t => ?_, ?_, ?_, hS.bl, ?_⟩
    · change hideHp (hidOf vis nx q 0 items) sH.hp j = some o at hj
      unfold hideHp at hj
      cases hb : inB (hidOf vis nx q 0 items) j with
      | true => rw [hb] at hj; cases hj
      | false =>
        rw [hb, cond_false] at hj
        have hn : j ∉ hidOf vis nx q 0 items := fun hm => by rw [inB_t.2 hm] at hb; cases hb
        exact ⟨(hout sH j hn).trans hj, hn⟩
    · show Rep _ (hideTm (dstsOf q 0 items) sH.tm t) _
      unfold hideTm
      cases hb : inB (dstsOf q 0 items) t with
      | true => simp only [cond_true, Rep]
      | false =>
        rw [cond_false]
        have hn : t ∉ dstsOf q 0 items := fun hm => by rw [inB_t.2 hm] at hb; cases hb
        have := hS.tm t
        rw [htm sH t hn] at this
        exact Rep.mono3 (hide_e3 _ _ _ _ _) _ _ this
    · have := hS.n; rwa [appD_n] at this
    · have := hS.df; rw [appD_df] at this; exact this.mono3 (hide_e3 _ _ _ _ _)
    · have := hS.rd; rwa [appD_rd] at this
  refine wpOpX_shape (evOps_step hc hSH ht (fun τ s1 x ch a' w' e hS1 hx hk => ?_) (fun τ s1 a' w' e hS1 h' => ?_))
  · have hh := hS.h
    rw [appD_nx] at hh
    obtain ⟨u1, u2, _⟩ := hh.unhide (hidOf vis nx q 0 items) e hS1.h (hK _ _ hk)
    refine hP (showEnv σ τ) s1 x ch a' w' u1 ⟨u2.less fun j o hj => ?_, fun t => Rep.mono3 (show_e3 σ τ) _ _ (hS1.tm t), hS1.n, hS1.df.mono3 (show_e3 σ τ), hS1.bl, hS1.rd⟩ ?_ hk
    · change hideHp (hidOf vis nx q 0 items) s1.hp j = some o at hj
      unfold hideHp at hj
      unfold mergeHp
      cases hb : inB (hidOf vis nx q 0 items) j with
      | true => rw [hb] at hj; cases hj
      | false => rw [hb, cond_false] at hj; exact hj
    · obtain ⟨v, hv, hch⟩ := hx
      exact ⟨v, Rep.mono3 (show_e3 σ τ) _ _ hv, hch⟩
  · intro hsh
    obtain ⟨hsz, hsh⟩ := hsh o ho
    have hk : (K .normal s1).sat R := h'
    have hh := hS.h
    rw [appD_nx] at hh
    obtain ⟨u1, u2, u3⟩ := hh.unhide (hidOf vis nx q 0 items) e hS1.h (hK _ _ hk)
    have hn1 : s1.n = sH.n := by rw [← hS1.n, hsz, hS.n, appD_n]
    refine hN (showEnv σ τ) s1 a' w' u1 u3 hn1 ⟨?_, fun t => ?_, ?_, ?_, hS1.bl, ?_⟩ hk
    · rw [appD_nx]
      refine u2.less fun j o hj => ?_
      unfold mergeHp
      cases hb : inB (hidOf vis nx q 0 items) j with
      | true =>
        rw [cond_true, ← hj]
        refine appD_hat items 0 _ _ ?_
        show _ = mergeHp (hidOf vis nx q 0 items) sH.hp s1.hp j
        unfold mergeHp; rw [hb]; rfl
      | false =>
        have hn : j ∉ hidOf vis nx q 0 items := fun hm => by rw [inB_t.2 hm] at hb; cases hb
        rw [hout _ j hn] at hj
        change mergeHp (hidOf vis nx q 0 items) sH.hp s1.hp j = some o at hj
        unfold mergeHp at hj
        rw [hb, cond_false] at hj
        rw [cond_false]; exact hj
    · by_cases hd : o.dst = some t
      · rw [htm _ t (hdst t hd)]
        show Rep _ (oneTm o.dst sH.tm s1.tm t) _
        unfold oneTm
        rw [hd]
        simp only [upd_same]
        exact Rep.mono3 (show_e3 σ τ) _ _ (hS1.tm t)
      · rw [hsh t hd]
        have e1 : (appD nx E 0 items { s1 with tm := oneTm o.dst sH.tm s1.tm, hp := mergeHp (hidOf vis nx q 0 items) sH.hp s1.hp }).tm t = (appD nx E 0 items sH).tm t := by
          refine appD_tm items 0 _ _ ?_ (fun _ _ _ _ => rfl)
          show oneTm o.dst sH.tm s1.tm t = sH.tm t
          unfold oneTm
          cases hdd : o.dst with
          | none => rfl
          | some d => exact upd_other _ _ (fun e => hd (by rw [hdd, e]))
        rw [e1]
        exact (hS.tm t).mono u1
    · rw [appD_n]; exact hS1.n
    · rw [appD_df]; exact hS1.df.mono3 (show_e3 σ τ)
    · rw [appD_rd]; exact hS1.rd
/-- a phase: operations that are done for good, and items that may be carried out or not -/
structure PhI (P : Program) (pu : List (Nat × PureT)) (nx : Nat) (ops : Array Oper) (dn pd : Nat) (items : List It) (s : St) : Prop where
  len : items.length = ops.size
  hx : nx + ops.size ≤ s.nx
  lt : ∀ k, Nat.testBit pd k = true → k < ops.size
  nil : ∀ k, k < ops.size → Nat.testBit dn k = false → Nat.testBit pd k = false → items[k]? = some nilIt
  dis : ∀ k, Nat.testBit pd k = true → Nat.testBit dn k = false
  cl : ∀ i, Nat.testBit pd i = true → ∀ m, Bef ops m i → Nat.testBit dn m = true ∨ Nat.testBit pd m = true
  ok : ∀ i it, Nat.testBit pd i = true → items[i]? = some it → notLp it.mem = true ∧ ∃ D0 : Nat → Bool, (∀ m, D0 m = true → Nat.testBit pd m = true) ∧ D0 i = false ∧ (∀ m, Nat.testBit pd m = true → Bef ops m i → D0 m = true) ∧ (∀ m, D0 m = true → ¬ Bef ops i m) ∧ ItemOk pu (nx + i) P ops i it (appD nx D0 0 items s)
theorem PhI.walk (hb : Back ops) {dn pd : Nat} {items items' : List It} {s sc : St} {live hvy : Nat} {first : Option Nat} (h : PhI P pu nx ops dn pd items s)
    (hw : Wk P pu nx ops (dn ||| pd) items (appD nx (Nat.testBit pd) 0 items s) ops.size items' live hvy first sc) (hlive : ∀ k, Nat.testBit (dn ||| pd) k = true → Nat.testBit live k = Nat.testBit pd k) (hp : Prs nx ops items') :
    PhI P pu nx ops dn live items' s ∧ sc = appD nx (Nat.testBit live) 0 items' s ∧ (∀ k, Nat.testBit pd k = true → Nat.testBit live k = true ∧ items'[k]? = items[k]?) := by
  have sk : ∀ k, Nat.testBit (dn ||| pd) k = (Nat.testBit dn k || Nat.testBit pd k) := fun k => Nat.testBit_or _ _ _
  have hpl : ∀ k, Nat.testBit pd k = true → Nat.testBit live k = true := fun k hk => by rw [hlive k (by rw [sk, hk, Bool.or_true]), hk]
  have cases_live : ∀ k, Nat.testBit live k = true → Nat.testBit pd k = true ∨ (Nat.testBit (dn ||| pd) k = false ∧ k < ops.size) := by
    intro k hk
    cases hs : Nat.testBit (dn ||| pd) k with
    | true => left; rw [← hlive k hs]; exact hk
    | false => exact .inr ⟨rfl, hw.new k hk hs⟩
  have hpe : ∀ k, Nat.testBit pd k = true → items'[k]? = items[k]? := fun k hk => hw.old k (by rw [sk, hk, Bool.or_true])
  have hsub : ∀ D : Nat → Bool, (∀ m, D m = true → Nat.testBit pd m = true) → appD nx D 0 items' s = appD nx D 0 items s := by
    intro D hD
    refine appD_congr 0 s (by rw [hw.len, h.len]) (fun m _ => ⟨rfl, fun hm => ?_⟩)
    exact hpe m (hD m (by simpa using hm))
  have hno : ∀ x m, (Nat.testBit live x && !Nat.testBit (dn ||| pd) x) = true → Nat.testBit pd m = true → ¬ Bef ops x m := by
    intro x m hx hm hbef
    simp only [Bool.and_eq_true, Bool.not_eq_true'] at hx
    have := h.cl m hm x hbef
    rw [sk, Bool.or_eq_false_iff] at hx
    rcases this with e | e
    · rw [hx.2.1] at e; cases e
    · rw [hx.2.2] at e; cases e
  have hdis : ∀ k, (Nat.testBit live k && !Nat.testBit (dn ||| pd) k) = true → Nat.testBit pd k = false := by
    intro k hk
    simp only [Bool.and_eq_true, Bool.not_eq_true'] at hk
    rw [sk, Bool.or_eq_false_iff] at hk
    exact hk.2.2
  have hun : ∀ k, Nat.testBit live k = (Nat.testBit pd k || (Nat.testBit live k && !Nat.testBit (dn ||| pd) k)) := by
    intro k
    cases hs : Nat.testBit (dn ||| pd) k with
    | true => rw [hlive k hs]; simp
    | false =>
      rw [sk, Bool.or_eq_false_iff] at hs
      rw [hs.2]; simp
  refine ⟨⟨hw.len, h.hx, fun k hk => ?_, fun k hkN hk hl => ?_, fun k hk => ?_, fun i hi m hbef => ?_, fun i it hi hit => ?_⟩, ?_, fun k hk => ⟨hpl k hk, hpe k hk⟩⟩
  · rcases cases_live k hk with c | c
    · exact h.lt k c
    · exact c.2
  · refine hw.nil k hkN ?_ hl
    rw [sk, hk, Bool.false_or]
    cases hx : Nat.testBit pd k with
    | false => rfl
    | true => rw [hpl k hx] at hl; cases hl
  · rcases cases_live k hk with c | c
    · exact h.dis k c
    · have := c.1; rw [sk, Bool.or_eq_false_iff] at this; exact this.1
  · rcases cases_live i hi with c | ⟨c, hiN⟩
    · rcases h.cl i c m hbef with e | e
      · exact .inl e
      · exact .inr (hpl m e)
    · obtain ⟨it, hit⟩ : ∃ it, items'[i]? = some it := ⟨_, List.getElem?_eq_getElem (by rw [hw.len]; exact hiN)⟩
      have h2 := (hw.ok i it hi c hit).2.1 m ((mask_iff hb hiN m).2 hbef)
      have hmlt := hbef.lt hb
      rcases hw.all m (by omega) with e | e | e
      · rw [sk, Bool.or_eq_true] at e
        rcases e with e | e
        · exact .inl e
        · exact .inr (hpl m e)
      · exact .inr e
      · rw [h2] at e; cases e
  · rcases cases_live i hi with c | ⟨c, hiN⟩
    · rw [hpe i c] at hit
      obtain ⟨h1, D0, d1, d2, d3, d4, d5⟩ := h.ok i it c hit
      refine ⟨h1, D0, fun m hm => hpl m (d1 m hm), d2, fun m hm hbef => ?_, d4, by rw [hsub D0 d1]; exact d5⟩
      rcases h.cl i c m hbef with e | e
      · rcases cases_live m hm with e' | ⟨e', _⟩
        · exact d3 m e' hbef
        · rw [sk, e] at e'; cases e'
      · exact d3 m e hbef
    · obtain ⟨h1, _, h3⟩ := hw.ok i it hi c hit
      have hpdi : Nat.testBit pd i = false := by rw [sk, Bool.or_eq_false_iff] at c; exact c.2
      have hii : Nat.blt i i = false := by
        cases hbl : Nat.blt i i with
        | false => rfl
        | true => have := blt_t.1 hbl; omega
      refine ⟨h1, fun m => Nat.testBit pd m || ((Nat.testBit live m && !Nat.testBit (dn ||| pd) m) && Nat.blt m i), fun m hm => ?_, by simp [hpdi, hii], fun m hm hbef => ?_, fun m hm hbef => ?_, ?_⟩
      · rw [hun m]
        simp only [Bool.or_eq_true, Bool.and_eq_true] at hm ⊢
        rcases hm with e | e
        · exact .inl e
        · exact .inr e.1
      · have hmlt := hbef.lt hb
        rw [hun m] at hm
        simp only [Bool.or_eq_true] at hm ⊢
        rcases hm with e | e
        · exact .inl e
        · right; rw [e, blt_t.2 hmlt]; rfl
      · simp only [Bool.or_eq_true] at hm
        rcases hm with e | e
        · rcases h.cl m e i hbef with e2 | e2
          · rw [sk, e2] at c; cases c
          · rw [hpdi] at e2; cases e2
        · rw [Bool.and_eq_true] at e
          have := blt_t.1 e.2
          have := hbef.lt hb
          omega
      · rw [appD_split hp (Nat.le_of_eq hw.len) s (M := Nat.testBit pd) (X := fun m => (Nat.testBit live m && !Nat.testBit (dn ||| pd) m) && Nat.blt m i) (fun k hk => hdis k (by rw [Bool.and_eq_true] at hk; exact hk.1)) (fun x m hx hm => hno x m (by rw [Bool.and_eq_true] at hx; exact hx.1) hm), hsub (Nat.testBit pd) (fun _ h => h)]
        exact h3
  · rw [hw.st, ← hsub (Nat.testBit pd) (fun _ h => h), ← appD_split hp (Nat.le_of_eq hw.len) s (M := Nat.testBit pd) (X := fun k => Nat.testBit live k && !Nat.testBit (dn ||| pd) k) hdis hno]
    exact congrArg (fun D => appD nx D 0 items' s) (funext fun k => (hun k).symm)

/-- any order within a phase -/
theorem phase_any (hpu : PuOk P pu) (hb : Back ops) {rd : Bool} {w0 : World} {dn live : Nat} {items : List It} {s : St} {first : Option Nat} {σ0 : Env} {Q : Exit → Go.Act → World → Prop} (h : PhI P pu nx ops dn live items s) (hp : Prs nx ops items)
    (hrest : ∀ i, i < ops.size → Nat.testBit dn i = false → Nat.testBit live i = false → match first with
      | none => False
      | some hh => i = hh ∨ Bef ops hh i)
    (hfirst : ∀ hh, first = some hh → hh < ops.size ∧ Nat.testBit dn hh = false ∧ Nat.testBit live hh = false)
    (hfin : first = none → ∀ τ a' w', Ext σ0 τ → Sat rd w0 τ (appD nx (Nat.testBit live) 0 items s) a' w' → Q .normal a' w')
    (hhv : ∀ hh, first = some hh → ∀ (fuel : Nat) (listed : Array Bool) (σ : Env) (a : Go.Act) (w : World), Ext σ0 σ → listed.size = ops.size → cnt ops.size listed ≤ fuel + 1 → Closed ops (fun k => listed.getD k false) → Pre ops (fun k => listed.getD k false) hh → listed.getD hh false = false →
      (∀ k, Nat.testBit dn k = true → listed.getD k false = true) → (∀ k, listed.getD k false = true → Nat.testBit dn k = true ∨ Nat.testBit live k = true) → Sat rd w0 σ (appD nx (fun k => listed.getD k false && Nat.testBit live k) 0 items s) a w →
      (∀ k, k < ops.size → listed.getD k false = false → Free σ (nx + k)) → wpOpX P rd ops Q hh (wpAnyX P rd ops Q fuel (listed.setIfInBounds hh true)) a w) :
    ∀ (fuel : Nat) (listed : Array Bool) (σ : Env) (a : Go.Act) (w : World), Ext σ0 σ → listed.size = ops.size → cnt ops.size listed ≤ fuel → Closed ops (fun k => listed.getD k false) →
      (∀ k, Nat.testBit dn k = true → listed.getD k false = true) → (∀ k, listed.getD k false = true → Nat.testBit dn k = true ∨ Nat.testBit live k = true) → Sat rd w0 σ (appD nx (fun k => listed.getD k false && Nat.testBit live k) 0 items s) a w →
      (∀ k, k < ops.size → listed.getD k false = false → Free σ (nx + k)) → wpAnyX P rd ops Q fuel listed a w := by
  have hun : ∀ (listed : Array Bool) (k : Nat), k < listed.size → listed.getD k true = listed.getD k false := by
    intro listed k hk
    simp only [Array.getD_eq_getD_getElem?]
    rw [Array.getElem?_eq_getElem hk]; rfl
  have hall : ∀ (listed : Array Bool), listed.size = ops.size → Region.ready .any ops listed = [] → ∀ k, k < ops.size → listed.getD k false = true := by
    intro listed hsz hr k
    induction k using Nat.strongRecOn with
    | _ k ih =>
      intro hk
      cases hl : listed.getD k false with
      | true => rfl
      | false =>
        have : k ∈ Region.ready .any ops listed := by
          rw [mem_ready]
          refine ⟨by rw [hun listed k (by omega)]; exact hl, ops[k], Array.getElem?_eq_getElem hk, fun e he hbd => ?_⟩
          have hlt := hb k _ (Array.getElem?_eq_getElem hk) e he hbd
          exact ih e.on hlt (by omega)
        rw [hr] at this; simp at this
  have done : ∀ (listed : Array Bool) (σ : Env) (a : Go.Act) (w : World), Ext σ0 σ → listed.size = ops.size → (∀ k, k < ops.size → listed.getD k false = true) → (∀ k, listed.getD k false = true → Nat.testBit dn k = true ∨ Nat.testBit live k = true) →
      Sat rd w0 σ (appD nx (fun k => listed.getD k false && Nat.testBit live k) 0 items s) a w → Q .normal a w := by
    intro listed σ a w he hsz hl hsub hS
    cases hf : first with
    | some hh =>
      obtain ⟨f1, f2, f3⟩ := hfirst hh hf
      rcases hsub hh (hl hh f1) with e | e
      · rw [f2] at e; cases e
      · rw [f3] at e; cases e
    | none =>
      refine hfin hf σ a w he ?_
      have e : appD nx (fun k => listed.getD k false && Nat.testBit live k) 0 items s = appD nx (Nat.testBit live) 0 items s :=
        appD_congr 0 s rfl (fun m hm => ⟨by simp only [Nat.zero_add]; rw [hl m (by rw [← h.len]; exact hm), Bool.true_and], fun _ => rfl⟩)
      rw [← e]; exact hS
  intro fuel
  induction fuel with
  | zero =>
    intro listed σ a w he hsz hc hcl hdn hsub hS hfree
    have hl : ∀ k, k < ops.size → listed.getD k false = true := by
      intro k hk
      cases hl : listed.getD k false with
      | true => rfl
      | false =>
        have hpos : 0 < cnt ops.size listed := by
          unfold cnt
          rw [List.countP_pos_iff]
          exact ⟨k, List.mem_range.2 hk, by rw [hun listed k (by omega), hl]; rfl⟩
        omega
    refine ⟨?_, done listed σ a w he hsz hl hsub hS⟩
    cases hrd : Region.ready .any ops listed with
    | nil => rfl
    | cons j rest =>
      have hj : j ∈ Region.ready .any ops listed := by rw [hrd]; simp
      rw [mem_ready] at hj
      obtain ⟨h1, o, ho, _⟩ := hj
      have hjl : j < ops.size := (Array.getElem?_eq_some_iff.1 ho).1
      rw [hun listed j (by omega), hl j hjl] at h1
      cases h1
  | succ fuel ih =>
    intro listed σ a w he hsz hc hcl hdn hsub hS hfree
    refine ⟨fun hr => done listed σ a w he hsz (hall listed hsz hr) hsub hS, fun i hi => ?_⟩
    rw [mem_ready] at hi
    obtain ⟨h1, o, ho, hpre⟩ := hi
    have hilt : i < ops.size := (Array.getElem?_eq_some_iff.1 ho).1
    have h1' : listed.getD i false = false := by rw [← hun listed i (by omega)]; exact h1
    have hPre : Pre ops (fun k => listed.getD k false) i := by
      intro o' ho' e he hbd
      rw [ho] at ho'; cases ho'
      exact hpre e he hbd
    have hdni : Nat.testBit dn i = false := by
      cases hd : Nat.testBit dn i with
      | false => rfl
      | true => rw [hdn i hd] at h1'; cases h1'
    cases hlv : Nat.testBit live i with
    | false =>
      have hr := hrest i hilt hdni hlv
      cases hf : first with
      | none => rw [hf] at hr; exact hr.elim
      | some hh =>
        rw [hf] at hr
        obtain ⟨f1, f2, f3⟩ := hfirst hh hf
        have : i = hh := by
          rcases hr with e | e
          · exact e
          · have := e _ hcl hPre
            have this : listed.getD hh false = true := this
            rcases hsub hh this with x | x
            · rw [f2] at x; cases x
            · rw [f3] at x; cases x
        subst this
        exact hhv i hf fuel listed σ a w he hsz hc hcl hPre h1' hdn hsub hS hfree
    | true =>
      obtain ⟨it, hit⟩ : ∃ it, items[i]? = some it := ⟨_, List.getElem?_eq_getElem (by rw [h.len]; exact hilt)⟩
      obtain ⟨hlp, D0, d1, d2, d3, d4, d5⟩ := h.ok i it hlv hit
      have hops : ∀ m q, items[m]? = some q → ∃ o', ops[m]? = some o' := fun m q hq => ⟨_, Array.getElem?_eq_getElem (by have := (List.getElem?_eq_some_iff.1 hq).1; rw [h.len] at this; exact this)⟩
      have hI : ItemOk pu (nx + i) P ops i it (appD nx (fun k => listed.getD k false && Nat.testBit live k) 0 items s) := by
        refine item_agree d2 (by rw [h1']; rfl) rfl (fun _ _ _ _ => rfl) (fun _ _ => rfl) (fun m q hq hne hmi => ?_) d5
        obtain ⟨o', ho'⟩ := hops m q hq
        rcases (hp.sym (fun e => hmi e.symm) hit hq ho ho').2 with b | b | b
        · exfalso
          cases hD0 : D0 m with
          | true => exact d4 m hD0 b
          | false =>
            rw [hD0] at hne
            have : listed.getD m false = true := by
              cases hx : listed.getD m false with
              | true => rfl
              | false => rw [hx] at hne; exact absurd rfl hne
            have := b _ hcl (hcl m this)
            have this : listed.getD i false = true := this
            rw [h1'] at this; cases this
        · exfalso
          have hDm : listed.getD m false = true := b _ hcl hPre
          rw [hDm, Bool.true_and] at hne
          cases hlm : Nat.testBit live m with
          | true => rw [hlm, d3 m hlm b] at hne; exact hne rfl
          | false =>
            rw [hlm] at hne
            cases hD0 : D0 m with
            | false => rw [hD0] at hne; exact hne rfl
            | true => rw [d1 m hD0] at hlm; cases hlm
        · exact ⟨fun d hd o1 ho1 => by rw [ho] at ho1; cases ho1; exact b.d2 d hd, b.m⟩
      have hset : ∀ k, (listed.setIfInBounds i true).getD k false = (listed.getD k false || Nat.beq k i) := by
        intro k
        by_cases hki : k = i
        · subst hki
          simp [Array.getD, hsz, hilt]
        · rw [beq_ne hki, Bool.or_false]
          exact getD_set_ne (i := i) (j := k) false (fun e => hki e.symm)
      refine item_step hpu hS (hfree i hilt h1') (by rw [appD_nx]; have := h.hx; omega) hI (fun w' p ⟨id, lo, hi, hm⟩ hin hS' => by rw [hm] at hlp; cases hlp) (fun τ a' w' hext hoth hlpi hS' => ?_)
      have hins := appD_insert (nx := nx) (D := fun k => listed.getD k false && Nat.testBit live k) (i := i) (it := it) (l := items) (s := s) (by rw [h1']; rfl) hit
        (fun m q d hmi hq hd hqd => by
          obtain ⟨o', ho'⟩ := hops m q hq
          exact (hp.sym (fun e => hmi e.symm) hit hq ho ho').1 d hd hqd)
        (fun m q hq hlt hDm => by
          obtain ⟨o', ho'⟩ := hops m q hq
          rw [Bool.and_eq_true] at hDm
          rcases (hp i m it q o o' hlt hit hq ho ho').2 with b | b
          · have := b _ hcl (hcl m hDm.1)
            have this : listed.getD i false = true := this
            rw [h1'] at this; cases this
          · exact b.m)
      rw [← hins] at hS'
      have hfun : (fun k => (listed.setIfInBounds i true).getD k false && Nat.testBit live k) = fun j => (listed.getD j false && Nat.testBit live j) || Nat.beq j i := funext fun k => by
        rw [hset]
        cases hk : Nat.beq k i with
        | false => simp
        | true => have := Nat.eq_of_beq_eq_true hk; subst this; rw [hlv]; simp
      refine ih (listed.setIfInBounds i true) τ a' w' (he.trans hext) (by simp [hsz]) ?_ ?_ (fun k hk => by rw [hset, hdn k hk]; rfl) (fun k hk => ?_) (by rw [hfun]; exact hS') ?_
      · have hcd := countP_drop (p := fun k => !(listed.getD k true)) (q := fun k => !((listed.setIfInBounds i true).getD k true)) (i := i) (by simp [h1]) (by simp [Array.getD, hsz, hilt])
          (fun j hj => by rw [getD_set_ne (i := i) (j := j) true (fun e => hj e.symm)]) (List.range ops.size) List.nodup_range (List.mem_range.2 hilt)
        unfold cnt at hc ⊢
        omega
      · intro j hj o' ho' e he' hbd
        have hj' : (listed.setIfInBounds i true).getD j false = true := hj
        show (listed.setIfInBounds i true).getD e.on false = true
        rw [hset] at hj'
        rw [hset]
        rcases Bool.or_eq_true_iff.1 hj' with hx | hx
        · have h9 : listed.getD e.on false = true := hcl j hx o' ho' e he' hbd
          rw [h9]; rfl
        · have := Nat.eq_of_beq_eq_true hx
          subst this
          have h9 : listed.getD e.on false = true := hPre o' ho' e he' hbd
          rw [h9]; rfl
      · rw [hset, Bool.or_eq_true] at hk
        rcases hk with hk | hk
        · exact hsub k hk
        · have := Nat.eq_of_beq_eq_true hk
          subst this; exact .inr hlv
      · intro k hk hl
        rw [hset] at hl
        have h2 : listed.getD k false = false ∧ Nat.beq k i = false := by simpa using hl
        have hki : k ≠ i := fun e => by subst e; simp at h2
        have hf := hfree k hk h2.1
        exact ⟨(hoth (nx + k) (by omega)).1.trans hf.at_, (hoth (nx + k) (by omega)).2.trans hf.sv, by rw [hext.5.2.2.1]; exact hf.dd, by rw [hext.5.2.2.2]; exact hf.ds⟩
theorem afterB_spec {ms : List Nat} {done h : Nat} : ∀ (n : Nat), afterB ms done h n = true → ∀ i, i < n → Nat.testBit done i = true ∨ i = h ∨ Nat.testBit ((nth ms i).getD 0) h = true
  | 0, _, i, hi => by omega
  | n + 1, hh, i, hi => by
    simp only [afterB, Bool.and_eq_true, Bool.or_eq_true] at hh
    rcases Nat.lt_or_ge i n with k | k
    · exact afterB_spec n hh.2 i k
    · have : i = n := by omega
      subst this
      rcases hh.1 with e | e | e
      · exact .inl e
      · exact .inr (.inl (Nat.eq_of_beq_eq_true e))
      · exact .inr (.inr e)
theorem prs_unset {items : List It} {h : Nat} {d : Option Nat} {v : AV} (hh : h < items.length) (h0 : items[h]? = some nilIt) (hp : Prs nx ops (setA items h ⟨d, v, .no⟩)) : Prs nx ops items := by
  have at_ : ∀ k, k ≠ h → (setA items h ⟨d, v, .no⟩)[k]? = items[k]? := fun k hk => by rw [setA_get, if_neg (fun e => hk e.1)]
  have at_h : (setA items h ⟨d, v, .no⟩)[h]? = some ⟨d, v, .no⟩ := by rw [setA_get, if_pos ⟨rfl, hh⟩]
  intro i j r q o o' hij hr hq ho ho'
  by_cases hi : i = h
  · subst hi
    rw [h0] at hr; cases hr
    refine ⟨fun d hd => (by cases hd), ?_⟩
    rcases (hp i j _ q o o' hij at_h (by rw [at_ j (by omega)]; exact hq) ho ho').2 with b | b
    · exact .inl b
    · exact .inr ⟨fun d hd => (by cases hd), b.d2, b.m⟩
  · by_cases hj : j = h
    · subst hj
      rw [h0] at hq; cases hq
      refine ⟨fun d hd => (by simp [nilIt]), ?_⟩
      rcases (hp i j r _ o o' hij (by rw [at_ i hi]; exact hr) at_h ho ho').2 with b | b
      · exact .inl b
      · exact .inr ⟨b.d1, fun d hd => (by cases hd), b.m⟩
    · exact hp i j r q o o' hij (by rw [at_ i hi]; exact hr) (by rw [at_ j hj]; exact hq) ho ho'
/-- a region whose order is open, walked in phases -/
theorem mix_sound {cT : CallT α} (hc : CTok P cT R) (hpu : PuOk P pu) (hb : Back ops) {rd : Bool} {w0 : World} {σ0 : Env} {K : XE → St → Tree α} {Q : Exit → Go.Act → World → Prop}
    (hQ : ∀ τ s' a' w' e ex, Ext σ0 τ → Sat rd w0 τ s' a' w' → ExR τ e ex → (K e s').sat R → Q ex a' w') : ∀ (n dn pd : Nat) (items : List It) (s : St), (evMix P cT pu nx ops (masks ops.toList []) K n dn pd items s).sat R → PhI P pu nx ops dn pd items s →
      ∀ (fuel : Nat) (listed : Array Bool) (σ : Env) (a : Go.Act) (w : World), Ext σ0 σ → listed.size = ops.size → cnt ops.size listed ≤ fuel → Closed ops (fun k => listed.getD k false) →
      (∀ k, Nat.testBit dn k = true → listed.getD k false = true) → (∀ k, listed.getD k false = true → Nat.testBit dn k = true ∨ Nat.testBit pd k = true) → Sat rd w0 σ (appD nx (fun k => listed.getD k false && Nat.testBit pd k) 0 items s) a w →
      (∀ k, k < ops.size → listed.getD k false = false → Free σ (nx + k)) → wpAnyX P rd ops Q fuel listed a w := by
  intro n
  induction n with
  | zero => intro dn pd items s h; exact h.elim
  | succ n ih =>
    intro dn pd items0 s h hI fuel listed σ a w he hsz hcn hcl hdn hsub hS hfree
    simp only [evMix] at h
    have sk : ∀ k, Nat.testBit (dn ||| pd) k = (Nat.testBit dn k || Nat.testBit pd k) := fun k => Nat.testBit_or _ _ _
    obtain ⟨items, live, hvy, first, sc, hw, hlive, h⟩ := evWalk_sat hb (skip := dn ||| pd) (items0 := items0) (sc := appD nx (Nat.testBit pd) 0 items0 s) (List.range ops.size) 0 items0 pd 0 none (appD nx (Nat.testBit pd) 0 items0 s) (fun k => by
        simp only [List.length_range, Nat.zero_add]
        split
        · rename_i hk; simp [hk]
        · rename_i hk; exact List.getElem?_eq_none (by simp; omega)) (by simp)
      ⟨hI.len, fun _ _ => rfl, fun k a b c => hI.nil k a (by rw [sk, Bool.or_eq_false_iff] at b; exact b.1) c, fun k a b => (by rw [sk, a, Bool.or_true] at b; cases b), fun k hk => by omega, fun k hk => (by rw [Nat.zero_testBit] at hk; cases hk), fun k => Nat.zero_testBit k,
        (by
          rw [appD_none items0 0 _ (fun k => Nat.testBit pd k && !Nat.testBit (dn ||| pd) k) (fun m _ => by simp only [Nat.zero_add]; rw [sk]; cases Nat.testBit pd m <;> simp)]), fun k it a b => (by rw [sk, a, Bool.or_true] at b; cases b)⟩ h
    have cont : ∀ (hp : Prs nx ops items), PhI P pu nx ops dn live items s ∧ sc = appD nx (Nat.testBit live) 0 items s ∧ (∀ k, Nat.testBit pd k = true → Nat.testBit live k = true ∧ items[k]? = items0[k]?) := fun hp => hI.walk hb hw hlive hp
    have start : ∀ (_ : ∀ k, Nat.testBit pd k = true → Nat.testBit live k = true ∧ items[k]? = items0[k]?) (_ : ∀ k, Nat.testBit live k = true → Nat.testBit dn k = false), (∀ k, listed.getD k false = true → Nat.testBit dn k = true ∨ Nat.testBit live k = true) ∧ Sat rd w0 σ (appD nx (fun k => listed.getD k false && Nat.testBit live k) 0 items s) a w := by
      intro h1 h2
      refine ⟨fun k hk => (hsub k hk).imp id (fun x => (h1 k x).1), ?_⟩
      have e : appD nx (fun k => listed.getD k false && Nat.testBit live k) 0 items s = appD nx (fun k => listed.getD k false && Nat.testBit pd k) 0 items0 s := by
        refine appD_congr 0 s (by rw [hw.len, hI.len]) (fun m _ => ?_)
        simp only [Nat.zero_add]
        cases hl : listed.getD m false with
        | false => exact ⟨rfl, fun e => by cases e⟩
        | true =>
          simp only [Bool.true_and]
          rcases hsub m hl with x | x
          · have e1 : Nat.testBit live m = false := by
              cases hx : Nat.testBit live m with
              | false => rfl
              | true => rw [h2 m hx] at x; cases x
            have e2 : Nat.testBit pd m = false := by
              cases hx : Nat.testBit pd m with
              | false => rfl
              | true => rw [hI.dis m hx] at x; cases x
            rw [e1, e2]
            exact ⟨rfl, fun e => by cases e⟩
          · rw [x, (h1 m x).1]
            exact ⟨rfl, fun _ => (h1 m x).2⟩
      rw [e]; exact hS
    cases hf : first with
    | none =>
      rw [hf] at h
      simp only at h
      cases hpo : planOk nx ops items with
      | false => rw [hpo] at h; exact h.elim
      | true =>
        rw [hpo, cond_true] at h
        have hp := prs_of hpo (Nat.le_of_eq hw.len)
        obtain ⟨c1, c2, c3⟩ := cont hp
        obtain ⟨s1, s2⟩ := start c3 c1.dis
        have hno := hw.fst
        rw [hf] at hno
        refine phase_any (first := none) hpu hb c1 hp (fun i hi d l => ?_) (fun hh e => by cases e) (fun _ τ a' w' e' hS' => hQ τ _ a' w' .normal .normal e' hS' trivial (by rw [← c2]; exact h)) (fun hh e => by cases e) fuel listed σ a w he hsz hcn hcl hdn s1 s2 hfree
        rcases hw.all i hi with x | x | x
        · rw [sk, d, Bool.false_or] at x
          rw [(c3 i x).1] at l; cases l
        · rw [l] at x; cases x
        · rw [hno i] at x; cases x
    | some hh =>
      rw [hf] at h
      simp only at h
      have hfst := hw.fst
      rw [hf] at hfst
      obtain ⟨f1, f2, f3⟩ := hw.hv hh hfst
      rw [sk, Bool.or_eq_false_iff] at f2
      obtain ⟨o, ho⟩ : ∃ o, ops[hh]? = some o := ⟨_, Array.getElem?_eq_getElem f1⟩
      simp only [ho] at h
      generalize hst : live &&& (nth (masks ops.toList []) hh).getD 0 = st at h
      generalize hq : live ^^^ st = q at h
      generalize (visOf o.op (appD nx (Nat.testBit st) 0 items s).eval) = vis at h
      cases hck : (planOk nx ops (setA items hh ⟨o.dst, .val undef, .no⟩) && (afterB (masks ops.toList []) (dn ||| live) hh ops.size && (hidOf vis nx q 0 items).all (fun i => Nat.blt i s.nx))) with
      | false => rw [hck] at h; exact h.elim
      | true =>
        rw [hck, cond_true] at h
        simp only [Bool.and_eq_true] at hck
        obtain ⟨k1, k2, k3⟩ := hck
        have hpH := prs_of k1 (Nat.le_of_eq (by rw [setA_eq, List.length_set, hw.len]))
        have hnil := hw.nil hh f1 (by rw [sk, f2.1, f2.2]; rfl) f3
        have hp := prs_unset (by rw [hw.len]; exact f1) hnil hpH
        obtain ⟨c1, c2, c3⟩ := cont hp
        obtain ⟨s1, s2⟩ := start c3 c1.dis
        have hops : ∀ m q, items[m]? = some q → ∃ o', ops[m]? = some o' := fun m q hq => ⟨_, Array.getElem?_eq_getElem (by have := (List.getElem?_eq_some_iff.1 hq).1; rw [hw.len] at this; exact this)⟩
        have bst : ∀ k, Nat.testBit st k = (Nat.testBit live k && Nat.testBit ((nth (masks ops.toList []) hh).getD 0) k) := fun k => by rw [← hst, Nat.testBit_and]
        have bq : ∀ k, Nat.testBit q k = (Nat.testBit live k && !Nat.testBit ((nth (masks ops.toList []) hh).getD 0) k) := fun k => by
          rw [← hq, Nat.testBit_xor, bst]
          cases Nat.testBit live k <;> cases Nat.testBit ((nth (masks ops.toList []) hh).getD 0) k <;> rfl
        have mh : ∀ k, Nat.testBit ((nth (masks ops.toList []) hh).getD 0) k = true ↔ Bef ops k hh := fun k => mask_iff hb f1 k
        have stB : ∀ k, Nat.testBit st k = true → Nat.testBit live k = true ∧ Bef ops k hh := fun k hk => by
          rw [bst, Bool.and_eq_true] at hk; exact ⟨hk.1, (mh k).1 hk.2⟩
        have qB : ∀ k, Nat.testBit q k = true → Nat.testBit live k = true ∧ ¬ Bef ops k hh := fun k hk => by
          rw [bq, Bool.and_eq_true, Bool.not_eq_true'] at hk
          exact ⟨hk.1, fun e => by rw [(mh k).2 e] at hk; cases hk.2⟩
        have Bst : ∀ k, Nat.testBit live k = true → Bef ops k hh → Nat.testBit st k = true := fun k h1 h2 => by rw [bst, h1, (mh k).2 h2]; rfl
        have Bq : ∀ k, Nat.testBit live k = true → Nat.testBit st k = false → Nat.testBit q k = true := fun k h1 h2 => by
          rw [bst, h1, Bool.true_and] at h2
          rw [bq, h1, h2]; rfl
        have qst : ∀ k, Nat.testBit q k = true → Nat.testBit st k = false := fun k hk => by
          cases hx : Nat.testBit st k with
          | false => rfl
          | true => exact absurd (stB k hx).2 (qB k hk).2
        have hq_hh : Nat.testBit q hh = false := by
          cases hx : Nat.testBit q hh with
          | false => rfl
          | true => rw [(qB hh hx).1] at f3; cases f3
        have hno : ∀ x m, Nat.testBit q x = true → Nat.testBit st m = true → ¬ Bef ops x m := fun x m hx hm hbef => (qB x hx).2 (hbef.trans (stB m hm).2)
        have at_h : (setA items hh ⟨o.dst, .val undef, .no⟩)[hh]? = some ⟨o.dst, .val undef, .no⟩ := by rw [setA_get, if_pos ⟨rfl, by rw [hw.len]; exact f1⟩]
        have at_n : ∀ k, k ≠ hh → (setA items hh ⟨o.dst, .val undef, .no⟩)[k]? = items[k]? := fun k hk => by rw [setA_get, if_neg (fun e => hk e.1)]
        refine phase_any (first := some hh) hpu hb c1 hp (fun i hi d l => ?_) (fun h' e => by cases e; exact ⟨f1, f2.1, f3⟩) (fun e => by cases e) ?_ fuel listed σ a w he hsz hcn hcl hdn s1 s2 hfree
        · rcases afterB_spec ops.size k2 i hi with x | x | x
          · rw [Nat.testBit_or, d, l] at x; cases x
          · exact .inl x
          · exact .inr ((mask_iff hb hi hh).1 x)
        · intro h' e fuel listed σ a w he hsz hcn hcl hPre hnot hdn hsub hS hfree
          cases e
          have hnx : (appD nx (Nat.testBit st) 0 items s).nx = s.nx := appD_nx _ _ _ _
          have hDst : ∀ k, Nat.testBit st k = true → listed.getD k false = true := fun k hk => (stB k hk).2 _ hcl hPre
          have eS : appD nx (fun k => listed.getD k false && Nat.testBit live k) 0 items s = appD nx (fun k => listed.getD k false && Nat.testBit q k) 0 items (appD nx (Nat.testBit st) 0 items s) := by
            rw [← appD_split hp (Nat.le_of_eq hw.len) s (M := Nat.testBit st) (X := fun k => listed.getD k false && Nat.testBit q k) (fun k hk => qst k (by rw [Bool.and_eq_true] at hk; exact hk.2)) (fun x m hx hm => hno x m (by rw [Bool.and_eq_true] at hx; exact hx.2) hm)]
            refine congrArg (fun D => appD nx D 0 items s) (funext fun k => ?_)
            cases hl : Nat.testBit live k with
            | false =>
              rw [bst, bq, hl]; simp
            | true =>
              cases hs : Nat.testBit st k with
              | true => rw [hDst k hs]; rfl
              | false => rw [Bq k hl hs]; simp
          rw [eS] at hS
          refine hvy_step hc ho (E := fun k => listed.getD k false && Nat.testBit q k) (fun k hk => by rw [Bool.and_eq_true] at hk; exact hk.2) hS (fun t ht htm => ?_) (fun e s1 hk => ?_) h (fun τ s1 x ch a' w' e hS' hx hk => ?_) (fun τ s1 a' w' e u3 hn1 hS' hk => ?_)
          · obtain ⟨m, it, m1, m2, m3⟩ := dstsOf_from htm
            rw [Nat.zero_add] at m2
            have hmh : hh ≠ m := fun e => by rw [← e, hq_hh] at m2; cases m2
            obtain ⟨o', ho'⟩ := hops m it m1
            exact (hpH.sym hmh at_h (by rw [at_n m (fun e => hmh e.symm)]; exact m1) ho ho').1 t ht m3
          · rw [hnx]
            cases hb' : Nat.ble s.nx s1.nx with
            | false => rw [hb'] at hk; exact hk.elim
            | true => exact Nat.le_of_ble_eq_true hb'
          · cases hb' : Nat.ble s.nx s1.nx with
            | false => rw [hb'] at hk; exact hk.elim
            | true =>
              rw [hb', cond_true] at hk
              exact hQ τ _ a' w' (.panic x) (.panic ch) (he.trans e) hS' hx hk
          · cases hb' : Nat.ble s.nx s1.nx with
            | false => rw [hb'] at hk; exact hk.elim
            | true =>
              rw [hb', cond_true] at hk
              simp only at hk
              obtain ⟨hagr, hk⟩ := needHp_sat hk
              have hle : s.nx ≤ s1.nx := Nat.le_of_ble_eq_true hb'
              have hset : ∀ k, (listed.setIfInBounds hh true).getD k false = (listed.getD k false || Nat.beq k hh) := by
                intro k
                by_cases hki : k = hh
                · subst hki
                  simp [Array.getD, hsz, f1]
                · rw [beq_ne hki, Bool.or_false]
                  exact getD_set_ne (i := hh) (j := k) false (fun e => hki e.symm)
              have bd : ∀ k, Nat.testBit (dn ||| st ||| 2 ^ hh) k = ((Nat.testBit dn k || Nat.testBit st k) || Nat.beq k hh) := fun k => by rw [testBit_or1, Nat.testBit_or]
              have hun : ∀ (k : Nat), k < listed.size → listed.getD k true = listed.getD k false := by
                intro k hk
                simp only [Array.getD_eq_getD_getElem?]
                rw [Array.getElem?_eq_getElem hk]; rfl
              refine ih (dn ||| st ||| 2 ^ hh) q items _ hk ⟨hw.len, ?_, fun k hk => c1.lt k (qB k hk).1, fun k hkN hk1 hk2 => ?_, fun k hk => ?_, fun i hi m hbef => ?_, fun i it hi hit => ?_⟩ fuel (listed.setIfInBounds hh true) τ a' w' (he.trans e) (by simp [hsz]) ?_ ?_ (fun k hk => ?_) (fun k hk => ?_) ?_ ?_
              · have := hI.hx
                show nx + ops.size ≤ s1.nx
                omega
              · rw [bd, Bool.or_eq_false_iff, Bool.or_eq_false_iff] at hk1
                refine hw.nil k hkN ?_ ?_
                · rw [sk, hk1.1.1, Bool.false_or]
                  cases hx : Nat.testBit pd k with
                  | false => rfl
                  | true => rw [Bq k (c3 k hx).1 hk1.1.2] at hk2; cases hk2
                · cases hx : Nat.testBit live k with
                  | false => rfl
                  | true => rw [Bq k hx hk1.1.2] at hk2; cases hk2
              · rw [bd, c1.dis k (qB k hk).1, qst k hk, beq_ne (fun e => by rw [e, hq_hh] at hk; cases hk)]; rfl
              · rw [bd]
                rcases c1.cl i (qB i hi).1 m hbef with x | x
                · left; rw [x]; rfl
                · cases hs : Nat.testBit st m with
                  | true => left; simp
                  | false => exact .inr (Bq m x hs)
              · obtain ⟨g1, D0, d1, d2, d3, d4, d5⟩ := c1.ok i it (qB i hi).1 hit
                obtain ⟨oi, hoi⟩ := hops i it hit
                have hiN := c1.lt i (qB i hi).1
                have mi : ∀ k, Nat.testBit ((nth (masks ops.toList []) i).getD 0) k = true ↔ Bef ops k i := fun k => mask_iff hb hiN k
                have hih : i ≠ hh := fun e => by rw [e, hq_hh] at hi; cases hi
                refine ⟨g1, fun m => Nat.testBit q m && Nat.testBit ((nth (masks ops.toList []) i).getD 0) m, fun m hm => ?_, ?_, fun m hm hbef => ?_, fun m hm hbef => ?_, ?_⟩
                · rw [Bool.and_eq_true] at hm; exact hm.1
                · cases hx : Nat.testBit ((nth (masks ops.toList []) i).getD 0) i with
                  | false => show (Nat.testBit q i && Nat.testBit ((nth (masks ops.toList []) i).getD 0) i) = false; rw [hx, Bool.and_false]
                  | true => have := ((mi i).1 hx).lt hb; omega
                · show (Nat.testBit q m && Nat.testBit ((nth (masks ops.toList []) i).getD 0) m) = true
                  rw [hm, (mi m).2 hbef]; rfl
                · rw [Bool.and_eq_true] at hm
                  have := ((mi m).1 hm.2).lt hb
                  have := hbef.lt hb
                  omega
                · -- first to the state where all that comes before the operation is carried out
                  have t1 : ItemOk pu (nx + i) P ops i it (appD nx (fun m => Nat.testBit st m || (Nat.testBit q m && Nat.testBit ((nth (masks ops.toList []) i).getD 0) m)) 0 items s) := by
                    refine item_agree d2 ?_ rfl (fun _ _ _ _ => rfl) (fun _ _ => rfl) (fun m qq hqq hne hmi => ?_) d5
                    · rw [qst i hi]
                      cases hx : Nat.testBit ((nth (masks ops.toList []) i).getD 0) i with
                      | false => simp
                      | true => have := ((mi i).1 hx).lt hb; omega
                    · obtain ⟨o', ho'⟩ := hops m qq hqq
                      rcases (hp.sym (fun e => hmi e.symm) hit hqq hoi ho').2 with b | b | b
                      · exfalso
                        have e1 : D0 m = false := by
                          cases hx : D0 m with
                          | false => rfl
                          | true => exact absurd b (d4 m hx)
                        have e2 : Nat.testBit st m = false := by
                          cases hx : Nat.testBit st m with
                          | false => rfl
                          | true => exact absurd b (hno i m hi hx)
                        have e3 : Nat.testBit ((nth (masks ops.toList []) i).getD 0) m = false := by
                          cases hx : Nat.testBit ((nth (masks ops.toList []) i).getD 0) m with
                          | false => rfl
                          | true =>
                            have := ((mi m).1 hx).lt hb
                            have := b.lt hb
                            omega
                        rw [e1, e2, e3] at hne
                        simp at hne
                      · exfalso
                        have e3 := (mi m).2 b
                        cases hl : Nat.testBit live m with
                        | false =>
                          have e1 : D0 m = false := by
                            cases hx : D0 m with
                            | false => rfl
                            | true => rw [d1 m hx] at hl; cases hl
                          rw [e1, bst, bq, hl] at hne
                          simp at hne
                        | true =>
                          rw [d3 m hl b, e3] at hne
                          cases hs : Nat.testBit st m with
                          | true => rw [hs] at hne; simp at hne
                          | false => rw [hs, Bq m hl hs] at hne; simp at hne
                      · exact ⟨fun d hd o1 ho1 => by rw [hoi] at ho1; cases ho1; exact b.d2 d hd, b.m⟩
                  rw [appD_split hp (Nat.le_of_eq hw.len) s (M := Nat.testBit st) (X := fun m => Nat.testBit q m && Nat.testBit ((nth (masks ops.toList []) i).getD 0) m) (fun k hk => qst k (by rw [Bool.and_eq_true] at hk; exact hk.1)) (fun x m hx hm => hno x m (by rw [Bool.and_eq_true] at hx; exact hx.1) hm)] at t1
                  have hii : (Nat.testBit q i && Nat.testBit ((nth (masks ops.toList []) i).getD 0) i) = false := by
                    cases hx : Nat.testBit ((nth (masks ops.toList []) i).getD 0) i with
                    | false => simp
                    | true => have := ((mi i).1 hx).lt hb; omega
                  refine item_agree (D := fun m => Nat.testBit q m && Nat.testBit ((nth (masks ops.toList []) i).getD 0) m) hii hii hn1 (fun o1 ho1 t ht => ?_) (fun id hid => ?_) (fun m qq _ hne _ => absurd rfl hne) t1
                  · rw [hoi] at ho1; cases ho1
                    show oneTm o.dst _ s1.tm t = _
                    unfold oneTm
                    cases hd : o.dst with
                    | none => rfl
                    | some d =>
                      refine upd_other _ _ fun e => ?_
                      subst e
                      rcases (hpH.sym hih (by rw [at_n i hih]; exact hit) at_h hoi ho).2 with b | b | b
                      · exact (qB i hi).2 b
                      · rcases c1.cl i (qB i hi).1 hh b with x | x
                        · rw [f2.1] at x; cases x
                        · rw [f3] at x; cases x
                      · exact b.d2 _ hd ht
                  · show mergeHp (hidOf vis nx q 0 items) _ s1.hp id = _
                    unfold mergeHp
                    rcases memId_hid (vis := vis) hid with hv | ⟨hv, hm⟩
                    · rw [inB_t.2 (hidOf_mem (k := 0) hit (by simpa using hi) hv)]
                      rfl
                    · cases hb2 : inB (hidOf vis nx q 0 items) id with
                      | true => rfl
                      | false => exact hagr id (bothB_mem hv (ldsOf_mem (k := 0) hit (by simpa using hi) hm))
              · have hcd := countP_drop (p := fun k => !(listed.getD k true)) (q := fun k => !((listed.setIfInBounds hh true).getD k true)) (i := hh) (by rw [hun hh (by omega), hnot]; rfl) (by simp [Array.getD, hsz, f1])
                  (fun j hj => by rw [getD_set_ne (i := hh) (j := j) true (fun e => hj e.symm)]) (List.range ops.size) List.nodup_range (List.mem_range.2 f1)
                unfold cnt at hcn ⊢
                omega
              · intro j hj o' ho' e he' hbd
                have hj' : (listed.setIfInBounds hh true).getD j false = true := hj
                show (listed.setIfInBounds hh true).getD e.on false = true
                rw [hset] at hj'
                rw [hset]
                rcases Bool.or_eq_true_iff.1 hj' with hx | hx
                · have h9 : listed.getD e.on false = true := hcl j hx o' ho' e he' hbd
                  rw [h9]; rfl
                · have := Nat.eq_of_beq_eq_true hx
                  subst this
                  have h9 : listed.getD e.on false = true := hPre o' ho' e he' hbd
                  rw [h9]; rfl
              · rw [bd, Bool.or_eq_true, Bool.or_eq_true] at hk
                rw [hset, Bool.or_eq_true]
                rcases hk with (x | x) | x
                · exact .inl (hdn k x)
                · exact .inl (hDst k x)
                · exact .inr x
              · rw [hset, Bool.or_eq_true] at hk
                rw [bd]
                rcases hk with x | x
                · rcases hsub k x with y | y
                  · left; rw [y]; rfl
                  · cases hs : Nat.testBit st k with
                    | true => left; simp
                    | false => exact .inr (Bq k y hs)
                · left; rw [x, Bool.or_true]
              · have e2 : (fun k => (listed.setIfInBounds hh true).getD k false && Nat.testBit q k) = fun k => listed.getD k false && Nat.testBit q k := funext fun k => by
                  rw [hset]
                  cases hk' : Nat.beq k hh with
                  | false => rw [Bool.or_false]
                  | true => have := Nat.eq_of_beq_eq_true hk'; subst this; rw [hq_hh]; simp
                rw [e2]; exact hS'
              · intro k hk hl
                rw [hset, Bool.or_eq_false_iff] at hl
                have hf := hfree k hk hl.1
                have hlt : nx + k < (appD nx (Nat.testBit st) 0 items s).nx := by rw [hnx]; have := hI.hx; omega
                exact ⟨(u3 _ hlt).1.trans hf.at_, (u3 _ hlt).2.trans hf.sv, by rw [e.5.2.2.1]; exact hf.dd, by rw [e.5.2.2.2]; exact hf.ds⟩

theorem draw_sound {cT : CallT α} (hc : CTok P cT R) (hmix : P.follows .mixedOrders = true) (hpu : PuOk P pu) {rd : Bool} {w0 : World} {σ : Env} {s : St} {a : Go.Act} {w : World} {K : XE → St → Tree α} {fn : FuncId} {id : Nat} {ops : Array Oper} (hS : Sat rd w0 σ s a w) (hnd : rd = true → noDefer ops = true)
    (h : (evPlan P pu s.nx ops (fun items s' =>
      bif planOk s.nx ops items && fullOk (lenA items) 0 (masks ops.toList []) then match pans items with
          | some none => evOps P cT ops ((List.range ops.size).drop (lenA items)) s' K
          | some (some (c, p)) => bif c then evOps P cT ops ((List.range ops.size).drop (lenA items)) s' K else K (.panic (pvA p)) (wipe items { s with nx := s.nx + ops.size })
          | none => .fail
        else bif edgesOk ops.toList 0 then evMix P cT pu s.nx ops (masks ops.toList []) K (ops.size + 1) 0 0 (List.replicate ops.size nilIt) { s with nx := s.nx + ops.size }
        else .fail) (List.range ops.size) [] { s with nx := s.nx + ops.size }).sat R) :
    Code.wpX P rd fn (.region id ops true) (fun e a' w' => ∃ τ x s', Ext σ τ ∧ Sat rd w0 τ s' a' w' ∧ ExR τ x e ∧ (K x s').sat R) a w := by
  obtain ⟨items, h1, h2, h3⟩ := evPlan_sat (s0 := { s with nx := s.nx + ops.size }) (List.range ops.size) [] _ rfl (fun k => by
    simp only [List.length_range, List.length_nil, Nat.zero_add]
    split
    · rename_i hk; simp [hk]
    · rename_i hk; exact List.getElem?_eq_none (by simp; omega)) (fun i it hi => by simp at hi) h
  have hlen : items.length ≤ ops.size := by simpa using h1
  simp only [lenA_eq] at h3
  cases hp : (planOk s.nx ops items && fullOk items.length 0 (masks ops.toList [])) with
  | false =>
    rw [hp, cond_false] at h3
    cases heo : edgesOk ops.toList 0 with
    | false => rw [heo] at h3; exact h3.elim
    | true =>
      rw [heo, cond_true] at h3
      have hb : Back ops := by
        intro j o ho e he hb
        have := edges_spec ops.toList 0 heo j o (by simpa using ho) e he hb
        omega
      have hk := hS.h
      have hh0 : HRel w0.heap.size σ s.hp (s.nx + ops.size) { w with drawn := w.drawn + 1 } :=
        ⟨fun id o hi => (hk.ob id o hi).keep (Ext.refl σ) rfl (fun _ _ => rfl), hk.inj, fun i hi => hk.fresh i (by omega), hk.bound, hk.mem.keep (fun _ _ _ _ => rfl), hk.sep, hk.low, hk.kp.keep (Nat.le_refl _) (fun _ _ => rfl) (fun _ h => h), hk.rs.up (by omega)⟩
      refine wpX_region_any hmix hnd ?_
      have hget : ∀ k, (Array.replicate ops.size false).getD k false = false := by
        intro k
        simp only [Array.getD_eq_getD_getElem?, Array.getElem?_replicate]
        split <;> rfl
      refine mix_sound hc hpu hb (rd := rd) (w0 := w0) (σ0 := σ) (fun τ s' a' w' e ex he hS' hx hk => ⟨τ, e, s', he, hS', hx, hk⟩) (ops.size + 1) 0 0 (List.replicate ops.size nilIt) _ h3
        ⟨by simp, Nat.le_refl _, fun k hk => (by rw [Nat.zero_testBit] at hk; cases hk), fun k hk _ _ => (by simp [hk]), fun k hk => (by rw [Nat.zero_testBit] at hk; cases hk), fun i hi => (by rw [Nat.zero_testBit] at hi; cases hi), fun i it hi => (by rw [Nat.zero_testBit] at hi; cases hi)⟩
        ops.size (Array.replicate ops.size false) σ a _ (Ext.refl _) (by simp) ?_ (fun j hj => (by have hj : (Array.replicate ops.size false).getD j false = true := hj; rw [hget] at hj; cases hj)) (fun k hk => (by rw [Nat.zero_testBit] at hk; cases hk)) (fun k hk => (by rw [hget] at hk; cases hk)) ?_ (fun k _ _ => ?_)
      · unfold cnt
        exact Nat.le_trans List.countP_le_length (by simp)
      · rw [appD_none _ 0 _ _ (fun m _ => by rw [hget]; rfl)]
        exact ⟨hh0, hS.tm, hS.n, hS.df, hS.bl.drew, hS.rd⟩
      · have := hS.h.free (i := s.nx + k) (by omega)
        exact this
  | true =>
    simp only [hp, cond_true] at h3
    rw [Bool.and_eq_true] at hp
    obtain ⟨hp, hfl⟩ := hp
    have hfull : Full ops items.length := full_of hfl
    have hedge : ∀ j o, ops[j]? = some o → ∀ e ∈ o.after, Region.binds .any e = true → e.on < j := by
      intro j o ho e he hb
      simp only [planOk, Bool.and_eq_true] at hp
      have := edges_spec ops.toList 0 hp.1 j o (by simpa using ho) e he hb
      omega
    refine wpX_region_any hmix hnd ?_
    have hh0 : HRel w0.heap.size σ s.hp (s.nx + ops.size) { w with drawn := w.drawn + 1 } := by
      have hk := hS.h
      exact ⟨fun id o hi => (hk.ob id o hi).keep (Ext.refl σ) rfl (fun _ _ => rfl), hk.inj, fun i hi => hk.fresh i (by omega), hk.bound, hk.mem.keep (fun _ _ _ _ => rfl), hk.sep, hk.low, hk.kp.keep (Nat.le_refl _) (fun _ _ => rfl) (fun _ h => h), hk.rs.up (by omega)⟩
    have hS0 : Sat rd w0 σ { s with nx := s.nx + ops.size } a { w with drawn := w.drawn + 1 } := ⟨hh0, hS.tm, hS.n, hS.df, hS.bl.drew, hS.rd⟩
    have hD0 : (fun k => (Array.replicate ops.size false).getD k false) = fun _ => false := by
      funext k
      simp only [Array.getD_eq_getD_getElem?, Array.getElem?_replicate]
      split <;> rfl
    have hnone : ∀ (l : List It) (k : Nat) (s' : St), appD s.nx (fun _ => false) k l s' = s' := by
      intro l
      induction l with
      | nil => intros; rfl
      | cons x l ih => intro k s'; simp only [appD, cond_false]; exact ih _ _
    obtain ⟨o, ho⟩ : ∃ o, pans items = some o := by
      cases hpn : pans items with
      | none => rw [hpn] at h3; exact h3.elim
      | some o => exact ⟨o, rfl⟩
    rw [ho] at h3
    have hspec := pans_spec ho
    refine plan_any (w0 := w0) hpu hp hlen hfull (s := { s with nx := s.nx + ops.size }) rfl (fun i it hi => by
      rw [appD_take items 0 _ (Nat.zero_le _)]; exact h2 i it hi) ops.size (Array.replicate ops.size false) σ a _ (by simp) ?_ ?_ (fun k _ => congrFun hD0 k) ?_ ?_ ?_ ?_ ?_
    · unfold cnt
      exact Nat.le_trans List.countP_le_length (by simp)
    · rw [hD0]; intro j hj; simp at hj
    · rw [hD0, hnone]; exact hS0
    · intro k _ _; exact hS.h.free (by omega)
    · intro k it _ hk
      rw [congrFun hD0 k] at hk; cases hk
    · rintro D τ a' w' p he hS' hin ⟨i, it, id, lo, hi, hi1, hi2⟩
      obtain ⟨c, rfl, hc1⟩ := hspec.1 it (List.mem_of_getElem? hi1) id lo hi false p hi2
      cases c with
      | true => cases hc1 rfl
      | false =>
        simp only [cond_false] at h3
        exact ⟨τ, .panic (pvA p), _, he, hS'.wiped (s0 := { s with nx := s.nx + ops.size }) (fun i hi => (hS.h.fresh i hi).2.2) rfl, ⟨_, pvA_rep hin, rfl⟩, h3⟩
    · intro fuel' listed' τ a' w' he hsz hcn hl hall hS'
      rw [appAll_D] at hS'
      replace h3 : (evOps P cT ops ((List.range ops.size).drop items.length) (appAll s.nx 0 items { s with nx := s.nx + ops.size }) K).sat R := by
        cases o with
        | none => exact h3
        | some z =>
          obtain ⟨c, p⟩ := z
          have : c = true := hspec.2 c p rfl fun it hit id lo hi c' p' hm => by
            have := hall it hit
            rw [hm] at this
            exact this
          subst this
          exact h3
      exact tail_any hc hfull hedge (ops.size - items.length) items.length (by omega) (Nat.le_refl _) fuel' listed' τ _ a' w' hsz hcn hl hS' h3 (fun τ' s' a2 w2 x2 ex2 e2 hS2 hx2 hk2 => ⟨τ', x2, s', he.trans e2, hS2, hx2, hk2⟩)
end
end V
end Go.Proofs.Ytgchccljmjmibaa
/- That the symbolic evaluator of the text Va is sound, last part: code, loops over functions, functions. -/
namespace Go.Proofs.Ytgchccljmjmibaa
open Go.RowKit
namespace V

theorem sat_bind {β γ : Type} {R : γ → Prop} (t : Tree β) (f : β → Tree γ) : (t.bind f).sat R ↔ t.sat (fun x => (f x).sat R) := by
  induction t with
  | leaf a => rfl
  | need p t ih => simp only [Tree.bind, Tree.sat, ih]
  | br c t e ih1 ih2 => cases c <;> simp [Tree.bind, Tree.sat, ih1, ih2]
  | fail => rfl

theorem bif_false {α : Type} {R : α → Prop} {b : Bool} {t : Tree α} (hb : b = false) (h : (bif b then .fail else t).sat R) : t.sat R := by subst hb; exact h
def XRes (rd : Bool) (w0 : World) (σ : Env) (R' : XE → St → Prop) (e : Exit) (a' : Go.Act) (w' : World) : Prop :=
  ∃ τ x s', Ext σ τ ∧ Sat rd w0 τ s' a' w' ∧ ExR τ x e ∧ R' x s'
/-- what is owed for the summary of a loop -/
def LoopOk (P : Program) (fn : FuncId) (c : Code) (f : St → Tree (XE × St)) : Prop :=
  ∀ (w0 : World) (σ : Env) (s : St) (a : Go.Act) (w : World) (R : XE × St → Prop), Sat false w0 σ s a w → (f s).sat R → Code.wpX P false fn (.loop c) (XRes false w0 σ fun x s' => R (x, s')) a w
def loopsOf : Code → List Code
  | .seq a b => loopsOf a ++ loopsOf b
  | .cond _ a b => loopsOf a ++ loopsOf b
  | .block _ c => loopsOf c
  | .loop c => c :: loopsOf c
  | .scope c => loopsOf c
  | _ => []

section
variable {P : Program} {α : Type} {cT : CallT α} {R : α → Prop}

/-- the world is turned where nothing that lives lies -/
theorem HRel.other {B : Nat} {σ : Env} {hp : Heap} {nx : Nat} {w w' : World} (h : HRel B σ hp nx w) (hsz : w.heap.size ≤ w'.heap.size)
    (keep : ∀ j n, hp j ≠ none → σ j = some n → w'.heap[n]? = w.heap[n]?) (kmem : ∀ n oo v, σ.mem n oo = some v → w'.heap[n]? = w.heap[n]?) (kkp : ∀ n, σ.kp n ≠ none → w'.heap[n]? = w.heap[n]?) : HRel B σ hp nx w' :=
  ⟨fun j o hj => (h.ob j o hj).keep (Ext.refl σ) rfl fun n hn => keep j n (by rw [hj]; simp) hn, h.inj, h.fresh, fun i n hn => Nat.lt_of_lt_of_le (h.bound i n hn) hsz, h.mem.keep kmem, h.sep, h.low, h.kp.keep hsz kkp (fun _ h => h), h.rs⟩
theorem HRel.gone {B : Nat} {σ : Env} {hp : Heap} {nx : Nat} {w : World} (h : HRel B σ hp nx w) {id n : Nat} (hid : hp id ≠ none) (hn : σ id = some n) (o : Obj) : HRel B σ (upd hp id none) nx (w.putObj n o) := by
  refine (h.less (less_none hp id)).other (by simp) ?_ ?_ ?_
  · intro j k hj hk
    have hne : j ≠ id := fun e => by subst e; rw [upd_same] at hj; exact hj rfl
    rw [upd_other _ _ hne] at hj
    exact World.putObj_heap_other fun e => hne (h.inj j id n hj hid (e ▸ hk) hn)
  · intro k oo v hv
    refine World.putObj_heap_other fun e => ?_
    subst e
    rw [h.sep id k hid hn oo] at hv; cases hv
  · intro k hk
    refine World.putObj_heap_other fun e => ?_
    subst e
    exact hk (h.kp.sep id k hid hn)
theorem range_sound (hc : CTok P cT R) {w0 : World} {σ : Env} {s : St} {a : Go.Act} {w : World} {fn : FuncId} {f : Operand} {params : Array Nat} {assign body : Code} {K : XE → St → Tree α} (hS : Sat false w0 σ s a w)
    {pu : List (Nat × PureT)} {u : Nat} {L : LoopT} (h : (evC P cT pu fn u L (.rangeFunc f params assign body) s K).sat R) :
    Code.wpX P false fn (.rangeFunc f params assign body) (XRes false w0 σ fun x s' => (K x s').sat R) a w := by
  simp only [evC] at h
  replace h := bif_false hS.rd h
  have hf := hS.eval f
  cases hfv : s.eval f with
  | fn F first cap =>
    cases F with
    | func gf =>
      rw [hfv] at h hf
      simp only [Rep] at hf
      obtain ⟨xf, xc, r1, r2, r3⟩ := hf
      simp only at h
      obtain ⟨τ1, e1, t1, _, H1⟩ := hS.h.new (obj := .deferred (some [])) (o := .dfr) (sv := none) (fun τ _ _ k1 _ => ⟨w.heap.size, k1, by show (w.heap.push _)[w.heap.size]? = _; simp, hS.bl.size⟩)
      obtain ⟨τ2, e2, t2, _, H2⟩ := H1.new (obj := .loop { state := .ready, pending := none, fn := fn, tmps := a.tmps, params := params, assign := assign, body := body, defers := w.heap.size }) (o := .lp ⟨s.tm, s.n, fn, params.toList, assign, body, .ready, none, s.nx⟩) (sv := none)
        (fun τ e _ k1 _ => ⟨(w.alloc (.deferred (some []))).heap.size, { state := .ready, pending := none, fn := fn, tmps := a.tmps, params := params, assign := assign, body := body, defers := w.heap.size }, k1, by show ((w.alloc (.deferred (some []))).heap.push _)[(w.alloc (.deferred (some []))).heap.size]? = _; rw [Array.getElem?_push_size], ⟨fun t => (hS.tm t).mono (e1.trans e), hS.n, rfl, rfl, rfl, rfl, rfl, rfl⟩, by simp; have := hS.bl.size; omega⟩)
      have hsz : (w.alloc (.deferred (some []))).heap.size = w.heap.size + 1 := by simp
      rw [hsz] at t2
      have e12 := e1.trans e2
      have hargs : RepL τ2 (first ++ [.yld (s.nx + 1)] ++ cap) (xf ++ [.func (.yield (w.heap.size + 1)) #[] #[]] ++ xc) :=
        ((r1.mono e12).append (by simp only [RepL, Rep]; exact ⟨_, [], rfl, ⟨_, t2, rfl⟩, rfl⟩)).append (r2.mono e12)
      have hB2 : Below w0.heap.size w0 (loopW w fn a.tmps params assign body) := (hS.bl.alloc hS.bl.size _).alloc (by simp; have := hS.bl.size; omega) _
      obtain ⟨c1, c2⟩ := hc w0 τ2 _ (s.nx + 2) (loopW w fn a.tmps params assign body) (.fn gf) _ _ _ H2 hB2 hargs h
      have hua : (xf ++ [Value.func (.yield (w.heap.size + 1)) #[] #[]] ++ xc).toArray = xf.toArray ++ #[Value.func (.yield (w.heap.size + 1)) #[] #[]] ++ xc.toArray := by simp
      rw [hua] at c1 c2
      refine wpX_rangeFunc r3 c1 (c2.mono ?_)
      rintro e w3 ⟨y, τ, hp', nx', e3, H3, B3, hout, hk⟩
      have e0 := e12.trans e3
      cases e with
      | outgrown => cases y <;> exact hout.elim
      | returned v => cases y with
        | pan x => exact hout.elim
        | ret x =>
          simp only at hk
          split at hk <;> try (simp [Tree.sat] at hk; done)
          rename_i r hr
          obtain ⟨n, L, l1, l2, l3, l4⟩ := H3.ob (s.nx + 1) _ hr
          have hn : n = w.heap.size + 1 := Option.some.inj (l1.symm.trans (e3.1 _ _ t2))
          subst hn
          have hnb : r.st ≠ .busy := by intro e; rw [e] at hk; simp [Tree.sat] at hk
          replace hk : (match r.pend with
              | none => K .normal { s with hp := upd hp' (s.nx + 1) none, nx := nx', df := .mark s.nx :: s.df }
              | some c => match jumpOf c with
                | some e => K e { s with hp := upd hp' (s.nx + 1) none, nx := nx', df := .mark s.nx :: s.df }
                | none => .fail : Tree α).sat R := by
            cases hst : r.st <;> rw [hst] at hk hnb <;> first | exact hk | exact absurd rfl hnb
          rw [← l3.st] at hnb
          rw [← l3.pend] at hk
          have H4 := H3.gone (by rw [hr]; simp) l1 (.loop { L with state := .exhausted })
          have hS' : Sat false w0 τ { s with hp := upd hp' (s.nx + 1) none, nx := nx', df := .mark s.nx :: s.df } { a with defers := { target := .collected w.heap.size, args := #[] } :: a.defers } (w3.putObj (w.heap.size + 1) (.loop { L with state := .exhausted })) :=
            ⟨H4, fun t => (hS.tm t).mono e0, hS.n, .cons ⟨w.heap.size, (e2.trans e3).1 _ _ t1, rfl⟩ (hS.df.mono e0), below_putObj B3 (by have := hS.bl.size; omega) _, hS.rd⟩
          generalize hW : w3.putObj (w.heap.size + 1) (.loop { L with state := .exhausted }) = W at hS'
          refine ⟨L, W, l2, hnb, hW.symm, ?_⟩
          clear hW
          split
          · rename_i hp
            rw [hp] at hk; exact ⟨τ, .normal, _, e0, hS', trivial, hk⟩
          · rename_i hp
            rw [hp] at hk; exact ⟨τ, .ret, _, e0, hS', trivial, hk⟩
          · rename_i id hp
            rw [hp] at hk; exact ⟨τ, .exit id, _, e0, hS', rfl, hk⟩
          · rename_i h1 h2 h3
            cases hp : L.pending with
            | none => exact h1 hp
            | some c =>
              rw [hp] at hk
              cases c with
              | ret => exact h2 hp
              | exit id => exact h3 id hp
              | _ => simp [jumpOf, Tree.sat] at hk
      | panicked ch => cases y with
        | ret x => exact hout.elim
        | pan x =>
          simp only at hk
          have hS' : Sat false w0 τ { s with hp := hp', nx := nx', df := .mark s.nx :: s.df } { a with defers := { target := .collected w.heap.size, args := #[] } :: a.defers } w3 :=
            ⟨H3, fun t => (hS.tm t).mono e0, hS.n, .cons ⟨w.heap.size, (e2.trans e3).1 _ _ t1, rfl⟩ (hS.df.mono e0), B3, hS.rd⟩
          exact ⟨τ, .panic x, _, e0, hS', hout, hk⟩
    | _ => rw [hfv] at h; simp [Tree.sat] at h
  | _ => rw [hfv] at h; simp [Tree.sat] at h

theorem evC_sound (hmix : P.follows .mixedOrders = true) {pu : List (Nat × PureT)} (hpu : PuOk P pu) (hc : CTok P cT R) {rd : Bool} {w0 : World} (fn : FuncId) (u : Nat) (L : LoopT) : ∀ (c : Code) (_ : ∀ d ∈ loopsOf c, ∀ f, L (keyOf d) = some f → LoopOk P fn d f) (σ : Env) (s : St) (a : Go.Act) (w : World) (K : XE → St → Tree α),
    Sat rd w0 σ s a w → (evC P cT pu fn u L c s K).sat R → Code.wpX P rd fn c (XRes rd w0 σ fun x s' => (K x s').sat R) a w
  | .skip, _, σ, s, a, w, K, hS, h => wpX_skip ⟨σ, .normal, s, Ext.refl _, hS, trivial, by simpa [evC] using h⟩
  | .region id ops draw, _, σ, s, a, w, K, hS, h => by
    have key : ∀ t : Tree α, (bif s.rd && !(noDefer ops) then .fail else t).sat R → t.sat R ∧ (rd = true → noDefer ops = true) := by
      intro t ht
      rw [hS.rd] at ht
      cases rd with
      | false => exact ⟨by simpa using ht, by simp⟩
      | true =>
        cases hn : noDefer ops with
        | true => rw [hn] at ht; exact ⟨by simpa using ht, fun _ => rfl⟩
        | false => rw [hn] at ht; simp [Tree.sat] at ht
    cases draw with
    | true =>
      simp only [evC] at h
      obtain ⟨h1, h2⟩ := key _ h
      exact draw_sound (K := K) hc hmix hpu hS h2 h1
    | false =>
      simp only [evC] at h
      obtain ⟨h1, h2⟩ := key _ h
      exact wpX_region h2 (evOps_sound hc _ σ s a w hS h1 (fun τ s' a' w' e ex he hS' hx h' => ⟨τ, e, s', he, hS', hx, h'⟩))
  | .seq x y, hL, σ, s, a, w, K, hS, h => by
    simp only [evC] at h
    have h1 := evC_sound hmix hpu hc fn u L x (fun d hd => hL d (by simp [loopsOf, hd])) σ s a w _ hS h
    refine wpX_seq (wpX_mono h1 ?_)
    rintro e a' w' ⟨τ, x', s', he, hS', hx, h'⟩
    cases x' <;> cases e <;> simp only [ExR] at hx <;> simp only at h'
    · have h2 := evC_sound hmix hpu hc fn u L y (fun d hd => hL d (by simp [loopsOf, hd])) τ s' a' w' K hS' h'
      exact wpX_mono h2 fun e a2 w2 ⟨τ2, x2, s2, e2, hS2, hx2, h2⟩ => ⟨τ2, x2, s2, he.trans e2, hS2, hx2, h2⟩
    · exact ⟨τ, .exit _, s', he, hS', hx, h'⟩
    · exact ⟨τ, .ret, s', he, hS', trivial, h'⟩
    · exact ⟨τ, .panic _, s', he, hS', hx, h'⟩
  | .cond o x y, hL, σ, s, a, w, K, hS, h => by
    simp only [evC] at h
    have hr := hS.eval o
    cases ho : s.eval o with
    | bool b =>
      rw [ho] at hr h
      simp only [Rep] at hr
      have hl : Sat rd w0 σ (learn o b s) a w := by
        cases o with
        | tmp t =>
          simp only [learn]
          cases Nat.ble s.n t with
          | true => exact hS
          | false => exact hS.learn (by simp only [Go.Act.eval] at hr; rw [hr]; simp only [Rep])
        | _ => exact hS
      cases b with
      | true => exact wpX_cond_true hr (evC_sound hmix hpu hc fn u L x (fun d hd => hL d (by simp [loopsOf, hd])) σ _ a w K hl (by simpa using h))
      | false => exact wpX_cond_false hr (evC_sound hmix hpu hc fn u L y (fun d hd => hL d (by simp [loopsOf, hd])) σ _ a w K hl (by simpa using h))
    | _ => rw [ho] at h; simp [Tree.sat] at h
  | .block id c, hL, σ, s, a, w, K, hS, h => by
    simp only [evC] at h
    have h1 := evC_sound hmix hpu hc fn u L c (fun d hd => hL d (by simpa [loopsOf] using hd)) σ s a w _ hS h
    refine wpX_block (wpX_mono h1 ?_)
    rintro e a' w' ⟨τ, x', s', he, hS', hx, h'⟩
    cases x' <;> cases e <;> simp only [ExR] at hx <;> simp only at h'
    · exact ⟨τ, .normal, s', he, hS', trivial, h'⟩
    · rename_i i j
      subst hx
      simp only [Exit.inBlock]
      by_cases hid : i = id
      · subst hid
        rw [if_pos rfl]
        exact ⟨τ, .normal, s', he, hS', trivial, by simpa using h'⟩
      · rw [if_neg hid]
        exact ⟨τ, .exit i, s', he, hS', rfl, by simpa [beq_ne hid] using h'⟩
    · exact ⟨τ, .ret, s', he, hS', trivial, h'⟩
    · exact ⟨τ, .panic _, s', he, hS', hx, h'⟩
  | .loop c, hL, σ, s, a, w, K, hS, h => by
    simp only [evC] at h
    cases hl : L (keyOf c) with
    | some f =>
      simp only [hl] at h
      cases hrd : rd with
      | true => rw [hS.rd, hrd] at h; simp [Tree.sat] at h
      | false =>
        subst hrd
        rw [hS.rd, cond_false, sat_bind] at h
        exact hL c (by simp [loopsOf]) f hl w0 σ s a w _ hS h
    | none =>
      simp only [hl] at h
      have key : ∀ (n : Nat) (σ' : Env) (s : St) (a : Go.Act) (w : World), Ext σ σ' → Sat rd w0 σ' s a w → (unroll (Nat.ble 1000 u) n (fun s K => evC P cT pu fn u L c s K) s K).sat R →
          roundsX P rd fn c (XRes rd w0 σ fun x s' => (K x s').sat R) n a w := by
        intro n
        induction n with
        | zero => intro σ' s a w _ _ h; simp [unroll, Tree.sat] at h
        | succ n ih =>
          intro σ' s a w e0 hS h
          simp only [unroll, tidyS_eq] at h
          replace h : (evC P cT pu fn u L c s fun e s' => match e with
            | .normal => unroll (Nat.ble 1000 u) n (fun s K => evC P cT pu fn u L c s K) s' K
            | e => K e s').sat R := by
            cases hb : (Nat.ble 1000 u && Nat.beq (n % 8) 0) with
            | true => rw [hb] at h; exact h
            | false => rw [hb] at h; exact h
          have h1 := evC_sound hmix hpu hc fn u L c (fun d hd => hL d (by simp [loopsOf, hd])) σ' s a w _ hS h
          refine wpX_mono h1 ?_
          rintro e a' w' ⟨τ, x', s', he, hS', hx, h'⟩
          cases x' <;> cases e <;> simp only [ExR] at hx <;> simp only at h'
          · exact ih τ s' a' w' (e0.trans he) hS' h'
          · exact ⟨τ, .exit _, s', e0.trans he, hS', hx, h'⟩
          · exact ⟨τ, .ret, s', e0.trans he, hS', trivial, h'⟩
          · exact ⟨τ, .panic _, s', e0.trans he, hS', hx, h'⟩
      exact wpX_loop_rounds u (key u σ s a w (Ext.refl _) hS h)
  | .exit id, _, σ, s, a, w, K, hS, h => wpX_exit ⟨σ, .exit id, s, Ext.refl _, hS, rfl, by simpa [evC] using h⟩
  | .ret, _, σ, s, a, w, K, hS, h => wpX_ret ⟨σ, .ret, s, Ext.refl _, hS, trivial, by simpa [evC] using h⟩
  | .rangeFunc f ps x y, _, σ, s, a, w, K, hS, h => by
    cases hrd : rd with
    | true => simp only [evC] at h; rw [hS.rd, hrd] at h; simp [Tree.sat] at h
    | false => subst hrd; exact range_sound hc hS h
  | .scope c, hL, σ, s, a, w, K, hS, h => by
    simp only [evC] at h
    exact wpX_scope (evC_sound hmix hpu hc fn u L c (fun d hd => hL d (by simpa [loopsOf] using hd)) σ s a w _ hS h)
  | .label _, _, σ, s, a, w, K, hS, h => wpX_label ⟨σ, .normal, s, Ext.refl _, hS, trivial, by simpa [evC] using h⟩
  | .goto _, _, _, _, _, _, _, _, h => by simp [evC, Tree.sat] at h
  | .refuse _, _, _, _, _, _, _, _, h => by simp [evC, Tree.sat] at h
end
end V
end Go.Proofs.Ytgchccljmjmibaa
/- That the symbolic evaluator of the text Va is sound: functions, their summaries, rounds of loops over functions. -/
namespace Go.Proofs.Ytgchccljmjmibaa
open Go.RowKit
namespace V

/-- what is owed for the summary of a function that turns memory -/
def SpecOk (P : Program) (f : FuncId) (c : Heap → Nat → List AV → Tree (Out × Heap × Nat)) : Prop :=
  ∀ (w0 : World) (σ : Env) (hp : Heap) (nx : Nat) (w : World) (xs : List AV) (us : List Value) (R : Out × Heap × Nat → Prop),
    HRel w0.heap.size σ hp nx w → Below w0.heap.size w0 w → RepL σ xs us → (c hp nx xs).sat R →
    Calls' P f us.toArray w fun e w' => ∃ y τ hp' nx', Ext σ τ ∧ HRel w0.heap.size τ hp' nx' w' ∧ Below w0.heap.size w0 w' ∧ OutR τ y e ∧ R (y, hp', nx')

structure CtxOk (X : Ctx) : Prop where
  mix : X.P.follows .mixedOrders = true
  pures : PuOk X.P X.pures
  fns : ∀ p ∈ X.fns, X.P.funcs[p.1]? = some p.2 ∧ (p.2.name == "runtime.NumGoroutine") = false ∧ (∀ c, p.2.body = some c → ∀ d ∈ loopsOf c, ∀ f, assoc2 X.loops p.1 (keyOf d) = some f → LoopOk X.P p.1 d f)
  specs : ∀ p ∈ X.specs, Plain X.P p.1 ∧ SpecOk X.P p.1 p.2

theorem frameOf_rep {σ : Env} : ∀ (xs : List AV) (us : List Value), RepL σ xs us → ∀ (n t : Nat), Rep σ (frameOf xs t) ((us ++ List.replicate n undef)[t]?.getD undef)
  | [], us, h, n, t => by
    simp only [RepL] at h; subst h
    simp only [frameOf, Rep, List.nil_append, List.getElem?_replicate]
    split <;> rfl
  | x :: xs, us, h, n, t => by
    simp only [RepL] at h
    obtain ⟨v, us', rfl, h1, h2⟩ := h
    cases t with
    | zero => simpa [frameOf] using h1
    | succ t => simpa [frameOf] using frameOf_rep xs us' h2 n t

theorem results_rep {P : Program} {rd : Bool} {w0 : World} {σ : Env} {s : St} {a : Go.Act} {w : World} (hS : Sat rd w0 σ s a w) : ∀ (rs : List ResultVar) (l : List AV), resultsA P s rs = some l →
    ∃ vs, (rs.mapM fun r => (match r with | .tmp t => pure (a.tmps.getD t undef) | .cell x t => do loadVar t (← asAddr (a.tmps.getD x undef)) : Sem Value)).run P w = .ok vs w ∧ RepL σ l vs
  | [], l, h => by
    simp [resultsA] at h; subst h
    exact ⟨[], rfl, by simp [RepL]⟩
  | .tmp t :: rs, l, h => by
    simp only [resultsA, Option.map_eq_some_iff] at h
    obtain ⟨l', h1, rfl⟩ := h
    obtain ⟨vs, h2, h3⟩ := results_rep hS rs l' h1
    refine ⟨a.tmps.getD t undef :: vs, ?_, by simp only [RepL]; exact ⟨_, _, rfl, hS.tm t, h3⟩⟩
    simp only [List.mapM_cons, Sem.run_bind, Sem.run_pure, Result.andThen_ok, h2]
  | .cell x t :: rs, l, h => by
    have hx := hS.tm x
    simp only [resultsA] at h
    split at h
    · rename_i id row st col agg n h1 h2 h3
      rw [h1] at hx; simp only [Rep] at hx
      obtain ⟨b, hb1, hb2⟩ := hx
      split at h
      · rename_i blk hb
        obtain ⟨m, vs, k1, k2, k3, k4⟩ := hS.h.ob id _ hb
        rw [hb1] at k1; cases k1
        cases agg with
        | true =>
          simp only [cond_true] at h
          cases hl : Nat.ble (row * st + col + n) (lenA blk.cs) with
          | false => simp [hl] at h
          | true =>
            simp only [hl, cond_true, Option.map_eq_some_iff, takeA_eq, dropA_eq] at h
            obtain ⟨l', h4, rfl⟩ := h
            simp only [Nat.ble_eq, lenA_eq] at hl
            obtain ⟨us, h5, h6⟩ := results_rep hS rs l' h4
            refine ⟨.agg ((vs.drop (row * st + col)).take n).toArray :: us, ?_, ?_⟩
            · have := run_loads (P := P) (w := w) (n := n) k2 (by rw [← k3.length]; exact hl)
              have hlv : (loadVar t ⟨b, row * st + col, none⟩).run P w = .ok (.agg ((vs.drop (row * st + col)).take n).toArray) w := by
                simp only [loadVar, Sem.run_bind, Sem.run_pure, Result.andThen_ok, run_agg h2, run_size h3, if_true, this]
              have ha : asAddr (a.tmps.getD x undef) = pure ⟨b, row * st + col, none⟩ := by rw [hb2]; rfl
              simp only [List.mapM_cons, Sem.run_bind, Sem.run_pure, Result.andThen_ok, ha, hlv, h5]
            · simp only [RepL]
              exact ⟨_, _, rfl, by simp only [Rep]; exact ⟨_, (k3.drop _).take _, rfl⟩, h6⟩
        | false =>
          simp only [cond_false, nth_eq] at h
          cases hc : blk.cs[row * st + col]? with
          | none => simp [hc] at h
          | some y =>
            simp only [hc, Option.map_eq_some_iff] at h
            obtain ⟨l', h4, rfl⟩ := h
            obtain ⟨us, h5, h6⟩ := results_rep hS rs l' h4
            obtain ⟨v, hv1, hv2⟩ := k3.get hc
            have hlt : row * st + col < vs.length := (List.getElem?_eq_some_iff.1 hv1).1
            refine ⟨v :: us, ?_, by simp only [RepL]; exact ⟨_, _, rfl, hv2, h6⟩⟩
            have := run_load1 (P := P) (w := w) k2 (show row * st + col + 1 ≤ vs.length by omega)
            simp only [List.getD, hv1, Option.getD_some] at this
            have hlv : (loadVar t ⟨b, row * st + col, none⟩).run P w = .ok v w := by
              simp only [loadVar, Sem.run_bind, Result.andThen_ok, run_agg h2, Bool.false_eq_true, if_false, this]
            have ha : asAddr (a.tmps.getD x undef) = pure ⟨b, row * st + col, none⟩ := by rw [hb2]; rfl
            simp only [List.mapM_cons, Sem.run_bind, Sem.run_pure, Result.andThen_ok, ha, hlv, h5]
      · simp at h
    · simp at h

theorem tup_rep {σ : Env} {l : List AV} {vs : List Value} (h : RepL σ l vs) : Rep σ (tupA l) (if h : vs.toArray.size = 1 then vs.toArray[0] else .tuple vs.toArray) := by
  match l, vs, h with
  | [], vs, h => simp only [RepL] at h; subst h; simp only [tupA, Rep]; exact ⟨[], by simp [RepL], by simp⟩
  | [x], vs, h =>
    simp only [RepL] at h
    obtain ⟨v, us, rfl, h1, rfl⟩ := h
    simpa [tupA] using h1
  | x :: y :: l, vs, h =>
    have hl := h.length
    have : ¬ vs.toArray.size = 1 := by simp at hl ⊢; omega
    rw [dif_neg this]
    simp only [tupA, Rep]
    exact ⟨vs, h, rfl⟩

theorem results_run {P : Program} {rd : Bool} {w0 : World} {σ : Env} {s : St} {a : Go.Act} {w : World} (hS : Sat rd w0 σ s a w) {fn : Func} {l : List AV} (h : resultsA P s fn.results.toList = some l) : ∃ v, (results fn a.tmps).run P w = .ok v w ∧ Rep σ (tupA l) v := by
  obtain ⟨vs, h1, h2⟩ := results_rep hS _ _ h
  refine ⟨_, ?_, tup_rep h2⟩
  unfold results
  rw [Array.mapM_eq_mapM_toList]
  simp only [Sem.run_bind, Sem.run_map, Sem.run_pure]
  have key : ∀ F : ResultVar → Sem Value, (∀ r, F r = (match r with | .tmp t => pure (a.tmps.getD t undef) | .cell x t => do loadVar t (← asAddr (a.tmps.getD x undef)))) → (fn.results.toList.mapM F).run P w = .ok vs w := fun F hF => by
    rw [show F = _ from funext hF]; exact h1
  rw [key _ (fun r => by cases r <;> rfl)]
  rfl

/-! a call of a function with a summary by data: lists of the call's own are read as they stand -/
open Classical in
theorem ro1_rep {P : Program} {B : Nat} {σ : Env} {hp : Heap} {nx : Nat} {w : World} (h : HRel B σ hp nx w) (ids : List Nat) {x : AV} {v : Value} (hx : Rep σ x v) (hi : ∀ i ∈ ids1 x, i ∈ ids) : Rep { σ with mem := frozen σ hp ids w } (ro1 P hp x) v := by
  have hext : Ext σ { σ with mem := frozen σ hp ids w } := ⟨fun _ _ h => h, frozen_ge h ids, fun _ _ h => h, rfl, rfl, rfl, rfl, rfl⟩
  cases x with
  | own id =>
    simp only [ro1]
    split
    · rename_i A hA
      obtain ⟨v', us, h1, h2, h3, h4, h5⟩ := h.ob id _ hA
      simp only [Rep] at hx ⊢
      have e : v' = v := Option.some.inj (h1.symm.trans hx.1)
      subst e
      have hul := LR.len (fun x vs => RepD.len A.c x vs) h3
      refine slD_mk ?_
      rcases h2.2 with ⟨rfl, k⟩ | ⟨g, cap, cur, rfl, k2, k3, k4, k5, k6, k7⟩
      · exact .inl ⟨rfl, List.eq_nil_of_length_eq_zero k⟩
      · simp only [maxLen] at k5
        refine .inr ⟨g, 0, none, cap, us, rfl, k4, by simp only [maxK]; omega, ⟨.inr rfl, fun j u hj => ?_⟩, LR.mono (fun x vs => RepD.mono (frozen_ge h ids) _ x vs) h3⟩
        show frozen σ hp ids w g (0 + j) = some u
        unfold frozen
        rw [if_pos ⟨id, hi id (by simp [ids1]), by rw [hA]; simp, (h5 g).1 rfl⟩]
        have := h2.cells (g := g) rfl j u hj
        rwa [Addr.add_lit] at this
    · exact hx.mono hext
  | sl id off st len cap =>
    simp only [ro1]
    split
    · rename_i b hb
      split
      · rename_i c hc
        cases hbb : (Nat.beq st c.size && Nat.ble (off + len * st) (lenA b.cs)) with
        | false => simp only [cond_false]; exact hx.mono hext
        | true =>
          simp only [cond_true]
          simp only [Bool.and_eq_true, Nat.beq_eq, Nat.ble_eq, lenA_eq] at hbb
          obtain ⟨hb1, hb2⟩ := hbb
          split
          · rename_i xs hxs
            subst hb1
            obtain ⟨n, vs, h1, h2, h3, h4⟩ := h.ob id _ hb
            simp only [Rep] at hx ⊢
            obtain ⟨hlc, hcap, b', hb', rfl⟩ := hx
            rw [h1] at hb'; cases hb'
            simp only [takeA_eq, dropA_eq] at hxs
            have hcl : ((b.cs.drop off).take (len * c.size)).length = len * c.size := by simp; omega
            obtain ⟨k1, k2⟩ := decRows_rep len _ _ xs hxs ((h3.drop off).take _) hcl
            refine slD_mk (.inr ⟨n, off, none, cap, _, by rw [k2], ?_, hcap, ⟨.inr rfl, fun j u hj => ?_⟩, LR.mono (fun x vs => RepD.mono (frozen_ge h ids) _ x vs) k1⟩)
            · rw [k2]; exact hlc.2
            · show frozen σ hp ids w n (off + j) = some u
              unfold frozen
              rw [if_pos ⟨id, hi id (by simp [ids1]), by rw [hb]; simp, h1⟩, cell_of_row w n (off + j) vs.toArray b.ty (0, 0) h2]
              rw [List.getElem?_take] at hj
              split at hj
              · rw [List.getElem?_drop] at hj; simpa using hj
              · simp at hj
          · exact hx.mono hext
      · exact hx.mono hext
    · exact hx.mono hext
  | _ => simp only [ro1]; exact hx.mono hext
theorem toRO_rep {P : Program} {B : Nat} {σ : Env} {hp : Heap} {nx : Nat} {w : World} (h : HRel B σ hp nx w) (ids : List Nat) {x : AV} {v : Value} (hx : Rep σ x v) (hi : ∀ i ∈ idsOf x, i ∈ ids) : Rep { σ with mem := frozen σ hp ids w } (toRO P hp x) v := by
  cases x with
  | agg cs =>
    simp only [toRO, Rep] at hx ⊢
    obtain ⟨vs, h1, h2⟩ := hx
    refine ⟨vs, ?_, h2⟩
    have hi' : ∀ y ∈ cs, ∀ i ∈ ids1 y, i ∈ ids := fun y hy i hii => hi i (by simp only [idsOf, List.mem_flatMap]; exact ⟨y, hy, hii⟩)
    clear h2 hi
    induction cs generalizing vs with
    | nil => simpa only [List.map_nil, RepL] using h1
    | cons y ys ih =>
      simp only [List.map_cons, RepL] at h1 ⊢
      obtain ⟨u, us, rfl, k1, k2⟩ := h1
      exact ⟨u, us, rfl, ro1_rep h ids k1 (hi' y (by simp)), ih us k2 (fun z hz => hi' z (by simp [hz]))⟩
  | _ => simp only [toRO]; exact ro1_rep h ids hx hi
theorem toROs_rep {P : Program} {B : Nat} {σ : Env} {hp : Heap} {nx : Nat} {w : World} (h : HRel B σ hp nx w) (ids : List Nat) : ∀ {xs : List AV} {us : List Value}, RepL σ xs us → (∀ x ∈ xs, ∀ i ∈ idsOf x, i ∈ ids) → RepL { σ with mem := frozen σ hp ids w } (xs.map (toRO P hp)) us
  | [], _, hu, _ => by simpa only [List.map_nil, RepL] using hu
  | x :: xs, us, hu, hi => by
    simp only [List.map_cons, RepL] at hu ⊢
    obtain ⟨v, us', rfl, k1, k2⟩ := hu
    exact ⟨v, us', rfl, toRO_rep h ids k1 (hi x (by simp)), toROs_rep h ids k2 (fun y hy => hi y (by simp [hy]))⟩
theorem ro1s_rep {P : Program} {B : Nat} {σ : Env} {hp : Heap} {nx : Nat} {w : World} (h : HRel B σ hp nx w) (ids : List Nat) : ∀ {cs : List AV} {vs : List Value}, RepL σ cs vs → (∀ y ∈ cs, ∀ i ∈ ids1 y, i ∈ ids) → RepL { σ with mem := frozen σ hp ids w } (cs.map (ro1 P hp)) vs
  | [], vs, h1, _ => by simpa only [List.map_nil, RepL] using h1
  | y :: ys, vs, h1, hi' => by
    simp only [List.map_cons, RepL] at h1 ⊢
    obtain ⟨u, us, rfl, k1, k2⟩ := h1
    exact ⟨u, us, rfl, ro1_rep h ids k1 (hi' y (by simp)), ro1s_rep h ids k2 (fun z hz => hi' z (by simp [hz]))⟩
theorem viewA_cases {P : Program} {B : Nat} {σ : Env} {hp : Heap} {nx : Nat} {w : World} (h : HRel B σ hp nx w) (ids : List Nat) (vw : Option (TC × Nat)) {x : AV} {v : Value} (hx : Rep σ x v) (hi : ∀ i ∈ viewIds hp vw x, i ∈ ids) :
    viewA P hp vw x = x ∨ ∃ c y o, viewA P hp vw x = .rop c y o ∧ Rep { σ with mem := frozen σ hp ids w } (.rop c y o) v := by
  unfold viewA
  split
  · rename_i c o id row st col
    split
    · rename_i b hb
      cases hbb : (Nat.ble o (row * st + col) && Nat.ble (row * st + col - o + c.size) (lenA b.cs)) with
      | false => exact .inl rfl
      | true =>
        simp only [cond_true]
        simp only [Bool.and_eq_true, Nat.ble_eq, lenA_eq] at hbb
        obtain ⟨hb1, hb2⟩ := hbb
        split
        · rename_i y hy
          simp only [viewIds, hb] at hi
          obtain ⟨n, vs, h1, h2, h3, h4⟩ := h.ob id _ hb
          simp only [Rep] at hx
          obtain ⟨n', hn', rfl⟩ := hx
          rw [h1] at hn'; cases hn'
          simp only [takeA_eq, dropA_eq] at hy
          have hro := ro1s_rep (P := P) h ids ((h3.drop (row * st + col - o)).take c.size) (fun z hz i hii => hi i (List.mem_cons_of_mem _ (List.mem_flatMap.2 ⟨z, List.mem_of_mem_drop (List.mem_of_mem_take hz), hii⟩)))
          have hd := dec_all hy hro
          refine .inr ⟨c, y, o, rfl, ?_⟩
          simp only [Rep]
          refine ⟨n, row * st + col - o, _, ?_, fun j u hju => ?_, hd⟩
          · rw [show row * st + col - o + o = row * st + col by omega]
          · show frozen σ hp ids w n (row * st + col - o + j) = some u
            unfold frozen
            rw [if_pos ⟨id, hi id (by simp), by rw [hb]; simp, h1⟩, cell_of_row w n _ vs.toArray b.ty (0, 0) h2]
            rw [List.getElem?_take] at hju
            split at hju
            · rw [List.getElem?_drop] at hju; simpa using hju
            · simp at hju
        · exact .inl rfl
    · exact .inl rfl
  · exact .inl rfl
theorem frozen_ext {B : Nat} {σ : Env} {hp : Heap} {nx : Nat} {w : World} (h : HRel B σ hp nx w) (ids : List Nat) : Ext σ { σ with mem := frozen σ hp ids w } := ⟨fun _ _ h => h, frozen_ge h ids, fun _ _ h => h, rfl, rfl, rfl, rfl, rfl⟩
theorem viewC_rep {P : Program} {B : Nat} {σ : Env} {hp : Heap} {nx : Nat} {w : World} (h : HRel B σ hp nx w) (ids : List Nat) : ∀ (vs : List (Option (TC × Nat))) {xs : List AV} {us : List Value}, RepL σ xs us → (∀ i ∈ viewCIds hp vs xs, i ∈ ids) → RepL { σ with mem := frozen σ hp ids w } (viewC P hp vs xs) us
  | [], xs, us, hu, _ => by
    have : viewC P hp [] xs = xs := by cases xs <;> rfl
    rw [this]
    exact hu.mono (frozen_ext h ids)
  | v :: vs, [], us, hu, _ => by simpa only [viewC, RepL] using hu
  | v :: vs, x :: xs, us, hu, h2 => by
    simp only [RepL] at hu
    obtain ⟨u, us', rfl, k1, k2⟩ := hu
    simp only [viewC, RepL]
    refine ⟨u, us', rfl, ?_, viewC_rep h ids vs k2 (fun i hi => h2 i (by simp only [viewCIds]; exact List.mem_append_right _ hi))⟩
    rcases viewA_cases (P := P) h ids v k1 (fun i hi => h2 i (by simp only [viewCIds]; exact List.mem_append_left _ hi)) with e | ⟨c, y, o, e, hr⟩
    · rw [e]; exact k1.mono (frozen_ext h ids)
    · rw [e]; exact hr
theorem viewV_rep {P : Program} {B : Nat} {σ : Env} {hp : Heap} {nx : Nat} {w : World} (h : HRel B σ hp nx w) (ids : List Nat) (vw : Vw) {x : AV} {v : Value} (hx : Rep σ x v) (hi : ∀ i ∈ viewVIds hp vw x, i ∈ ids) (hj : ∀ i ∈ idsOf x, i ∈ ids) : Rep { σ with mem := frozen σ hp ids w } (toRO P hp (viewV P hp vw x)) v := by
  have other : Rep { σ with mem := frozen σ hp ids w } (toRO P hp x) v := toRO_rep h ids hx hj
  unfold viewV
  split
  · rename_i vw
    rcases viewA_cases (P := P) h ids vw hx hi with e | ⟨c, y, o, e, hr⟩
    · rw [e]; exact other
    · rw [e]; exact hr
  · rename_i vs f a c
    simp only [toRO, ro1]
    simp only [Rep] at hx ⊢
    obtain ⟨p, q, k1, k2, k3⟩ := hx
    exact ⟨p, q, k1.mono (frozen_ext h ids), viewC_rep h ids vs k2 hi, k3⟩
  · exact other
theorem toRVs_rep {P : Program} {B : Nat} {σ : Env} {hp : Heap} {nx : Nat} {w : World} (h : HRel B σ hp nx w) (ids : List Nat) : ∀ (vs : List Vw) {xs : List AV} {us : List Value}, RepL σ xs us → (∀ i ∈ xs.flatMap idsOf, i ∈ ids) → (∀ i ∈ viewLIds hp vs xs, i ∈ ids) → RepL { σ with mem := frozen σ hp ids w } ((viewL P hp vs xs).map (toRO P hp)) us
  | [], xs, us, hu, h1, _ => by
    have : viewL P hp [] xs = xs := by cases xs <;> rfl
    rw [this]
    exact toROs_rep h ids hu fun y hy i hi => h1 i (List.mem_flatMap.2 ⟨y, hy, hi⟩)
  | v :: vs, [], us, hu, _, _ => by simpa only [viewL, List.map_nil, RepL] using hu
  | v :: vs, x :: xs, us, hu, h1, h2 => by
    simp only [RepL] at hu
    obtain ⟨u, us', rfl, k1, k2⟩ := hu
    simp only [viewL, List.map_cons, RepL]
    refine ⟨u, us', rfl, viewV_rep h ids v k1 (fun i hi => h2 i (by simp only [viewLIds]; exact List.mem_append_left _ hi)) (fun i hi => h1 i (by simp only [List.flatMap_cons]; exact List.mem_append_left _ hi)), toRVs_rep h ids vs k2 (fun i hi => h1 i (by simp only [List.flatMap_cons]; exact List.mem_append_right _ hi)) (fun i hi => h2 i (by simp only [viewLIds]; exact List.mem_append_right _ hi))⟩

theorem pure_sound {P : Program} {f : FuncId} {g : PureT} (hg : PureOk P f g) {α : Type} {R : α → Prop} {w0 : World} {σ : Env} {hp : Heap} {nx : Nat} {w : World} {xs : List AV} {us : List Value} {x : AV} {K : Out → Heap → Nat → Tree α}
    (hh : HRel w0.heap.size σ hp nx w) (hb : Below w0.heap.size w0 w) (hu : RepL σ xs us) (hx : g.run ((viewL P hp g.vw xs).map (toRO P hp)) = some (true, x)) (h : (K (.ret x) (bif g.flat || g.fr then hp else drop1 hp (xs.flatMap idsOf ++ viewLIds hp g.vw xs)) nx).sat R) :
    Calls' P f us.toArray w (CRes w0 σ K R) := by
  have hro := toRVs_rep (P := P) hh (xs.flatMap idsOf ++ viewLIds hp g.vw xs) g.vw hu (fun i hi => List.mem_append_left _ hi) (fun i hi => List.mem_append_right _ hi)
  generalize xs.flatMap idsOf ++ viewLIds hp g.vw xs = ids at hro h
  refine (hg { σ with mem := frozen σ hp ids w } w _ us x hh.bound (frozen_ok hh _) hro hx).mono ?_
  rintro e w' ⟨v, m', rfl, m1, m2, m3, m4, m5, m7, m6⟩
  have hB := hb.trans (m6.mono hb.size)
  cases hf : g.flat with
  | true =>
    rw [hf, Bool.true_or, cond_true] at h
    exact ⟨.ret x, σ, hp, nx, Ext.refl _, hh.below m6, hB, m5 hf σ (fun _ _ h => h), h⟩
  | false =>
    rw [hf, Bool.false_or] at h
    cases hr : g.fr with
    | true =>
      rw [hr, cond_true] at h
      have hb' := hh.below m6
      have hM : ∀ b o u, (bif Nat.ble w.heap.size b then m' b o else σ.mem b o) = some u → (w.heap.size ≤ b ∧ m' b o = some u) ∨ (b < w.heap.size ∧ σ.mem b o = some u) := by
        intro b o u hu
        cases hc : Nat.ble w.heap.size b with
        | true => rw [hc, cond_true] at hu; exact .inl ⟨Nat.le_of_ble_eq_true hc, hu⟩
        | false =>
          rw [hc, cond_false] at hu
          refine .inr ⟨?_, hu⟩
          rcases Nat.lt_or_ge b w.heap.size with k | k
          · exact k
          · rw [Nat.ble_eq_true_of_le k] at hc; cases hc
      have he : Ext σ { σ with mem := fun b o => bif Nat.ble w.heap.size b then m' b o else σ.mem b o } := ⟨fun _ _ h => h, fun b o u hu => by
        show (bif Nat.ble w.heap.size b then m' b o else σ.mem b o) = some u
        cases Nat.ble w.heap.size b with
        | true => exact m2 b o u (frozen_ge hh _ b o u hu)
        | false => exact hu, fun _ _ h => h, rfl, rfl, rfl, rfl, rfl⟩
      refine ⟨.ret x, { σ with mem := fun b o => bif Nat.ble w.heap.size b then m' b o else σ.mem b o }, hp, nx, he, ⟨fun j o hj => (hb'.ob j o hj).keep he rfl (fun _ _ => rfl), hh.inj, hh.fresh, hb'.bound, fun b o u hu => ?_, fun i n hi hn o => ?_, fun b o u hu hlt => ?_, ⟨hb'.kp.sz, hb'.kp.ok, fun i n hi hn => hb'.kp.sep i n hi hn, fun n o u hu => ?_⟩, hh.rs.ext (Nat.le_refl _) rfl rfl (fun _ _ h => h) (fun _ _ h => h)⟩, hB, Rep.mono3 (σ := ⟨fun _ => none, fun b o => bif Nat.ble w.heap.size b then m' b o else none, fun _ => none, fun _ _ => none, fun _ => none, 0, fun _ => false, fun _ => false⟩) (τ := { σ with mem := fun b o => bif Nat.ble w.heap.size b then m' b o else σ.mem b o }) ⟨fun i b h => (by cases h), fun b o u hu => ?_, fun i u h => (by cases h)⟩ x v (m7 hr), h⟩
      · rcases hM b o u hu with ⟨_, k⟩ | ⟨_, k⟩
        · exact m1 b o u k
        · exact hb'.mem b o u k
      · have hlt := hh.bound i n hn
        cases hc : (bif Nat.ble w.heap.size n then m' n o else σ.mem n o) with
        | none => exact hc
        | some u =>
          rcases hM n o u hc with ⟨k, _⟩ | ⟨_, k⟩
          · omega
          · rw [hh.sep i n hi hn o] at k; cases k
      · rcases hM b o u hu with ⟨k, _⟩ | ⟨_, k⟩
        · have := hb.size; omega
        · exact hh.low b o u k hlt
      · rcases hM n o u hu with ⟨k, _⟩ | ⟨_, k⟩
        · exact kp_new hh.kp k
        · exact hh.kp.mem n o u k
      · have hu : (bif Nat.ble w.heap.size b then m' b o else none) = some u := hu
        show (bif Nat.ble w.heap.size b then m' b o else σ.mem b o) = some u
        cases hc : Nat.ble w.heap.size b with
        | true => rw [hc] at hu; exact hu
        | false => rw [hc] at hu; cases hu
    | false =>
    rw [hr, cond_false] at h
    have he : Ext σ { σ with mem := m' } := ⟨fun _ _ h => h, fun b o u hu => m2 b o u (frozen_ge hh _ b o u hu), fun _ _ h => h, rfl, rfl, rfl, rfl, rfl⟩
    have hlive : ∀ j, drop1 hp (ids) j ≠ none → hp j ≠ none ∧ j ∉ ids := by
      intro j hj
      cases hc : drop1 hp (ids) j with
      | none => exact absurd hc hj
      | some o => obtain ⟨k1, k2⟩ := drop1_sub _ _ _ _ hc; exact ⟨by rw [k1]; simp, k2⟩
    have hb' := hh.below m6
    refine ⟨.ret x, { σ with mem := m' }, drop1 hp (ids), nx, he, ⟨fun j o hj => ?_, fun i j n hi hj => hh.inj i j n (hlive i hi).1 (hlive j hj).1, fun i hi => ?_, hb'.bound, m1, fun i n hi hn o => ?_, fun b o v hv hlt => ?_, ⟨hb'.kp.sz, hb'.kp.ok, fun i n hi hn => hb'.kp.sep i n (hlive i hi).1 hn, fun n o v hv => ?_⟩, hh.rs.ext (Nat.le_refl _) rfl rfl (fun _ _ h => h) (fun _ _ h => h)⟩, hB, Rep.mono3 (σ := ⟨fun _ => none, m', fun _ => none, fun _ _ => none, fun _ => none, 0, fun _ => false, fun _ => false⟩) (τ := { σ with mem := m' }) ⟨fun i b h => (by cases h), fun _ _ _ h => h, fun i u h => (by cases h)⟩ x v (m4 hf), h⟩
    · exact (hb'.ob j o (drop1_sub _ _ _ _ hj).1).keep he rfl (fun _ _ => rfl)
    · obtain ⟨f1, f2, f3⟩ := hh.fresh i hi
      refine ⟨f1, f2, ?_⟩
      cases hc : drop1 hp (ids) i with
      | none => rfl
      | some o => rw [(drop1_sub _ _ _ _ hc).1] at f3; cases f3
    · have hl := hlive i hi
      cases hc : m' n o with
      | none => exact hc
      | some u =>
        rcases m3 n o u hc with k | k
        · exfalso
          simp only [frozen] at k
          split at k
          · rename_i hex
            obtain ⟨id, hid, hne, hat⟩ := hex
            have := hh.inj i id n hl.1 hne hn hat
            subst this
            exact hl.2 hid
          · rw [hh.sep i n hl.1 hn o] at k; cases k
        · have := hh.bound i n hn; omega
    · rcases m3 b o v hv with k | k
      · simp only [frozen] at k
        split at k
        · rename_i hex
          obtain ⟨id, hid, hne, hat⟩ := hex
          have := hh.ge hne hat
          omega
        · exact hh.low b o v k hlt
      · have := hb.size; omega
    · rcases m3 n o v hv with k | k
      · simp only [frozen] at k
        split at k
        · rename_i hex
          obtain ⟨id, hid, hne, hat⟩ := hex
          exact hh.kp.sep id n hne hat
        · exact hh.kp.mem n o v k
      · exact kp_new hh.kp k

theorem dfl_nil {σ : Env} {Ds : List Deferred} (h : DfL σ [] Ds) : Ds = [] := by cases h; rfl
/-- what panicked, in both ways to say it -/
def MRel (τ : Env) : Option AV → FrameMode → Prop
  | none, m => m = .returning
  | some x, m => ∃ v, Rep τ x v ∧ m = .panicking [{ v, recovered := false }]
theorem MRel.mono {σ τ : Env} (e : Ext σ τ) {x : Option AV} {m : FrameMode} (h : MRel σ x m) : MRel τ x m := by
  cases x with
  | none => exact h
  | some x => obtain ⟨v, h1, h2⟩ := h; exact ⟨v, h1.mono e, h2⟩
theorem MRel.run {σ : Env} {x : Option AV} {m : FrameMode} (h : MRel σ x m) : m ≠ .run := by
  cases x with
  | none => rw [show m = .returning from h]; simp
  | some x => obtain ⟨v, _, rfl⟩ := h; simp

theorem wpR_mono {P : Program} {fn : FuncId} {u u' : FrameMode} {c : Code} {Q Q' : Exit → Go.Act → World → Prop} {a : Go.Act} {w : World} (h : Code.wpR P fn u u' c Q a w) (hq : ∀ e a w, Q e a w → Q' e a w) : Code.wpR P fn u u' c Q' a w :=
  fun b k c0 cs h1 h2 h3 h4 => let ⟨e, a', w', q, r⟩ := h b k c0 cs h1 h2 h3 h4; ⟨e, a', w', hq _ _ _ q, r⟩
theorem evRec_sound {P : Program} {α : Type} {R : α → Prop} {cT : CallT α} (hmix : P.follows .mixedOrders = true) {pu : List (Nat × PureT)} (hpu : PuOk P pu) (hc : CTok P cT R) {w0 : World} (fn : FuncId) (n : Nat) (L : LoopT) {rx : AV} {rv : Value} {u u' : FrameMode} (hu : RecOk u rv u') : ∀ (c : Code) (_ : ∀ d ∈ loopsOf c, ∀ f, L (keyOf d) = some f → LoopOk P fn d f) (σ : Env) (s : St) (a : Go.Act) (w : World) (K : XE → St → Tree α),
    Sat false w0 σ s a w → Rep σ rx rv → (evRec P cT pu fn n L rx c s K).sat R → Code.wpR P fn u u' c (XRes false w0 σ fun x s' => (K x s').sat R) a w
  | .seq x y, hL, σ, s, a, w, K, hS, hr, h => by
    simp only [evRec] at h
    have h1 := evRec_sound hmix hpu hc fn n L hu x (fun d hd => hL d (by simp [loopsOf, hd])) σ s a w _ hS hr h
    refine wpR_seq (wpR_mono h1 ?_)
    rintro e a' w' ⟨τ, x', s', he, hS', hx, h'⟩
    cases x' <;> cases e <;> simp only [ExR] at hx <;> simp only at h'
    · have h2 := evC_sound hmix hpu hc fn n L y (fun d hd => hL d (by simp [loopsOf, hd])) τ s' a' w' K hS' h'
      exact wpX_mono h2 fun e a2 w2 ⟨τ2, x2, s2, e2, hS2, hx2, h2⟩ => ⟨τ2, x2, s2, he.trans e2, hS2, hx2, h2⟩
    · exact ⟨τ, .exit _, s', he, hS', hx, h'⟩
    · exact ⟨τ, .ret, s', he, hS', trivial, h'⟩
    · exact ⟨τ, .panic _, s', he, hS', hx, h'⟩
  | .block id c, hL, σ, s, a, w, K, hS, hr, h => by
    simp only [evRec] at h
    have h1 := evRec_sound hmix hpu hc fn n L hu c (fun d hd => hL d (by simpa [loopsOf] using hd)) σ s a w _ hS hr h
    refine wpR_block (wpR_mono h1 ?_)
    rintro e a' w' ⟨τ, x', s', he, hS', hx, h'⟩
    cases x' <;> cases e <;> simp only [ExR] at hx <;> simp only at h'
    · exact ⟨τ, .normal, s', he, hS', trivial, h'⟩
    · rename_i i j
      subst hx
      simp only [Exit.inBlock]
      by_cases hid : i = id
      · subst hid
        rw [if_pos rfl]
        exact ⟨τ, .normal, s', he, hS', trivial, by simpa using h'⟩
      · rw [if_neg hid]
        exact ⟨τ, .exit i, s', he, hS', rfl, by simpa [beq_ne hid] using h'⟩
    · exact ⟨τ, .ret, s', he, hS', trivial, h'⟩
    · exact ⟨τ, .panic _, s', he, hS', hx, h'⟩
  | .region id ops false, _, σ, s, a, w, K, hS, hr, h => by
    simp only [evRec] at h
    cases ho : ops[0]? with
    | none => rw [ho] at h; simp [Tree.sat] at h
    | some o =>
      rw [ho] at h
      simp only at h
      cases hb : (isRec o.op && (o.guard.isNone && Nat.blt (o.dst.getD 0) s.n)) with
      | false => rw [hb] at h; simp [Tree.sat] at h
      | true =>
        rw [hb, cond_true] at h
        simp only [Bool.and_eq_true, Option.isNone_iff_eq_none, blt_t] at hb
        exact wpR_region hu ho hb.2.1 hb.1 (evOps_sound hc _ σ _ _ w (hS.put hb.2.2 hr) h (fun τ s' a' w' e ex he hS' hx h' => ⟨τ, e, s', he, hS', hx, h'⟩))
  | .region _ _ true, _, _, _, _, _, _, _, _, h => by simp [evRec, Tree.sat] at h
  | .skip, _, _, _, _, _, _, _, _, h => by simp [evRec, Tree.sat] at h
  | .cond _ _ _, _, _, _, _, _, _, _, _, h => by simp [evRec, Tree.sat] at h
  | .loop _, _, _, _, _, _, _, _, _, h => by simp [evRec, Tree.sat] at h
  | .exit _, _, _, _, _, _, _, _, _, h => by simp [evRec, Tree.sat] at h
  | .ret, _, _, _, _, _, _, _, _, h => by simp [evRec, Tree.sat] at h
  | .rangeFunc _ _ _ _, _, _, _, _, _, _, _, _, h => by simp [evRec, Tree.sat] at h
  | .scope _, _, _, _, _, _, _, _, _, h => by simp [evRec, Tree.sat] at h
  | .label _, _, _, _, _, _, _, _, _, h => by simp [evRec, Tree.sat] at h
  | .goto _, _, _, _, _, _, _, _, _, h => by simp [evRec, Tree.sat] at h
  | .refuse _, _, _, _, _, _, _, _, _, h => by simp [evRec, Tree.sat] at h

/-- a deferred call, from the frame that makes it to that frame again -/
theorem def_sound {X : Ctx} (hX : CtxOk X) {α : Type} {R : α → Prop} {cT : CallT α} (hc : CTok X.P cT R) {w0 : World} {σ : Env} {hp : Heap} {nx : Nat} {w : World} {f : FuncId} {xs : List AV} {us : List Value} {rx : AV} {rv : Value} {u u' : FrameMode} {K : Heap → Nat → Tree α} (hu : RecOk u rv u')
    (hh : HRel w0.heap.size σ hp nx w) (hb : Below w0.heap.size w0 w) (hus : RepL σ xs us) (hr : Rep σ rx rv) (h : (evDef X cT f xs rx hp nx K).sat R) (c0 : Frame) (cs : List Frame) (hm : c0.mode = u) :
    ∃ τ w' hp' nx', Steps X.P (lone (Frame.enter X.P f us.toArray .deferred) (c0 :: cs) w) (lone { c0 with mode := .returning } cs w') ∧ Ext σ τ ∧ HRel w0.heap.size τ hp' nx' w' ∧ Below w0.heap.size w0 w' ∧ (K hp' nx').sat R := by
  unfold evDef at h
  cases hf : assoc X.fns f with
  | none => simp [hf, Tree.sat] at h
  | some fn =>
    simp only [hf] at h
    obtain ⟨h1, h2, h3⟩ := hX.fns _ (assoc_mem hf)
    simp only at h1 h2 h3
    cases hbd : fn.body with
    | none => simp [hbd, Tree.sat] at h
    | some c =>
      simp only [hbd] at h
      cases hn : Nat.ble (lenA xs) fn.ntmps with
      | false => simp [hn, Tree.sat] at h
      | true =>
        simp only [hn, cond_true] at h
        simp only [Nat.ble_eq, lenA_eq] at hn
        have hlen := hus.length
        have hS : Sat false w0 σ { tm := frameOf xs, n := fn.ntmps, hp := hp, nx := nx, df := [], rd := false } { tmps := us.toArray ++ Array.replicate (fn.ntmps - us.toArray.size) undef, defers := [] } w := by
          refine ⟨hh, fun t => ?_, ?_, .nil, hb, rfl⟩
          · have := frameOf_rep xs us hus (fn.ntmps - us.toArray.size) t
            have he : (us.toArray ++ Array.replicate (fn.ntmps - us.toArray.size) undef).getD t undef = (us ++ List.replicate (fn.ntmps - us.toArray.size) undef)[t]?.getD undef := by
              rw [Array.getD_eq_getD_getElem?, ← Array.getElem?_toList]
              simp
            rw [he]; exact this
          · simp; omega
        have hw := evRec_sound hX.mix hX.pures hc f X.u (assoc2 X.loops f) hu c (fun d hd g hg => h3 c hbd d hd g hg) σ _ _ w _ hS hr h
        let b : Frame := { (default : Frame) with fn := f, kind := .deferred }
        have henter : Frame.enter X.P f us.toArray .deferred = atX b { tmps := us.toArray ++ Array.replicate (fn.ntmps - us.toArray.size) undef, defers := [] } [.code c] := by
          simp [Frame.enter, atX, h1, hbd, b]
          rfl
        rw [henter]
        obtain ⟨e, a', w', ⟨τ, x, s', he, hS', hx, h'⟩, harr⟩ := hw b [] c0 cs rfl rfl rfl hm
        have hfin : ∀ (todo : List Item), Steps X.P (lone (atX b { tmps := us.toArray ++ Array.replicate (fn.ntmps - us.toArray.size) undef, defers := [] } [.code c]) (c0 :: cs) w) (lone { atX b a' todo with mode := .returning } ({ c0 with mode := u' } :: cs) w') →
            (match s'.df, resultsA X.P s' fn.results.toList with | [], some _ => K s'.hp s'.nx | _, _ => .fail).sat R →
            ∃ τ w' hp' nx', Steps X.P (lone (atX b { tmps := us.toArray ++ Array.replicate (fn.ntmps - us.toArray.size) undef, defers := [] } [.code c]) (c0 :: cs) w) (lone { c0 with mode := .returning } cs w') ∧ Ext σ τ ∧ HRel w0.heap.size τ hp' nx' w' ∧ Below w0.heap.size w0 w' ∧ (K hp' nx').sat R := by
          intro todo hs hk
          split at hk <;> try (simp [Tree.sat] at hk; done)
          rename_i l hdf hres
          have hd' : a'.defers = [] := by
            have := hS'.df
            rw [hdf] at this
            exact dfl_nil this
          obtain ⟨v, hv1, _⟩ := results_run hS' hres
          have hg : ({ atX b a' todo with mode := .returning } : Frame).going X.P w' (.returned v) := ⟨rfl, hd', fn, h1, hv1⟩
          have hs2 := step_going_returned (P := X.P) (c := { c0 with mode := u' }) (cs := cs) (by rfl) hg
          simp only [hu.settle] at hs2
          exact ⟨τ, w', s'.hp, s'.nx, Steps.trans hs (.one hs2), he, hS'.h, hS'.bl, hk⟩
        have hret : ∀ (todo : List Item), (todo = [] ∨ ∃ k1, todo = .code .ret :: k1) → step X.P (lone (atX b a' todo) ({ c0 with mode := u' } :: cs) w') = .next (lone { atX b a' todo with mode := .returning } ({ c0 with mode := u' } :: cs) w') := by
          intro todo ht
          have hb0 : b.roundOf = none := rfl
          rcases ht with rfl | ⟨k1, rfl⟩ <;> exact step_lone_go (by simp [stepG, stepG.exec, atX, hb0])
        cases x <;> cases e <;> simp only [ExR] at hx <;> simp only at h'
        · exact hfin [] (Steps.trans harr (.one (hret _ (.inl rfl)))) h'
        · simp [Tree.sat] at h'
        · obtain ⟨k1, hs⟩ := harr
          exact hfin _ (Steps.trans hs (.one (hret _ (.inr ⟨k1, rfl⟩)))) h'
        · simp [Tree.sat] at h'

/-! a function that is left -/
theorem leave_sound {X : Ctx} (hX : CtxOk X) {α : Type} {R : α → Prop} {cT : CallT α} (hc : CTok X.P cT R) {w0 : World} : ∀ (ds : List DfA) (DS : List Deferred) (σ : Env) (m : Option AV) (hp : Heap) (nx : Nat) (w : World) (fr : Frame) (K : Option AV → Heap → Nat → Tree α), MRel σ m fr.mode → fr.defers = DS → DfL σ ds DS →
    HRel w0.heap.size σ hp nx w → Below w0.heap.size w0 w → (evLeave X cT ds m hp nx K).sat R → ∀ cs, ∃ τ w' m' mode' hp' nx', Steps X.P (lone fr cs w) (lone { fr with defers := [], mode := mode' } cs w') ∧ Ext σ τ ∧ MRel τ m' mode' ∧ HRel w0.heap.size τ hp' nx' w' ∧ Below w0.heap.size w0 w' ∧ (K m' hp' nx').sat R
  | [], DS, σ, m, hp, nx, w, fr, K, hm, hd, hD, hh, hb, h, cs => by
    cases hD
    refine ⟨σ, w, m, fr.mode, hp, nx, ?_, Ext.refl σ, hm, hh, hb, h⟩
    have : ({ fr with defers := [], mode := fr.mode } : Frame) = fr := by rw [← hd]
    rw [this]
    exact Steps.refl X.P _
  | .mark id :: ds, DS, σ, m, hp, nx, w, fr, K, hm, hd, hD, hh, hb, h, cs => by
    cases hD with
    | cons hD1 hD2 =>
      rename_i D Ds
      obtain ⟨b, hb1, rfl⟩ := hD1
      simp only [evLeave] at h
      split at h <;> try (simp [Tree.sat] at h; done)
      rename_i ho
      obtain ⟨n, k1, k2, k3⟩ := hh.ob id _ ho
      have hnb : n = b := Option.some.inj (k1.symm.trans hb1)
      subst hnb
      have s1 := step_collected (P := X.P) (cs := cs) hm.run hd rfl (run_takeDeferred (P := X.P) k2)
      obtain ⟨τ, w', m', mode', hp', nx', s2, r0, r1, r2, r3, r4⟩ := leave_sound hX hc ds Ds σ m (upd hp id none) nx _ { fr with defers := [] ++ Ds } K hm rfl hD2 (hh.gone (by rw [ho]; simp) k1 _) (below_putObj hb k3 _) h cs
      exact ⟨τ, w', m', mode', hp', nx', .head s1 s2, r0, r1, r2, r3, r4⟩
  | .call f args cap :: ds, DS, σ, m, hp, nx, w, fr, K, hm, hd, hD, hh, hb, h, cs => by
    cases hD with
    | cons hD1 hD2 =>
      rename_i D Ds
      obtain ⟨us, ks, e1, e2, rfl⟩ := hD1
      simp only [evLeave] at h
      have hpl : Plain X.P f := by
        unfold evDef at h
        cases hf : assoc X.fns f with
        | none => simp [hf, Tree.sat] at h
        | some fn =>
          obtain ⟨h1, h2, _⟩ := hX.fns _ (assoc_mem hf)
          simp only at h1 h2
          cases hbd : fn.body with
          | none => simp [hf, hbd, Tree.sat] at h
          | some c => exact ⟨fn, h1, h2, by simp [hbd]⟩
      have hi : (invoke (.fn (.func f) ks.toArray) us.toArray).run X.P w = .ok (.enter f (us ++ ks).toArray) w := by
        have := hpl.run (us ++ ks).toArray w
        simpa [invoke] using this
      have s1 := step_defer (P := X.P) (cs := cs) hm.run hd rfl hi
      have hrec : ∃ rv u', RecOk fr.mode rv u' ∧ Rep σ (toldA m) rv := by
        cases m with
        | none => rw [show fr.mode = .returning from hm]; exact ⟨_, _, .calm, by simp only [toldA, Rep]⟩
        | some x => obtain ⟨v, k1, k2⟩ := hm; rw [k2]; exact ⟨v, _, .pan v, k1⟩
      obtain ⟨rv, u', hu, hr⟩ := hrec
      obtain ⟨τ, w1, hp1, nx1, s2, t1, t2, t3, t4⟩ := def_sound hX hc hu hh hb (e1.append e2) hr h { fr with defers := Ds } cs rfl
      obtain ⟨τ', w', m', mode', hp', nx', s3, r0, r1, r2, r3, r4⟩ := leave_sound hX hc ds Ds τ none hp1 nx1 w1 { fr with defers := Ds, mode := .returning } K rfl rfl (hD2.mono t1) t2 t3 t4 cs
      exact ⟨τ', w', m', mode', hp', nx', Steps.trans (.head s1 s2) s3, t1.trans r0, r1, r2, r3, r4⟩

theorem pairs2_rep {σ : Env} : ∀ (ps : List Nat) (xs : List AV) (us : List Value) (tm : Nat → AV) (tmps : Array Value), RepL σ xs us → ps.length = xs.length → (∀ t, Rep σ (tm t) (tmps.getD t undef)) → (∀ p ∈ ps, p < tmps.size) →
    (∀ t, Rep σ (pairs2 ps xs tm t) (((ps.zip us).foldl (fun tmps (p : Nat × Value) => tmps.setIfInBounds p.1 p.2) tmps).getD t undef)) ∧ ((ps.zip us).foldl (fun tmps (p : Nat × Value) => tmps.setIfInBounds p.1 p.2) tmps).size = tmps.size
  | [], xs, us, tm, tmps, _, _, ht, _ => by simpa [pairs2] using ht
  | p :: ps, [], us, tm, tmps, _, hl, _, _ => by simp at hl
  | p :: ps, x :: xs, us, tm, tmps, hu, hl, ht, hp => by
    simp only [RepL] at hu
    obtain ⟨v, us', rfl, h1, h2⟩ := hu
    have hlt := hp p (by simp)
    have ih := pairs2_rep ps xs us' (upd tm p x) (tmps.setIfInBounds p v) h2 (by simpa using hl) (fun t => tm_put ht p hlt h1 t) (fun q hq => by simpa using hp q (by simp [hq]))
    simp only [pairs2, List.zip_cons_cons, List.foldl_cons]
    exact ⟨ih.1, by simpa using ih.2⟩


theorem round_sound {X : Ctx} (hX : CtxOk X) {α : Type} {R : α → Prop} {m : Nat} (ih : CTok X.P (evFn (α := α) X m) R) {w0 : World} {σ : Env} {hp : Heap} {nx : Nat} {w : World} {id : Nat} {xs : List AV} {us : List Value} {K : Out → Heap → Nat → Tree α}
    (hh : HRel w0.heap.size σ hp nx w) (hb : Below w0.heap.size w0 w) (hu : RepL σ xs us) (h : (evFn X (m + 1) (.yld id) xs hp nx K).sat R) :
    ∀ b, σ id = some b → ∃ l f tmps assign body, (Instr.yield b us.toArray).run X.P w = .ok (.round l f tmps assign body) w ∧ RoundX X.P l f tmps assign body w (CRes w0 σ K R) := by
  intro b hσ
  simp only [evFn] at h
  split at h <;> try (simp [Tree.sat] at h; done)
  rename_i r hr
  obtain ⟨n, L, l1, l2, l3, l4⟩ := hh.ob id _ hr
  have hnb : n = b := Option.some.inj (l1.symm.trans hσ)
  subst hnb
  split at h <;> try (simp [Tree.sat] at h; done)
  rename_i hst
  cases hchk : (Nat.beq (lenA xs) (lenA r.params) && (r.params.all (fun p => Nat.blt p r.n) && isFn X r.fn)) with
  | false => rw [hchk] at h; simp [Tree.sat] at h
  | true =>
    rw [hchk, cond_true] at h
    simp only [Bool.and_eq_true, Nat.beq_eq, lenA_eq] at hchk
    obtain ⟨hc1, hc2, hc3⟩ := hchk
    have hps : L.params.size = xs.length := by rw [hc1, ← l3.params]; simp
    have hul := hu.length
    obtain ⟨t1, t2⟩ := pairs2_rep r.params xs us r.tm L.tmps hu hc1.symm l3.tm (fun p hp => by
      have := List.all_eq_true.1 hc2 p hp
      rw [l3.n]; exact blt_t.1 this)
    have hfold : (L.params.zip us.toArray).foldl (fun tmps (t, a) => tmps.setIfInBounds t a) L.tmps = (r.params.zip us).foldl (fun tmps (p : Nat × Value) => tmps.setIfInBounds p.1 p.2) L.tmps := by
      rw [← l3.params, ← Array.foldl_toList]
      simp
    have hy := run_yield (P := X.P) (args := us.toArray) l2 (by simp; omega)
    rw [hfold] at hy
    refine ⟨_, _, _, _, _, hy, roundX_of ?_ ?_⟩
    · rw [l3.fn]
      unfold isFn at hc3
      split at hc3
      · rename_i g hg
        exact ⟨g, (hX.fns _ (assoc_mem hg)).1⟩
      · simp at hc3
    · rw [l3.fn, l3.assign, l3.body]
      have hS : Sat true w0 σ { tm := pairs2 r.params xs r.tm, n := r.n, hp := hp, nx := nx, df := [], rd := true } { tmps := (r.params.zip us).foldl (fun tmps (p : Nat × Value) => tmps.setIfInBounds p.1 p.2) L.tmps, defers := [] } w :=
        ⟨hh, t1, by rw [t2]; exact l3.n, .nil, hb, rfl⟩
      refine wpX_mono (evC_sound (α := α) hX.mix hX.pures ih r.fn X.u (fun _ => none) r.assign (fun _ _ _ h => by simp at h) σ _ _ w _ hS h) ?_
      rintro e a1 w1 ⟨τ, x, s1, e1, hS1, hx1, h1⟩
      cases x <;> simp only at h1 <;> try (simp [Tree.sat] at h1; done)
      cases e <;> simp only [ExR] at hx1
      refine ⟨rfl, ?_⟩
      split at h1 <;> try (simp [Tree.sat] at h1; done)
      rename_i r1 hr1
      obtain ⟨n1, L1, m1, m2, m3, m4⟩ := hS1.h.ob id _ hr1
      have hn1 : n1 = n := Option.some.inj (m1.symm.trans (e1.1 _ _ hσ))
      subst hn1
      split at h1 <;> try (simp [Tree.sat] at h1; done)
      rename_i hst1
      refine ⟨L1, m2, m3.st.trans hst1, ?_⟩
      have hob : ∀ (W : World) (st : LoopState) (pd : Option Code), (W.heap[n1]? = some (.loop { L1 with state := st, pending := pd })) → ObRel w0.heap.size τ W id (.lp { r1 with st := st, pend := pd }) :=
        fun W st pd hW => ⟨n1, _, m1, hW, ⟨m3.tm, m3.n, m3.fn, m3.params, m3.assign, m3.body, rfl, rfl⟩, m4⟩
      have hlt : n1 < w1.heap.size := hS1.h.bound id n1 m1
      have H1 := hS1.h.turnObj (by rw [hr1]; simp) m1 (.loop { L1 with state := .busy }) (o := .lp { r1 with st := .busy })
        ⟨n1, _, m1, World.putObj_heap_same hlt, ⟨m3.tm, m3.n, m3.fn, m3.params, m3.assign, m3.body, rfl, m3.pend⟩, m4⟩
      have hS2 : Sat true w0 τ { s1 with hp := upd s1.hp id (some (.lp { r1 with st := .busy })) } a1 (w1.putObj n1 (.loop { L1 with state := .busy })) :=
        ⟨H1, hS1.tm, hS1.n, hS1.df, below_putObj hS1.bl m4 _, hS1.rd⟩
      refine wpX_mono (evC_sound (α := α) hX.mix hX.pures ih r.fn X.u (fun _ => none) r.body (fun _ _ _ h => by simp at h) τ _ a1 _ _ hS2 h1) ?_
      rintro e a2 w2 ⟨τ2, x, s2, e2, hS3, hx2, h2⟩
      split at h2 <;> try (simp [Tree.sat] at h2; done)
      rename_i r2 hr2
      obtain ⟨n2, L2, p1, p2, p3, p4⟩ := hS3.h.ob id _ hr2
      have hn2 : n2 = n1 := Option.some.inj (p1.symm.trans ((e1.trans e2).1 _ _ hσ))
      subst hn2
      have hlt2 : n2 < w2.heap.size := hS3.h.bound id n2 p1
      have fin : ∀ (st : LoopState) (pd : Option Code) (y : Bool), (K (.ret (.bool y)) (upd s2.hp id (some (.lp { r2 with st := st, pend := pd }))) s2.nx).sat R → CRes w0 σ K R (.returned (.bool y)) (w2.putObj n2 (.loop { L2 with state := st, pending := pd })) := by
        intro st pd y hk
        have H2 := hS3.h.turnObj (by rw [hr2]; simp) p1 (.loop { L2 with state := st, pending := pd }) (o := .lp { r2 with st := st, pend := pd })
          ⟨n2, _, p1, World.putObj_heap_same hlt2, ⟨p3.tm, p3.n, p3.fn, p3.params, p3.assign, p3.body, rfl, rfl⟩, p4⟩
        exact ⟨.ret (.bool y), τ2, _, _, e1.trans e2, H2, below_putObj hS3.bl p4 _, by simp only [OutR, Rep], hk⟩
      cases x <;> cases e <;> simp only [ExR] at hx2 <;> simp only at h2
      · exact ⟨L2, p2, fin _ _ _ h2⟩
      · subst hx2
        exact ⟨L2, p2, fin _ _ _ h2⟩
      · exact ⟨L2, p2, fin _ _ _ h2⟩
      · split at h2 <;> try (simp [Tree.sat] at h2; done)
        rename_i hdf
        have hdn := hS3.df
        rw [hdf] at hdn
        exact ⟨dfl_nil hdn, .pan _, τ2, _, _, e1.trans e2, hS3.h, hS3.bl, hx2, h2⟩

theorem body_sound {X : Ctx} (hX : CtxOk X) {α : Type} {R : α → Prop} {cT : CallT α} (hc : CTok X.P cT R) {w0 : World} {σ : Env} {hp : Heap} {nx : Nat} {w : World} {f : FuncId} {xs : List AV} {us : List Value} {K : Out → Heap → Nat → Tree α}
    (hh : HRel w0.heap.size σ hp nx w) (hb : Below w0.heap.size w0 w) (hu : RepL σ xs us) (h : (evBody X cT f xs hp nx K).sat R) : (callFunc f us.toArray).run X.P w = .ok (.enter f us.toArray) w ∧ Calls' X.P f us.toArray w (CRes w0 σ K R) := by
  unfold evBody at h
  cases hf : assoc X.fns f with
  | none => simp [hf, Tree.sat] at h
  | some fn =>
    simp only [hf] at h
    obtain ⟨h1, h2, h3⟩ := hX.fns _ (assoc_mem hf)
    simp only at h1 h2 h3
    cases hbd : fn.body with
    | none => simp [hbd, Tree.sat] at h
    | some c =>
      simp only [hbd] at h
      cases hnn : Nat.ble (lenA xs) fn.ntmps with
      | false => simp [hnn, Tree.sat] at h
      | true =>
        simp only [hnn, cond_true] at h
        simp only [Nat.ble_eq, lenA_eq] at hnn
        have hpl : Plain X.P f := ⟨fn, h1, h2, by simp [hbd]⟩
        refine ⟨hpl.run _ _, ?_⟩
        have hlen := hu.length
        have hS : Sat false w0 σ { tm := frameOf xs, n := fn.ntmps, hp := hp, nx := nx, df := [], rd := false } { tmps := us.toArray ++ Array.replicate (fn.ntmps - us.toArray.size) undef, defers := [] } w := by
          refine ⟨hh, fun t => ?_, ?_, .nil, hb, rfl⟩
          · have := frameOf_rep xs us hu (fn.ntmps - us.toArray.size) t
            have he : (us.toArray ++ Array.replicate (fn.ntmps - us.toArray.size) undef).getD t undef = (us ++ List.replicate (fn.ntmps - us.toArray.size) undef)[t]?.getD undef := by
              rw [Array.getD_eq_getD_getElem?, ← Array.getElem?_toList]
              simp
            rw [he]; exact this
          · simp; omega
        have hw := evC_sound (α := α) hX.mix hX.pures hc f X.u (assoc2 X.loops f) c (fun d hd g hg => h3 c hbd d hd g hg) σ _ _ w _ hS h
        intro cs
        let b : Frame := { (default : Frame) with fn := f, kind := .normal }
        have henter : Frame.enter X.P f us.toArray .normal = atX b { tmps := us.toArray ++ Array.replicate (fn.ntmps - us.toArray.size) undef, defers := [] } [.code c] := by
          simp [Frame.enter, atX, h1, hbd, b]
          rfl
        rw [henter]
        obtain ⟨e, a', w', ⟨τ, x, s', he, hS', hx, h'⟩, hleft⟩ := left_of_wpX (cs := cs) (b := b) rfl rfl hw (by
          rintro id a' w' ⟨τ, x, s', _, _, hx, h'⟩
          cases x <;> simp only [ExR] at hx
          simp [Tree.sat] at h')
        have hout : ∀ (m : Option AV) (mode : FrameMode) (todo : List Item) (Z : Option AV → Heap → Nat → Tree α), MRel τ m mode → Steps X.P (lone (atX b { tmps := us.toArray ++ Array.replicate (fn.ntmps - us.toArray.size) undef, defers := [] } [.code c]) cs w) (lone { atX b a' todo with mode := mode } cs w') →
            (∀ m' hp' nx', Z m' hp' nx' = match m' with | none => (match resultsA X.P { s' with hp := hp' } fn.results.toList with | some l => K (.ret (tupA l)) hp' nx' | none => .fail) | some x => (match m with | some _ => K (.pan x) hp' nx' | none => .fail)) →
            (evLeave X cT s'.df m s'.hp s'.nx Z).sat R →
            ∃ e w' fr, ((match e with | .outgrown => False | _ => True) ∧ CRes w0 σ K R e w') ∧ Comes X.P (lone (atX b { tmps := us.toArray ++ Array.replicate (fn.ntmps - us.toArray.size) undef, defers := [] } [.code c]) cs w) (lone fr cs w') e ∧ fr.fn = f ∧ fr.leaving X.P w' e := by
          intro m mode todo Z hm hs1 hZ hk
          obtain ⟨τ2, w2, m2, mode2, hp2, nx2, s2, r0, r1, r2, r3, r4⟩ := leave_sound hX hc s'.df a'.defers τ m s'.hp s'.nx w' { atX b a' todo with mode := mode } _ hm rfl hS'.df hS'.h hS'.bl hk cs
          rw [hZ] at r4
          cases m2 with
          | none =>
            simp only at r4
            cases hr : resultsA X.P { s' with hp := hp2 } fn.results.toList with
            | none => rw [hr] at r4; simp [Tree.sat] at r4
            | some l =>
              rw [hr] at r4
              have hS2 : Sat false w0 τ2 { s' with hp := hp2, nx := nx2 } a' w2 := ⟨r2, fun t => (hS'.tm t).mono r0, hS'.n, hS'.df.mono r0, r3, hS'.rd⟩
              have hr' : resultsA X.P { s' with hp := hp2, nx := nx2 } fn.results.toList = some l := by
                rw [← hr]
                have : ∀ rs : List ResultVar, resultsA X.P { s' with hp := hp2, nx := nx2 } rs = resultsA X.P { s' with hp := hp2 } rs := by
                  intro rs
                  induction rs with
                  | nil => rfl
                  | cons r rs ih => cases r <;> simp only [resultsA, ih]
                exact this _
              obtain ⟨v, hv1, hv2⟩ := results_run hS2 hr'
              have hmode : mode2 = .returning := r1
              subst hmode
              exact ⟨.returned v, w2, { atX b a' todo with mode := .returning, defers := [] }, ⟨trivial, .ret (tupA l), τ2, hp2, nx2, he.trans r0, r2, r3, hv2, r4⟩, Steps.trans hs1 s2, rfl, rfl, rfl, rfl, fn, h1, hv1⟩
          | some x =>
            cases m with
            | none => simp [Tree.sat] at r4
            | some y =>
              simp only at r4
              obtain ⟨v, hv, hmode⟩ := r1
              subst hmode
              exact ⟨.panicked [{ v, recovered := false }], w2, { atX b a' todo with mode := .panicking _, defers := [] }, ⟨trivial, .pan x, τ2, hp2, nx2, he.trans r0, r2, r3, ⟨v, hv, rfl⟩, r4⟩, Steps.trans hs1 s2, rfl, rfl, rfl, fn, h1⟩
        cases x <;> cases e <;> simp only [ExR] at hx <;> simp only at h'
        · obtain ⟨todo, hs1⟩ := hleft
          exact hout none .returning todo _ rfl hs1 (fun m' _ _ => by cases m' <;> rfl) h'
        · simp [Tree.sat] at h'
        · obtain ⟨todo, hs1⟩ := hleft
          exact hout none .returning todo _ rfl hs1 (fun m' _ _ => by cases m' <;> rfl) h'
        · obtain ⟨todo, hs1⟩ := hleft
          obtain ⟨v, hv, rfl⟩ := hx
          exact hout (some _) _ todo _ ⟨v, hv, rfl⟩ hs1 (fun m' _ _ => by cases m' <;> rfl) h'
theorem evFn_sound {X : Ctx} (hX : CtxOk X) {α : Type} (R : α → Prop) : ∀ (m : Nat), CTok X.P (evFn (α := α) X m) R
  | 0 => by intro w0 σ hp nx w c xs us K _ _ _ h; simp [evFn, Tree.sat] at h
  | n + 1 => by
    intro w0 σ hp nx w c xs us K hh hb hu h
    cases c with
    | yld id => exact round_sound hX (evFn_sound hX R n) hh hb hu h
    | fn f =>
      simp only [evFn] at h
      show (callFunc f us.toArray).run X.P w = .ok (.enter f us.toArray) w ∧ Calls' X.P f us.toArray w (CRes w0 σ K R)
      cases hpx : (assoc X.pures f).bind (fun g => (g.run ((viewL X.P hp g.vw xs).map (toRO X.P hp))).map fun r => (g.flat || g.fr, viewLIds hp g.vw xs, g.pv, r)) with
      | some y =>
        obtain ⟨fl, vi, pv, c, x⟩ := y
        simp only [hpx] at h
        cases hg : assoc X.pures f with
        | none => simp [hg] at hpx
        | some g =>
          simp only [hg, Option.bind_some, Option.map_eq_some_iff, Prod.mk.injEq] at hpx
          obtain ⟨r, hr, rfl, rfl, rfl, rfl⟩ := hpx
          obtain ⟨h1, h2, h3⟩ := hX.pures _ (assoc_mem hg)
          cases c with
          | false =>
            simp only [cond_false] at h
            split at h
            · rename_i p hp'
              refine ⟨h1.run _ _, ?_⟩
              have hro := toRVs_rep (P := X.P) hh (xs.flatMap idsOf ++ viewLIds hp g.vw xs) g.vw hu (fun i hi => List.mem_append_left _ hi) (fun i hi => List.mem_append_right _ hi)
              obtain ⟨hin, hcalls⟩ := h3 p hp' { σ with mem := frozen σ hp (xs.flatMap idsOf ++ viewLIds hp g.vw xs) w } w _ us x hh.bound (frozen_ok hh _) hro hr
              refine hcalls.mono ?_
              rintro e w' ⟨rfl, hbl⟩
              exact ⟨.pan (pvA p), σ, hp, nx, Ext.refl _, hh.below hbl, hb.trans (hbl.mono hb.size), ⟨_, pvA_rep hin, rfl⟩, h⟩
            · exact h.elim
          | true => exact ⟨h1.run _ _, pure_sound h2 hh hb hu hr (by simpa using h)⟩
      | none =>
      simp only [hpx] at h
      cases hs : assoc X.specs f with
      | some c =>
        simp only [hs, sat_bind] at h
        obtain ⟨h1, h2⟩ := hX.specs _ (assoc_mem hs)
        exact ⟨h1.run _ _, (h2 w0 σ hp nx w xs us _ hh hb hu h).mono fun e w' ⟨y, τ, hp', nx', k1, k2, k3, k4, k5⟩ => ⟨y, τ, hp', nx', k1, k2, k3, k4, k5⟩⟩
      | none =>
        simp only [hs] at h
        exact body_sound hX (evFn_sound hX R n) hh hb hu h
end V
end Go.Proofs.Ytgchccljmjmibaa
/- From the evaluator to contracts: summaries of functions by plain data; calls of laws. -/
namespace Go.Proofs.Ytgchccljmjmibaa
open Go.RowKit Go.WideShapes Go.ChangeShapes
namespace V

/-! numbers of data are numbers of their kinds -/
mutual
def WFD : (c : TC) → TCT c → Prop
  | .b, _ => True
  | .i k, n => inK k n
  | .s, _ => True
  | .sl c, xs => (xs.length : Int) ≤ maxK .i64 ∧ ∀ x ∈ xs, WFD c x
  | .st cs, x => WFDs cs x
def WFDs : (cs : List TC) → TCTs cs → Prop
  | [], _ => True
  | c :: cs, x => WFD c x.1 ∧ WFDs cs x.2
end
theorem LR.allx {T : Type} {R : T → List Value → Prop} {Q : T → Prop} (h : ∀ x vs, R x vs → Q x) : ∀ {xs : List T} {vs : List Value}, LR R xs vs → ∀ x ∈ xs, Q x
  | [], _, _ => by simp
  | x :: xs, vs, ⟨a, b, _, k1, k2⟩ => by
    intro y hy
    rcases List.mem_cons.1 hy with rfl | hy
    · exact h _ a k1
    · exact LR.allx h k2 y hy
mutual
theorem RepD.wf {m : Nat → Nat → Option Value} : ∀ (c : TC) (x : TCT c) (vs : List Value), RepD m c x vs → WFD c x
  | .b, _, _, _ => by simp only [WFD]
  | .i k, _, _, h => by simp only [RepD] at h; simp only [WFD]; exact h.2
  | .s, _, _, _ => by simp only [WFD]
  | .sl c, xs, vs, h => by
    simp only [RepD] at h
    simp only [WFD]
    obtain ⟨v, _, h⟩ := h
    rcases h with ⟨_, rfl⟩ | ⟨b, o, s, cap, us, _, h2, h3, _, h5⟩
    · simp [maxK]
    · exact ⟨by omega, LR.allx (fun x vs k => RepD.wf c x vs k) h5⟩
  | .st cs, x, vs, h => by simp only [RepD] at h; simp only [WFD]; exact RepDs.wf cs x vs h
theorem RepDs.wf {m : Nat → Nat → Option Value} : ∀ (cs : List TC) (x : TCTs cs) (vs : List Value), RepDs m cs x vs → WFDs cs x
  | [], _, _, _ => by simp only [WFDs]
  | c :: cs, x, vs, h => by
    simp only [RepDs] at h
    obtain ⟨a, b, _, h1, h2⟩ := h
    simp only [WFDs]
    exact ⟨RepD.wf c x.1 a h1, RepDs.wf cs x.2 b h2⟩
end
mutual
theorem RepD.noSl {m m' : Nat → Nat → Option Value} : ∀ (c : TC) (x : TCT c) (vs : List Value), c.noSl = true → RepD m c x vs → RepD m' c x vs
  | .b, _, _, _, h => by simpa only [RepD] using h
  | .i _, _, _, _, h => by simpa only [RepD] using h
  | .s, _, _, _, h => by simpa only [RepD] using h
  | .sl c, _, _, hn, _ => by simp [TC.noSl] at hn
  | .st cs, x, vs, hn, h => by simp only [RepD] at h ⊢; exact RepDs.noSl cs x vs (by simpa only [TC.noSl] using hn) h
theorem RepDs.noSl {m m' : Nat → Nat → Option Value} : ∀ (cs : List TC) (x : TCTs cs) (vs : List Value), noSls cs = true → RepDs m cs x vs → RepDs m' cs x vs
  | [], _, _, _, h => by simpa only [RepDs] using h
  | c :: cs, x, vs, hn, h => by
    simp only [noSls, Bool.and_eq_true] at hn
    simp only [RepDs] at h ⊢
    obtain ⟨a, b, e, h1, h2⟩ := h
    exact ⟨a, b, e, RepD.noSl c x.1 a hn.1 h1, RepDs.noSl cs x.2 b hn.2 h2⟩
end
theorem decA_enc {σ : Env} {c : TC} {x : AV} {v : Value} {y : TCT c} (h : decA c x = some y) (k : Rep σ x v) (τ : Env) (hτ : τ.mem = σ.mem ∨ c.noSl = true) : Rep τ (encA c y) v ∧ WFD c y := by
  obtain ⟨h1, h2, h3⟩ := decA_rep h k
  refine ⟨encA_rep c y v ?_ h2 h3, RepD.wf c y _ h1⟩
  rcases hτ with e | e
  · rw [e]; exact h1
  · exact RepD.noSl c y _ e h1
theorem decAs_enc {σ : Env} : ∀ {cs : List TC} {xs : List AV} {us : List Value} {y : TCTs cs}, decAs cs xs = some y → RepL σ xs us → ∀ (τ : Env), (τ.mem = σ.mem ∨ noSls cs = true) → RepL τ (encAs cs y) us ∧ WFDs cs y
  | [], xs, us, y, h, k, τ, _ => by
    cases xs with
    | nil => simp only [RepL] at k; simp only [encAs, RepL, WFDs]; exact ⟨k, trivial⟩
    | cons x xs => simp [decAs] at h
  | c :: cs, xs, us, y, h, k, τ, hτ => by
    cases xs with
    | nil => simp [decAs] at h
    | cons x xs =>
      simp only [decAs] at h
      split at h <;> try (simp at h; done)
      rename_i z zs hz hzs
      simp only [Option.some.injEq] at h
      subst h
      simp only [RepL] at k
      obtain ⟨v, us', rfl, k1, k2⟩ := k
      have h1 := decA_enc hz k1 τ (hτ.imp id fun e => by simp only [noSls, Bool.and_eq_true] at e; exact e.1)
      have h2 := decAs_enc hzs k2 τ (hτ.imp id fun e => by simp only [noSls, Bool.and_eq_true] at e; exact e.2)
      simp only [encAs, RepL, WFDs]
      exact ⟨⟨v, us', rfl, h1.1, h2.1⟩, h1.2, h2.2⟩
theorem encAs_len : ∀ (cs : List TC) (y : TCTs cs), (encAs cs y).length = cs.length
  | [], _ => rfl
  | c :: cs, y => by simp only [encAs, List.length_cons, encAs_len cs y.2]
theorem tupA_of : ∀ {l : List AV}, (∀ a, l = [a] → False) → tupA l = .tup l
  | [], _ => rfl
  | [a], h => (h a rfl).elim
  | _ :: _ :: _, _ => rfl
theorem decR_enc {σ : Env} {rs : List TC} {x : AV} {v : Value} {y : TCTs rs} (h : decR rs x = some y) (k : Rep σ x v) (τ : Env) (hτ : τ.mem = σ.mem ∨ noSls rs = true) : Rep τ (encR rs y) v := by
  unfold decR at h
  split at h
  · rename_i c x'
    split at h <;> try (simp at h; done)
    rename_i z hz
    simp only [Option.some.injEq] at h
    subst h
    exact (decA_enc hz k τ (hτ.imp id fun e => by simp only [noSls, Bool.and_true] at e; exact e)).1
  · rename_i rs' x' l hne
    simp only [Rep] at k
    obtain ⟨vs, k1, rfl⟩ := k
    have h2 := (decAs_enc h k1 τ hτ).1
    have hl := encAs_len _ y
    unfold encR
    rw [tupA_of (fun a h3 => by
      rw [h3] at hl
      match rs, hl, hne with
      | [c], _, hne => exact hne c rfl
      | [], hl, _ => simp at hl
      | _ :: _ :: _, hl, _ => simp at hl)]
    simp only [Rep]
    exact ⟨vs, h2, rfl⟩
  · simp at h

/-! contracts -/
def noHeap : Heap := fun _ => none
/-- the environment of a call: what it may read -/
def env0 (mem : Nat → Nat → Option Value) : Env := ⟨fun _ => none, mem, fun _ => none, mem, fun _ => none, 0, fun _ => false, fun _ => false⟩
theorem hrel_none {mem : Nat → Nat → Option Value} {w : World} (hm : MemOk mem w) (B : Nat) : HRel B (env0 mem) noHeap 0 w :=
  ⟨fun id o h => by simp [noHeap] at h, fun i j n h => absurd rfl h, fun i _ => ⟨rfl, rfl, rfl⟩, fun i n h => by simp [env0] at h, hm, fun i n h => absurd rfl h, fun _ _ _ h _ => h, ⟨Nat.zero_le _, fun _ _ h => by simp [env0] at h, fun _ _ _ _ => rfl, fun _ _ _ _ => rfl⟩, ⟨fun i h => by simp [env0] at h, fun i h => by simp [env0] at h, fun i h => by simp [env0] at h⟩⟩
/-- a list, with the lists in its elements -/
def ro2 (P : Program) (hp : Heap) : AV → AV
  | .sl id off st len cap => match hp id with
    | some (.blk b) => match rowC P b.ty st with
      | some c => bif Nat.beq st c.size && Nat.ble (off + len * st) (lenA b.cs) then match decRows c len (takeA (len * st) (dropA off (b.cs.map (ro1 P hp)))) with
          | some xs => .ro c xs
          | none => .sl id off st len cap
        else .sl id off st len cap
      | none => .sl id off st len cap
    | _ => .sl id off st len cap
  | .own id => match hp id with
    | some (.lit L) => match rowC P L.ty L.st with
      | some c => bif Nat.beq L.st c.size && Nat.beq (lenA L.cs) (L.n * L.st) then match decRows c L.n (L.cs.map (ro1 P hp)) with
          | some xs => .ro c xs
          | none => .own id
        else .own id
      | none => .own id
    | _ => ro1 P hp (.own id)
  | x => ro1 P hp x
def ids2 (hp : Heap) : AV → List Nat
  | .sl id _ _ _ _ => id :: (match hp id with
    | some (.blk b) => b.cs.flatMap ids1
    | _ => [])
  | .own id => id :: (match hp id with
    | some (.lit L) => L.cs.flatMap ids1
    | _ => [])
  | x => ids1 x
theorem ro2_rep {P : Program} {B : Nat} {σ : Env} {hp : Heap} {nx : Nat} {w : World} (h : HRel B σ hp nx w) (ids : List Nat) {x : AV} {v : Value} (hx : Rep σ x v) (hi : ∀ i ∈ ids2 hp x, i ∈ ids) : Rep { σ with mem := frozen σ hp ids w } (ro2 P hp x) v := by
  have hext : Ext σ { σ with mem := frozen σ hp ids w } := ⟨fun _ _ h => h, frozen_ge h ids, fun _ _ h => h, rfl, rfl, rfl, rfl, rfl⟩
  cases x with
  | sl id off st len cap =>
    simp only [ro2]
    split
    · rename_i b hb
      split
      · rename_i c hc
        cases hbb : (Nat.beq st c.size && Nat.ble (off + len * st) (lenA b.cs)) with
        | false => simp only [cond_false]; exact hx.mono hext
        | true =>
          simp only [cond_true]
          simp only [Bool.and_eq_true, Nat.beq_eq, Nat.ble_eq, lenA_eq] at hbb
          obtain ⟨hb1, hb2⟩ := hbb
          split
          · rename_i xs hxs
            subst hb1
            obtain ⟨n, vs, h1, h2, h3, h4⟩ := h.ob id _ hb
            simp only [Rep] at hx ⊢
            obtain ⟨hlc, hcap, b', hb', rfl⟩ := hx
            rw [h1] at hb'; cases hb'
            have h3' : RepL { σ with mem := frozen σ hp ids w } (b.cs.map (ro1 P hp)) vs := ro1s_rep h ids h3 fun y hy i hii => hi i (by
              simp only [ids2, hb, List.mem_cons, List.mem_flatMap]
              exact .inr ⟨y, hy, hii⟩)
            simp only [takeA_eq, dropA_eq] at hxs
            have hcl : (((b.cs.map (ro1 P hp)).drop off).take (len * c.size)).length = len * c.size := by simp; omega
            obtain ⟨k1, k2⟩ := decRows_rep len _ _ xs hxs ((h3'.drop off).take _) hcl
            refine slD_mk (.inr ⟨n, off, none, cap, _, by rw [k2], ?_, hcap, ⟨.inr rfl, fun j u hj => ?_⟩, k1⟩)
            · rw [k2]; exact hlc.2
            · show frozen σ hp ids w n (off + j) = some u
              unfold frozen
              rw [if_pos ⟨id, hi id (by simp [ids2]), by rw [hb]; simp, h1⟩, cell_of_row w n (off + j) vs.toArray b.ty (0, 0) h2]
              rw [List.getElem?_take] at hj
              split at hj
              · rw [List.getElem?_drop] at hj; simpa using hj
              · simp at hj
          · exact hx.mono hext
      · exact hx.mono hext
    · exact hx.mono hext
  | own id =>
    simp only [ro2]
    split
    · rename_i L hL
      split
      · rename_i c hc
        cases hbb : (Nat.beq L.st c.size && Nat.beq (lenA L.cs) (L.n * L.st)) with
        | false => simp only [cond_false]; exact hx.mono hext
        | true =>
          simp only [cond_true]
          simp only [Bool.and_eq_true, Nat.beq_eq, lenA_eq] at hbb
          obtain ⟨hb1, hb2⟩ := hbb
          split
          · rename_i xs hxs
            obtain ⟨v', us, h1, h2, h3, h4, h5⟩ := h.ob id _ hL
            simp only [Rep] at hx ⊢
            have e : v' = v := Option.some.inj (h1.symm.trans hx.1)
            subst e
            have h3' : RepL { σ with mem := frozen σ hp ids w } (L.cs.map (ro1 P hp)) us := ro1s_rep h ids h3 fun y hy i hii => hi i (by
              simp only [ids2, hL, List.mem_cons, List.mem_flatMap]
              exact .inr ⟨y, hy, hii⟩)
            have hcl : (L.cs.map (ro1 P hp)).length = L.n * c.size := by rw [List.length_map, hb2, hb1]
            obtain ⟨k1, k2⟩ := decRows_rep L.n _ _ xs hxs h3' hcl
            refine slD_mk ?_
            rcases h2.2 with ⟨rfl, k⟩ | ⟨g, cap, cur, rfl, m2, m3, m4, m5, m6, m7⟩
            · exact .inl ⟨rfl, List.eq_nil_of_length_eq_zero (k2.trans k)⟩
            · simp only [maxLen] at m5
              have hne : hp id ≠ none := by rw [hL]; simp
              have hg := (h5 g).1 rfl
              refine .inr ⟨g, 0, none, cap, us, by rw [k2], by rw [k2]; exact m4, by simp only [maxK]; omega, ⟨.inr rfl, fun j u hj => ?_⟩, k1⟩
              show frozen σ hp ids w g (0 + j) = some u
              unfold frozen
              rw [if_pos ⟨id, hi id (by simp [ids2]), hne, hg⟩]
              have := h2.cells (g := g) rfl j u hj
              rwa [Addr.add_lit] at this
          · exact hx.mono hext
      · exact hx.mono hext
    · exact ro1_rep h ids hx (fun i hii => hi i (by simp only [ids1, List.mem_singleton] at hii; subst hii; simp [ids2]))
  | _ => simp only [ro2]; exact ro1_rep h ids hx hi
def toRO2 (P : Program) (hp : Heap) : AV → AV
  | .agg cs => .agg (cs.map (ro2 P hp))
  | x => ro2 P hp x
def idsOf2 (hp : Heap) : AV → List Nat
  | .agg cs => cs.flatMap (ids2 hp)
  | x => ids2 hp x
theorem toRO2_rep {P : Program} {B : Nat} {σ : Env} {hp : Heap} {nx : Nat} {w : World} (h : HRel B σ hp nx w) (ids : List Nat) {x : AV} {v : Value} (hx : Rep σ x v) (hi : ∀ i ∈ idsOf2 hp x, i ∈ ids) : Rep { σ with mem := frozen σ hp ids w } (toRO2 P hp x) v := by
  cases x with
  | agg cs =>
    simp only [toRO2, Rep] at hx ⊢
    obtain ⟨vs, h1, h2⟩ := hx
    refine ⟨vs, ?_, h2⟩
    have hi' : ∀ y ∈ cs, ∀ i ∈ ids2 hp y, i ∈ ids := fun y hy i hii => hi i (by simp only [idsOf2, List.mem_flatMap]; exact ⟨y, hy, hii⟩)
    clear h2 hi
    induction cs generalizing vs with
    | nil => simpa only [List.map_nil, RepL] using h1
    | cons y ys ih =>
      simp only [List.map_cons, RepL] at h1 ⊢
      obtain ⟨u, us, rfl, k1, k2⟩ := h1
      exact ⟨u, us, rfl, ro2_rep h ids k1 (hi' y (by simp)), ih us k2 (fun z hz => hi' z (by simp [hz]))⟩
  | _ => simp only [toRO2]; exact ro2_rep h ids hx hi
theorem toRO2s_rep {P : Program} {B : Nat} {σ : Env} {hp : Heap} {nx : Nat} {w : World} (h : HRel B σ hp nx w) (ids : List Nat) : ∀ {xs : List AV} {us : List Value}, RepL σ xs us → (∀ x ∈ xs, ∀ i ∈ idsOf2 hp x, i ∈ ids) → RepL { σ with mem := frozen σ hp ids w } (xs.map (toRO2 P hp)) us
  | [], _, hu, _ => by simpa only [List.map_nil, RepL] using hu
  | x :: xs, us, hu, hi => by
    simp only [List.map_cons, RepL] at hu ⊢
    obtain ⟨v, us', rfl, k1, k2⟩ := hu
    exact ⟨v, us', rfl, toRO2_rep h ids k1 (hi x (by simp)), toRO2s_rep h ids k2 (fun y hy => hi y (by simp [hy]))⟩
def toR (P : Program) (hp : Heap) : AV → AV
  | .tup l => .tup (l.map (toRO2 P hp))
  | x => toRO2 P hp x
def idsR (hp : Heap) : AV → List Nat
  | .tup l => l.flatMap (idsOf2 hp)
  | x => idsOf2 hp x
theorem toR_rep {P : Program} {B : Nat} {σ : Env} {hp : Heap} {nx : Nat} {w : World} (h : HRel B σ hp nx w) {x : AV} {v : Value} (hx : Rep σ x v) : Rep { σ with mem := frozen σ hp (idsR hp x) w } (toR P hp x) v := by
  cases x with
  | tup l =>
    simp only [toR, Rep, idsR] at hx ⊢
    obtain ⟨vs, h1, h2⟩ := hx
    exact ⟨vs, toRO2s_rep h _ h1 (fun y hy i hi => List.mem_flatMap.2 ⟨y, hy, hi⟩), h2⟩
  | _ => simp only [toR, idsR]; exact toRO2_rep h _ hx (fun i hi => hi)
/-- the result, as data -/
def outK (P : Program) (rs : List TC) (v : Out) (hp : Heap) (_ : Nat) : Tree (TCTs rs) :=
  match v with
  | .ret x => match decR rs (toR P hp x) with
    | some y => .leaf y
    | none => .fail
  | .pan _ => .fail

theorem pureOk_of {P : Program} {f : FuncId} {cs rs : List TC} {ok : TCTs cs → Bool} {F : TCTs cs → TCTs rs}
    (h : ∀ x : TCTs cs, ok x = true → WFDs cs x → ∀ (w : World) (mem : Nat → Nat → Option Value) (us : List Value), MemOk mem w → RepL (env0 mem) (encAs cs x) us → Calls' P f us.toArray w (CRes w (env0 mem) (outK P rs) (fun y => y = F x))) : PureOk P f (spec cs rs ok F) := by
  intro σ w xs us r _ hm hu hg
  simp only [spec] at hg
  cases hd : decAs cs xs with
  | none => simp [hd] at hg
  | some x =>
    simp only [hd, Option.some.injEq, Prod.mk.injEq] at hg
    obtain ⟨hok, rfl⟩ := hg
    obtain ⟨h1, h2⟩ := decAs_enc hd hu (env0 σ.mem) (.inl rfl)
    refine (h x hok h2 w σ.mem us hm h1).mono ?_
    rintro e w' ⟨y, τ, hp', nx', k1, k2, k3, k4, k5⟩
    cases y with
    | pan z => simp [outK, Tree.sat] at k5
    | ret z =>
      simp only [outK] at k5
      split at k5 <;> try (simp [Tree.sat] at k5; done)
      rename_i q hq
      simp only [Tree.sat] at k5
      subst k5
      cases e with
      | returned v =>
        have hz := toR_rep (P := P) k2 (show Rep τ z v from k4)
        refine ⟨v, frozen τ hp' (idsR hp' z) w', rfl, frozen_ok k2 _, fun b o u hb => frozen_ge k2 _ b o u (k1.2 b o u hb), fun b o u hb => ?_, fun _ => decR_enc hq hz _ (.inl rfl), fun hf τ' _ => decR_enc hq hz τ' (.inr hf), fun h => absurd (show false = true from h) (by decide), k3⟩
        unfold frozen at hb
        split at hb
        · rename_i hex
          obtain ⟨id, _, hne, hat⟩ := hex
          exact .inr (k2.ge hne hat)
        · rcases Nat.lt_or_ge b w.heap.size with hlt | hge
          · have := k2.low b o u hb hlt
            rw [k1.4] at this
            exact .inl this
          · exact .inr hge
      | panicked c => exact k4.elim
      | outgrown => exact k4.elim

/-! contracts whose lists are new -/
/-- a list of the call's own, of plain elements; no other list -/
def own1 (hp : Heap) : AV → AV
  | .own id => match hp id with
    | some (.arr A) => bif A.c.noSl then .ro A.c A.xs else .top
    | _ => .top
  | .bool b => .bool b
  | .int k n => .int k n
  | .val v => .val v
  | _ => .top
def ownR (hp : Heap) : AV → AV
  | .tup l => .tup (l.map (own1 hp))
  | x => own1 hp x
/-- the result, as data; its lists are the call's own -/
def outNew (rs : List TC) (v : Out) (hp : Heap) (_ : Nat) : Tree (TCTs rs) :=
  match v with
  | .ret x => match decR rs (ownR hp x) with
    | some y => .leaf y
    | none => .fail
  | .pan _ => .fail
def specNew (cs rs : List TC) (ok : TCTs cs → Bool) (f : TCTs cs → TCTs rs) : PureT :=
  { run := fun l => match decAs cs l with
      | some x => some (ok x, encR rs (f x))
      | none => none
    flat := false
    fr := true }
noncomputable abbrev newEnv (B : Nat) (m : Nat → Nat → Option Value) : Env := ⟨fun _ => none, fun b o => bif Nat.ble B b then m b o else none, fun _ => none, fun _ _ => none, fun _ => none, 0, fun _ => false, fun _ => false⟩
theorem own1_rep {B : Nat} {σ : Env} {hp : Heap} {nx : Nat} {w : World} (h : HRel B σ hp nx w) (ids : List Nat) {x : AV} {v : Value} (hx : Rep σ x v) (hi : ∀ i ∈ ids1 x, i ∈ ids) : Rep (newEnv B (frozen σ hp ids w)) (own1 hp x) v := by
  cases x with
  | own id =>
    simp only [own1]
    split
    · rename_i A hA
      cases hn : A.c.noSl with
      | false => simp only [cond_false, Rep]
      | true =>
        simp only [cond_true]
        obtain ⟨v', us, h1, h2, h3, h4, h5⟩ := h.ob id _ hA
        simp only [Rep] at hx ⊢
        have e : v' = v := Option.some.inj (h1.symm.trans hx.1)
        subst e
        refine slD_mk ?_
        rcases h2.2 with ⟨rfl, k⟩ | ⟨g, cap, cur, rfl, k2, k3, k4, k5, k6, k7⟩
        · exact .inl ⟨rfl, List.eq_nil_of_length_eq_zero k⟩
        · simp only [maxLen] at k5
          have hne : hp id ≠ none := by rw [hA]; simp
          have hg := (h5 g).1 rfl
          refine .inr ⟨g, 0, none, cap, us, rfl, k4, by simp only [maxK]; omega, ⟨.inr rfl, fun j u hj => ?_⟩, LR.mono (fun x vs => RepD.noSl _ x vs hn) h3⟩
          show (bif Nat.ble B g then frozen σ hp ids w g (0 + j) else none) = some u
          rw [Nat.ble_eq_true_of_le (h.ge hne hg), cond_true]
          unfold frozen
          rw [if_pos ⟨id, hi id (by simp [ids1]), hne, hg⟩]
          have := h2.cells (g := g) rfl j u hj
          rwa [Addr.add_lit] at this
    · simp only [Rep]
  | bool b => simpa only [own1, Rep] using hx
  | int k n => simpa only [own1, Rep] using hx
  | val u => simpa only [own1, Rep] using hx
  | _ => simp only [own1, Rep]
theorem own1s_rep {B : Nat} {σ : Env} {hp : Heap} {nx : Nat} {w : World} (h : HRel B σ hp nx w) (ids : List Nat) : ∀ {xs : List AV} {us : List Value}, RepL σ xs us → (∀ x ∈ xs, ∀ i ∈ ids1 x, i ∈ ids) → RepL (newEnv B (frozen σ hp ids w)) (xs.map (own1 hp)) us
  | [], _, hu, _ => by simpa only [List.map_nil, RepL] using hu
  | x :: xs, us, hu, hi => by
    simp only [List.map_cons, RepL] at hu ⊢
    obtain ⟨v, us', rfl, k1, k2⟩ := hu
    exact ⟨v, us', rfl, own1_rep h ids k1 (hi x (by simp)), own1s_rep h ids k2 (fun y hy => hi y (by simp [hy]))⟩
def idsO : AV → List Nat
  | .tup l => l.flatMap ids1
  | x => ids1 x
theorem ownR_rep {B : Nat} {σ : Env} {hp : Heap} {nx : Nat} {w : World} (h : HRel B σ hp nx w) {x : AV} {v : Value} (hx : Rep σ x v) : Rep (newEnv B (frozen σ hp (idsO x) w)) (ownR hp x) v := by
  cases x with
  | tup l =>
    simp only [ownR, Rep, idsO] at hx ⊢
    obtain ⟨vs, h1, h2⟩ := hx
    exact ⟨vs, own1s_rep h _ h1 (fun y hy i hi => List.mem_flatMap.2 ⟨y, hy, hi⟩), h2⟩
  | _ => simp only [ownR, idsO]; exact own1_rep h _ hx (fun i hi => hi)
theorem pureOk_fr {P : Program} {f : FuncId} {cs rs : List TC} {ok : TCTs cs → Bool} {F : TCTs cs → TCTs rs}
    (h : ∀ x : TCTs cs, ok x = true → WFDs cs x → ∀ (w : World) (mem : Nat → Nat → Option Value) (us : List Value), MemOk mem w → RepL (env0 mem) (encAs cs x) us → Calls' P f us.toArray w (CRes w (env0 mem) (outNew rs) (fun y => y = F x))) : PureOk P f (specNew cs rs ok F) := by
  intro σ w xs us r _ hm hu hg
  simp only [specNew] at hg
  cases hd : decAs cs xs with
  | none => simp [hd] at hg
  | some x =>
    simp only [hd, Option.some.injEq, Prod.mk.injEq] at hg
    obtain ⟨hok, rfl⟩ := hg
    obtain ⟨h1, h2⟩ := decAs_enc hd hu (env0 σ.mem) (.inl rfl)
    refine (h x hok h2 w σ.mem us hm h1).mono ?_
    rintro e w' ⟨y, τ, hp', nx', k1, k2, k3, k4, k5⟩
    cases y with
    | pan z => simp [outNew, Tree.sat] at k5
    | ret z =>
      simp only [outNew] at k5
      split at k5 <;> try (simp [Tree.sat] at k5; done)
      rename_i q hq
      simp only [Tree.sat] at k5
      subst k5
      cases e with
      | returned v =>
        have hz := ownR_rep k2 (show Rep τ z v from k4)
        have hfr := decR_enc hq hz (newEnv w.heap.size (frozen τ hp' (idsO z) w')) (.inl rfl)
        refine ⟨v, frozen τ hp' (idsO z) w', rfl, frozen_ok k2 _, fun b o u hb => frozen_ge k2 _ b o u (k1.2 b o u hb), fun b o u hb => ?_, fun _ => Rep.mono3 (σ := newEnv w.heap.size (frozen τ hp' (idsO z) w')) ⟨fun i b h => (by cases h), fun b o u hu => ?_, fun i u h => (by cases h)⟩ _ v hfr, fun h => absurd (show false = true from h) (by decide), fun _ => hfr, k3⟩
        · unfold frozen at hb
          split at hb
          · rename_i hex
            obtain ⟨id, _, hne, hat⟩ := hex
            exact .inr (k2.ge hne hat)
          · rcases Nat.lt_or_ge b w.heap.size with hlt | hge
            · have := k2.low b o u hb hlt
              rw [k1.4] at this
              exact .inl this
            · exact .inr hge
        · have hu : (bif Nat.ble w.heap.size b then frozen τ hp' (idsO z) w' b o else none) = some u := hu
          cases hc : Nat.ble w.heap.size b with
          | true => rw [hc] at hu; exact hu
          | false => rw [hc] at hu; cases hu
      | panicked c => exact k4.elim
      | outgrown => exact k4.elim
theorem q_byNew {X : Ctx} (hX : CtxOk X) {f : FuncId} {cs rs : List TC} {ok : TCTs cs → Bool} {F : TCTs cs → TCTs rs} (m : Nat) (T : TCTs cs → Tree (TCTs rs))
    (hT : ∀ x : TCTs cs, evFn X m (.fn f) (encAs cs x) noHeap 0 (outNew rs) = T x) (h : ∀ x, ok x = true → WFDs cs x → (T x).sat (fun y => y = F x)) : PureOk X.P f (specNew cs rs ok F) :=
  pureOk_fr fun x hok hwf w mem us hm hu => (evFn_sound hX (fun y => y = F x) m w (env0 mem) noHeap 0 w (.fn f) _ us (outNew rs) (hrel_none hm _) (Below.refl _ w) hu (by rw [hT x]; exact h x hok hwf)).2

theorem pureOk_of_ev {X : Ctx} (hX : CtxOk X) {f : FuncId} {cs rs : List TC} {ok : TCTs cs → Bool} {F : TCTs cs → TCTs rs} (m : Nat)
    (h : ∀ x : TCTs cs, ok x = true → WFDs cs x → (evFn X m (.fn f) (encAs cs x) noHeap 0 (outK X.P rs)).sat (fun y => y = F x)) : PureOk X.P f (spec cs rs ok F) :=
  pureOk_of fun x hok hwf w mem us hm hu => (evFn_sound hX (fun y => y = F x) m w (env0 mem) noHeap 0 w (.fn f) _ us (outK X.P rs) (hrel_none hm _) (Below.refl _ w) hu (h x hok hwf)).2
theorem pureOk_of_body {X : Ctx} (hX : CtxOk X) {f : FuncId} {cs rs : List TC} {ok : TCTs cs → Bool} {F : TCTs cs → TCTs rs} (m : Nat)
    (h : ∀ x : TCTs cs, ok x = true → WFDs cs x → (evBody X (evFn X m) f (encAs cs x) noHeap 0 (outK X.P rs)).sat (fun y => y = F x)) : PureOk X.P f (spec cs rs ok F) :=
  pureOk_of fun x hok hwf w _mem _us hm hu => (body_sound hX (evFn_sound hX (fun y => y = F x) m) (w0 := w) (hrel_none hm _) (Below.refl _ w) hu (h x hok hwf)).2

/-- a law's result has to be true -/
def lawK (v : Out) (_ : Heap) (_ : Nat) : Tree Unit :=
  match v with
  | .ret (.bool b) => bif b then .leaf () else .fail
  | _ => .fail
theorem law_calls {X : Ctx} (hX : CtxOk X) {f : FuncId} (m : Nat) {xs : List AV} {us : List Value} {w : World} {mem : Nat → Nat → Option Value} (hm : MemOk mem w) (hu : RepL (env0 mem) xs us)
    (h : (evFn X m (.fn f) xs noHeap 0 lawK).sat (fun _ => True)) : Calls X.P f us.toArray w fun e w' => e = .returned (.bool true) ∧ Below w.heap.size w w' := by
  obtain ⟨_, hcalls⟩ := evFn_sound hX (fun _ => True) m w (env0 mem) noHeap 0 w (.fn f) xs us lawK (hrel_none hm _) (Below.refl _ w) hu h
  refine Calls.mono hcalls ?_
  rintro e w' ⟨_, y, τ, hp', nx', _, _, k3, k4, k5⟩
  cases y with
  | pan z => simp [lawK, Tree.sat] at k5
  | ret z =>
    cases z <;> simp only [lawK, Tree.sat] at k5
    rename_i b
    cases b with
    | false => simp [Tree.sat] at k5
    | true =>
      cases e with
      | returned v => simp only [OutR, Rep] at k4; subst k4; exact ⟨rfl, k3⟩
      | panicked c => exact k4.elim
      | outgrown => exact k4.elim

theorem sat_cond {α : Type} {R : α → Prop} {b : Bool} {s t : Tree α} (h1 : b = true → s.sat R) (h2 : b = false → t.sat R) : (bif b then s else t).sat R := by
  cases b with
  | true => exact h1 rfl
  | false => exact h2 rfl
theorem sat_leaf {α : Type} {R : α → Prop} {a : α} (h : R a) : (Tree.leaf a).sat R := h
theorem sat_eq {α : Type} {R : α → Prop} {s t : Tree α} (e : s = t) (h : t.sat R) : s.sat R := e ▸ h
/-- a condition that has to hold -/
theorem sat_must {α : Type} {R : α → Prop} {b : Bool} {t : Tree α} (hb : b = true) (h : t.sat R) : (bif b then t else .fail).sat R := by subst hb; exact h
theorem sat_iff {α : Type} {R : α → Prop} {b : Bool} {s t : Tree α} : (bif b then s else t).sat R ↔ (b = true → s.sat R) ∧ (b = false → t.sat R) := by cases b <;> simp

theorem puOk_nil {P : Program} : PuOk P [] := fun p hp => by simp at hp
theorem puOk_cons {P : Program} {f : FuncId} {g : PureT} {l : List (Nat × PureT)} (h1 : Plain P f) (h2 : PureOk P f g) (h : PuOk P l) (h3 : PanOk P f g := by exact panOk_none rfl) : PuOk P ((f, g) :: l) := by
  intro p hp
  rcases List.mem_cons.1 hp with rfl | hp
  · exact ⟨h1, h2, h3⟩
  · exact h p hp
/-- a function of the program, by its number -/
def FnIs (P : Program) (p : Nat × Func) : Prop := P.funcs[p.1]? = some p.2 ∧ (p.2.name == "runtime.NumGoroutine") = false ∧ p.2.body.isSome = true
theorem FnIs.plain {P : Program} {f : Nat} {fn : Func} (h : FnIs P (f, fn)) : Plain P f := ⟨fn, h.1, h.2.1, h.2.2⟩
theorem fns_nil {P : Program} : ∀ p ∈ ([] : List (Nat × Func)), FnIs P p := fun p hp => by simp at hp
theorem fns_cons {P : Program} {f : Nat} {fn : Func} {l : List (Nat × Func)} (h1 : FnIs P (f, fn)) (h : ∀ p ∈ l, FnIs P p) : ∀ p ∈ (f, fn) :: l, FnIs P p := by
  intro p hp
  rcases List.mem_cons.1 hp with rfl | hp
  · exact h1
  · exact h p hp
/-- a context without loops' summaries -/
def ctx (P : Program) (pu : List (Nat × PureT)) (fns : List (Nat × Func)) : Ctx := { P := P, u := 64, fns := fns, loops := [], pures := pu, specs := [] }
theorem ctx_ok {P : Program} (hm : P.follows .mixedOrders = true) {pu : List (Nat × PureT)} {fns : List (Nat × Func)} (hp : PuOk P pu) (hf : ∀ p ∈ fns, FnIs P p) : CtxOk (ctx P pu fns) :=
  ⟨hm, hp, fun p h => ⟨(hf p h).1, (hf p h).2.1, fun _ _ _ _ _ h => by simp [ctx, assoc2] at h⟩, fun p h => by simp [ctx] at h⟩

/-- a number of the kind is left as it is -/
theorem wrap_id {n : Int} (h1 : -9223372036854775808 ≤ n) (h2 : n ≤ 9223372036854775807) : IntKind.i64.wrap n = n := by
  unfold IntKind.wrap
  simp [IntKind.bits, IntKind.signed]
  split <;> omega
theorem in64 {n : Int} (h : inK .i64 n) : -9223372036854775808 ≤ n ∧ n ≤ 9223372036854775807 := h

section
variable {H : Type} {enc : TypeId × Value → H} {P : Program}
/-- the end of a law's proof: the call made blocks of its own, and turned nothing that was there -/
theorem post_law {f : Func} {s : ChangeSpec} {apart fresh handsOn again : Bool} {W W' : World} {args : Array Value} {v : Value} {ds gs : List (DataW H)} {before pa pv : List MemPlace}
    (hW : DataW.Whole enc P f.params.toList s.vars apart W args.toList ds gs before)
    (hres : ∀ (b : Nat) (sp : Nat → Bool) (hd : Bool), DataW.TrodAll enc P W' b sp hd f.resultTypes.toList (v.resultList f.resultTypes.size) (s.fn H (ds ++ gs)).results [])
    (hargs : ∀ sp : Nat → Bool, (∀ p ∈ before, sp p.block = true) → DataW.TrodAll enc P W' 0 sp true f.params.toList args.toList (s.fn H (ds ++ gs)).args pa)
    (hvars : ∀ sp : Nat → Bool, (∀ p ∈ before, sp p.block = true) → DataW.TrodVars enc P W' sp s.vars (s.fn H (ds ++ gs)).vars pv)
    (hps : before = pa ++ pv) (hb : Below W.heap.size W W')
    (hok : ∀ (j : Nat) (t : TypeId) (r : Value), f.resultTypes[j]? = some t → (v.resultList f.resultTypes.size)[j]? = some r → Value.okWide P W' .any 0 t r) :
    s.post enc P f apart fresh handsOn again W args v W' := by
  have hlt : ∀ p ∈ before, p.block < W.heap.size := fun p hp => hW.lt p hp
  have hold : ∀ p ∈ before, (fun b => decide (b < W.heap.size)) p.block = true := fun p hp => by simpa using hlt p hp
  refine ⟨ds, gs, before, [], pa, pv, hW, hres _ _ _, hargs _ hold, hvars _ hold, World.keptBut_mono (fun p hp => ⟨hp, ?_⟩) (hb.frame (· ∈ before)), fun _ => ?_⟩
  · rw [hps, List.mem_append] at hp
    exact Or.inr hp
  · obtain ⟨_, _, _, _, _, hz, hn⟩ := hW
    refine ⟨hok, _, _, ([] ++ pa) ++ pv, ⟨[] ++ pa, pv, trodAll_append (hargs _ (fun _ _ => rfl)) (hres _ _ _), hvars _ (fun _ _ => rfl), rfl, ?_, ?_⟩, ?_⟩
    · intro b off hp
      have hin : MemPlace.cell b off ∈ before := by rw [hps]; simpa using hp
      rw [hb.frozen (hlt _ hin)]
      exact hz b off hin
    · intro ha
      have := hn ha
      rw [hps] at this
      simpa using this
    · intro p hp _
      rw [hps]
      simpa using hp
end
end V
end Go.Proofs.Ytgchccljmjmibaa
