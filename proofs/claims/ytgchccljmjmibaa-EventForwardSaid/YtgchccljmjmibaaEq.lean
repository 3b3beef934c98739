/- The law EventForward: plain facts: sides that are known stay; a champion was a side in each round. -/
import Derived.Test.YtgchccljmjmibaaEp
namespace Go.Proofs.Ytgchccljmjmibaa
open Go.RowKit
namespace V
namespace Ev
/-! what is known stays -/
def leI (x y : Int) : Prop := x = -2 ∨ x = y
def all2 {α β : Type} (R : α → β → Prop) : List α → List β → Prop
  | [], [] => True
  | a :: l, b :: r => R a b ∧ all2 R l r
  | _, _ => False
theorem all2_app {α β : Type} {R : α → β → Prop} : ∀ {l l' : List α} {r r' : List β}, all2 R l r → all2 R l' r' → all2 R (l ++ l') (r ++ r')
  | [], _, [], _, _, h => h
  | a :: l, _, b :: r, _, h, h' => ⟨h.1, all2_app h.2 h'⟩
theorem all2_get {α β : Type} {R : α → β → Prop} : ∀ {l : List α} {r : List β}, all2 R l r → l.length = r.length ∧ ∀ (i : Nat) (h : i < l.length) (h' : i < r.length), R l[i] r[i]
  | [], [], _ => ⟨rfl, fun i h => by simp at h⟩
  | a :: l, b :: r, h => by
    obtain ⟨h1, h2⟩ := all2_get h.2
    refine ⟨by simp [h1], fun i hi hi' => ?_⟩
    cases i with
    | zero => exact h.1
    | succ i => exact h2 i (by simpa using hi) (by simpa using hi')
theorem winV_mono {o o' : Option (TCT cSc)} (ho : o = none ∨ o = o') {a a' b b' : Int} (ha : leI a a') (hb : leI b b') : leI (winV o a b) (winV o' a' b') := by
  unfold winV
  by_cases h1 : a = -1
  · have ea : a' = -1 := by rcases ha with h | h <;> omega
    rw [h1, ea]; exact hb
  · rw [show (a == -1) = false by simpa using h1]
    simp only [cond_false]
    by_cases h2 : b = -1
    · have eb : b' = -1 := by rcases hb with h | h <;> omega
      rw [h2, eb]
      simp only [beq_self_eq_true, cond_true]
      by_cases h3 : a' = -1
      · rw [h3]
        simp only [beq_self_eq_true, cond_true]
        rcases ha with h | h
        · exact Or.inl h
        · exact absurd (h.trans h3) h1
      · rw [show (a' == -1) = false by simpa using h3]
        exact ha
    · rw [show (b == -1) = false by simpa using h2]
      simp only [cond_false]
      by_cases h3 : a = -2
      · rw [h3]; simp only [bne_self_eq_false, Bool.false_and, Bool.and_false, cond_false]; exact Or.inl rfl
      · by_cases h4 : b = -2
        · rw [h4]; simp only [bne_self_eq_false, Bool.and_false, cond_false]; exact Or.inl rfl
        · have ea : a' = a := by rcases ha with h | h <;> omega
          have eb : b' = b := by rcases hb with h | h <;> omega
          rw [ea, eb, show (a == -1) = false by simpa using h1, show (b == -1) = false by simpa using h2]
          simp only [cond_false]
          rcases ho with h | h
          · rw [h]; exact Or.inl rfl
          · rw [h]; exact Or.inr rfl
def leP (p q : TCT cPq) : Prop := leI p.1 q.1 ∧ leI p.2.1 q.2.1
theorem siQ_mono {m m' : cMp} (hm : ∀ k, m k = none ∨ m k = m' k) : ∀ (d : Nat) (q q' : List Int) (out out' : List (TCT cPq)), all2 leI q q' → all2 leP out out' → all2 leP (siQ m d q out).2 (siQ m' d q' out').2
  | 0, _, _, _, _, _, h => h
  | d + 1, a :: b :: r, a' :: b' :: r', out, out', h, ho => by
    have hl := (all2_get ho).1
    refine siQ_mono hm d _ _ _ _ (all2_app h.2.2 ⟨?_, trivial⟩) (all2_app ho ⟨⟨h.1, h.2.1⟩, trivial⟩)
    rw [hl]
    exact winV_mono (hm _) h.1 h.2.1
  | d + 1, [], [], _, _, _, ho => ho
  | d + 1, [_], [_], _, _, _, ho => ho
  | d + 1, [], _ :: _, _, _, h, _ => h.elim
  | d + 1, _ :: _, [], _, _, h, _ => h.elim
  | d + 1, [_], _ :: _ :: _, _, _, h, _ => h.2.elim
  | d + 1, _ :: _ :: _, [_], _, _, h, _ => h.2.elim
theorem leI_refl : ∀ l : List Int, all2 leI l l
  | [] => trivial
  | _ :: l => ⟨Or.inr rfl, leI_refl l⟩
theorem f0_run (s : List Int) (l : List (TCT cSc)) (a b : List (TCT cPq)) (hw : (a.length : Int) ≤ maxK .i64) (h : all2 leP a b) : iter st_f0 (a.length + 1) (hd_f0 s l a b 0) = some (ex_f0 s l a) := by
  have hw' : (a.length : Int) ≤ 9223372036854775807 := hw
  obtain ⟨hl, hg⟩ := all2_get h
  have := iter_foldl (st := st_f0) a (fun i (_ : Unit) => hd_f0 s l a b i) (fun _ _ => ()) (fun _ => ex_f0 s l a) (fun _ _ => True) (fun i _ hi _ => ⟨?_, trivial⟩) (fun _ _ => ?_) () trivial
  · exact this
  · show (sm_f0 s l a b i).run = _
    have hb : i < b.length := by omega
    obtain ⟨g1, g2⟩ := hg i hi hb
    unfold sm_f0
    rw [decide_eq_true (show (i : Int) < (a.length : Int) by omega), inN_ok (by omega), show Int.toNat (i : Int) = i by omega, getA_lt hi, getA_lt hb]
    simp only [cond_true]
    have k1 : (b1_f0 s l a b i a[i] b[i]).run = some (.inl (hd_f0 s l a b ((i + 1 : Nat) : Int))) := by
      unfold b1_f0
      rw [inN_ok (by omega), inN_ok (by omega), inN_ok (by omega), W64_id (n := (i : Int) + 1) (by omega) (by omega)]
      by_cases h2 : a[i].2.1 = -2
      · rw [h2]; rfl
      · rw [show (a[i].2.1 != -2) = true by simpa using h2, show (a[i].2.1 != b[i].2.1) = false by rcases g2 with h | h; exact absurd h h2; simpa using h]
        rfl
    unfold b0_f0
    by_cases h2 : a[i].1 = -2
    · rw [show (a[i].1 != -2) = false by simpa using h2]; exact k1
    · rw [show (a[i].1 != -2) = true by simpa using h2, inN_ok (by omega), inN_ok (by omega), show (a[i].1 != b[i].1) = false by rcases g1 with h | h; exact absurd h h2; simpa using h]
      exact k1
  · show (sm_f0 s l a b a.length).run = _
    unfold sm_f0
    rw [decide_eq_false (show ¬ (a.length : Int) < (a.length : Int) by omega)]
    rfl
/-! a champion -/
def mW (w : Int) (p : TCT cPq) : Bool := p.1 == w || p.2.1 == w
def prs : List Int → List (TCT cPq)
  | a :: b :: r => (a, b, ()) :: prs r
  | _ => []
theorem lv_prs (m : cMp) : ∀ (j : Nat) (now next : List Int) (out : List (TCT cPq)), now.length = 2 * j → (lv m now next out).2 = out ++ prs now
  | 0, [], next, out, _ => by simp [lv, prs]
  | j + 1, a :: b :: r, next, out, h => by
    rw [show lv m (a :: b :: r) next out = lv m r (next ++ [winV (m (out.length : Int)) a b]) (out ++ [(a, b, ())]) from rfl, lv_prs m j r _ _ (by simp at h; omega)]
    simp [prs]
  | 0, _ :: _, _, _, h => by simp at h
  | j + 1, [], _, _, h => by simp at h
  | j + 1, [_], _, _, h => by simp at h; omega
theorem prs_len : ∀ (j : Nat) (now : List Int), now.length = 2 * j → (prs now).length = j
  | 0, [], _ => rfl
  | j + 1, a :: b :: r, h => by simp [prs, prs_len j r (by simp at h; omega)]
  | 0, _ :: _, h => by simp at h
  | j + 1, [], h => by simp at h
  | j + 1, [_], h => by simp at h; omega
theorem prs_count (w : Int) : ∀ (j : Nat) (now : List Int), now.length = 2 * j → (prs now).countP (mW w) ≤ now.count w ∧ (now.count w ≤ 1 → (prs now).countP (mW w) = now.count w)
  | 0, [], _ => ⟨Nat.le_refl _, fun _ => rfl⟩
  | j + 1, a :: b :: r, h => by
    obtain ⟨h1, h2⟩ := prs_count w j r (by simp at h; omega)
    simp only [prs, List.countP_cons, List.count_cons, mW]
    by_cases ha : a = w <;> by_cases hb : b = w <;> simp [ha, hb] <;> omega
  | 0, _ :: _, h => by simp at h
  | j + 1, [], h => by simp at h
  | j + 1, [_], h => by simp at h; omega
theorem winV_is (o : Option (TCT cSc)) (a b : Int) : winV o a b = a ∨ winV o a b = b ∨ winV o a b = -2 := by
  unfold winV
  cases a == -1 with
  | true => exact Or.inr (Or.inl rfl)
  | false =>
    cases b == -1 with
    | true => exact Or.inl rfl
    | false =>
      simp only [cond_false]
      cases (o.isSome && (a != -2 && b != -2)) with
      | false => exact Or.inr (Or.inr rfl)
      | true =>
        simp only [cond_true]
        cases decide ((or0 o).2.2.1 = 0)
        · exact Or.inr (Or.inl rfl)
        · exact Or.inl rfl
theorem winV_count (o : Option (TCT cSc)) (a b w : Int) (hw : w ≠ -2) : [winV o a b].count w ≤ [a, b].count w := by
  rcases winV_is o a b with h | h | h
  · rw [h]; simp only [List.count_cons, List.count_nil]; omega
  · rw [h]; simp only [List.count_cons, List.count_nil]; omega
  · rw [h, List.count_eq_zero.2 (show w ∉ [(-2 : Int)] by simp [hw])]; exact Nat.zero_le _
theorem siQ_count (m : cMp) (w : Int) (hw : w ≠ -2) : ∀ (d : Nat) (q : List Int) (out : List (TCT cPq)), (siQ m d q out).1.count w ≤ q.count w
  | 0, _, _ => Nat.le_refl _
  | d + 1, a :: b :: r, out => by
    have := siQ_count m w hw d (r ++ [winV (m (out.length : Int)) a b]) (out ++ [(a, b, ())])
    have h2 := winV_count (m (out.length : Int)) a b w hw
    rw [List.count_append] at this
    have h3 : (a :: b :: r).count w = [a, b].count w + r.count w := by rw [← List.count_append]; rfl
    rw [h3]
    exact Nat.le_trans this (by omega)
  | d + 1, [], _ => Nat.le_refl _
  | d + 1, [_], _ => Nat.le_refl _
theorem lv_count (m : cMp) (w : Int) (hw : w ≠ -2) : ∀ (j : Nat) (now next : List Int) (out : List (TCT cPq)), now.length = 2 * j → (lv m now next out).1.count w ≤ next.count w + now.count w
  | 0, [], next, out, _ => by simp [lv]
  | j + 1, a :: b :: r, next, out, h => by
    have := lv_count m w hw j r (next ++ [winV (m (out.length : Int)) a b]) (out ++ [(a, b, ())]) (by simp at h; omega)
    have h2 := winV_count (m (out.length : Int)) a b w hw
    rw [List.count_append] at this
    have h3 : (a :: b :: r).count w = [a, b].count w + r.count w := by rw [← List.count_append]; rfl
    rw [h3]
    exact Nat.le_trans this (by omega)
  | 0, _ :: _, _, _, h => by simp at h
  | j + 1, [], _, _, h => by simp at h
  | j + 1, [_], _, _, h => by simp at h; omega
theorem f3_run (a : List (TCT cPq)) (w : Int) (at' many : Nat) (h1 : at' + many ≤ a.length) (h2 : a.length ≤ 1000) : ∀ (j i f fuel : Nat), i + j = at' + many → f ≤ i → j < fuel →
    iter st_f3 fuel (hd_f3 a w at' many f i) = some (ex_f3 a w at' many ((f + ((a.drop i).take j).countP (mW w) : Nat) : Int))
  | 0, i, f, fuel + 1, hi, hf, _ => by
    refine iter_out ?_
    show (sm_f3 a w at' many f i).run = _
    unfold sm_f3
    rw [W64_id (n := (at' : Int) + many) (by omega) (by omega), decide_eq_false (show ¬ ((i : Int) < (at' : Int) + many) by omega)]
    simp
    rfl
  | j + 1, i, f, fuel + 1, hi, hf, hfu => by
    have hlt : i < a.length := by omega
    have hrun : (st_f3 (hd_f3 a w at' many f i)).run = some (.inl (hd_f3 a w at' many ((f + (bif mW w a[i] then 1 else 0) : Nat) : Int) ((i + 1 : Nat) : Int))) := by
      show (sm_f3 a w at' many f i).run = _
      unfold sm_f3
      rw [W64_id (n := (at' : Int) + many) (by omega) (by omega), decide_eq_true (show ((i : Int) < (at' : Int) + many) by omega), inN_ok (by omega), show Int.toNat (i : Int) = i by omega, getA_lt hlt]
      unfold bd_f3 mW
      rw [inN_ok (by omega), W64_id (n := (i : Int) + 1) (by omega) (by omega), W64_id (n := (f : Int) + 1) (by omega) (by omega)]
      cases a[i].1 == w <;> cases a[i].2.1 == w <;> rfl
    rw [iter_in hrun, f3_run a w at' many h1 h2 j (i + 1) _ fuel (by omega) (by cases mW w a[i] <;> simp <;> omega) (by omega), List.drop_eq_getElem_cons hlt, List.take_succ_cons, List.countP_cons]
    congr 2
    cases mW w a[i] <;> simp <;> omega
theorem f2_run (m : cMp) (A : List (TCT cPq)) (w : Int) (hA : A.length ≤ 1000) (hw : w ≠ -2) : ∀ (k : Nat) (now : List Int) (out : List (TCT cPq)) (fuel : Nat), now.length = 2 ^ (k + 1) → now.count w ≤ 1 → (siQ m (now.length - 1) now out).1 = [w] → (siQ m (now.length - 1) now out).2 = A → k + 1 < fuel →
    iter st_f2 fuel (hd_f2 A w (out.length : Nat) ((2 ^ k : Nat) : Int)) = some ex_f2 := by
  intro k
  induction k with
  | zero =>
    intro now out fuel h hc h1 h2 hf
    obtain ⟨fuel, rfl⟩ : ∃ n, fuel = n + 2 := ⟨fuel - 2, by omega⟩
    have hn : now.length = 2 * 1 := h
    have hp := (prs_count w 1 now hn).2 hc
    have hge : 1 ≤ now.count w := by
      have := siQ_count m w hw (now.length - 1) now out
      rw [h1] at this
      simpa using this
    have hq := siQ_lv m 1 0 now [] out hn
    rw [List.append_nil] at hq
    rw [show now.length - 1 = 1 + 0 by omega, hq, show siQ m 0 _ _ = ((lv m now [] out).1, (lv m now [] out).2) from rfl] at h2
    have h3 := lv_prs m 1 now [] out hn
    rw [show (((lv m now [] out).1, (lv m now [] out).2) : List Int × List (TCT cPq)).2 = (lv m now [] out).2 from rfl, h3] at h2
    have hl := prs_len 1 now hn
    have hAl : A.length = out.length + 1 := by rw [← h2]; simp [hl]
    have hrun : (st_f2 (hd_f2 A w (out.length : Nat) ((2 ^ 0 : Nat) : Int))).run = some (.inl (hd_f2 A w ((out.length + 1 : Nat) : Int) 0)) := by
      show (sm_f2 A w (out.length : Nat) ((2 ^ 0 : Nat) : Int)).run = _
      unfold sm_f2
      have f3 := f3_run A w out.length (2 ^ 0) (by simp; omega) hA (2 ^ 0) out.length 0 (A.length + 1) (by omega) (by omega) (by simp; omega)
      rw [show ((0 : Nat) : Int) = 0 from rfl] at f3
      rw [decide_eq_true (show ((2 ^ 0 : Nat) : Int) ≥ 1 by simp), f3]
      have e : ((A.drop out.length).take (2 ^ 0)).countP (mW w) = 1 := by
        rw [← h2, List.drop_left, List.take_of_length_le (by rw [hl]; simp), hp]; omega
      rw [e]
      show (bif ((0 + 1 : Nat) : Int) != 1 then Tree.leaf (Sum.inr rt_f2) else .leaf (.inl (hd_f2 A w (W64 ((out.length : Int) + ((2 ^ 0 : Nat) : Int))) (W64 (Int.tdiv ((2 ^ 0 : Nat) : Int) 2))))).run = _
      rw [W64_id (n := (out.length : Int) + ((2 ^ 0 : Nat) : Int)) (by simp; omega) (by simp; omega)]
      rfl
    rw [iter_in hrun]
    exact iter_out rfl
  | succ k ih =>
    intro now out fuel h hc h1 h2 hf
    obtain ⟨fuel, rfl⟩ : ∃ n, fuel = n + 1 := ⟨fuel - 1, by omega⟩
    have hpow : 2 ^ (k + 1 + 1) = 2 * 2 ^ (k + 1) := by rw [Nat.pow_succ]; omega
    have hpos : 0 < 2 ^ (k + 1) := Nat.two_pow_pos _
    have hn : now.length = 2 * 2 ^ (k + 1) := by omega
    have hp := (prs_count w _ now hn).2 hc
    have hge : 1 ≤ now.count w := by
      have := siQ_count m w hw (now.length - 1) now out
      rw [h1] at this
      simpa using this
    have hq := siQ_lv m (2 ^ (k + 1)) (2 ^ (k + 1) - 1) now [] out hn
    rw [List.append_nil, show 2 ^ (k + 1) + (2 ^ (k + 1) - 1) = now.length - 1 by omega] at hq
    obtain ⟨l1, l2⟩ := lv_len m (2 ^ (k + 1)) now [] out hn
    simp only [List.length_nil, Nat.zero_add] at l1
    have h3 := lv_prs m _ now [] out hn
    have hl := prs_len _ now hn
    have hc' : (lv m now [] out).1.count w ≤ 1 := by
      have := lv_count m w hw _ now [] out hn
      simp only [List.count_nil, Nat.zero_add] at this
      omega
    rw [hq] at h1 h2
    have hlen := (siQ_len m (2 ^ (k + 1) - 1) (lv m now [] out).1 (lv m now [] out).2 (by omega)).2
    have hAl : A.length = out.length + 2 ^ (k + 1) + (2 ^ (k + 1) - 1) := by rw [← h2, hlen, l2]
    have hpre : (A.drop out.length).take (2 ^ (k + 1)) = prs now := by
      have hx : ∀ (d : Nat) (q : List Int) (o : List (TCT cPq)), ∃ t, (siQ m d q o).2 = o ++ t := by
        intro d
        induction d with
        | zero => intro q o; exact ⟨[], by simp [siQ]⟩
        | succ d ihd =>
          intro q o
          match q with
          | a :: b :: r =>
            obtain ⟨t, ht⟩ := ihd (r ++ [winV (m (o.length : Int)) a b]) (o ++ [(a, b, ())])
            refine ⟨(a, b, ()) :: t, ?_⟩
            rw [show siQ m (d + 1) (a :: b :: r) o = siQ m d (r ++ [winV (m (o.length : Int)) a b]) (o ++ [(a, b, ())]) from rfl, ht]
            simp
          | [] => exact ⟨[], by simp [siQ]⟩
          | [a] => exact ⟨[], by simp [siQ]⟩
      obtain ⟨t, ht⟩ := hx (2 ^ (k + 1) - 1) (lv m now [] out).1 (lv m now [] out).2
      rw [h2, h3] at ht
      rw [ht, List.append_assoc, List.drop_left, List.take_append_of_le_length (by omega), List.take_of_length_le (by omega)]
    have hrun : (st_f2 (hd_f2 A w (out.length : Nat) ((2 ^ (k + 1) : Nat) : Int))).run = some (.inl (hd_f2 A w ((lv m now [] out).2.length : Nat) ((2 ^ k : Nat) : Int))) := by
      show (sm_f2 A w (out.length : Nat) ((2 ^ (k + 1) : Nat) : Int)).run = _
      unfold sm_f2
      have f3 := f3_run A w out.length (2 ^ (k + 1)) (by omega) hA (2 ^ (k + 1)) out.length 0 (A.length + 1) (by omega) (by omega) (by omega)
      rw [show ((0 : Nat) : Int) = 0 from rfl] at f3
      rw [decide_eq_true (show ((2 ^ (k + 1) : Nat) : Int) ≥ 1 by omega), f3]
      have e : ((A.drop out.length).take (2 ^ (k + 1))).countP (mW w) = 1 := by rw [hpre, hp]; omega
      rw [e]
      show (bif ((0 + 1 : Nat) : Int) != 1 then Tree.leaf (Sum.inr rt_f2) else .leaf (.inl (hd_f2 A w (W64 ((out.length : Int) + ((2 ^ (k + 1) : Nat) : Int))) (W64 (Int.tdiv ((2 ^ (k + 1) : Nat) : Int) 2))))).run = _
      have e2 : Int.tdiv ((2 ^ (k + 1) : Nat) : Int) 2 = ((2 ^ k : Nat) : Int) := by
        rw [show ((2 ^ (k + 1) : Nat) : Int) = ((2 ^ k : Nat) : Int) * 2 by rw [Nat.pow_succ]; omega]
        exact Int.mul_tdiv_cancel _ (by omega)
      have hk1 : 2 ^ (k + 1) = 2 * 2 ^ k := by rw [Nat.pow_succ]; omega
      rw [e2, W64_id (n := (out.length : Int) + ((2 ^ (k + 1) : Nat) : Int)) (by omega) (by omega), W64_id (n := ((2 ^ k : Nat) : Int)) (by omega) (by omega), l2, show (out.length : Int) + ((2 ^ (k + 1) : Nat) : Int) = ((out.length + 2 ^ (k + 1) : Nat) : Int) by omega]
      rfl
    rw [iter_in hrun]
    exact ih (lv m now [] out).1 (lv m now [] out).2 fuel l1 hc' (by rw [l1]; exact h1) (by rw [l1]; exact h2) (by omega)
end Ev
end V
end Go.Proofs.Ytgchccljmjmibaa
