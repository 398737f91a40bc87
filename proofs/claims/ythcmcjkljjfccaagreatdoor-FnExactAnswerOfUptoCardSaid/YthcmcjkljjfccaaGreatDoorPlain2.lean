/-
  The plain laws of the choice: the two ways to draw a target answer the same.
-/
import Derived.Test.YthcmcjkljjfccaaGreatDoorRead
set_option linter.unusedVariables false
set_option linter.unusedSimpArgs false
set_option maxRecDepth 20000
set_option linter.unusedVariables false
set_option linter.unusedSimpArgs false
namespace Go.Proofs.YthcmcjkljjfccaaGreatDoor.Abs
open Go Go.Proofs.Tryz

/-! ## The table of columns -/
theorem total_go (f : List Int → Nat → Int → Option Int) (h0 : ∀ i n, f [] i n = some n) (h1 : ∀ e l i n, f (e :: l) i n = f l (i + 1) (IntKind.i64.wrap (n + e))) : ∀ (l : List Int) (i : Nat) (n : Int), (∀ e ∈ l, 0 ≤ e ∧ e ≤ 50) → 0 ≤ n → n + 50 * (l.length : Int) ≤ 1000000 → f l i n = some (n + l.sum) ∧ 0 ≤ l.sum ∧ l.sum ≤ 50 * (l.length : Int)
  | [], i, n, _, _, _ => ⟨by rw [h0]; simp, by simp, by simp⟩
  | e :: l, i, n, h, hn, hb => by
    have he := h e (by simp)
    simp only [List.length_cons] at hb
    obtain ⟨a, b, c⟩ := total_go f h0 h1 l (i + 1) (n + e) (fun e he => h e (by simp [he])) (by omega) (by omega)
    rw [h1, w64 (n + e) (by omega) (by omega), a, List.sum_cons]
    refine ⟨by congr 1; omega, by omega, ?_⟩
    simp only [List.length_cons]; omega
theorem spec_total (l : List Int) (h : ∀ e ∈ l, 0 ≤ e ∧ e ≤ 50) (hl : l.length ≤ 12) : spec_l12Total l = some l.sum ∧ 0 ≤ l.sum ∧ l.sum ≤ 50 * (l.length : Int) := by
  have := total_go spec_l12Total_L1 (fun i n => by rw [spec_l12Total_L1]) (fun e l i n => by rw [spec_l12Total_L1]) l 0 0 h (by omega) (by omega)
  rw [Int.zero_add] at this
  exact this
theorem impl_total (l : List Int) (h : ∀ e ∈ l, 0 ≤ e ∧ e ≤ 50) (hl : l.length ≤ 12) : impl_totalOf l = some l.sum := by
  have := total_go impl_totalOf_L1 (fun i n => by rw [impl_totalOf_L1]) (fun e l i n => by rw [impl_totalOf_L1]) l 0 0 h (by omega) (by omega)
  rw [Int.zero_add] at this
  exact this.1
theorem sum_pos (l : List Int) (h : ∀ e ∈ l, 1 ≤ e) : (l.length : Int) ≤ l.sum := by
  induction l with
  | nil => simp
  | cons e l ih =>
    have := h e (by simp)
    have := ih (fun e he => h e (by simp [he]))
    simp only [List.length_cons, List.sum_cons]; omega
theorem spec_goodWeights (l : List Int) (h : ∀ e ∈ l, 1 ≤ e ∧ e ≤ 50) (hl : 1 ≤ l.length ∧ l.length ≤ 12) : spec_GoodWeights l = some true := by
  have key : ∀ (post : List Int) (i : Nat) (n : Int), (∀ e ∈ post, 1 ≤ e ∧ e ≤ 50) → 0 ≤ n → n + 50 * (post.length : Int) ≤ 1000000 → (1 ≤ n ∨ post ≠ []) → spec_GoodWeights_L1 l post i n = some true := by
    intro post
    induction post with
    | nil =>
      intro i n _ hn _ hp
      have hp' : 1 ≤ n := by simpa using hp
      have c : inR (l.length : Int) 1 12 = true := by simp [inR]; omega
      rw [spec_GoodWeights_L1, spec_GoodWeights_K1, spec_in, Option.bind_some, c, if_pos rfl]
      congr 1
      exact decide_eq_true (by omega)
    | cons e post ih =>
      intro i n he hn hb hp
      have h1 := he e (by simp)
      simp only [List.length_cons] at hb
      have c : inR e 0 50 = true := by simp [inR]; omega
      rw [spec_GoodWeights_L1, spec_in, Option.bind_some, c, if_neg (by decide), w64 _ (by omega) (by omega)]
      exact ih (i + 1) (n + e) (fun e he' => he e (by simp [he'])) (by omega) (by omega) (.inl (by omega))
  exact key l 0 0 h (by omega) (by omega) (.inr (by intro e; rw [e] at hl; simp at hl))
/-- What is left of each, and whether it is done. -/
abbrev Zs := List (Int × Bool)
def lowP (T : Int) (z : Int × Bool) : Bool := !z.2 && decide (z.1 < T)
def highP (T : Int) (z : Int × Bool) : Bool := !z.2 && decide (T < z.1)
def fiI (o : Option Nat) (k : Nat) : Int := match o with | some i => ((k + i : Nat) : Int) | none => -1
theorem fiI_cons {α : Type} (p : α → Bool) (x : α) (l : List α) (k : Nat) : fiI ((x :: l).findIdx? p) k = if p x = true then (k : Int) else fiI (l.findIdx? p) (k + 1) := by
  rw [List.findIdx?_cons]
  cases p x with
  | true => simp [fiI]
  | false =>
    simp only [Bool.false_eq_true, if_false]
    cases l.findIdx? p with
    | none => rfl
    | some i => simp only [Option.map_some, fiI]; congr 1; omega
theorem fst_at (pre post : Zs) (x : Int × Bool) : at? ((pre ++ x :: post).map Prod.fst) (pre.length : Int) = some x.1 := by
  rw [at?_nat]; simp
theorem snd_at (pre post : Zs) (x : Int × Bool) : at? ((pre ++ x :: post).map Prod.snd) (pre.length : Int) = some x.2 := by
  rw [at?_nat]; simp
theorem pick_step (s : Int) (b : Bool) (k : Nat) (r : Int) : (if (if s < 0 ∧ b = true then (k : Int) else s) < 0 then r else (if s < 0 ∧ b = true then (k : Int) else s)) = (if s < 0 then (if b = true then (k : Int) else r) else s) := by
  by_cases a : s < 0
  · cases b
    · simp [a]
    · have : ¬ (k : Int) < 0 := by omega
      simp [a, this]
  · simp [a]
theorem spec_scan (T : Int) (Z : Zs) (hZ : Z.length ≤ 12) (out : List TColumn) (rc : List Int → List Bool → List TColumn → Option (List TColumn × Bool)) : ∀ (n : Nat) (post pre : Zs) (s g : Int), Z = pre ++ post → post.length < n → (s < 0 → s = -1) → (g < 0 → g = -1) →
    spec_AliasOf_L2 T (Z.map Prod.fst) (Z.map Prod.snd) out rc n s g (pre.length : Int) =
      spec_AliasOf_K2 T (Z.map Prod.fst) (Z.map Prod.snd) out rc (if s < 0 then fiI (post.findIdx? (lowP T)) pre.length else s) (if g < 0 then fiI (post.findIdx? (highP T)) pre.length else g)
  | 0, post, pre, s, g, _, h, _, _ => by omega
  | n + 1, [], pre, s, g, h, _, hs, hg => by
    have hl : Z.length = pre.length := by rw [h]; simp
    rw [spec_AliasOf_L2, if_neg (by simp [hl])]
    have e1 : (if s < 0 then fiI (([] : Zs).findIdx? (lowP T)) pre.length else s) = s := by
      split
      · rename_i h; rw [hs h]; rfl
      · rfl
    have e2 : (if g < 0 then fiI (([] : Zs).findIdx? (highP T)) pre.length else g) = g := by
      split
      · rename_i h; rw [hg h]; rfl
      · rfl
    rw [e1, e2]
  | n + 1, x :: post, pre, s, g, h, hn, hs, hg => by
    have hl : Z.length = pre.length + (post.length + 1) := by rw [h]; simp
    simp only [List.length_cons] at hn
    have hf : at? (Z.map Prod.fst) (pre.length : Int) = some x.1 := by rw [h]; exact fst_at pre post x
    have hd : at? (Z.map Prod.snd) (pre.length : Int) = some x.2 := by rw [h]; exact snd_at pre post x
    have ew : IntKind.i64.wrap ((pre.length : Int) + 1) = ((pre ++ [x]).length : Int) := by rw [w64 _ (by omega) (by omega)]; simp
    have key : ∀ (s' g' : Int), s' = (if s < 0 ∧ lowP T x = true then (pre.length : Int) else s) → g' = (if g < 0 ∧ highP T x = true then (pre.length : Int) else g) →
        spec_AliasOf_L2 T (Z.map Prod.fst) (Z.map Prod.snd) out rc n s' g' (IntKind.i64.wrap ((pre.length : Int) + 1)) =
          spec_AliasOf_K2 T (Z.map Prod.fst) (Z.map Prod.snd) out rc (if s < 0 then fiI ((x :: post).findIdx? (lowP T)) pre.length else s) (if g < 0 then fiI ((x :: post).findIdx? (highP T)) pre.length else g) := by
      intro s' g' e1 e2
      have el : (pre ++ [x]).length = pre.length + 1 := by simp
      have hs' : s' < 0 → s' = -1 := by
        rw [e1]; split
        · intro h; omega
        · exact hs
      have hg' : g' < 0 → g' = -1 := by
        rw [e2]; split
        · intro h; omega
        · exact hg
      rw [ew, spec_scan T Z hZ out rc n post (pre ++ [x]) s' g' (by simp [h]) (by omega) hs' hg', fiI_cons, fiI_cons, el]
      rw [e1, e2, pick_step, pick_step]
    rw [spec_AliasOf_L2, if_pos (by simp; omega), hd, Option.bind_some]
    obtain ⟨z, d⟩ := x
    cases d with
    | true =>
      rw [if_pos rfl]
      exact key s g (by simp [lowP]) (by simp [highP])
    | false =>
      have k3 : ∀ s', spec_AliasOf_K3 T (Z.map Prod.fst) s g (pre.length : Int) (spec_AliasOf_L2 T (Z.map Prod.fst) (Z.map Prod.snd) out rc n) s' = spec_AliasOf_L2 T (Z.map Prod.fst) (Z.map Prod.snd) out rc n s' (if g < 0 ∧ highP T (z, false) = true then (pre.length : Int) else g) (IntKind.i64.wrap ((pre.length : Int) + 1)) := by
        intro s'
        rw [spec_AliasOf_K3, hf, Option.bind_some]
        by_cases a : T < z
        · have hh : highP T (z, false) = true := by simp [highP, a]
          rw [if_pos (by simpa using a), hh]
          by_cases b : g < 0
          · rw [if_pos (by simpa using b), if_pos ⟨b, rfl⟩]
          · rw [if_neg (by simpa using b), if_neg (fun h => b h.1)]
        · have hh : highP T (z, false) = false := by simp [highP, a]
          rw [if_neg (by simpa using a), hh, if_neg (fun h => by cases h.2)]
      rw [if_neg Bool.false_ne_true, hf, Option.bind_some]
      by_cases a : z < T
      · have hh : lowP T (z, false) = true := by simp [lowP, a]
        rw [if_pos (by simpa using a)]
        by_cases b : s < 0
        · rw [if_pos (by simpa using b), k3]
          exact key _ _ (by rw [hh, if_pos ⟨b, rfl⟩]) rfl
        · rw [if_neg (by simpa using b), k3]
          exact key _ _ (by rw [if_neg (fun h => b h.1)]) rfl
      · have hh : lowP T (z, false) = false := by simp [lowP, a]
        rw [if_neg (by simpa using a), k3]
        exact key _ _ (by rw [hh, if_neg (fun h => by cases h.2)]) rfl
theorem impl_scan (T : Int) (Z : Zs) (hZ : Z.length ≤ 12) (out : List TColumn) (rc : List Int → List TColumn → List Bool → Option (List TColumn)) : ∀ (n : Nat) (post pre : Zs), Z = pre ++ post → post.length < n →
    impl_aliasOf_L2 T (Z.map Prod.fst) out (Z.map Prod.snd) rc n (pre.length : Int) = impl_aliasOf_K2 T (Z.map Prod.fst) out (Z.map Prod.snd) rc (fiI (post.findIdx? (lowP T)) pre.length)
  | 0, post, pre, _, h => by omega
  | n + 1, [], pre, h, _ => by
    have hl : Z.length = pre.length := by rw [h]; simp
    rw [impl_aliasOf_L2, if_neg (by simp [hl])]; rfl
  | n + 1, x :: post, pre, h, hn => by
    have hl : Z.length = pre.length + (post.length + 1) := by rw [h]; simp
    simp only [List.length_cons] at hn
    have hf : at? (Z.map Prod.fst) (pre.length : Int) = some x.1 := by rw [h]; exact fst_at pre post x
    have hd : at? (Z.map Prod.snd) (pre.length : Int) = some x.2 := by rw [h]; exact snd_at pre post x
    have ew : IntKind.i64.wrap ((pre.length : Int) + 1) = ((pre ++ [x]).length : Int) := by rw [w64 _ (by omega) (by omega)]; simp
    have ih := impl_scan T Z hZ out rc n post (pre ++ [x]) (by simp [h]) (by omega)
    have el : (pre ++ [x]).length = pre.length + 1 := by simp
    rw [el] at ih
    rw [impl_aliasOf_L2, if_pos (by simp; omega), hf, Option.bind_some, hd, Option.bind_some, fiI_cons, ew, el, ih]
    obtain ⟨z, d⟩ := x
    cases d with
    | true => simp [lowP]
    | false =>
      by_cases a : z < T
      · have hh : lowP T (z, false) = true := by simp [lowP, a]
        simp [hh, a]
      · have hh : lowP T (z, false) = false := by simp [lowP, a]
        simp [hh, a]
theorem set_sum : ∀ (l : List Int) (i : Nat) (v w : Int), l[i]? = some v → (l.set i w).sum = l.sum - v + w
  | [], i, v, w, h => by simp at h
  | x :: l, 0, v, w, h => by
    simp only [List.getElem?_cons_zero, Option.some.injEq] at h
    subst h
    simp only [List.set_cons_zero, List.sum_cons]; omega
  | x :: l, i + 1, v, w, h => by
    have := set_sum l i v w (by simpa using h)
    simp only [List.set_cons_succ, List.sum_cons]; omega
theorem set_same {α : Type} {l : List α} {i : Nat} {v : α} (h : l[i]? = some v) : l.set i v = l := by
  apply List.ext_getElem?
  intro k
  rw [List.getElem?_set]
  by_cases e : i = k
  · subst e
    obtain ⟨hi, _⟩ := List.getElem?_eq_some_iff.1 h
    rw [if_pos rfl, if_pos hi, h]
  · rw [if_neg e]
theorem neg_sum {α : Type} (f : α → Int) : ∀ (l : List α), (∀ z ∈ l, f z ≤ 0) → (l.map f).sum ≤ 0 ∧ ((∃ z ∈ l, f z < 0) → (l.map f).sum < 0)
  | [], _ => ⟨by simp, by simp⟩
  | x :: l, h => by
    obtain ⟨a, b⟩ := neg_sum f l (fun z hz => h z (by simp [hz]))
    have hx := h x (by simp)
    simp only [List.map_cons, List.sum_cons]
    refine ⟨by omega, ?_⟩
    rintro ⟨z, hz, hneg⟩
    rcases List.mem_cons.1 hz with rfl | hz
    · omega
    · have := b ⟨z, hz, hneg⟩; omega
def owe (T : Int) (z : Int × Bool) : Int := if z.2 = true then 0 else z.1 - T
structure AInv (T : Int) (Z : Zs) : Prop where
  done : ∀ z ∈ Z, z.2 = true → z.1 < T
  range : ∀ z ∈ Z, 0 ≤ z.1 ∧ z.1 ≤ 10000
  sum : (Z.map (owe T)).sum = 0
def nd (Z : Zs) : Nat := Z.countP fun z => !z.2
structure OkCols (T : Int) (n : Nat) (out : List TColumn) : Prop where
  len : out.length = n
  each : ∀ c ∈ out, 0 ≤ c.fKeep ∧ c.fKeep ≤ T ∧ 0 ≤ c.fOther ∧ c.fOther < (n : Int)
theorem high_ex {T : Int} {Z : Zs} (h : AInv T Z) (hl : ∃ z ∈ Z, lowP T z = true) : ∃ j y, Z.findIdx? (highP T) = some j ∧ Z[j]? = some (y, false) ∧ T < y := by
  cases hj : Z.findIdx? (highP T) with
  | none =>
    exfalso
    have hn := List.findIdx?_eq_none_iff.1 hj
    have hall : ∀ z ∈ Z, owe T z ≤ 0 := by
      intro z hz
      have := hn z hz
      unfold owe
      split
      · exact Int.le_refl _
      · rename_i hd
        have hd' : z.2 = false := by simpa using hd
        simp only [highP, hd', Bool.not_false, Bool.true_and, decide_eq_false_iff_not] at this
        omega
    obtain ⟨z, hz, hlow⟩ := hl
    have := (neg_sum (owe T) Z hall).2 ⟨z, hz, by
      simp only [lowP, Bool.and_eq_true, Bool.not_eq_true', decide_eq_true_eq] at hlow
      unfold owe
      rw [if_neg (by rw [hlow.1]; exact Bool.false_ne_true)]
      omega⟩
    have := h.sum
    omega
  | some j =>
    obtain ⟨hlt, hp, _⟩ := List.findIdx?_eq_some_iff_getElem.1 hj
    simp only [highP, Bool.and_eq_true, Bool.not_eq_true', decide_eq_true_eq] at hp
    exact ⟨j, Z[j].1, rfl, by rw [List.getElem?_eq_getElem hlt, ← hp.1], hp.2⟩
theorem high_same {T : Int} : ∀ {Z : Zs}, (∀ z ∈ Z, z.2 = true → z.1 < T) → (Z.map Prod.fst).findIdx? (fun y => decide (T < y)) = Z.findIdx? (highP T)
  | [], _ => rfl
  | z :: Z, h => by
    rw [List.map_cons, List.findIdx?_cons, List.findIdx?_cons, high_same (fun z hz => h z (by simp [hz]))]
    have : decide (T < z.1) = highP T z := by
      unfold highP
      cases hd : z.2 with
      | false => simp
      | true => have := h z (by simp) hd; simp; omega
    rw [this]
theorem nd_set : ∀ (Z : Zs) (i : Nat) (z w : Int × Bool), Z[i]? = some z → nd (Z.set i w) + (if z.2 = true then 0 else 1) = nd Z + (if w.2 = true then 0 else 1)
  | [], i, z, w, h => by simp at h
  | x :: Z, 0, z, w, h => by
    simp only [List.getElem?_cons_zero, Option.some.injEq] at h
    subst h
    simp only [nd, List.set_cons_zero, List.countP_cons]
    cases x.2 <;> cases w.2 <;> simp
  | x :: Z, i + 1, z, w, h => by
    have := nd_set Z i z w (by simpa using h)
    simp only [nd, List.set_cons_succ, List.countP_cons] at this ⊢
    omega
theorem a_step {T : Int} {Z : Zs} (h : AInv T Z) {i j : Nat} {x y : Int} (hi : Z[i]? = some (x, false)) (hj : Z[j]? = some (y, false)) (hx : x < T) (hy : T < y) :
    AInv T ((Z.set j (y - (T - x), false)).set i (x, true)) ∧ ((Z.set j (y - (T - x), false)).set i (x, true)).map Prod.fst = (Z.map Prod.fst).set j (y - (T - x)) ∧ ((Z.set j (y - (T - x), false)).set i (x, true)).map Prod.snd = (Z.map Prod.snd).set i true ∧
      nd ((Z.set j (y - (T - x), false)).set i (x, true)) + 1 = nd Z := by
  have hij : j ≠ i := by
    intro e; subst e
    rw [hi] at hj
    simp only [Option.some.injEq, Prod.mk.injEq, and_true] at hj
    omega
  have hx0 := h.range (x, false) (List.mem_of_getElem? hi)
  have hy0 := h.range (y, false) (List.mem_of_getElem? hj)
  simp only at hx0 hy0
  have hi2 : (Z.set j (y - (T - x), false))[i]? = some (x, false) := by rw [List.getElem?_set_ne hij, hi]
  refine ⟨⟨?_, ?_, ?_⟩, ?_, ?_, ?_⟩
  · intro z hz hd
    rcases List.mem_or_eq_of_mem_set hz with hz | rfl
    · rcases List.mem_or_eq_of_mem_set hz with hz | rfl
      · exact h.done z hz hd
      · cases hd
    · exact hx
  · intro z hz
    rcases List.mem_or_eq_of_mem_set hz with hz | rfl
    · rcases List.mem_or_eq_of_mem_set hz with hz | rfl
      · exact h.range z hz
      · simp only; omega
    · exact hx0
  · rw [List.map_set, List.map_set, set_sum _ i (owe T (x, false)), set_sum _ j (owe T (y, false)), h.sum]
    · simp [owe]; omega
    · rw [List.getElem?_map, hj]; rfl
    · rw [← List.map_set, List.getElem?_map, hi2]; rfl
  · rw [List.map_set, List.map_set]
    exact set_same (by rw [← List.map_set, List.getElem?_map, hi2]; rfl)
  · rw [List.map_set, List.map_set]
    congr 1
    exact set_same (by rw [List.getElem?_map, hj]; rfl)
  · have n1 := nd_set Z j (y, false) (y - (T - x), false) hj
    have n2 := nd_set (Z.set j (y - (T - x), false)) i (x, false) (x, true) hi2
    simp only [Bool.false_eq_true, if_false, if_true] at n1 n2
    omega
end Go.Proofs.YthcmcjkljjfccaaGreatDoor.Abs
set_option maxRecDepth 20000
set_option linter.unusedVariables false
set_option linter.unusedSimpArgs false
namespace Go.Proofs.YthcmcjkljjfccaaGreatDoor.Abs
open Go Go.Proofs.Tryz

/-! ## The draw -/
theorem fiI_some (i : Nat) : fiI (some i) 0 = (i : Int) := by simp [fiI]
theorem alias_go {T : Int} (hT : 1 ≤ T ∧ T ≤ 600) : ∀ (m f1 f2 : Nat) (Z : Zs) (out : List TColumn), nd Z ≤ m → m < f1 → m < f2 → AInv T Z → Z.length ≤ 12 → OkCols T Z.length out →
    ∃ out', spec_AliasOf_L1 T f1 (Z.map Prod.fst) (Z.map Prod.snd) out = some (out', true) ∧ impl_aliasOf_L1 T f2 (Z.map Prod.fst) out (Z.map Prod.snd) = some out' ∧ OkCols T Z.length out'
  | m, 0, f2, Z, out, _, h, _, _, _, _ => by omega
  | m, f1 + 1, 0, Z, out, _, _, h, _, _, _ => by omega
  | m, f1 + 1, f2 + 1, Z, out, hm, h1, h2, hI, hl, hO => by
    have e1 := spec_scan T Z hl out (spec_AliasOf_L1 T f1) FU Z [] (-1) (-1) rfl (by unfold FU; omega) (fun _ => rfl) (fun _ => rfl)
    have e2 := impl_scan T Z hl out (impl_aliasOf_L1 T f2) FU Z [] rfl (by unfold FU; omega)
    simp only [List.length_nil, Int.natCast_zero] at e1 e2
    rw [if_pos (by decide), if_pos (by decide)] at e1
    rw [spec_AliasOf_L1, impl_aliasOf_L1, e1, e2]
    cases hi : Z.findIdx? (lowP T) with
    | none =>
      refine ⟨out, ?_, ?_, hO⟩
      · rw [spec_AliasOf_K2, if_pos (by simp [fiI])]
      · rw [impl_aliasOf_K2, if_pos (by simp [fiI])]
    | some i =>
      obtain ⟨hlt, hp, _⟩ := List.findIdx?_eq_some_iff_getElem.1 hi
      obtain ⟨j, y, hj, hy, hTy⟩ := high_ex hI ⟨_, List.getElem_mem hlt, hp⟩
      simp only [lowP, Bool.and_eq_true, Bool.not_eq_true', decide_eq_true_eq] at hp
      have hx : Z[i]? = some (Z[i].1, false) := by rw [List.getElem?_eq_getElem hlt, ← hp.1]
      generalize Z[i].1 = x at hx hp
      obtain ⟨s1, s2, s3, s4⟩ := a_step hI hx hy hp.2 hTy
      have hjl : j < Z.length := by
        obtain ⟨h, _⟩ := List.getElem?_eq_some_iff.1 hy
        exact h
      have hx0 := (hI.range _ (List.mem_of_getElem? hx))
      have hy0 := (hI.range _ (List.mem_of_getElem? hy))
      simp only at hx0 hy0
      have fx : at? (Z.map Prod.fst) (i : Int) = some x := by rw [at?_nat, List.getElem?_map, hx]; rfl
      have fy : at? (Z.map Prod.fst) (j : Int) = some y := by rw [at?_nat, List.getElem?_map, hy]; rfl
      have fd : at? (Z.map Prod.snd) (i : Int) = some false := by rw [at?_nat, List.getElem?_map, hx]; rfl
      have fo : ∃ c, at? out (i : Int) = some c := ⟨_, at_ok (by rw [hO.len]; exact hlt)⟩
      obtain ⟨c, fo⟩ := fo
      have po : put? out (i : Int) (⟨x, (j : Int)⟩ : TColumn) = some (out.set i ⟨x, (j : Int)⟩) := put_ok (by rw [hO.len]; exact hlt)
      have pl : put? (Z.map Prod.fst) (j : Int) (y - (T - x)) = some ((Z.map Prod.fst).set j (y - (T - x))) := put_ok (by simpa using hjl)
      have pd : put? (Z.map Prod.snd) (i : Int) true = some ((Z.map Prod.snd).set i true) := put_ok (by simpa using hlt)
      have hO' : OkCols T ((Z.set j (y - (T - x), false)).set i (x, true)).length (out.set i ⟨x, (j : Int)⟩) := by
        refine ⟨by simp [hO.len], fun c hc => ?_⟩
        rcases List.mem_or_eq_of_mem_set hc with hc | rfl
        · have := hO.each c hc; simpa using this
        · simp only [List.length_set]; omega
      obtain ⟨out', o1, o2, o3⟩ := alias_go hT (m - 1) f1 f2 ((Z.set j (y - (T - x), false)).set i (x, true)) (out.set i ⟨x, (j : Int)⟩) (by omega) (by omega) (by omega) s1 (by simpa using hl) hO'
      rw [s2, s3] at o1 o2
      have w1 : IntKind.i64.wrap (T - x) = T - x := w64 _ (by omega) (by omega)
      have w2 : IntKind.i64.wrap (y - (T - x)) = y - (T - x) := w64 _ (by omega) (by omega)
      have hix : slices_IndexFunc_int_int (Z.map Prod.fst) (fun q0 => impl_aliasOf_1 q0 T) = some (j : Int) := by
        unfold slices_IndexFunc_int_int
        rw [idx_loop (fun q0 => impl_aliasOf_1 q0 T) (fun y => decide (T < y)) (Z.map Prod.fst) (by simp; omega) (fun e _ => rfl) (slices_IndexFunc_int_int_L1 (Z.map Prod.fst) _) (fun n k => by rw [slices_IndexFunc_int_int_L1]), high_same hI.done, hj]
      refine ⟨out', ?_, ?_, by simpa using o3⟩
      · rw [spec_AliasOf_K2, fiI_some, hj, fiI_some, if_neg (by simp), if_neg (by simp), fx, fo, Option.bind_some, Option.bind_some, po, Option.bind_some, fy, Option.bind_some, Option.bind_some, Option.bind_some, w1, w2, pl, Option.bind_some, fd, Option.bind_some, pd, Option.bind_some, o1]
      · rw [impl_aliasOf_K2, fiI_some, if_neg (by simp), hix, Option.bind_some, fx, fo, Option.bind_some, Option.bind_some, po, Option.bind_some, fy, Option.bind_some, Option.bind_some, Option.bind_some, w1, w2, pl, Option.bind_some, fd, Option.bind_some, pd, Option.bind_some, o2]
/-- The columns as they are at first. -/
def cols (T : Int) : Nat → List Int → List TColumn
  | _, [] => []
  | i, _ :: l => ⟨T, (i : Int)⟩ :: cols T (i + 1) l
theorem cols_len (T : Int) : ∀ (i : Nat) (l : List Int), (cols T i l).length = l.length
  | _, [] => rfl
  | i, e :: l => by rw [cols, List.length_cons, cols_len T (i + 1) l]; rfl
theorem cols_ok {T : Int} (hT : 0 ≤ T) : ∀ (i : Nat) (l : List Int) (n : Nat), i + l.length ≤ n → ∀ c ∈ cols T i l, 0 ≤ c.fKeep ∧ c.fKeep ≤ T ∧ 0 ≤ c.fOther ∧ c.fOther < (n : Int)
  | _, [], n, _, c, h => by simp [cols] at h
  | i, e :: l, n, hn, c, h => by
    simp only [List.length_cons] at hn
    rw [cols] at h
    rcases List.mem_cons.1 h with rfl | h
    · exact ⟨hT, Int.le_refl _, by simp, by simp only; omega⟩
    · exact cols_ok hT (i + 1) l n (by omega) c h
theorem cols_app (T : Int) : ∀ (i : Nat) (l m : List Int), cols T i (l ++ m) = cols T i l ++ cols T (i + l.length) m
  | _, [], m => by simp [cols]
  | i, e :: l, m => by
    rw [List.cons_append, cols, cols, cols_app T (i + 1) l m, List.length_cons, List.cons_append]
    congr 3; omega
theorem set_mid {α : Type} (p z : List α) (x y : α) : (p ++ x :: z).set p.length y = p ++ y :: z := by
  rw [List.set_append_right _ _ (Nat.le_refl _), Nat.sub_self, List.set_cons_zero]
theorem spec_init (l : List Int) (T : Int) (x5 : List Bool) (N : Int) : ∀ (post pre : List Int) (z : List Int) (zo : List TColumn), l = pre ++ post → (∀ e ∈ post, 0 ≤ e ∧ e ≤ 50) → l.length ≤ 12 → N = (l.length : Int) → z.length = post.length → zo.length = post.length →
    spec_AliasOf_L3 l T x5 post pre.length (pre.map (· * N) ++ z) (cols T 0 pre ++ zo) = spec_AliasOf_K1 T x5 (l.map (· * N)) (cols T 0 l)
  | [], pre, z, zo, h, _, _, _, hz, hzo => by
    have : z = [] := List.eq_nil_of_length_eq_zero hz
    have : zo = [] := List.eq_nil_of_length_eq_zero hzo
    subst z zo
    rw [spec_AliasOf_L3, List.append_nil, List.append_nil, h, List.append_nil]
  | e :: post, pre, z, zo, h, he, hl, hN, hz, hzo => by
    cases z with
    | nil => simp at hz
    | cons z0 z =>
      cases zo with
      | nil => simp at hzo
      | cons c0 zo =>
        have h1 := he e (by simp)
        have hp1 : (pre.map (· * N)).length = pre.length := by simp
        have hp2 : (cols T 0 pre).length = pre.length := cols_len T 0 pre
        have a1 : at? (pre.map (· * N) ++ z0 :: z) (pre.length : Int) = some z0 := by
          rw [at?_nat, ← hp1]; simp
        have a2 : at? (cols T 0 pre ++ c0 :: zo) (pre.length : Int) = some c0 := by
          rw [at?_nat, ← hp2]; simp
        have b0 : 0 ≤ e * (l.length : Int) ∧ e * (l.length : Int) ≤ 600 := by
          have k1 : e * (l.length : Int) ≤ 50 * 12 := Int.mul_le_mul h1.2 (by omega) (by omega) (by omega)
          have k2 := Int.mul_nonneg h1.1 (show (0 : Int) ≤ (l.length : Int) by omega)
          omega
        have p1 : put? (pre.map (· * N) ++ z0 :: z) (pre.length : Int) (e * (l.length : Int)) = some (pre.map (· * N) ++ (e * N) :: z) := by
          rw [put_ok (by simp), hN]
          congr 1
          have := set_mid (pre.map (· * N)) z z0 (e * N)
          rw [hp1, hN] at this
          exact this
        have p2 : put? (cols T 0 pre ++ c0 :: zo) (pre.length : Int) (⟨T, (pre.length : Int)⟩ : TColumn) = some (cols T 0 pre ++ (⟨T, (pre.length : Int)⟩ : TColumn) :: zo) := by
          rw [put_ok (by simp [hp2])]
          congr 1
          have := set_mid (cols T 0 pre) zo c0 (⟨T, (pre.length : Int)⟩ : TColumn)
          rw [hp2] at this
          exact this
        have ih := spec_init l T x5 N post (pre ++ [e]) z zo (by simp [h]) (fun e he' => he e (by simp [he'])) hl hN (by simpa using hz) (by simpa using hzo)
        rw [cols_app, List.length_append] at ih
        simp only [List.map_append, List.map_cons, List.map_nil, List.append_assoc, List.cons_append, List.nil_append, cols, Nat.zero_add, List.length_cons, List.length_nil] at ih
        rw [spec_AliasOf_L3, a1, Option.bind_some, w64 (e * (l.length : Int)) (by omega) (by omega), p1, Option.bind_some, a2, Option.bind_some, p2, Option.bind_some, ih]
theorem impl_init (l : List Int) (T : Int) (N : Int) : ∀ (post pre : List Int), l = pre ++ post → (∀ e ∈ post, 0 ≤ e ∧ e ≤ 50) → l.length ≤ 12 → N = (l.length : Int) →
    impl_aliasOf_L3 l T post pre.length (pre.map (· * N)) (cols T 0 pre) = impl_aliasOf_K1 l T (l.map (· * N)) (cols T 0 l)
  | [], pre, h, _, _, _ => by rw [impl_aliasOf_L3, h, List.append_nil]
  | e :: post, pre, h, he, hl, hN => by
    have h1 := he e (by simp)
    have hpl : pre.length ≤ 12 := by rw [h] at hl; simp at hl; omega
    have b0 : 0 ≤ e * (l.length : Int) ∧ e * (l.length : Int) ≤ 600 := by
      have k1 : e * (l.length : Int) ≤ 50 * 12 := Int.mul_le_mul h1.2 (by omega) (by omega) (by omega)
      have k2 := Int.mul_nonneg h1.1 (show (0 : Int) ≤ (l.length : Int) by omega)
      omega
    have ih := impl_init l T N post (pre ++ [e]) (by simp [h]) (fun e he' => he e (by simp [he'])) hl hN
    rw [cols_app, List.length_append] at ih
    simp only [List.map_append, List.map_cons, List.map_nil, cols, Nat.zero_add, List.length_cons, List.length_nil] at ih
    rw [impl_aliasOf_L3, w64 (e * (l.length : Int)) (by omega) (by omega), app_ok (by simp; omega), Option.bind_some, app_ok (by rw [cols_len]; simp; omega), Option.bind_some, ← hN, ih]
end Go.Proofs.YthcmcjkljjfccaaGreatDoor.Abs
set_option maxRecDepth 20000
set_option linter.unusedVariables false
set_option linter.unusedSimpArgs false
namespace Go.Proofs.YthcmcjkljjfccaaGreatDoor.Abs
open Go Go.Proofs.Tryz

/-! ## The choice -/
theorem owe_sum (N T : Int) : ∀ (ws : List Int), ((ws.map fun e => ((e * N, false) : Int × Bool)).map (owe T)).sum = ws.sum * N - (ws.length : Int) * T
  | [] => by simp
  | e :: ws => by
    have ih := owe_sum N T ws
    simp only [List.map_cons, List.sum_cons, List.length_cons] at ih ⊢
    rw [ih]
    simp only [owe, Bool.false_eq_true, if_false]
    rw [Int.add_mul]
    have : ((ws.length + 1 : Nat) : Int) * T = (ws.length : Int) * T + T := by
      rw [Int.natCast_add, Int.add_mul]; simp
    rw [this]; omega
theorem alias_all (ws : List Int) (h : ∀ e ∈ ws, 1 ≤ e ∧ e ≤ 50) (hl : 1 ≤ ws.length ∧ ws.length ≤ 12) : ∃ out, spec_AliasOf ws = some (out, true) ∧ impl_aliasOf ws = some out ∧ OkCols ws.sum ws.length out := by
  have h0 : ∀ e ∈ ws, 0 ≤ e ∧ e ≤ 50 := fun e he => ⟨by have := (h e he).1; omega, (h e he).2⟩
  obtain ⟨t1, t2, t3⟩ := spec_total ws h0 hl.2
  have t4 := impl_total ws h0 hl.2
  have t5 := sum_pos ws (fun e he => (h e he).1)
  have hT : 1 ≤ ws.sum ∧ ws.sum ≤ 600 := ⟨by omega, by omega⟩
  have m1 : make? 8 (ws.length : Int) (0 : Int) = some (List.replicate ws.length 0) := make_ok (by omega)
  have m2 : make? 1 (ws.length : Int) (false : Bool) = some (List.replicate ws.length false) := make_ok (by omega)
  have m3 : make? 16 (ws.length : Int) ((⟨0, 0⟩ : TColumn) : TColumn) = some (List.replicate ws.length ⟨0, 0⟩) := make_ok (by omega)
  have i1 := spec_init ws ws.sum (List.replicate ws.length false) (ws.length : Int) ws [] (List.replicate ws.length 0) (List.replicate ws.length ⟨0, 0⟩) rfl h0 hl.2 rfl (by simp) (by simp)
  have i2 := impl_init ws ws.sum (ws.length : Int) ws [] rfl h0 hl.2 rfl
  simp only [List.map_nil, cols, List.nil_append, List.length_nil] at i1 i2
  have zf : (ws.map fun e => ((e * (ws.length : Int), false) : Int × Bool)).map Prod.fst = ws.map (· * (ws.length : Int)) := by simp
  have zs : (ws.map fun e => ((e * (ws.length : Int), false) : Int × Bool)).map Prod.snd = List.replicate ws.length false := by
    rw [List.map_map]
    exact List.map_const' ..
  have zl : (ws.map fun e => ((e * (ws.length : Int), false) : Int × Bool)).length = ws.length := by simp
  have hI : AInv ws.sum (ws.map fun e => ((e * (ws.length : Int), false) : Int × Bool)) := by
    refine ⟨?_, ?_, ?_⟩
    · intro z hz hd
      obtain ⟨e, _, rfl⟩ := List.mem_map.1 hz
      cases hd
    · intro z hz
      obtain ⟨e, he, rfl⟩ := List.mem_map.1 hz
      have k0 := h0 e he
      have k1 : e * (ws.length : Int) ≤ 50 * 12 := Int.mul_le_mul k0.2 (by omega) (by omega) (by omega)
      have k2 := Int.mul_nonneg k0.1 (show (0 : Int) ≤ (ws.length : Int) by omega)
      simp only; omega
    · rw [owe_sum, Int.mul_comm]; omega
  obtain ⟨out, o1, o2, o3⟩ := alias_go hT (nd (ws.map fun e => ((e * (ws.length : Int), false) : Int × Bool))) FU FU _ (cols ws.sum 0 ws) (Nat.le_refl _)
    (by have := List.countP_le_length (p := fun z : Int × Bool => !z.2) (l := ws.map fun e => ((e * (ws.length : Int), false) : Int × Bool)); rw [zl] at this; unfold nd FU; omega)
    (by have := List.countP_le_length (p := fun z : Int × Bool => !z.2) (l := ws.map fun e => ((e * (ws.length : Int), false) : Int × Bool)); rw [zl] at this; unfold nd FU; omega)
    hI (by rw [zl]; exact hl.2) ⟨by rw [cols_len, zl], by rw [zl]; exact cols_ok (by omega) 0 ws ws.length (by omega)⟩
  rw [zf, zs] at o1 o2
  rw [zl] at o3
  refine ⟨out, ?_, ?_, o3⟩
  · unfold spec_AliasOf
    rw [spec_goodWeights ws h hl, Option.bind_some, if_neg (by decide), t1, Option.bind_some, m1, Option.bind_some, m2, Option.bind_some, m3, Option.bind_some]
    exact i1.trans o1
  · unfold impl_aliasOf
    rw [t4, Option.bind_some]
    refine i2.trans ?_
    rw [impl_aliasOf_K1, m2, Option.bind_some]
    exact o2
theorem goodAlias {T : Int} {n : Nat} {out : List TColumn} (hO : OkCols T n out) (hn : 1 ≤ n ∧ n ≤ 12) : spec_GoodAlias out = some true := by
  have key : ∀ (post : List TColumn) (i : Nat), (∀ c ∈ post, 0 ≤ c.fKeep ∧ c.fKeep ≤ T ∧ 0 ≤ c.fOther ∧ c.fOther < (n : Int)) → spec_GoodAlias_L1 out post i = some true := by
    intro post
    induction post with
    | nil =>
      intro i _
      have c : inR (out.length : Int) 1 12 = true := by rw [hO.len]; simp [inR]; omega
      rw [spec_GoodAlias_L1, spec_GoodAlias_K1, spec_in, c]; rfl
    | cons x post ih =>
      intro i h
      have h1 := h x (by simp)
      have c : inR x.fOther 0 (IntKind.i64.wrap ((out.length : Int) - 1)) = true := by
        rw [hO.len, w64 _ (by omega) (by omega)]; simp [inR]; omega
      rw [spec_GoodAlias_L1, if_neg (by simp; omega), spec_in, c, Option.bind_some, if_neg (by decide)]
      exact ih (i + 1) (fun c hc => h c (by simp [hc]))
  exact key out 0 hO.each
theorem fits {T : Int} {n : Nat} {out : List TColumn} (hO : OkCols T n out) (hn : 1 ≤ n ∧ n ≤ 12) (hT : 1 ≤ T ∧ T ≤ 600) : spec_l12Fits out T = some true := by
  have key : ∀ (post : List TColumn) (i : Nat), (∀ c ∈ post, 0 ≤ c.fKeep ∧ c.fKeep ≤ T ∧ 0 ≤ c.fOther ∧ c.fOther < (n : Int)) → spec_l12Fits_L1 out T post i = some true := by
    intro post
    induction post with
    | nil =>
      intro i _
      have c : inR T 1 600 = true := by simp [inR]; omega
      rw [spec_l12Fits_L1, spec_l12Fits_K1, goodAlias hO hn, Option.bind_some, if_pos rfl, spec_in, c]; rfl
    | cons x post ih =>
      intro i h
      have h1 := h x (by simp)
      rw [spec_l12Fits_L1, if_neg (by simp; omega)]
      exact ih (i + 1) (fun c hc => h c (by simp [hc]))
  exact key out 0 hO.each
theorem pick_all {T : Int} {n : Nat} {out : List TColumn} (hO : OkCols T n out) (hn : 1 ≤ n ∧ n ≤ 12) (hT : 1 ≤ T ∧ T ≤ 600) (d : Int) (h0 : 0 ≤ d) (h1 : d < (n : Int) * T) : ∃ v, spec_PickBy out T d = some (v, true) ∧ impl_pickBy out T d = some v ∧ 0 ≤ v ∧ v < (n : Int) := by
  have hb : (n : Int) * T ≤ 12 * 600 := Int.mul_le_mul (by omega) hT.2 (by omega) (by omega)
  have hq : d.tdiv T = d / T := Int.tdiv_eq_ediv_of_nonneg h0
  have hq0 : 0 ≤ d / T := Int.ediv_nonneg h0 (by omega)
  have hq1 : d / T < (n : Int) := Int.ediv_lt_of_lt_mul (by omega) h1
  have wq : IntKind.i64.wrap (d / T) = d / T := w64 _ (by omega) (by omega)
  have ha := at_int (xs := out) hq0 (by rw [hO.len]; exact hq1)
  have hc := hO.each _ (List.getElem_mem (l := out) (n := (d / T).toNat) (by rw [hO.len]; omega))
  have hz : nz? T = some () := by unfold nz?; rw [if_neg (by omega)]
  have ci : inR d 0 (IntKind.i64.wrap (IntKind.i64.wrap ((out.length : Int) * T) - 1)) = true := by
    rw [hO.len, w64 ((n : Int) * T) (by omega) (by omega), w64 _ (by omega) (by omega)]; simp [inR]; omega
  generalize out[(d / T).toNat]'(by rw [hO.len]; omega) = c at ha hc
  by_cases hk : d.tmod T < c.fKeep
  · refine ⟨d / T, ?_, ?_, hq0, hq1⟩
    · unfold spec_PickBy
      rw [fits hO hn hT, Option.bind_some, if_neg (by decide), spec_in, ci, Option.bind_some, if_neg (by decide), hz, Option.bind_some, Option.bind_some, hq, wq, ha, Option.bind_some, if_pos (by simpa using hk)]
    · unfold impl_pickBy
      rw [hz, Option.bind_some, Option.bind_some, hq, wq, ha, Option.bind_some, if_pos (by simpa using hk)]
  · refine ⟨c.fOther, ?_, ?_, hc.2.2.1, hc.2.2.2⟩
    · unfold spec_PickBy
      rw [fits hO hn hT, Option.bind_some, if_neg (by decide), spec_in, ci, Option.bind_some, if_neg (by decide), hz, Option.bind_some, Option.bind_some, hq, wq, ha, Option.bind_some, if_neg (by simpa using hk), Option.bind_some]
    · unfold impl_pickBy
      rw [hz, Option.bind_some, Option.bind_some, hq, wq, ha, Option.bind_some, if_neg (by simpa using hk), Option.bind_some]
theorem choose_go (p : TPolicy) (hw : ∀ t ∈ p.fTargets, 1 ≤ t.fWeight ∧ t.fWeight ≤ 50) (d : Int) (cs : List Int) : ∀ (post : List Int) (i : Nat) (ws : List Int), (∀ x ∈ post, 0 ≤ x ∧ x < (p.fTargets.length : Int)) → ws.length + post.length ≤ 1000 → (∀ e ∈ ws, 1 ≤ e ∧ e ≤ 50) →
    ∃ ws' : List Int, ws'.length = ws.length + post.length ∧ (∀ e ∈ ws', 1 ≤ e ∧ e ≤ 50) ∧ spec_ChooseTarget_L1 p d cs post i ws = spec_ChooseTarget_K1 d cs ws' ∧ impl_ChooseTarget_L1 p d cs post i ws = impl_ChooseTarget_K1 d cs ws'
  | [], i, ws, _, _, he => ⟨ws, by simp, he, by rw [spec_ChooseTarget_L1], by rw [impl_ChooseTarget_L1]⟩
  | x :: post, i, ws, hx, hl, he => by
    obtain ⟨h0, h1⟩ := hx x (by simp)
    simp only [List.length_cons] at hl
    obtain ⟨ws', a, b, c, e⟩ := choose_go p hw d cs post (i + 1) (ws ++ [(p.fTargets[x.toNat]'(by omega)).fWeight]) (fun x hm => hx x (by simp [hm])) (by simp; omega) (fun e hm => by
      rcases List.mem_append.1 hm with hm | hm
      · exact he e hm
      · simp only [List.mem_singleton] at hm
        subst hm
        exact hw _ (List.getElem_mem _))
    refine ⟨ws', by rw [a]; simp; omega, b, ?_, ?_⟩
    · rw [spec_ChooseTarget_L1, at_int h0 h1, Option.bind_some, app_ok (by simp; omega), Option.bind_some, c]
    · rw [impl_ChooseTarget_L1, at_int h0 h1, Option.bind_some, app_ok (by simp; omega), Option.bind_some, e]
theorem choose_all (p : TPolicy) (h : THealth) (sp : SmPolicy p) (sh : SmHealth h) (d : Int) : ∃ c : Int × Bool, spec_ChooseTarget p h d = some c ∧ impl_ChooseTarget p h d = some c ∧ (c.2 = true → 0 ≤ c.1 ∧ c.1 < (p.fTargets.length : Int)) := by
  unfold spec_ChooseTarget impl_ChooseTarget spec_l9Counter impl_isCounter
  rw [spec_goodPolicy p sp, impl_goodPolicy p sp, spec_goodHealth h sh, impl_goodHealth h sh, spec_in, impl_in]
  simp only [Option.bind_some]
  cases hp : okPolicy p with
  | false => exact ⟨(0, false), by simp⟩
  | true =>
    cases hh : okHealth h with
    | false => exact ⟨(0, false), by simp⟩
    | true =>
      cases hd : inR d 0 1152921504606846976 with
      | false => exact ⟨(0, false), by simp⟩
      | true =>
        obtain ⟨cs, e1, e2, c1, c2, c3⟩ := cand_same p h sp sh hp hh
        have hcnt := ok_count hp
        simp only [inR, Bool.and_eq_true, decide_eq_true_eq] at hd
        rw [if_neg (by decide), if_neg (by decide), if_neg (by decide), if_neg (by decide), if_neg (by decide), if_neg (by decide), e1, e2, Option.bind_some, Option.bind_some]
        obtain ⟨ws, w1, w2, w3, w4⟩ := choose_go p (ok_weights hp) d cs cs 0 [] c3 (by simp; omega) (by simp)
        rw [List.length_nil, Nat.zero_add] at w1
        rw [w3, w4]
        have hl : 1 ≤ ws.length ∧ ws.length ≤ 12 := by omega
        have h0 : ∀ e ∈ ws, 0 ≤ e ∧ e ≤ 50 := fun e he => ⟨by have := (w2 e he).1; omega, (w2 e he).2⟩
        obtain ⟨t1, t2, t3⟩ := spec_total ws h0 hl.2
        have t4 := impl_total ws h0 hl.2
        have t5 := sum_pos ws (fun e he => (w2 e he).1)
        have hT : 1 ≤ ws.sum ∧ ws.sum ≤ 600 := ⟨by omega, by omega⟩
        obtain ⟨out, o1, o2, o3⟩ := alias_all ws w2 hl
        have hb : (ws.length : Int) * ws.sum ≤ 12 * 600 := Int.mul_le_mul (by omega) hT.2 (by omega) (by omega)
        have hb1 : 1 * 1 ≤ (ws.length : Int) * ws.sum := Int.mul_le_mul (by omega) hT.1 (by omega) (by omega)
        have wm : IntKind.i64.wrap ((cs.length : Int) * ws.sum) = (ws.length : Int) * ws.sum := by rw [← w1, w64 _ (by omega) (by omega)]
        have hz : nz? ((ws.length : Int) * ws.sum) = some () := by unfold nz?; rw [if_neg (by omega)]
        have hm0 : 0 ≤ d.tmod ((ws.length : Int) * ws.sum) := Int.tmod_nonneg _ hd.1
        have hm1 : d.tmod ((ws.length : Int) * ws.sum) < (ws.length : Int) * ws.sum := Int.tmod_lt_of_pos _ (by omega)
        obtain ⟨v, p1, p2, p3, p4⟩ := pick_all o3 hl hT _ hm0 hm1
        have hv := at_int (xs := cs) p3 (by rw [← w1]; exact p4)
        have hvr := c3 _ (List.getElem_mem (l := cs) (n := v.toNat) (by omega))
        refine ⟨(cs[v.toNat]'(by omega), true), ?_, ?_, fun _ => hvr⟩
        · rw [spec_ChooseTarget_K1, o1, t1, Option.bind_some, Option.bind_some, wm, hz, Option.bind_some, p1, Option.bind_some, if_neg (by simp), hv, Option.bind_some]
        · rw [impl_ChooseTarget_K1, t4, o2, Option.bind_some, Option.bind_some, wm, hz, Option.bind_some, p2, Option.bind_some, hv, Option.bind_some]
theorem answer_all (p : TPolicy) (h : THealth) (sp : SmPolicy p) (sh : SmHealth h) (d : Int) : ∃ c : TRecord × Bool, spec_AnswerOf p h d = some c ∧ impl_AnswerOf p h d = some c := by
  obtain ⟨c, e1, e2, e3⟩ := choose_all p h sp sh d
  unfold spec_AnswerOf impl_AnswerOf
  rw [e1, e2, Option.bind_some]
  obtain ⟨v, ok⟩ := c
  cases ok with
  | false => exact ⟨_, rfl, rfl⟩
  | true =>
    obtain ⟨h0, h1⟩ := e3 rfl
    have := at_int (xs := p.fTargets) h0 h1
    simp only at this
    exact ⟨(⟨p.fName, 1, 5, (p.fTargets[v.toNat]'(by simp only at h0 h1; omega)).fData⟩, true), by simp [this], by simp [this]⟩
theorem eqRecord_ok (a : TRecord) : laws_eqRecord a a = some true := by simp [laws_eqRecord]
theorem law_ChooseTarget (p : TPolicy) (h : THealth) (d : Int) (sp : SmPolicy p) (sh : SmHealth h) : laws_FnExactChooseTarget p h d = some true := by
  unfold laws_FnExactChooseTarget
  have hp := sp.many
  have hh := sh.many
  obtain ⟨y1, s1, l1⟩ := szPolicy_ok p sp 1048576 (by omega) (by omega)
  rw [s1, Option.bind_some]
  by_cases c1 : y1 < 0
  · rw [if_pos (by simpa using c1)]
  rw [if_neg (by simpa using c1)]
  obtain ⟨y3, s3, l3⟩ := szHealth_ok h sh y1 (by omega) l1
  rw [s3, Option.bind_some]
  by_cases c3 : y3 < 0
  · rw [if_pos (by simpa using c3)]
  rw [if_neg (by simpa using c3)]
  obtain ⟨c, e1, e2, _⟩ := choose_all p h sp sh d
  simp only [toPolicy_ok p hp, toHealth_ok h hh, e1, e2, eqPolicy_ok p hp, eqHealth_ok h hh, Option.bind_some, Bool.not_true, Bool.false_eq_true, if_false, beq_self_eq_true, bne_self_eq_false]
theorem law_AnswerOf (p : TPolicy) (h : THealth) (d : Int) (sp : SmPolicy p) (sh : SmHealth h) : laws_FnExactAnswerOf p h d = some true := by
  unfold laws_FnExactAnswerOf
  have hp := sp.many
  have hh := sh.many
  obtain ⟨y1, s1, l1⟩ := szPolicy_ok p sp 1048576 (by omega) (by omega)
  rw [s1, Option.bind_some]
  by_cases c1 : y1 < 0
  · rw [if_pos (by simpa using c1)]
  rw [if_neg (by simpa using c1)]
  obtain ⟨y3, s3, l3⟩ := szHealth_ok h sh y1 (by omega) l1
  rw [s3, Option.bind_some]
  by_cases c3 : y3 < 0
  · rw [if_pos (by simpa using c3)]
  rw [if_neg (by simpa using c3)]
  obtain ⟨c, e1, e2⟩ := answer_all p h sp sh d
  simp only [toPolicy_ok p hp, toHealth_ok h hh, e1, e2, eqRecord_ok, eqPolicy_ok p hp, eqHealth_ok h hh, Option.bind_some, Bool.not_true, Bool.false_eq_true, if_false, beq_self_eq_true, bne_self_eq_false]
end Go.Proofs.YthcmcjkljjfccaaGreatDoor.Abs
