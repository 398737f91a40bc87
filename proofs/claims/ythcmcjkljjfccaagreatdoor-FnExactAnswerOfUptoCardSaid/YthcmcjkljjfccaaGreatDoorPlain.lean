/-
  The plain laws: the two ways to compute answer the same.
-/
import Derived.Lib.ItoaNum
import Derived.Test.YthcmcjkljjfccaaGreatDoorWalk3
set_option linter.unusedVariables false
set_option linter.unusedSimpArgs false
set_option linter.unusedVariables false
set_option linter.unusedSimpArgs false
namespace Go.Proofs.YthcmcjkljjfccaaGreatDoor.Abs
open Go Go.Proofs.Tryz

/-! ## Loops that count -/

def goI {α σ R : Type} (body : Nat → α → (σ → Option R) → σ → Option R) (done : σ → Option R) : Nat → List α → σ → Option R
  | _, [], s => done s
  | k, e :: es, s => body k e (goI body done (k + 1) es) s

theorem at?_nat {α : Type} (xs : List α) (k : Nat) : at? xs (k : Int) = xs[k]? := by simp [at?]
theorem count_loop {α σ R : Type} (xs : List α) (hx : xs.length ≤ 4611686018427387904) (L : Nat → Int → σ → Option R) (body : Nat → α → (σ → Option R) → σ → Option R) (done : σ → Option R)
    (hL : ∀ (n k : Nat) s, L (n + 1) (k : Int) s = if (decide ((k : Int) < (xs.length : Int))) = true then (at? xs (k : Int)).bind (fun e => body k e (fun s => L n (IntKind.i64.wrap ((k : Int) + 1)) s) s) else done s) :
    ∀ (n k : Nat) s, xs.length - k < n → k ≤ xs.length → L n (k : Int) s = goI body done k (xs.drop k) s := by
  intro n
  induction n with
  | zero => intro k s h; omega
  | succ n ih =>
    intro k s hn hk
    rw [hL]
    by_cases hlt : k < xs.length
    · rw [if_pos (by simp; exact hlt), at?_nat, List.getElem?_eq_getElem hlt, Option.bind_some, List.drop_eq_getElem_cons hlt, goI]
      congr 1
      funext s'
      have e : IntKind.i64.wrap ((k : Int) + 1) = ((k + 1 : Nat) : Int) := by rw [w64 _ (by omega) (by omega)]; simp
      rw [e]
      exact ih (k + 1) s' (by omega) (by omega)
    · rw [if_neg (by simp; omega), List.drop_eq_nil_of_le (by omega), goI]
theorem FU_big (n : Nat) (h : n ≤ 4611686018427387904) : n < FU := by unfold FU; omega
theorem count0 {α σ R : Type} (xs : List α) (hx : xs.length ≤ 4611686018427387904) (L : Nat → Int → σ → Option R) (body : Nat → α → (σ → Option R) → σ → Option R) (done : σ → Option R)
    (hL : ∀ (n k : Nat) s, L (n + 1) (k : Int) s = if (decide ((k : Int) < (xs.length : Int))) = true then (at? xs (k : Int)).bind (fun e => body k e (fun s => L n (IntKind.i64.wrap ((k : Int) + 1)) s) s) else done s) (s : σ) :
    L FU 0 s = goI body done 0 xs s := by
  have := count_loop xs hx L body done hL FU 0 s (FU_big _ (by omega)) (Nat.zero_le _)
  simpa using this

/-! ## Steps that do not fail -/
theorem app_ok {α : Type} {b : Nat} {y xs : List α} (h : (y.length + xs.length) * b ≤ 140737488355328) : app? b y xs = some (y ++ xs) := by rw [app?, if_pos h]
theorem cat_ok {s t : Str} (h : s.length + t.length ≤ 9223372036854775807) : cat? s t = some (s ++ t) := by rw [cat?, if_pos h]
theorem make_ok {α : Type} {b n : Nat} {z : α} (h : (n : Int) * b ≤ 140737488355328) : make? b (n : Int) z = some (List.replicate n z) := by
  rw [make?, if_pos ⟨by omega, h⟩]; simp
theorem put_ok {α : Type} {y : List α} {k : Nat} {x : α} (h : k < y.length) : put? y (k : Int) x = some (y.set k x) := by
  rw [put?, if_pos ⟨by omega, by simpa using h⟩]; simp
theorem same_ok {α : Type} {xs ys : List α} (h : xs.length = ys.length) : same? xs ys = some () := by rw [same?, if_pos h]
theorem cut_ok {α : Type} {s : List α} {a b : Nat} (h : a ≤ b ∧ b ≤ s.length) : cut? s (a : Int) (b : Int) = some ((s.take b).drop a) := by
  rw [cut?, if_pos ⟨by omega, by omega, by omega⟩]; simp

/-! ## The same for all laws: copies, equality, marks -/

/-- A row copied into a new one. -/
theorem copy_go {α : Type} (f : α → Option α) : ∀ (post pre z : List α), (∀ e ∈ post, f e = some e) → z.length = post.length →
    goI (fun k e rec (out : List α) => (f e).bind fun y4 => (at? out (k : Int)).bind fun e5 => (put? out (k : Int) y4).bind fun x6 => rec x6) some pre.length post (pre ++ z) = some (pre ++ post)
  | [], pre, z, hf, h => by
    have : z = [] := List.eq_nil_of_length_eq_zero h
    subst this; rfl
  | e :: post, pre, z, hf, h => by
    cases z with
    | nil => simp at h
    | cons z0 z =>
      have ih := copy_go f post (pre ++ [e]) z (fun e he => hf e (by simp [he])) (by simpa using h)
      rw [goI, hf e (by simp), Option.bind_some, at?_nat, List.getElem?_append_right (Nat.le_refl _), Nat.sub_self, List.getElem?_cons_zero, Option.bind_some, put_ok (by simp), Option.bind_some]
      rw [List.set_append_right _ _ (Nat.le_refl _), Nat.sub_self, List.set_cons_zero]
      rw [List.length_append, List.append_assoc, List.append_assoc] at ih
      exact ih
theorem copy_loop {α : Type} (f : α → Option α) (a z : List α) (hf : ∀ e ∈ a, f e = some e) (ha : a.length ≤ 1048576) (hz : z.length = a.length) (L : Nat → Int → List α → Option (List α))
    (hL : ∀ (n k : Nat) s, L (n + 1) (k : Int) s = if (decide ((k : Int) < (a.length : Int))) = true then (at? a (k : Int)).bind (fun e => (f e).bind fun y4 => (at? s (k : Int)).bind fun e5 => (put? s (k : Int) y4).bind fun x6 => L n (IntKind.i64.wrap ((k : Int) + 1)) x6) else some s) :
    L FU 0 z = some a := by
  rw [count0 a (by omega) L (fun k e rec (out : List α) => (f e).bind fun y4 => (at? out (k : Int)).bind fun e5 => (put? out (k : Int) y4).bind fun x6 => rec x6) some hL z]
  simpa using copy_go f a [] z hf hz
/-- Two equal rows are found equal. -/
theorem eq_go {α : Type} (q : α → α → Option Bool) (b : List α) : ∀ (post pre : List α), b = pre ++ post → (∀ e ∈ post, q e e = some true) →
    goI (fun k e rec (s : Unit) => (at? b (k : Int)).bind fun e4 => (q e e4).bind fun y5 => if (!y5) = true then some false else rec s) (fun _ => some true) pre.length post () = some true
  | [], pre, h, hq => rfl
  | e :: post, pre, h, hq => by
    have ih := eq_go q b post (pre ++ [e]) (by simp [h]) (fun e he => hq e (by simp [he]))
    rw [List.length_append] at ih
    rw [goI, at?_nat, h, List.getElem?_append_right (Nat.le_refl _), Nat.sub_self, List.getElem?_cons_zero, Option.bind_some, hq e (by simp), Option.bind_some]
    rw [← h]
    exact ih
theorem eq_loop {α : Type} (q : α → α → Option Bool) (a : List α) (ha : a.length ≤ 1048576) (hq : ∀ e ∈ a, q e e = some true) (L : Nat → Int → Option Bool)
    (hL : ∀ (n k : Nat), L (n + 1) (k : Int) = if (decide ((k : Int) < (a.length : Int))) = true then (at? a (k : Int)).bind (fun e => (at? a (k : Int)).bind fun e4 => (q e e4).bind fun y5 => if (!y5) = true then some false else L n (IntKind.i64.wrap ((k : Int) + 1))) else some true) :
    L FU 0 = some true := by
  have := count0 a (by omega) (fun n k (_ : Unit) => L n k) (fun k e rec (s : Unit) => (at? a (k : Int)).bind fun e4 => (q e e4).bind fun y5 => if (!y5) = true then some false else rec s) (fun _ => some true) (fun n k s => hL n k) ()
  exact this.trans (eq_go q a a [] rfl hq)

/-! ### Marks -/
def ten (d : Nat) : Nat := 10 ^ d
theorem u8_range (x : Int) : 0 ≤ IntKind.u8.wrap x ∧ IntKind.u8.wrap x < 256 := by
  have e : IntKind.u8.wrap x = x % 256 := by
    simp [IntKind.wrap, IntKind.signed, IntKind.bits]
    try omega
  rw [e]; omega
theorem text1_ok (x : Int) : text? [IntKind.u8.wrap x] = some [UInt8.ofNat (IntKind.u8.wrap x).toNat] := by
  rw [text?, if_pos (u8_range x)]; rfl
theorem markText_loop (k0 : Int) : ∀ (d : Nat) (k : Int) (out : Str) (n : Nat), 0 ≤ k → k ≤ 9223372036854775807 → k < (10 : Int) ^ d → d < n → out.length + d < 1000 → ∃ s, laws_markText_L1 k0 n k out = some s
  | d, k, out, 0, h0, hw, h1, h2, h3 => by omega
  | d, k, out, n + 1, h0, hw, h1, h2, h3 => by
    rw [laws_markText_L1]
    by_cases hk : 0 < k
    · rw [if_pos (by simpa using hk), text1_ok, Option.bind_some, cat_ok (by simp; omega), Option.bind_some]
      cases d with
      | zero => simp at h1; omega
      | succ d =>
        have hq : k.tdiv 10 = k / 10 := Int.tdiv_eq_ediv_of_nonneg h0
        have h5 : (10 : Int) ^ (d + 1) = 10 * 10 ^ d := by rw [Int.pow_succ, Int.mul_comm]
        have h6 : k / 10 < 10 ^ d := by omega
        rw [hq, w64 _ (by omega) (by omega)]
        exact markText_loop k0 d _ _ n (by omega) (by omega) h6 (by omega) (by simp; omega)
    · rw [if_neg (by simpa using hk), laws_markText_K1, cat_ok (by simp; omega)]
      exact ⟨_, rfl⟩
theorem markText_some (k : Int) (h0 : 0 ≤ k) (h1 : k ≤ 1000000000000) : ∃ s, laws_markText k = some s := by
  unfold laws_markText
  split
  · exact ⟨_, rfl⟩
  · exact markText_loop k 13 k [] FU h0 (by omega) (by omega) (by unfold FU; omega) (by simp)
end Go.Proofs.YthcmcjkljjfccaaGreatDoor.Abs
set_option linter.unusedVariables false
set_option linter.unusedSimpArgs false
namespace Go.Proofs.YthcmcjkljjfccaaGreatDoor.Abs
open Go Go.Proofs.Tryz

theorem toTargetS_ok (a : List TTarget) (h : a.length ≤ 1048576) : laws_toTargetS a = some a := by
  unfold laws_toTargetS
  rw [make_ok (by omega), Option.bind_some]
  exact copy_loop laws_toTarget a _ (fun _ _ => rfl) h (by simp) _ (fun n k s => by rw [laws_toTargetS_L1])
theorem toPolicy_ok (p : TPolicy) (h : p.fTargets.length ≤ 1048576) : laws_toPolicy p = some p := by
  unfold laws_toPolicy
  rw [toTargetS_ok _ h]; rfl
theorem toHostS_ok (a : List THost) (h : a.length ≤ 1048576) : laws_toHostS a = some a := by
  unfold laws_toHostS
  rw [make_ok (by omega), Option.bind_some]
  exact copy_loop laws_toHost a _ (fun _ _ => rfl) h (by simp) _ (fun n k s => by rw [laws_toHostS_L1])
theorem toHealth_ok (p : THealth) (h : p.fHosts.length ≤ 1048576) : laws_toHealth p = some p := by
  unfold laws_toHealth
  rw [toHostS_ok _ h]; rfl
theorem eqTarget_ok (a : TTarget) : laws_eqTarget a a = some true := by simp [laws_eqTarget]
theorem eqTargetS_ok (a : List TTarget) (h : a.length ≤ 1048576) : laws_eqTargetS a a = some true := by
  unfold laws_eqTargetS
  rw [if_neg (by simp)]
  exact eq_loop laws_eqTarget a h (fun e _ => eqTarget_ok e) _ (fun n k => by rw [laws_eqTargetS_L1])
theorem eqPolicy_ok (p : TPolicy) (h : p.fTargets.length ≤ 1048576) : laws_eqPolicy p p = some true := by
  simp [laws_eqPolicy, eqTargetS_ok _ h]
theorem eqHost_ok (a : THost) : laws_eqHost a a = some true := by simp [laws_eqHost]
theorem eqHostS_ok (a : List THost) (h : a.length ≤ 1048576) : laws_eqHostS a a = some true := by
  unfold laws_eqHostS
  rw [if_neg (by simp)]
  exact eq_loop laws_eqHost a h (fun e _ => eqHost_ok e) _ (fun n k => by rw [laws_eqHostS_L1])
theorem eqHealth_ok (p : THealth) (h : p.fHosts.length ≤ 1048576) : laws_eqHealth p p = some true := by
  simp [laws_eqHealth, eqHostS_ok _ h]
theorem eqIntS_ok (a : List Int) (h : a.length ≤ 1048576) : laws_eqIntS a a = some true := by
  unfold laws_eqIntS
  rw [if_neg (by simp)]
  refine eq_loop (fun x y => some (!(x != y))) a h (fun e _ => by simp) _ (fun n k => ?_)
  rw [laws_eqIntS_L1]
  simp

/-! ### How much there is -/
theorem sz_loop {α : Type} (f : α → Int → Option Int) (a : List α) (ha : a.length ≤ 1048576) (hf : ∀ e ∈ a, ∀ l, 0 ≤ l → l ≤ 1048576 → ∃ y, f e l = some y ∧ y ≤ l) (L : Nat → Int → Int → Option Int)
    (hL : ∀ (n k : Nat) s, L (n + 1) s (k : Int) = if (decide ((k : Int) < (a.length : Int))) = true then (at? a (k : Int)).bind (fun e => (f e s).bind fun y4 => if (decide (y4 < 0)) = true then some (-1) else L n y4 (IntKind.i64.wrap ((k : Int) + 1))) else some s) (l : Int) (h0 : 0 ≤ l) (h1 : l ≤ 1048576) :
    ∃ y, L FU l 0 = some y ∧ y ≤ l := by
  rw [count0 a (by omega) (fun n k s => L n s k) (fun k e rec s => (f e s).bind fun y4 => if (decide (y4 < 0)) = true then some (-1) else rec y4) some (fun n k s => hL n k s) l]
  clear hL
  have key : ∀ (post : List α) (k : Nat) (l : Int), (∀ e ∈ post, ∀ l, 0 ≤ l → l ≤ 1048576 → ∃ y, f e l = some y ∧ y ≤ l) → 0 ≤ l → l ≤ 1048576 → ∃ y, goI (fun k e rec s => (f e s).bind fun y4 => if (decide (y4 < 0)) = true then some (-1) else rec y4) some k post l = some y ∧ y ≤ l := by
    intro post
    induction post with
    | nil => intro k l _ h0 h1; exact ⟨l, rfl, Int.le_refl _⟩
    | cons e post ih =>
      intro k l hf h0 h1
      obtain ⟨y, hy, hle⟩ := hf e (by simp) l h0 h1
      rw [goI, hy, Option.bind_some]
      by_cases hn : y < 0
      · rw [if_pos (by simpa using hn)]; exact ⟨-1, rfl, by omega⟩
      · rw [if_neg (by simpa using hn)]
        obtain ⟨z, hz, hzl⟩ := ih (k + 1) y (fun e he => hf e (by simp [he])) (by omega) (by omega)
        exact ⟨z, hz, by omega⟩
  exact key a 0 l hf h0 h1
theorem szTarget_ok (t : TTarget) (h1 : t.fHost.length ≤ 1048576) (h2 : t.fData.length ≤ 1048576) (l : Int) (h0 : 0 ≤ l) (h3 : l ≤ 1048576) : ∃ y, laws_szTarget t l = some y ∧ y ≤ l := by
  unfold laws_szTarget
  rw [w64 (l - t.fHost.length) (by omega) (by omega), w64 (l - t.fHost.length - t.fData.length) (by omega) (by omega)]
  split
  · exact ⟨_, rfl, by omega⟩
  · split
    · exact ⟨_, rfl, by omega⟩
    · exact ⟨_, rfl, by omega⟩
/-- What comes in is small. -/
structure SmTarget (t : TTarget) : Prop where
  host : t.fHost.length ≤ 1048576
  data : t.fData.length ≤ 1048576
structure SmPolicy (p : TPolicy) : Prop where
  name : p.fName.length ≤ 1048576
  many : p.fTargets.length ≤ 1048576
  each : ∀ t ∈ p.fTargets, SmTarget t
structure SmHealth (h : THealth) : Prop where
  many : h.fHosts.length ≤ 1048576
  each : ∀ x ∈ h.fHosts, x.fName.length ≤ 1048576
theorem szPolicy_ok (p : TPolicy) (h : SmPolicy p) (l : Int) (h0 : 0 ≤ l) (h1 : l ≤ 1048576) : ∃ y, laws_szPolicy p l = some y ∧ y ≤ l := by
  unfold laws_szPolicy
  have hn := h.name
  have hm := h.many
  rw [w64 (l - p.fName.length) (by omega) (by omega)]
  split
  · exact ⟨_, rfl, by omega⟩
  · rename_i hc
    simp only [decide_eq_true_eq] at hc
    have : ∃ y, laws_szTargetS p.fTargets (l - p.fName.length) = some y ∧ y ≤ l := by
      unfold laws_szTargetS
      rw [w64 _ (by omega) (by omega)]
      split
      · exact ⟨_, rfl, by omega⟩
      · rename_i hc
        simp only [decide_eq_true_eq] at hc
        obtain ⟨y, hy, hle⟩ := sz_loop laws_szTarget p.fTargets hm (fun e he l h0 h1 => szTarget_ok e (h.each e he).host (h.each e he).data l h0 h1) (laws_szTargetS_L1 p.fTargets (l - p.fName.length)) (fun n k s => by rw [laws_szTargetS_L1]) (l - p.fName.length - p.fTargets.length) (by omega) (by omega)
        exact ⟨y, hy, by omega⟩
    obtain ⟨y, hy, hle⟩ := this
    rw [hy, Option.bind_some]
    split
    · exact ⟨_, rfl, by omega⟩
    · exact ⟨_, rfl, by omega⟩
theorem szHealth_ok (p : THealth) (h : SmHealth p) (l : Int) (h0 : 0 ≤ l) (h1 : l ≤ 1048576) : ∃ y, laws_szHealth p l = some y ∧ y ≤ l := by
  unfold laws_szHealth
  have hm := h.many
  have : ∃ y, laws_szHostS p.fHosts l = some y ∧ y ≤ l := by
    unfold laws_szHostS
    rw [w64 _ (by omega) (by omega)]
    split
    · exact ⟨_, rfl, by omega⟩
    · rename_i hc
      simp only [decide_eq_true_eq] at hc
      obtain ⟨y, hy, hle⟩ := sz_loop laws_szHost p.fHosts hm (fun e he l h0 h1 => by
        have := h.each e he
        unfold laws_szHost
        rw [w64 _ (by omega) (by omega)]
        split
        · exact ⟨_, rfl, by omega⟩
        · exact ⟨_, rfl, by omega⟩) (laws_szHostS_L1 p.fHosts l) (fun n k s => by rw [laws_szHostS_L1]) (l - p.fHosts.length) (by omega) (by omega)
      exact ⟨y, hy, by omega⟩
  obtain ⟨y, hy, hle⟩ := this
  rw [hy, Option.bind_some]
  split
  · exact ⟨_, rfl, by omega⟩
  · exact ⟨_, rfl, by omega⟩

/-! ### Marks -/
theorem at_ok {α : Type} {xs : List α} {k : Nat} (h : k < xs.length) : at? xs (k : Int) = some xs[k] := by rw [at?_nat, List.getElem?_eq_getElem h]
theorem markTargetS_go (a0 : List TTarget) (k0 : Int) : ∀ (n i : Nat) (a : List TTarget) (k : Int), 0 ≤ k → k + 4 * ((a.length - i : Nat) : Int) ≤ 1000000000 → a.length ≤ 1048576 → i ≤ a.length → a.length - i < n →
    ∃ a', laws_markTargetS_L1 a0 k0 n k (i : Int) a = some (k + 4 * ((a.length - i : Nat) : Int), a') ∧ a'.length = a.length
  | 0, i, a, k, _, _, _, _, h => by omega
  | n + 1, i, a, k, h0, h1, h2, h3, h4 => by
    rw [laws_markTargetS_L1]
    by_cases hi : i < a.length
    · rw [if_pos (by simpa using hi)]
      obtain ⟨s1, e1⟩ := markText_some k h0 (by omega)
      obtain ⟨s2, e2⟩ := markText_some (k + 1) (by omega) (by omega)
      rw [w64 (k + 1) (by omega) (by omega), w64 (k + 1 + 1) (by omega) (by omega), w64 (k + 1 + 1 + 1) (by omega) (by omega), w64 (k + 1 + 1 + 1 + 1) (by omega) (by omega), w64 ((i : Int) + 1) (by omega) (by omega)]
      simp only [e1, e2, Option.bind_some]
      rw [at_ok hi, Option.bind_some, put_ok hi, Option.bind_some, at_ok (by simpa using hi), Option.bind_some, put_ok (by simpa using hi), Option.bind_some, at_ok (by simpa using hi), Option.bind_some, put_ok (by simpa using hi), Option.bind_some, at_ok (by simpa using hi), Option.bind_some, put_ok (by simpa using hi), Option.bind_some]
      have ec : (i : Int) + 1 = ((i + 1 : Nat) : Int) := by simp
      rw [ec]
      generalize hg : ((((a.set i _).set i _).set i _).set i _) = b
      have hb : b.length = a.length := by rw [← hg]; simp
      obtain ⟨a', e3, e4⟩ := markTargetS_go a0 k0 n (i + 1) b (k + 1 + 1 + 1 + 1) (by omega) (by rw [hb]; omega) (by omega) (by omega) (by omega)
      rw [hb] at e3 e4
      exact ⟨a', by rw [e3]; congr 2; omega, e4⟩
    · rw [if_neg (by simpa using hi)]
      exact ⟨a, by congr 2; omega, rfl⟩
theorem markPolicy_ok (p : TPolicy) (h : p.fTargets.length ≤ 1048576) (k : Int) (h0 : 0 ≤ k) (h1 : k ≤ 900000000) : ∃ a', laws_markPolicy p k = some (k + 4 * (p.fTargets.length : Int), a') ∧ p.fTargets.length = a'.length := by
  obtain ⟨a', e1, e2⟩ := markTargetS_go p.fTargets k FU 0 p.fTargets k h0 (by omega) h (by omega) (by unfold FU; omega)
  unfold laws_markPolicy laws_markTargetS
  rw [show ((0 : Nat) : Int) = 0 from rfl] at e1
  rw [e1, Option.bind_some]
  simp only
  rw [same_ok e2.symm, Option.bind_some]
  exact ⟨a', by simp, e2.symm⟩
theorem markHostS_go (a0 : List THost) (k0 : Int) : ∀ (n i : Nat) (a : List THost) (k : Int), 0 ≤ k → k + 3 * ((a.length - i : Nat) : Int) ≤ 1000000000 → a.length ≤ 1048576 → i ≤ a.length → a.length - i < n →
    ∃ a', laws_markHostS_L1 a0 k0 n k (i : Int) a = some (k + 3 * ((a.length - i : Nat) : Int), a') ∧ a'.length = a.length
  | 0, i, a, k, _, _, _, _, h => by omega
  | n + 1, i, a, k, h0, h1, h2, h3, h4 => by
    rw [laws_markHostS_L1]
    by_cases hi : i < a.length
    · rw [if_pos (by simpa using hi)]
      obtain ⟨s1, e1⟩ := markText_some k h0 (by omega)
      rw [w64 (k + 1) (by omega) (by omega), w64 (k + 1 + 1) (by omega) (by omega), w64 (k + 1 + 1 + 1) (by omega) (by omega), w64 ((i : Int) + 1) (by omega) (by omega)]
      simp only [e1, Option.bind_some]
      rw [at_ok hi, Option.bind_some, put_ok hi, Option.bind_some, at_ok (by simpa using hi), Option.bind_some, put_ok (by simpa using hi), Option.bind_some, at_ok (by simpa using hi), Option.bind_some, put_ok (by simpa using hi), Option.bind_some]
      have ec : (i : Int) + 1 = ((i + 1 : Nat) : Int) := by simp
      rw [ec]
      generalize hg : (((a.set i _).set i _).set i _) = b
      have hb : b.length = a.length := by rw [← hg]; simp
      obtain ⟨a', e3, e4⟩ := markHostS_go a0 k0 n (i + 1) b (k + 1 + 1 + 1) (by omega) (by rw [hb]; omega) (by omega) (by omega) (by omega)
      rw [hb] at e3 e4
      exact ⟨a', by rw [e3]; congr 2; omega, e4⟩
    · rw [if_neg (by simpa using hi)]
      exact ⟨a, by congr 2; omega, rfl⟩
theorem markHealth_ok (p : THealth) (h : p.fHosts.length ≤ 1048576) (k : Int) (h0 : 0 ≤ k) (h1 : k ≤ 900000000) : ∃ a', laws_markHealth p k = some (k + 3 * (p.fHosts.length : Int), a') ∧ p.fHosts.length = a'.length := by
  obtain ⟨a', e1, e2⟩ := markHostS_go p.fHosts k FU 0 p.fHosts k h0 (by omega) h (by omega) (by unfold FU; omega)
  unfold laws_markHealth laws_markHostS
  rw [show ((0 : Nat) : Int) = 0 from rfl] at e1
  rw [e1, Option.bind_some]
  simp only
  rw [same_ok e2.symm, Option.bind_some]
  exact ⟨a', by simp, e2.symm⟩
def ramp (k : Int) : Nat → List Int
  | 0 => []
  | n + 1 => k :: ramp (k + 1) n
theorem ramp_len (k : Int) (n : Nat) : (ramp k n).length = n := by
  induction n generalizing k with
  | zero => rfl
  | succ n ih => simp [ramp, ih]
theorem markIntS_go (a0 : List Int) (k0 : Int) : ∀ (n : Nat) (post pre : List Int) (k : Int), 0 ≤ k → k + post.length ≤ 1000000000 → pre.length + post.length ≤ 1048576 → post.length < n →
    laws_markIntS_L1 a0 k0 n k (pre.length : Int) (pre ++ post) = some (k + post.length, pre ++ ramp k post.length)
  | 0, post, pre, k, _, _, _, h => by omega
  | n + 1, [], pre, k, h0, h1, h2, h4 => by
    rw [laws_markIntS_L1, if_neg (by simp)]
    simp [ramp]
  | n + 1, e :: post, pre, k, h0, h1, h2, h4 => by
    simp only [List.length_cons] at h1 h2 h4
    rw [laws_markIntS_L1, if_pos (by simp; omega), at_ok (by simp), Option.bind_some, put_ok (by simp), Option.bind_some, w64 (k + 1) (by omega) (by omega), w64 ((pre.length : Int) + 1) (by omega) (by omega)]
    rw [List.set_append_right _ _ (Nat.le_refl _), Nat.sub_self, List.set_cons_zero]
    have := markIntS_go a0 k0 n post (pre ++ [k]) (k + 1) (by omega) (by omega) (by simp; omega) (by omega)
    rw [List.length_append, List.append_assoc, List.append_assoc] at this
    rw [show ((pre.length + [k].length : Nat) : Int) = (pre.length : Int) + 1 by simp] at this
    rw [show pre ++ k :: post = pre ++ ([k] ++ post) from rfl, this]
    simp [ramp]
    omega
theorem markIntS_ok (a : List Int) (h : a.length ≤ 1048576) : laws_markIntS a 1 = some (1 + (a.length : Int), ramp 1 a.length) := by
  have := markIntS_go a 1 FU a [] 1 (by omega) (by omega) (by simpa using h) (by unfold FU; omega)
  simpa [laws_markIntS] using this
theorem heldIntS_go (a0 : List Int) (k0 : Int) : ∀ (n m : Nat) (pre : List Int) (k : Int), 0 ≤ k → k + m ≤ 1000000000 → pre.length + m ≤ 1048576 → m < n → a0 = pre ++ ramp k m →
    laws_heldIntS_L1 a0 k0 n k (pre.length : Int) = some (k + m)
  | 0, m, pre, k, _, _, _, h, _ => by omega
  | n + 1, 0, pre, k, h0, h1, h2, h4, ha => by
    rw [laws_heldIntS_L1, if_neg (by simp [ha, ramp])]
    simp
  | n + 1, m + 1, pre, k, h0, h1, h2, h4, ha => by
    have hlen : a0.length = pre.length + (m + 1) := by rw [ha]; simp [ramp, ramp_len]
    rw [laws_heldIntS_L1, if_pos (by rw [hlen]; simp; omega), at_ok (by omega), Option.bind_some, w64 (k + 1) (by omega) (by omega), w64 ((pre.length : Int) + 1) (by omega) (by omega)]
    have he : a0[pre.length]'(by omega) = k := by simp [ha, ramp]
    rw [he, if_neg (by simp)]
    have := heldIntS_go a0 k0 n m (pre ++ [k]) (k + 1) (by omega) (by omega) (by simp; omega) (by omega) (by rw [ha]; simp [ramp])
    rw [show ((pre ++ [k]).length : Int) = (pre.length : Int) + 1 by simp] at this
    rw [this]
    congr 1; omega
theorem heldIntS_ok (n : Nat) (h : n ≤ 1048576) : laws_heldIntS (ramp 1 n) 1 = some (1 + (n : Int)) := by
  have := heldIntS_go (ramp 1 n) 1 FU n [] 1 (by omega) (by omega) (by simpa using h) (by unfold FU; omega) rfl
  simpa [laws_heldIntS] using this
end Go.Proofs.YthcmcjkljjfccaaGreatDoor.Abs
set_option maxRecDepth 20000
set_option linter.unusedVariables false
set_option linter.unusedSimpArgs false
namespace Go.Proofs.YthcmcjkljjfccaaGreatDoor.Abs
open Go Go.Proofs.Tryz

/-! ## Looking through a row -/
theorem idx_loop {α : Type} (f : α → Option Bool) (p : α → Bool) (a : List α) (ha : a.length ≤ 4611686018427387904) (hf : ∀ e ∈ a, f e = some (p e)) (L : Nat → Int → Option Int)
    (hL : ∀ (n k : Nat), L (n + 1) (k : Int) = if (decide ((k : Int) < (a.length : Int))) = true then (at? a (k : Int)).bind (fun e2 => (f e2).bind fun y3 => if y3 = true then some (k : Int) else L n (IntKind.i64.wrap ((k : Int) + 1))) else some (-1)) :
    L FU 0 = some (match a.findIdx? p with | some i => (i : Int) | none => -1) := by
  have h1 := count0 a ha (fun n k (_ : Unit) => L n k) (fun k e rec (s : Unit) => (f e).bind fun y3 => if y3 = true then some (k : Int) else rec s) (fun _ => some (-1)) (fun n k s => hL n k) ()
  have key : ∀ (post : List α) (k : Nat), (∀ e ∈ post, f e = some (p e)) → goI (fun k e rec (s : Unit) => (f e).bind fun y3 => if y3 = true then some (k : Int) else rec s) (fun _ => some (-1)) k post () = some (match post.findIdx? p with | some i => ((k + i : Nat) : Int) | none => -1) := by
    intro post
    induction post with
    | nil => intro k _; rfl
    | cons e post ih =>
      intro k hf
      rw [goI, hf e (by simp), Option.bind_some, List.findIdx?_cons]
      cases hp : p e with
      | true => simp
      | false =>
        simp only [Bool.false_eq_true, if_false]
        rw [ih (k + 1) (fun e he => hf e (by simp [he]))]
        cases post.findIdx? p with
        | none => rfl
        | some i => simp only [Option.map_some]; congr 2; omega
  have h2 := key a 0 hf
  refine h1.trans (h2.trans ?_)
  cases a.findIdx? p with
  | none => rfl
  | some i => simp
theorem found_any {α : Type} (p : α → Bool) (a : List α) : decide (0 ≤ (match a.findIdx? p with | some i => (i : Int) | none => -1)) = a.any p := by
  cases h : a.findIdx? p with
  | none =>
    have := List.findIdx?_eq_none_iff.1 h
    have h2 : a.any p = false := by rw [List.any_eq_false]; intro x hx; simp [this x hx]
    rw [h2]; rfl
  | some i =>
    obtain ⟨hi, hp, _⟩ := List.findIdx?_eq_some_iff_getElem.1 h
    have : a.any p = true := List.any_eq_true.2 ⟨_, List.getElem_mem hi, hp⟩
    rw [this]; simp

/-! ## Names -/

/-- A text cut at each of a byte. -/
def splitA (b : UInt8) : List UInt8 → List UInt8 → List (List UInt8)
  | cur, [] => [cur]
  | cur, x :: xs => if x = b then cur :: splitA b [] xs else splitA b (cur ++ [x]) xs
theorem splitA_len (b : UInt8) : ∀ (cur s : List UInt8), (splitA b cur s).length ≤ s.length + 1
  | cur, [] => by simp [splitA]
  | cur, x :: xs => by
    rw [splitA]
    split
    · have := splitA_len b [] xs; simp; omega
    · have := splitA_len b (cur ++ [x]) xs; simp; omega
theorem splitA_ne (b : UInt8) : ∀ (cur s : List UInt8), splitA b cur s ≠ []
  | cur, [] => by simp [splitA]
  | cur, x :: xs => by
    rw [splitA]
    split
    · simp
    · exact splitA_ne b _ xs
theorem splitA_each (b : UInt8) : ∀ (cur s : List UInt8), ∀ p ∈ splitA b cur s, p.length ≤ cur.length + s.length
  | cur, [] => by simp [splitA]
  | cur, x :: xs => by
    rw [splitA]
    split
    · intro p hp
      rcases List.mem_cons.1 hp with rfl | hp
      · simp
      · have := splitA_each b [] xs p hp; simp at this ⊢; omega
    · intro p hp
      have := splitA_each b (cur ++ [x]) xs p hp; simp at this ⊢; omega
theorem splitA_sum (b : UInt8) : ∀ (cur s : List UInt8), ((splitA b cur s).map List.length).sum + (splitA b cur s).length = cur.length + s.length + 1
  | cur, [] => by simp [splitA]
  | cur, x :: xs => by
    rw [splitA]
    split
    · have := splitA_sum b [] xs; simp at this ⊢; omega
    · have := splitA_sum b (cur ++ [x]) xs; simp at this ⊢; omega
theorem splitA_none (b : UInt8) : ∀ (cur s : List UInt8), b ∉ s → splitA b cur s = [cur ++ s]
  | cur, [], _ => by simp [splitA]
  | cur, x :: xs, h => by
    rw [splitA, if_neg (by rintro rfl; simp at h), splitA_none b _ xs (by simp at h; exact h.2)]
    simp
theorem splitA_some (b : UInt8) : ∀ (cur p q : List UInt8), b ∉ p → splitA b cur (p ++ b :: q) = (cur ++ p) :: splitA b [] q
  | cur, [], q, _ => by simp [splitA]
  | cur, x :: p, q, h => by
    rw [List.cons_append, splitA, if_neg (by rintro rfl; simp at h), splitA_some b _ p q (by simp at h; exact h.2)]
    simp
theorem index1_none (b : UInt8) : ∀ s : Str, b ∉ s → Lib.index s [b] = -1
  | [], _ => rfl
  | x :: s, h => by
    have h1 : ¬ b = x := by rintro rfl; simp at h
    have ih := index1_none b s (by simp at h; exact h.2)
    have e : ([b] : Str).isPrefixOf (x :: s) = false := by simp [List.isPrefixOf, h1]
    rw [Lib.index, e, ih]; rfl
theorem index1_some (b : UInt8) : ∀ p q : Str, b ∉ p → Lib.index (p ++ b :: q) [b] = (p.length : Int)
  | [], q, _ => by simp [Lib.index, List.isPrefixOf]
  | x :: p, q, h => by
    have h1 : ¬ b = x := by rintro rfl; simp at h
    have ih := index1_some b p q (by simp at h; exact h.2)
    have e : ([b] : Str).isPrefixOf (x :: (p ++ b :: q)) = false := by simp [List.isPrefixOf, h1]
    rw [List.cons_append, Lib.index, e, ih]
    have : ((p.length : Int) == -1) = false := by rw [beq_eq_false_iff_ne]; omega
    simp [this]
theorem split1 (b : UInt8) : ∀ (n : Nat) (s : Str), s.length ≤ n → Lib.split s [b] = splitA b [] s
  | n, s, hn => by
    by_cases hb : b ∈ s
    · obtain ⟨p, q, rfl, hp⟩ := List.eq_append_cons_of_mem hb
      have hi := index1_some b p q hp
      have hd : (p ++ b :: q).drop (p.length + 1) = q := by simp
      cases n with
      | zero => simp at hn
      | succ n =>
        have ih := split1 b n q (by simp at hn; omega)
        unfold Lib.split at ih ⊢
        rw [Lib.count_hit (by simp) hi, Nat.add_comm, Lib.splitK, hi]
        have hne : ((p.length : Int) == -1) = false := by rw [beq_eq_false_iff_ne]; omega
        simp only [hne, Bool.false_eq_true, if_false, Int.toNat_natCast, List.length_singleton, hd, Nat.add_zero]
        rw [ih, splitA_some b [] p q hp]
        simp
    · unfold Lib.split
      rw [Lib.count_miss (index1_none b s hb), Lib.splitK, splitA_none b [] s hb]; rfl
theorem impl_split (s : Str) (b : UInt8) (h : s.length ≤ 1048576) : strings_Split s [b] = some (splitA b [] s) := by
  rw [strings_Split, if_pos ⟨by omega, by simp⟩, split1 b _ s (Nat.le_refl _)]
theorem spec_split_go (b : UInt8) (s : Str) (hs : s.length ≤ 1048576) : ∀ (n : Nat) (post pre : Str) (f : Nat) (acc : List Str), s = pre ++ post → f ≤ pre.length → acc.length ≤ pre.length → post.length < n →
    spec_l1Split_L1 s (b.toNat : Int) n (f : Int) (pre.length : Int) acc = some (acc ++ splitA b (pre.drop f) post)
  | 0, post, pre, f, acc, _, _, _, h => by omega
  | n + 1, [], pre, f, acc, h, hf, ha, _ => by
    simp only [List.append_nil] at h
    subst h
    rw [spec_l1Split_L1, if_neg (by simp), spec_l1Split_K1, cut_ok (by omega), Option.bind_some, app_ok (by simp; omega), Option.bind_some]
    simp [splitA]
  | n + 1, x :: post, pre, f, acc, h, hf, ha, hn => by
    have hl : s.length = pre.length + (post.length + 1) := by rw [h]; simp
    have hx : at? s (pre.length : Int) = some x := by rw [at?_nat, h]; simp
    simp only [List.length_cons] at hn
    rw [spec_l1Split_L1, if_pos (by simp; omega), hx, Option.bind_some, w64 ((pre.length : Int) + 1) (by omega) (by omega)]
    have ec : (pre.length : Int) + 1 = ((pre ++ [x]).length : Int) := by simp
    rw [ec]
    by_cases hb : x = b
    · subst hb
      have hc : ((x.toNat : Int) == (x.toNat : Int)) = true := by simp
      rw [if_pos hc, cut_ok (by omega), Option.bind_some, app_ok (by simp; omega), Option.bind_some]
      have hp : (s.take pre.length).drop f = pre.drop f := by rw [h]; simp
      rw [spec_split_go x s hs n post (pre ++ [x]) (pre ++ [x]).length _ (by simp [h]) (Nat.le_refl _) (by simp; omega) (by omega), hp, splitA, if_pos rfl]
      simp
    · have hc : ((x.toNat : Int) == (b.toNat : Int)) = false := by
        rw [beq_eq_false_iff_ne]
        intro e
        exact hb (UInt8.toNat_inj.1 (by omega))
      rw [if_neg (by rw [hc]; decide), spec_split_go b s hs n post (pre ++ [x]) f acc (by simp [h]) (by simp; omega) (by simp; omega) (by omega), splitA, if_neg hb, List.drop_append_of_le_length hf]
theorem spec_split (s : Str) (b : UInt8) (h : s.length ≤ 1048576) : spec_l1Split s (b.toNat : Int) = some (splitA b [] s) := by
  have := spec_split_go b s h FU s [] 0 [] rfl (Nat.le_refl _) (Nat.le_refl _) (by unfold FU; omega)
  simpa [spec_l1Split] using this

/-- A byte of a label. -/
def labB (x : UInt8) : Bool := decide (97 ≤ x.toNat) && decide (x.toNat ≤ 122) || decide (48 ≤ x.toNat) && decide (x.toNat ≤ 57) || x.toNat == 45 || x.toNat == 95
def lab (s : Str) : Bool := s == [42] || (s.all labB && decide (1 ≤ s.length) && decide (s.length ≤ 20))
theorem spec_label_go (s : Str) (hs : s.length ≤ 1048576) : ∀ (n : Nat) (post pre : Str), s = pre ++ post → post.length < n →
    spec_l1Label_L1 s n (pre.length : Int) = if post.all labB = true then some (decide (1 ≤ s.length) && decide (s.length ≤ 20)) else some false
  | 0, post, pre, _, h => by omega
  | n + 1, [], pre, h, hn => by
    rw [spec_l1Label_L1, if_neg (by simp [h]), spec_l1Label_K1]
    simp only [spec_l1In]
    by_cases h1 : 1 ≤ s.length
    · have : (1 : Int) ≤ (s.length : Int) := by omega
      simp [h1, this]
      omega
    · have : ¬ (1 : Int) ≤ (s.length : Int) := by omega
      simp [h1, this]
  | n + 1, x :: post, pre, h, hn => by
    have hl : s.length = pre.length + (post.length + 1) := by rw [h]; simp
    have hx : at? s (pre.length : Int) = some x := by rw [at?_nat, h]; simp
    simp only [List.length_cons] at hn
    rw [spec_l1Label_L1, if_pos (by simp; omega), hx]
    simp only [Option.bind_some]
    rw [w64 ((pre.length : Int) + 1) (by omega) (by omega)]
    have ec : (pre.length : Int) + 1 = ((pre ++ [x]).length : Int) := by simp
    rw [ec, spec_label_go s hs n post (pre ++ [x]) (by simp [h]) (by omega), List.all_cons]
    have c1 : decide ((97 : Int) ≤ (x.toNat : Int)) = decide (97 ≤ x.toNat) := by congr 1; simp; omega
    have c2 : decide ((x.toNat : Int) ≤ 122) = decide (x.toNat ≤ 122) := by congr 1; simp; omega
    have c3 : decide ((48 : Int) ≤ (x.toNat : Int)) = decide (48 ≤ x.toNat) := by congr 1; simp; omega
    have c4 : decide ((x.toNat : Int) ≤ 57) = decide (x.toNat ≤ 57) := by congr 1; simp; omega
    have c5 : ((x.toNat : Int) == 45) = (x.toNat == 45) := by
      rw [Bool.eq_iff_iff]; simp; omega
    have c6 : ((x.toNat : Int) == 95) = (x.toNat == 95) := by
      rw [Bool.eq_iff_iff]; simp; omega
    rw [c1, c2, c3, c4, c5, c6]
    unfold labB
    cases decide (97 ≤ x.toNat) <;> cases decide (x.toNat ≤ 122) <;> cases decide (48 ≤ x.toNat) <;> cases decide (x.toNat ≤ 57) <;> cases (x.toNat == 45) <;> cases (x.toNat == 95) <;> simp
theorem spec_label (s : Str) (h : s.length ≤ 1048576) : spec_l1Label s = some (lab s) := by
  unfold spec_l1Label lab
  cases hs : (s == [42]) with
  | true => simp
  | false =>
    have := spec_label_go s h FU s [] rfl (by unfold FU; omega)
    simp only [List.length_nil, Int.natCast_zero] at this
    rw [if_neg (by decide), show (0 : Int) = ((0 : Nat) : Int) from rfl]
    rw [show ((0 : Nat) : Int) = 0 from rfl, this]
    cases s.all labB <;> simp
theorem trim_nil (cut : Str) (s : Str) : (Lib.trimS s cut == []) = s.all (cut.contains ·) := by
  have h1 : ∀ l : Str, l.dropWhile (cut.contains ·) = [] ↔ l.all (cut.contains ·) = true := by
    intro l
    induction l with
    | nil => simp
    | cons x l ih =>
      rw [List.dropWhile_cons, List.all_cons]
      cases hx : cut.contains x with
      | true => simpa using ih
      | false => simp
  have h2 : Lib.trimS s cut = [] ↔ s.all (cut.contains ·) = true := by
    unfold Lib.trimS Lib.trimLeftS
    rw [h1]
    unfold Lib.trimRightS
    rw [List.all_reverse]
    constructor
    · intro h
      have h3 : s.reverse.dropWhile (cut.contains ·) = [] := by
        cases hd : s.reverse.dropWhile (cut.contains ·) with
        | nil => rfl
        | cons x l =>
          have h4 := List.head?_dropWhile_not (p := (cut.contains ·)) (l := s.reverse)
          rw [hd] at h4 h
          simp at h4 h
          exact absurd h.1 (by simpa using h4)
      rw [h1, List.all_reverse] at h3
      exact h3
    · intro h
      have h3 := (h1 s.reverse).2 (by rw [List.all_reverse]; exact h)
      rw [h3]; rfl
  rw [Bool.eq_iff_iff, ← h2]
  simp
theorem labB_cut (x : UInt8) : ([97, 98, 99, 100, 101, 102, 103, 104, 105, 106, 107, 108, 109, 110, 111, 112, 113, 114, 115, 116, 117, 118, 119, 120, 121, 122, 48, 49, 50, 51, 52, 53, 54, 55, 56, 57, 45, 95] : Str).contains x = labB x := by
  have key : ∀ n : Fin 256, ([97, 98, 99, 100, 101, 102, 103, 104, 105, 106, 107, 108, 109, 110, 111, 112, 113, 114, 115, 116, 117, 118, 119, 120, 121, 122, 48, 49, 50, 51, 52, 53, 54, 55, 56, 57, 45, 95] : Str).contains (UInt8.ofNat n.val) = labB (UInt8.ofNat n.val) := by decide
  have := key ⟨x.toNat, x.toNat_lt⟩
  simpa using this
theorem impl_label (s : Str) (h : s.length ≤ 1048576) : impl_isLabel s = some (lab s) := by
  unfold impl_isLabel lab
  cases hs : (s == [42]) with
  | true => simp
  | false =>
    rw [if_neg (by decide)]
    unfold impl_within
    have ht : strings_Trim s [97, 98, 99, 100, 101, 102, 103, 104, 105, 106, 107, 108, 109, 110, 111, 112, 113, 114, 115, 116, 117, 118, 119, 120, 121, 122, 48, 49, 50, 51, 52, 53, 54, 55, 56, 57, 45, 95] = some (Lib.trimS s [97, 98, 99, 100, 101, 102, 103, 104, 105, 106, 107, 108, 109, 110, 111, 112, 113, 114, 115, 116, 117, 118, 119, 120, 121, 122, 48, 49, 50, 51, 52, 53, 54, 55, 56, 57, 45, 95]) := by
      rw [strings_Trim, if_pos ⟨by omega, by decide, by decide⟩]
    rw [ht]
    simp only [Option.bind_some]
    have hl : s.all (([97, 98, 99, 100, 101, 102, 103, 104, 105, 106, 107, 108, 109, 110, 111, 112, 113, 114, 115, 116, 117, 118, 119, 120, 121, 122, 48, 49, 50, 51, 52, 53, 54, 55, 56, 57, 45, 95] : Str).contains ·) = s.all labB := by
      congr 1; funext x; exact labB_cut x
    rw [trim_nil, hl]
    have c1 : decide ((1 : Int) ≤ (s.length : Int)) = decide (1 ≤ s.length) := by congr 1; simp; omega
    have c2 : decide ((s.length : Int) ≤ 20) = decide (s.length ≤ 20) := by congr 1; simp; omega
    rw [c1, c2]
    cases decide (1 ≤ s.length) <;> cases decide (s.length ≤ 20) <;> cases s.all labB <;> simp

/-- A name. -/
def okName (s : Str) : Bool := s == [] || ((splitA 46 [] s).all lab && decide (s.length ≤ 60) && decide ((splitA 46 [] s).length ≤ 8))
theorem spec_labels_go (s : Str) (all : List Str) : ∀ (post : List Str) (i : Nat), (∀ e ∈ post, e.length ≤ 1048576) →
    spec_l1Labels_L1 s all post i = if post.all lab = true then some (all, decide (s.length ≤ 60) && decide (all.length ≤ 8)) else some ([], false)
  | [], i, _ => by
    rw [spec_l1Labels_L1, spec_l1Labels_K1]
    have c1 : decide ((s.length : Int) ≤ 60) = decide (s.length ≤ 60) := by congr 1; simp; omega
    have c2 : decide ((all.length : Int) ≤ 8) = decide (all.length ≤ 8) := by congr 1; simp; omega
    rw [c1, c2]
    cases decide (s.length ≤ 60) <;> simp
  | e :: post, i, h => by
    rw [spec_l1Labels_L1, spec_label e (h e (by simp)), Option.bind_some, List.all_cons]
    cases lab e with
    | false => simp
    | true => simpa using spec_labels_go s all post (i + 1) (fun e he => h e (by simp [he]))
def labels (s : Str) : List Str := if s == [] then [] else splitA 46 [] s
theorem spec_labels (s : Str) (h : s.length ≤ 1048576) : spec_l1Labels s = some (if okName s = true ∨ (splitA 46 [] s).all lab = true then labels s else [], okName s) := by
  unfold spec_l1Labels okName labels
  cases hs : (s == []) with
  | true => simp
  | false =>
    rw [if_neg (by decide), show (46 : Int) = ((46 : UInt8).toNat : Int) from rfl, spec_split s 46 h, Option.bind_some]
    rw [spec_labels_go s _ _ 0 (fun e he => by have := splitA_each 46 [] s e he; simp at this; omega)]
    cases (splitA 46 [] s).all lab <;> simp
theorem spec_goodName (s : Str) (h : s.length ≤ 1048576) : spec_GoodName s = some (okName s) := by
  unfold spec_GoodName
  rw [spec_labels s h]; rfl
theorem impl_labels (s : Str) (h : s.length ≤ 1048576) : impl_labelsOf s = some (labels s) := by
  unfold impl_labelsOf labels
  cases hs : (s == []) with
  | true => simp
  | false => rw [if_neg (by decide), impl_split s 46 h]; rfl
theorem contains_str (f : Str → Option Bool) (p : Str → Bool) (a : List Str) (ha : a.length ≤ 4611686018427387904) (hf : ∀ e ∈ a, f e = some (p e)) : slices_ContainsFunc_string_string a f = some (a.any p) := by
  unfold slices_ContainsFunc_string_string slices_IndexFunc_string_string
  rw [idx_loop f p a ha hf (slices_IndexFunc_string_string_L1 a f) (fun n k => by rw [slices_IndexFunc_string_string_L1]), Option.bind_some, found_any]
theorem impl_goodName (s : Str) (h : s.length ≤ 1048576) : impl_GoodName s = some (okName s) := by
  unfold impl_GoodName
  have c1 : decide ((60 : Int) < (s.length : Int)) = !decide (s.length ≤ 60) := by
    by_cases hc : s.length ≤ 60
    · simp [hc]; omega
    · simp [hc]; omega
  rw [c1]
  by_cases hc : s.length ≤ 60
  · rw [if_neg (by simp [hc]), impl_labels s h, Option.bind_some]
    have hlen : (labels s).length ≤ s.length + 1 := by
      unfold labels
      split
      · simp
      · exact splitA_len 46 [] s
    have hc2 := contains_str (fun q0 => impl_GoodName_1 q0) (fun e => !lab e) (labels s) (by omega) (fun e he => by
      have : e.length ≤ s.length := by
        unfold labels at he
        split at he
        · simp at he
        · simpa using splitA_each 46 [] s e he
      simp [impl_GoodName_1, impl_label e (by omega)])
    rw [hc2]
    have c2 : decide (((labels s).length : Int) ≤ 8) = decide ((labels s).length ≤ 8) := by congr 1; simp; omega
    rw [c2]
    unfold okName labels
    cases hs : (s == []) with
    | true => simp
    | false =>
      simp only [Bool.false_eq_true, if_false, Bool.false_or, hc, decide_true, Bool.and_true, Option.bind_some]
      have : ((splitA 46 [] s).any fun e => !lab e) = !(splitA 46 [] s).all lab := by rw [List.all_eq_not_any_not]; simp
      rw [this]
      cases decide ((splitA 46 [] s).length ≤ 8) <;> cases (splitA 46 [] s).all lab <;> simp
  · rw [if_pos (by simp [hc])]
    unfold okName
    have : (s == []) = false := by
      rw [beq_eq_false_iff_ne]; rintro rfl; simp at hc
    simp [this, hc]
end Go.Proofs.YthcmcjkljjfccaaGreatDoor.Abs
set_option maxRecDepth 20000
set_option linter.unusedVariables false
set_option linter.unusedSimpArgs false
namespace Go.Proofs.YthcmcjkljjfccaaGreatDoor.Abs
open Go Go.Proofs.Tryz

/-! ## Numbers -/
def digB (b : UInt8) : Bool := decide (48 ≤ b.toNat) && decide (b.toNat ≤ 57)
def stepF (acc : Nat) (b : UInt8) : Nat := acc * 10 + (b.toNat - 48)
def valF (acc : Nat) (s : Str) : Nat := s.foldl stepF acc
theorem valF_nil (acc : Nat) : valF acc [] = acc := rfl
theorem valF_cons (acc : Nat) (b : UInt8) (s : Str) : valF acc (b :: s) = valF (acc * 10 + (b.toNat - 48)) s := by
  unfold valF
  rw [List.foldl_cons, stepF]
/-- A number as it is told: no nought ahead. -/
def canonN (s : Str) : Bool := s.all digB && !(s == []) && (!(s.head? == some 48) || decide (s.length = 1))
def numA (s : Str) : Int := if canonN s = true ∧ s.length ≤ 10 then (valF 0 s : Int) else -1
theorem valF_append (s t : Str) (acc : Nat) : valF acc (s ++ t) = valF (valF acc s) t := by
  unfold valF
  rw [List.foldl_append]
theorem dec1 : ∀ m : Fin 10, canonN [UInt8.ofNat (48 + m.val)] = true ∧ valF 0 [UInt8.ofNat (48 + m.val)] = m.val := by decide
attribute [irreducible] valF
theorem dig_lt {b : UInt8} (h : digB b = true) : 48 ≤ b.toNat ∧ b.toNat ≤ 57 := by simpa [digB] using h
theorem valF_lt (s : Str) : ∀ (acc : Nat), s.all digB = true → valF acc s < (acc + 1) * 10 ^ s.length := by
  induction s with
  | nil => intro acc _; rw [valF_nil]; simp
  | cons b s ih =>
    intro acc h
    rw [List.all_cons, Bool.and_eq_true] at h
    have hd := dig_lt h.1
    have ih := ih (acc * 10 + (b.toNat - 48)) h.2
    rw [valF_cons, List.length_cons, Nat.pow_succ]
    have h1 : (acc * 10 + (b.toNat - 48) + 1) * 10 ^ s.length ≤ ((acc + 1) * 10) * 10 ^ s.length := Nat.mul_le_mul_right _ (by omega)
    have h2 : (acc + 1) * 10 * 10 ^ s.length = (acc + 1) * (10 ^ s.length * 10) := by rw [Nat.mul_assoc, Nat.mul_comm 10]
    omega
theorem valF_ge (s : Str) : ∀ (acc : Nat), acc * 10 ^ s.length ≤ valF acc s := by
  induction s with
  | nil => intro acc; rw [valF_nil]; simp
  | cons b s ih =>
    intro acc
    have ih := ih (acc * 10 + (b.toNat - 48))
    rw [valF_cons, List.length_cons, Nat.pow_succ]
    have h1 : acc * 10 * 10 ^ s.length ≤ (acc * 10 + (b.toNat - 48)) * 10 ^ s.length := Nat.mul_le_mul_right _ (by omega)
    have h2 : acc * 10 * 10 ^ s.length = acc * (10 ^ s.length * 10) := by rw [Nat.mul_assoc, Nat.mul_comm 10]
    omega
theorem pow10_le (n : Nat) (h : n ≤ 10) : 10 ^ n ≤ 10000000000 := by
  have := Nat.pow_le_pow_right (show 0 < 10 by decide) h
  simpa using this
theorem spec_int_go (s : Str) (hs : s.length ≤ 10) : ∀ (n : Nat) (post pre : Str), s = pre ++ post → pre.all digB = true → post.length < n →
    spec_l1Int_L1 s n (valF 0 pre : Int) (pre.length : Int) = if post.all digB = true then some (valF 0 s : Int) else some (-1)
  | 0, post, pre, _, _, h => by omega
  | n + 1, [], pre, h, hp, hn => by
    simp only [List.append_nil] at h
    rw [spec_l1Int_L1, if_neg (by simp [h]), h]
    simp
  | n + 1, x :: post, pre, h, hp, hn => by
    have hl : s.length = pre.length + (post.length + 1) := by rw [h]; simp
    have hx : at? s (pre.length : Int) = some x := by rw [at?_nat, h]; simp
    simp only [List.length_cons] at hn
    rw [spec_l1Int_L1, if_pos (by simp; omega)]
    simp only [hx, Option.bind_some]
    rw [List.all_cons]
    have hv : valF 0 pre < 10 ^ pre.length := by simpa using valF_lt pre 0 hp
    have hv2 := pow10_le pre.length (by omega)
    by_cases hd : digB x = true
    · have hd' := dig_lt hd
      rw [if_neg (by simp; omega), if_neg (by simp; omega)]
      have e8 : IntKind.u8.wrap ((x.toNat : Int) - 48) = ((x.toNat - 48 : Nat) : Int) := by
        have e : IntKind.u8.wrap ((x.toNat : Int) - 48) = ((x.toNat : Int) - 48) % 256 := by
          simp [IntKind.wrap, IntKind.signed, IntKind.bits]
          try omega
        rw [e]; omega
      rw [e8, w64 (10 * (valF 0 pre : Int)) (by omega) (by omega), w64 ((x.toNat - 48 : Nat) : Int) (by omega) (by omega), w64 _ (by omega) (by omega), w64 ((pre.length : Int) + 1) (by omega) (by omega)]
      have ec : (pre.length : Int) + 1 = ((pre ++ [x]).length : Int) := by simp
      have ev : 10 * (valF 0 pre : Int) + ((x.toNat - 48 : Nat) : Int) = (valF 0 (pre ++ [x]) : Int) := by
        rw [valF_append, valF_cons, valF_nil]; push_cast; omega
      rw [ec, ev, spec_int_go s hs n post (pre ++ [x]) (by simp [h]) (by simp [hp, hd]) (by omega), hd, Bool.true_and]
    · have hf : digB x = false := by simpa using hd
      rw [hf, Bool.false_and]
      simp only [digB, Bool.and_eq_false_iff, decide_eq_false_iff_not] at hf
      by_cases h1 : x.toNat < 48
      · rw [if_pos (by simp; omega)]; simp
      · rw [if_neg (by simp; omega), if_pos (by simp; omega)]; simp
theorem spec_int (s : Str) (h : s.length ≤ 1048576) : spec_l1Int s = some (numA s) := by
  unfold spec_l1Int numA canonN
  simp only [spec_l1In]
  have hK : s.length ≤ 10 → spec_l1Int_K1 s = if s.all digB = true then some (valF 0 s : Int) else some (-1) := by
    intro hl
    have := spec_int_go s hl FU s [] rfl rfl (by unfold FU; omega)
    simpa [spec_l1Int_K1, valF_nil] using this
  cases s with
  | nil => simp
  | cons x s =>
    have h1 : (1 : Int) ≤ ((x :: s).length : Int) := by simp; omega
    rw [if_pos (by simpa using h1), Option.bind_some]
    by_cases hl : (x :: s).length ≤ 10
    · have h2 : decide (((x :: s).length : Int) ≤ 10) = true := by simp at hl ⊢; omega
      rw [h2, if_neg (by decide)]
      have hx : at? (x :: s) 0 = some x := rfl
      rw [hx, Option.bind_some, hK hl]
      by_cases h0 : x = 48
      · subst h0
        rw [if_pos (by rfl)]
        by_cases h3 : 1 < (48 :: s).length
        · rw [if_pos (decide_eq_true (by omega))]
          have e1 : decide ((48 :: s).length = 1) = false := by simp at h3 ⊢; intro e; simp [e] at h3
          have e2 : ((48 :: s : Str).head? == some 48) = true := rfl
          rw [e1, e2]; simp
        · rw [if_neg (by rw [decide_eq_true_eq]; omega)]
          have : s = [] := List.eq_nil_of_length_eq_zero (by simp only [List.length_cons] at h3; omega)
          subst this
          simp [digB, valF_cons, valF_nil]
      · have h4 : ((x.toNat : Int) == 48) = false := by
          rw [beq_eq_false_iff_ne]; intro e
          exact h0 (UInt8.toNat_inj.1 (by simpa using (by omega : x.toNat = 48)))
        rw [if_neg (by rw [h4]; decide)]
        have h5 : ((x :: s).head? == some 48) = false := by simpa using h0
        rw [h5]
        have h6 : ((x :: s) == []) = false := rfl
        rw [h6]
        cases (x :: s).all digB with
        | false => rw [if_neg (by decide), if_neg (by simp)]
        | true => rw [if_pos rfl, if_pos ⟨by simp, hl⟩]
    · have h2 : decide (((x :: s).length : Int) ≤ 10) = false := by simp at hl ⊢; omega
      rw [h2, if_pos (by decide), if_neg (by intro hc; exact hl hc.2)]

/-! ### What strconv tells -/
theorem decDigits_canon (n : Nat) : canonN (Lib.decDigits n) = true ∧ valF 0 (Lib.decDigits n) = n := by
  induction n using Nat.strongRecOn with
  | ind n ih =>
    rw [Lib.decDigits]
    by_cases h : n < 10
    · rw [dif_pos h]
      exact dec1 ⟨n, h⟩
    · rw [dif_neg h]
      obtain ⟨h1, h2⟩ := ih (n / 10) (by omega)
      have key : ∀ m : Fin 10, digB (UInt8.ofNat (48 + m.val)) = true ∧ (UInt8.ofNat (48 + m.val)).toNat - 48 = m.val := by decide
      obtain ⟨k1, k2⟩ := key ⟨n % 10, Nat.mod_lt _ (by decide)⟩
      simp only at k1 k2
      refine ⟨?_, ?_⟩
      · simp only [canonN, Bool.and_eq_true, Bool.not_eq_true'] at h1 ⊢
        obtain ⟨⟨a1, a2⟩, a3⟩ := h1
        have hne : Lib.decDigits (n / 10) ≠ [] := by rw [beq_eq_false_iff_ne] at a2; exact a2
        refine ⟨⟨by rw [List.all_append, a1, List.all_cons, k1]; rfl, by rw [beq_eq_false_iff_ne]; exact List.append_ne_nil_of_left_ne_nil hne _⟩, ?_⟩
        obtain ⟨c, r, hc⟩ := List.exists_cons_of_ne_nil hne
        rw [hc] at a3 ⊢
        simp only [List.cons_append, List.head?_cons, Bool.or_eq_true, Bool.not_eq_true', decide_eq_true_eq] at a3 ⊢
        rcases a3 with a3 | a3
        · exact .inl a3
        · left
          have hr : r = [] := List.eq_nil_of_length_eq_zero (by simpa using a3)
          subst hr
          rw [hc] at h2
          rw [valF_cons, valF_nil] at h2
          rw [beq_eq_false_iff_ne]
          intro e
          cases e
          have : (48 : UInt8).toNat = 48 := rfl
          omega
      · rw [valF_append, h2]
        rw [valF_cons, valF_nil, k2]; omega
theorem digs_eq : ∀ (s t : Str), s.all digB = true → t.all digB = true → s.length = t.length → ∀ a, valF a s = valF a t → s = t := by
  intro s
  induction s with
  | nil => intro t _ _ hl a _; exact (List.eq_nil_of_length_eq_zero hl.symm).symm
  | cons x s ih =>
    intro t h1 h2 hl a hv
    cases t with
    | nil => simp at hl
    | cons y t =>
      rw [List.all_cons, Bool.and_eq_true] at h1 h2
      have hx := dig_lt h1.1
      have hy := dig_lt h2.1
      rw [valF_cons, valF_cons] at hv
      simp only [List.length_cons, Nat.add_right_cancel_iff] at hl
      have l1 := valF_lt s (a * 10 + (x.toNat - 48)) h1.2
      have l2 := valF_lt t (a * 10 + (y.toNat - 48)) h2.2
      have g1 := valF_ge s (a * 10 + (x.toNat - 48))
      have g2 := valF_ge t (a * 10 + (y.toNat - 48))
      rw [← hl] at l2 g2
      have hp : 0 < 10 ^ s.length := Nat.pow_pos (by decide)
      have hxy : x.toNat = y.toNat := by
        rcases Nat.lt_trichotomy x.toNat y.toNat with h | h | h
        · exfalso
          have : (a * 10 + (x.toNat - 48) + 1) * 10 ^ s.length ≤ (a * 10 + (y.toNat - 48)) * 10 ^ s.length := Nat.mul_le_mul_right _ (by omega)
          omega
        · exact h
        · exfalso
          have : (a * 10 + (y.toNat - 48) + 1) * 10 ^ s.length ≤ (a * 10 + (x.toNat - 48)) * 10 ^ s.length := Nat.mul_le_mul_right _ (by omega)
          omega
      have : x = y := UInt8.toNat_inj.1 hxy
      subst this
      rw [ih t h1.2 h2.2 hl _ hv]
/-- How many places a number takes. -/
theorem canon_bounds (s : Str) (h : canonN s = true) : s.all digB = true ∧ 1 ≤ s.length ∧ valF 0 s < 10 ^ s.length ∧ (2 ≤ s.length → 10 ^ (s.length - 1) ≤ valF 0 s) := by
  simp only [canonN, Bool.and_eq_true, Bool.not_eq_true', Bool.or_eq_true, decide_eq_true_eq] at h
  obtain ⟨⟨a1, a2⟩, a3⟩ := h
  refine ⟨a1, ?_, by simpa using valF_lt s 0 a1, ?_⟩
  · rw [beq_eq_false_iff_ne] at a2
    exact List.length_pos_iff.2 a2
  · intro h2
    cases s with
    | nil => simp at h2
    | cons x s =>
      rcases a3 with a3 | a3
      · simp only [List.head?_cons, beq_eq_false_iff_ne, ne_eq, Option.some.injEq] at a3
        rw [List.all_cons, Bool.and_eq_true] at a1
        have hx := dig_lt a1.1
        have hne : x.toNat ≠ 48 := fun e => a3 (UInt8.toNat_inj.1 (by simpa using e))
        have := valF_ge s (0 * 10 + (x.toNat - 48))
        rw [valF_cons]
        simp only [List.length_cons, Nat.add_sub_cancel]
        have h4 : 1 * 10 ^ s.length ≤ (0 * 10 + (x.toNat - 48)) * 10 ^ s.length := Nat.mul_le_mul_right _ (by omega)
        omega
      · omega
theorem canon_len_eq {s t : Str} (hs : canonN s = true) (ht : canonN t = true) (hv : valF 0 s = valF 0 t) : s.length = t.length := by
  obtain ⟨_, b1, b2, b3⟩ := canon_bounds s hs
  obtain ⟨_, c1, c2, c3⟩ := canon_bounds t ht
  rcases Nat.lt_trichotomy s.length t.length with h | h | h
  · exfalso
    have h1 := c3 (by omega)
    have h2 : 10 ^ s.length ≤ 10 ^ (t.length - 1) := Nat.pow_le_pow_right (by decide) (by omega)
    omega
  · exact h
  · exfalso
    have h1 := b3 (by omega)
    have h2 : 10 ^ t.length ≤ 10 ^ (s.length - 1) := Nat.pow_le_pow_right (by decide) (by omega)
    omega
theorem canon_dec (s : Str) (h : canonN s = true) : Lib.decDigits (valF 0 s) = s := by
  obtain ⟨h1, h2⟩ := decDigits_canon (valF 0 s)
  have hl := canon_len_eq h1 h h2
  exact digs_eq _ _ (canon_bounds _ h1).1 (canon_bounds s h).1 hl 0 h2
theorem parse_digs (s : Str) : ∀ (acc : Nat), s.all digB = true → valF acc s < 18446744073709551616 → Lib.parseUint10 acc s = .ok (valF acc s) := by
  induction s with
  | nil => intro acc _ _; rw [valF_nil]; rfl
  | cons b s ih =>
    intro acc h hv
    rw [List.all_cons, Bool.and_eq_true] at h
    have hd := dig_lt h.1
    rw [valF_cons] at hv ⊢
    have hge := valF_ge s (acc * 10 + (b.toNat - 48))
    have hp : 1 ≤ 10 ^ s.length := Nat.pow_pos (by decide)
    have hb : acc * 10 + (b.toNat - 48) < 18446744073709551616 := by
      have : (acc * 10 + (b.toNat - 48)) * 1 ≤ (acc * 10 + (b.toNat - 48)) * 10 ^ s.length := Nat.mul_le_mul_left _ hp
      omega
    rw [Lib.parseUint10, if_pos hd, if_neg (by omega), if_neg (by omega)]
    exact ih _ h.2 hv
theorem atoi_canon (s : Str) (h : canonN s = true) (hv : valF 0 s < 9223372036854775808) : Lib.atoiAll s = .ok (valF 0 s : Int) := by
  have h1 := (canon_bounds s h).1
  cases s with
  | nil => simp [canonN] at h
  | cons x s =>
    have hx : 48 ≤ x.toNat ∧ x.toNat ≤ 57 := by rw [List.all_cons, Bool.and_eq_true] at h1; exact dig_lt h1.1
    unfold Lib.atoiAll
    simp only
    rw [if_neg (by omega)]
    unfold Lib.parseMag
    rw [if_neg (by simp), parse_digs _ 0 h1 (by omega)]
    have hneg : ¬ x.toNat = 45 := by omega
    simp only [hneg, not_false_eq_true, true_and, false_and, if_false]
    rw [if_neg (by omega)]
/-- The number of an address' part, and the like. -/
def numOK (s : Str) (most : Int) : Bool := canonN s && decide ((valF 0 s : Int) ≤ most)
theorem impl_number (s : Str) (h : s.length ≤ 1048576) (most : Int) (hm : most ≤ 4294967295) : ∃ m, impl_numberIn s most = some (m, numOK s most) ∧ (numOK s most = true → m = (valF 0 s : Int)) := by
  unfold impl_numberIn
  rw [strconv_Atoi, if_pos (by omega), Option.bind_some]
  have hcan : numOK s most = true → Lib.atoiAll s = .ok (valF 0 s : Int) ∧ Lib.itoa (valF 0 s : Int) = s := by
    intro hc
    simp only [numOK, Bool.and_eq_true, decide_eq_true_eq] at hc
    refine ⟨atoi_canon s hc.1 (by omega), ?_⟩
    rw [Lib.itoa, if_neg (by omega)]
    simpa using canon_dec s hc.1
  cases ha : Lib.atoiAll s with
  | ok v =>
    simp only [Bool.false_eq_true, if_false]
    unfold impl_within
    by_cases h0 : 0 ≤ v
    · rw [if_pos (by simpa using h0), Option.bind_some]
      by_cases h1 : v ≤ most
      · rw [if_pos (by simpa using h1), strconv_Itoa, if_pos ⟨by omega, by omega⟩, Option.bind_some]
        have hi : (Lib.itoa v == s) = numOK s most := by
          rw [Bool.eq_iff_iff]
          constructor
          · intro he
            have he : Lib.itoa v = s := by simpa using he
            rw [Lib.itoa, if_neg (by omega)] at he
            obtain ⟨c1, c2⟩ := decDigits_canon v.toNat
            rw [he] at c1 c2
            simp only [numOK, c1, c2, Bool.true_and, decide_eq_true_eq]
            omega
          · intro hc
            obtain ⟨c1, c2⟩ := hcan hc
            rw [ha] at c1
            cases c1
            simpa using c2
        refine ⟨v, by rw [hi], fun hc => ?_⟩
        obtain ⟨c1, c2⟩ := hcan hc
        rw [ha] at c1
        cases c1; rfl
      · rw [if_neg (by simpa using h1)]
        have : numOK s most = false := by
          rw [Bool.eq_false_iff]; intro hc
          obtain ⟨c1, c2⟩ := hcan hc
          rw [ha] at c1
          cases c1
          simp only [numOK, Bool.and_eq_true, decide_eq_true_eq] at hc
          exact h1 hc.2
        exact ⟨v, by rw [this], by rw [this]; intro h; cases h⟩
    · rw [if_neg (by simpa using h0), Option.bind_some, if_neg (by decide)]
      have : numOK s most = false := by
        rw [Bool.eq_false_iff]; intro hc
        obtain ⟨c1, c2⟩ := hcan hc
        rw [ha] at c1
        cases c1
        omega
      exact ⟨v, by rw [this], by rw [this]; intro h; cases h⟩
  | range =>
    have : numOK s most = false := by
      rw [Bool.eq_false_iff]; intro hc
      have := (hcan hc).1
      rw [ha] at this; cases this
    exact ⟨_, by simp [this]; rfl, by rw [this]; intro h; cases h⟩
  | _ =>
    have : numOK s most = false := by
      rw [Bool.eq_false_iff]; intro hc
      have := (hcan hc).1
      rw [ha] at this; cases this
    exact ⟨0, by simp [this], by rw [this]; intro h; cases h⟩
/-- The two ask the same. -/
theorem num_same (s : Str) (most : Int) (h0 : 0 ≤ most) (hm : most ≤ 4294967295) : (decide (0 ≤ numA s) && decide (numA s ≤ most)) = numOK s most ∧ (numOK s most = true → numA s = (valF 0 s : Int)) := by
  unfold numA numOK
  by_cases hc : canonN s = true
  · by_cases hl : s.length ≤ 10
    · rw [if_pos ⟨hc, hl⟩, hc]
      have : (0 : Int) ≤ (valF 0 s : Int) := by omega
      simp [this]
    · have hb := (canon_bounds s hc).2.2.2 (by omega)
      have h2 : 10 ^ 10 ≤ 10 ^ (s.length - 1) := Nat.pow_le_pow_right (by decide) (by omega)
      have h3 : ¬ (valF 0 s : Int) ≤ most := by
        have : (10 : Nat) ^ 10 = 10000000000 := by decide
        omega
      rw [if_neg (fun h => hl h.2), hc]
      simp [h3]
  · have hf : canonN s = false := by simpa using hc
    rw [if_neg (fun h => hc h.1), hf]
    simp
end Go.Proofs.YthcmcjkljjfccaaGreatDoor.Abs
set_option maxRecDepth 20000
set_option linter.unusedVariables false
set_option linter.unusedSimpArgs false
namespace Go.Proofs.YthcmcjkljjfccaaGreatDoor.Abs
open Go Go.Proofs.Tryz

/-! ## What is good -/
def inR (n lo hi : Int) : Bool := decide (lo ≤ n) && decide (n ≤ hi)
theorem spec_in (n lo hi : Int) : spec_l1In n lo hi = some (inR n lo hi) := by
  unfold spec_l1In inR
  cases decide (lo ≤ n) <;> simp
theorem impl_in (n lo hi : Int) : impl_within n lo hi = some (inR n lo hi) := by
  unfold impl_within inR
  cases decide (lo ≤ n) <;> simp
theorem spec_byte (n : Int) : ∃ b, spec_l3Number n 1 = some [b] := by
  refine ⟨UInt8.ofNat (IntKind.u8.wrap n).toNat, ?_⟩
  unfold spec_l3Number
  rw [show make? 1 1 (0 : Int) = some [0] from rfl, Option.bind_some, show IntKind.i64.wrap (1 - 1) = 0 from rfl, show FU = (FU - 2) + 1 + 1 from by unfold FU; rfl]
  rw [spec_l3Number_L1, if_pos (by decide), show at? [(0 : Int)] 0 = some 0 from rfl, Option.bind_some, show put? [(0 : Int)] 0 (IntKind.u8.wrap n) = some [IntKind.u8.wrap n] from rfl, Option.bind_some, show IntKind.i64.wrap (0 - 1) = -1 from rfl]
  rw [spec_l3Number_L1, if_neg (by decide), spec_l3Number_K1, text1_ok, Option.bind_some]
theorem impl_byte (n : Int) : ∃ b, impl_big n 1 = some [b] := by
  have key : ∀ m : Int, ∃ b, text? [IntKind.u8.wrap m] = some [b] := fun m => ⟨_, text1_ok m⟩
  obtain ⟨b, hb⟩ := key (n.fdiv (2 ^ min (IntKind.i64.wrap (8 * 0)).toNat 64))
  refine ⟨b, ?_⟩
  unfold impl_big
  rw [show IntKind.i64.wrap (1 - 1) = 0 from rfl, show FU = (FU - 2) + 1 + 1 from by unfold FU; rfl]
  rw [impl_big_L1, if_pos (by decide), show ge0? (IntKind.i64.wrap (8 * 0)) = some () from rfl, Option.bind_some, app_ok (by simp), Option.bind_some, show IntKind.i64.wrap (0 - 1) = -1 from rfl]
  rw [impl_big_L1, if_neg (by decide), impl_big_K1, List.nil_append, hb, Option.bind_some]
def okA (d : Str) : Bool := (splitA 46 [] d).all (fun e => numOK e 255) && decide ((splitA 46 [] d).length = 4)
theorem spec_bytes_go (all : List Str) : ∀ (post : List Str) (i : Nat) (out : Str), (∀ e ∈ post, e.length ≤ 1048576) → out.length + post.length ≤ 10000000 →
    ∃ t, spec_l3Bytes_L1 all post i out = some (t, post.all (fun e => numOK e 255) && decide (all.length = 4))
  | [], i, out, _, _ => by
    have c : ((all.length : Int) == 4) = decide (all.length = 4) := by
      rw [Bool.eq_iff_iff]; simp; omega
    exact ⟨out, by rw [spec_l3Bytes_L1, c]; rfl⟩
  | e :: post, i, out, h, hl => by
    rw [spec_l3Bytes_L1, spec_int e (h e (by simp)), Option.bind_some, spec_in, Option.bind_some]
    have hn := (num_same e 255 (by decide) (by decide)).1
    rw [inR, hn, List.all_cons]
    cases hb : numOK e 255 with
    | false => exact ⟨[], by simp⟩
    | true =>
      obtain ⟨b, hb2⟩ := spec_byte (numA e)
      rw [if_neg (by decide), hb2, Option.bind_some, cat_ok (by simp at hl ⊢; omega), Option.bind_some]
      obtain ⟨t, ht⟩ := spec_bytes_go all post (i + 1) (out ++ [b]) (fun e he => h e (by simp [he])) (by simp at hl ⊢; omega)
      exact ⟨t, by rw [ht]; rfl⟩
theorem parts_le (d : Str) (h : d.length ≤ 1048576) : (∀ e ∈ splitA 46 [] d, e.length ≤ 1048576) ∧ (splitA 46 [] d).length ≤ 1048577 :=
  ⟨fun e he => by have := splitA_each 46 [] d e he; simp at this; omega, by have := splitA_len 46 [] d; omega⟩
theorem spec_bytes (d : Str) (h : d.length ≤ 1048576) : ∃ t, spec_l3Bytes 1 d = some (t, okA d) := by
  obtain ⟨h1, h2⟩ := parts_le d h
  unfold spec_l3Bytes
  rw [if_pos (by decide), show (46 : Int) = ((46 : UInt8).toNat : Int) from rfl, spec_split d 46 h, Option.bind_some]
  exact spec_bytes_go _ _ 0 [] h1 (by simp; omega)
theorem impl_bytes_go (all : List Str) : ∀ (post : List Str) (i : Nat) (out : Str), (∀ e ∈ post, e.length ≤ 1048576) → out.length + post.length ≤ 10000000 → (post ≠ [] ∨ all.length = 4) →
    ∃ t, impl_DataBytes_L1 all post i out = some (t, post.all (fun e => numOK e 255) && decide (all.length = 4))
  | [], i, out, _, _, hz => by
    have c : decide (all.length = 4) = true := by simpa using hz
    exact ⟨out, by rw [impl_DataBytes_L1, c]; rfl⟩
  | e :: post, i, out, h, hl, hz => by
    obtain ⟨m, hm, hm2⟩ := impl_number e (h e (by simp)) 255 (by decide)
    rw [impl_DataBytes_L1, hm, Option.bind_some, List.all_cons]
    cases hb : numOK e 255 with
    | false => exact ⟨[], by simp⟩
    | true =>
      simp only [Bool.not_true, Bool.false_eq_true, if_false, Bool.true_and]
      by_cases h4 : all.length = 4
      · have c : ((all.length : Int) != 4) = false := by simp [h4]
        rw [c, if_neg (by decide)]
        obtain ⟨b, hb2⟩ := impl_byte m
        rw [hb2, Option.bind_some, cat_ok (by simp at hl ⊢; omega), Option.bind_some]
        exact impl_bytes_go all post (i + 1) (out ++ [b]) (fun e he => h e (by simp [he])) (by simp at hl ⊢; omega) (.inr h4)
      · have c : ((all.length : Int) != 4) = true := by simp; omega
        rw [c, if_pos rfl]
        exact ⟨[], by simp [h4]⟩
theorem impl_bytes (d : Str) (h : d.length ≤ 1048576) : ∃ t, impl_DataBytes 1 d = some (t, okA d) := by
  obtain ⟨h1, h2⟩ := parts_le d h
  unfold impl_DataBytes
  rw [if_pos (by decide), impl_split d 46 h, Option.bind_some]
  exact impl_bytes_go _ _ 0 [] h1 (by simp; omega) (.inl (splitA_ne 46 [] d))
theorem okA_len (d : Str) (h : okA d = true) : d.length ≤ 100 := by
  simp only [okA, Bool.and_eq_true, decide_eq_true_eq] at h
  have h1 := splitA_sum 46 [] d
  have key : ∀ l : List Str, l.all (fun e => numOK e 255) = true → (l.map List.length).sum ≤ 3 * l.length := by
    intro l
    induction l with
    | nil => intro _; simp
    | cons e l ih =>
      intro hl
      rw [List.all_cons, Bool.and_eq_true] at hl
      have h2 := ih hl.2
      have h3 : e.length ≤ 3 := by
        have h4 := hl.1
        simp only [numOK, Bool.and_eq_true, decide_eq_true_eq] at h4
        have h5 := (canon_bounds e h4.1).2.2.2
        by_cases h6 : e.length ≤ 3
        · exact h6
        · exfalso
          have h7 := h5 (by omega)
          have h8 : 10 ^ 3 ≤ 10 ^ (e.length - 1) := Nat.pow_le_pow_right (by decide) (by omega)
          have : (10 : Nat) ^ 3 = 1000 := by decide
          omega
      simp only [List.map_cons, List.sum_cons, List.length_cons]
      omega
  have h2 := key _ h.1
  simp only [List.length_nil] at h1
  omega
def okTarget (t : TTarget) : Bool := okA t.fData && okName t.fHost && inR t.fGroup 0 9 && inR t.fWeight 1 50
def okPolicy (p : TPolicy) : Bool := okName p.fName && inR (p.fTargets.length : Int) 1 12 && p.fTargets.all okTarget
theorem contains_target (f : TTarget → Option Bool) (p : TTarget → Bool) (a : List TTarget) (ha : a.length ≤ 4611686018427387904) (hf : ∀ e ∈ a, f e = some (p e)) : slices_ContainsFunc_impl_Target_impl_Target a f = some (a.any p) := by
  unfold slices_ContainsFunc_impl_Target_impl_Target slices_IndexFunc_impl_Target_impl_Target
  rw [idx_loop f p a ha hf (slices_IndexFunc_impl_Target_impl_Target_L1 a f) (fun n k => by rw [slices_IndexFunc_impl_Target_impl_Target_L1]), Option.bind_some, found_any]
theorem spec_goodPolicy_go (p : TPolicy) : ∀ (post : List TTarget) (i : Nat), (∀ t ∈ post, SmTarget t) →
    spec_GoodPolicy_L1 p post i = if post.all okTarget = true then spec_GoodPolicy_K1 p else some false
  | [], i, _ => by rw [spec_GoodPolicy_L1]; simp
  | t :: post, i, h => by
    have h1 := (h t (by simp)).host
    have h2 := (h t (by simp)).data
    obtain ⟨x, hx⟩ := spec_bytes t.fData h2
    rw [spec_GoodPolicy_L1, hx, Option.bind_some, spec_goodName t.fHost h1, spec_in, spec_in, List.all_cons, okTarget, spec_goodPolicy_go p post (i + 1) (fun t ht => h t (by simp [ht]))]
    cases okA t.fData <;> cases okName t.fHost <;> cases inR t.fGroup 0 9 <;> cases inR t.fWeight 1 50 <;> simp
theorem spec_goodPolicy (p : TPolicy) (h : SmPolicy p) : spec_GoodPolicy p = some (okPolicy p) := by
  unfold spec_GoodPolicy okPolicy
  rw [spec_goodPolicy_go p p.fTargets 0 h.each, spec_GoodPolicy_K1, spec_goodName _ h.name, spec_in]
  cases okName p.fName <;> cases inR (p.fTargets.length : Int) 1 12 <;> cases p.fTargets.all okTarget <;> simp
theorem impl_goodPolicy1 (t : TTarget) (h1 : t.fHost.length ≤ 1048576) (h2 : t.fData.length ≤ 1048576) : impl_GoodPolicy_1 t = some (!okTarget t) := by
  obtain ⟨x, hx⟩ := impl_bytes t.fData h2
  rw [impl_GoodPolicy_1, hx, Option.bind_some, impl_goodName t.fHost h1, impl_in, impl_in, okTarget]
  cases ha : okA t.fData with
  | false => simp
  | true =>
    have := okA_len _ ha
    have c : decide (100 < (t.fData.length : Int)) = false := by simp; omega
    rw [c]
    cases okName t.fHost <;> cases inR t.fGroup 0 9 <;> cases inR t.fWeight 1 50 <;> simp
theorem impl_goodPolicy (p : TPolicy) (h : SmPolicy p) : impl_GoodPolicy p = some (okPolicy p) := by
  unfold impl_GoodPolicy okPolicy
  rw [impl_goodName _ h.name, impl_in, contains_target _ (fun t => !okTarget t) p.fTargets (by have := h.many; omega) (fun t ht => impl_goodPolicy1 t (h.each t ht).host (h.each t ht).data)]
  have : (p.fTargets.any fun t => !okTarget t) = !p.fTargets.all okTarget := by rw [List.all_eq_not_any_not]; simp
  rw [this]
  cases okName p.fName <;> cases inR (p.fTargets.length : Int) 1 12 <;> cases p.fTargets.all okTarget <;> simp
end Go.Proofs.YthcmcjkljjfccaaGreatDoor.Abs
set_option maxRecDepth 20000
set_option linter.unusedVariables false
set_option linter.unusedSimpArgs false
namespace Go.Proofs.YthcmcjkljjfccaaGreatDoor.Abs
open Go Go.Proofs.Tryz

/-! ## Health -/
def rowOK (h : THealth) (x : THost) : Bool := inR x.fRow 0 (IntKind.i64.wrap ((if x.fUp = true then h.fFall else h.fRise) - 1))
def distinctB : List Str → List Str → Bool
  | _, [] => true
  | pre, e :: post => okName e && !(e == []) && !pre.any (fun y => y == e) && distinctB (pre ++ [e]) post
def okHealth (h : THealth) : Bool := inR h.fRise 1 10 && inR h.fFall 1 10 && inR (h.fHosts.length : Int) 1 12 && h.fHosts.all (rowOK h) && distinctB [] (h.fHosts.map THost.fName)
theorem spec_names2 (i : Nat) (e : Str) (rc : Nat → Option Bool) : ∀ (l : List Str) (j : Nat), spec_l13Names_L2 i e rc l j = if (l.any fun y => y == e) = true then some false else rc (i + 1)
  | [], j => by rw [spec_l13Names_L2]; rfl
  | y :: l, j => by
    rw [spec_l13Names_L2, spec_names2 i e rc l (j + 1), List.any_cons]
    cases (y == e) <;> simp
theorem spec_names_go (all : List Str) : ∀ (post pre : List Str), all = pre ++ post → (∀ e ∈ post, e.length ≤ 1048576) → spec_l13Names_L1 all post pre.length = some (distinctB pre post && inR (all.length : Int) 1 12)
  | [], pre, h, _ => by rw [spec_l13Names_L1, spec_l13Names_K1, spec_in]; rfl
  | e :: post, pre, h, hs => by
    have hc : cut? all 0 (pre.length : Int) = some pre := by
      have := cut_ok (s := all) (a := 0) (b := pre.length) (by rw [h]; simp)
      rw [Int.natCast_zero] at this
      rw [this, h]; simp
    have ec : pre.length + 1 = (pre ++ [e]).length := by simp
    rw [spec_l13Names_L1, spec_goodName e (hs e (by simp)), hc, Option.bind_some, Option.bind_some, spec_names2, ec, spec_names_go all post (pre ++ [e]) (by simp [h]) (fun e he => hs e (by simp [he])), distinctB]
    cases okName e <;> cases (e == []) <;> cases (pre.any fun y => y == e) <;> simp
theorem spec_names (all : List Str) (hs : ∀ e ∈ all, e.length ≤ 1048576) : spec_l13Names all = some (distinctB [] all && inR (all.length : Int) 1 12) := spec_names_go all all [] rfl hs
theorem spec_most (h : THealth) (x : THost) : spec_l13Most h x = some (if x.fUp = true then h.fFall else h.fRise) := by
  unfold spec_l13Most
  cases x.fUp <;> rfl
theorem impl_most (h : THealth) (x : THost) : impl_Health_mostRow h x = some (if x.fUp = true then h.fFall else h.fRise) := by
  unfold impl_Health_mostRow
  cases x.fUp <;> rfl
theorem spec_goodHealth_go (h : THealth) : ∀ (post : List THost) (i : Nat) (out : List Str), out.length + post.length ≤ 1048576 → spec_GoodHealth_L1 h post i out = if post.all (rowOK h) = true then spec_GoodHealth_K1 h (out ++ post.map THost.fName) else some false
  | [], i, out, _ => by rw [spec_GoodHealth_L1]; simp
  | x :: post, i, out, hl => by
    simp only [List.length_cons] at hl
    rw [spec_GoodHealth_L1, spec_most, Option.bind_some, spec_in, Option.bind_some, app_ok (by simp; omega), Option.bind_some, spec_goodHealth_go h post (i + 1) (out ++ [x.fName]) (by simp; omega), List.all_cons]
    have : rowOK h x = inR x.fRow 0 (IntKind.i64.wrap ((if x.fUp = true then h.fFall else h.fRise) - 1)) := rfl
    rw [← this]
    cases rowOK h x <;> simp
theorem spec_goodHealth (h : THealth) (hs : SmHealth h) : spec_GoodHealth h = some (okHealth h) := by
  unfold spec_GoodHealth okHealth
  rw [spec_goodHealth_go h h.fHosts 0 [] (by have := hs.many; simpa using this), List.nil_append, spec_GoodHealth_K1, spec_in, spec_in, spec_names _ (fun e he => by obtain ⟨x, hx, rfl⟩ := List.mem_map.1 he; exact hs.each x hx), List.length_map]
  cases inR h.fRise 1 10 <;> cases inR h.fFall 1 10 <;> cases h.fHosts.all (rowOK h) <;> cases distinctB [] (h.fHosts.map THost.fName) <;> cases inR (h.fHosts.length : Int) 1 12 <;> simp
theorem contains_host (f : THost → Option Bool) (p : THost → Bool) (a : List THost) (ha : a.length ≤ 4611686018427387904) (hf : ∀ e ∈ a, f e = some (p e)) : slices_ContainsFunc_impl_Host_impl_Host a f = some (a.any p) := by
  unfold slices_ContainsFunc_impl_Host_impl_Host slices_IndexFunc_impl_Host_impl_Host
  rw [idx_loop f p a ha hf (slices_IndexFunc_impl_Host_impl_Host_L1 a f) (fun n k => by rw [slices_IndexFunc_impl_Host_impl_Host_L1]), Option.bind_some, found_any]
theorem impl_goodHealth_go (h : THealth) (hm : h.fHosts.length ≤ 1048576) : ∀ (post pre : List THost), h.fHosts = pre ++ post → (∀ e ∈ post, e.fName.length ≤ 1048576) → impl_GoodHealth_L1 h post pre.length = some (post.all (rowOK h) && distinctB (pre.map THost.fName) (post.map THost.fName))
  | [], pre, _, _ => by rw [impl_GoodHealth_L1]; rfl
  | x :: post, pre, hp, hs => by
    have hc : cut? h.fHosts 0 (pre.length : Int) = some pre := by
      have := cut_ok (s := h.fHosts) (a := 0) (b := pre.length) (by rw [hp]; simp)
      rw [Int.natCast_zero] at this
      rw [this, hp]; simp
    have hpl : pre.length ≤ 1048576 := by rw [hp] at hm; simp at hm; omega
    have ec : pre.length + 1 = (pre ++ [x]).length := by simp
    rw [impl_GoodHealth_L1, impl_goodName _ (hs x (by simp)), impl_most, Option.bind_some, Option.bind_some, impl_in, Option.bind_some, hc, Option.bind_some,
      contains_host (fun q0 => impl_GoodHealth_1 q0 x) (fun y => y.fName == x.fName) pre (by omega) (fun e _ => rfl), Option.bind_some, ec, impl_goodHealth_go h hm post (pre ++ [x]) (by simp [hp]) (fun e he => hs e (by simp [he])), List.all_cons, List.map_cons, distinctB]
    have e1 : rowOK h x = inR x.fRow 0 (IntKind.i64.wrap ((if x.fUp = true then h.fFall else h.fRise) - 1)) := rfl
    have e2 : ((pre.map THost.fName).any fun y => y == x.fName) = (pre.any fun y => y.fName == x.fName) := by rw [List.any_map]; rfl
    have e3 : (pre ++ [x]).map THost.fName = pre.map THost.fName ++ [x.fName] := by simp
    rw [← e1, e2, e3]
    cases (x.fName == []) <;> cases okName x.fName <;> cases rowOK h x <;> cases (pre.any fun y => y.fName == x.fName) <;> simp
theorem impl_goodHealth (h : THealth) (hs : SmHealth h) : impl_GoodHealth h = some (okHealth h) := by
  unfold impl_GoodHealth okHealth
  rw [impl_in, impl_in, impl_in, Option.bind_some, Option.bind_some, Option.bind_some]
  have := impl_goodHealth_go h hs.many h.fHosts [] rfl hs.each
  rw [List.length_nil, List.map_nil] at this
  rw [this]
  cases inR h.fRise 1 10 <;> cases inR h.fFall 1 10 <;> cases h.fHosts.all (rowOK h) <;> cases distinctB [] (h.fHosts.map THost.fName) <;> cases inR (h.fHosts.length : Int) 1 12 <;> simp

/-! ## Who is well -/
def well (h : THealth) (n : Str) : Bool := match h.fHosts.find? (fun x => x.fName == n) with | some x => x.fUp | none => true
theorem spec_isUp_go (n : Str) : ∀ (l : List THost) (i : Nat), spec_IsUp_L1 n l i = some (match l.find? (fun x => x.fName == n) with | some x => (x.fUp, true) | none => (false, false))
  | [], i => by rw [spec_IsUp_L1]; rfl
  | x :: l, i => by
    rw [spec_IsUp_L1, spec_isUp_go n l (i + 1), List.find?_cons]
    cases hx : (x.fName == n) <;> simp
theorem spec_well (h : THealth) (hs : SmHealth h) (hg : okHealth h = true) (n : Str) : spec_l14Well h n = some (well h n) := by
  unfold spec_l14Well spec_IsUp well
  rw [spec_goodHealth h hs, Option.bind_some, hg, if_neg (by decide), spec_isUp_go, Option.bind_some]
  cases h.fHosts.find? (fun x => x.fName == n) with
  | none => rfl
  | some x => cases hx : x.fUp <;> simp [hx]
theorem find_idx {α : Type} (p : α → Bool) : ∀ a : List α, (match a.findIdx? p with | some i => a[i]? | none => none) = a.find? p
  | [] => rfl
  | x :: a => by
    have ih := find_idx p a
    rw [List.findIdx?_cons, List.find?_cons]
    cases hx : p x with
    | true => simp
    | false =>
      simp only [Bool.false_eq_true, if_false]
      rw [← ih]
      cases a.findIdx? p with
      | none => rfl
      | some i => simp
theorem impl_well (h : THealth) (hm : h.fHosts.length ≤ 1048576) (t : TTarget) : impl_isWell h t = some (well h t.fHost) := by
  unfold impl_isWell impl_Health_findHost well slices_IndexFunc_impl_Host_impl_Host
  rw [idx_loop (fun q0 => impl_Health_findHost_1 q0 t.fHost) (fun x => x.fName == t.fHost) h.fHosts (by omega) (fun e _ => rfl) (slices_IndexFunc_impl_Host_impl_Host_L1 h.fHosts _) (fun n k => by rw [slices_IndexFunc_impl_Host_impl_Host_L1]), Option.bind_some, Option.bind_some]
  have hf := find_idx (fun x : THost => x.fName == t.fHost) h.fHosts
  cases hi : h.fHosts.findIdx? (fun x => x.fName == t.fHost) with
  | none =>
    rw [hi] at hf
    rw [← hf]; rfl
  | some i =>
    rw [hi] at hf
    simp only at hf ⊢
    rw [if_neg (by simp), at?_nat, hf]
    have := List.findIdx?_eq_some_iff_getElem.1 hi
    obtain ⟨hi2, _⟩ := this
    rw [List.getElem?_eq_getElem hi2] at hf
    rw [← hf]; rfl

/-! ## Groups -/
theorem spec_has (n : Int) : ∀ (l : List Int) (i : Nat), spec_l1Has_L1 n l i = some (l.any fun e => e == n)
  | [], i => by rw [spec_l1Has_L1]; rfl
  | e :: l, i => by
    rw [spec_l1Has_L1, spec_has n l (i + 1), List.any_cons]
    cases (e == n) <;> simp
theorem spec_groups2 (g : Int) (o0 : List Int) (rc : Int → List Int → Option (List Int)) : ∀ (l : List TTarget) (i : Nat) (out : List Int), out.length + l.length ≤ 2000000 →
    spec_l14Groups_L2 g o0 rc l i out = rc (IntKind.i64.wrap (g + 1)) (if ((l.any fun t => t.fGroup == g) && !(out.any fun e => e == g)) = true then out ++ [g] else out)
  | [], i, out, _ => by rw [spec_l14Groups_L2]; rfl
  | t :: l, i, out, h => by
    simp only [List.length_cons] at h
    have has : spec_l1Has out g = some (out.any fun e => e == g) := spec_has g out 0
    rw [spec_l14Groups_L2, has, Option.bind_some, List.any_cons, app_ok (by simp; omega), Option.bind_some]
    cases ht : (t.fGroup == g) with
    | false => rw [if_neg (by decide), spec_groups2 g o0 rc l (i + 1) out (by omega)]; simp
    | true =>
      rw [if_pos rfl]
      cases ho : (out.any fun e => e == g) with
      | true => rw [if_neg (by decide), spec_groups2 g o0 rc l (i + 1) out (by omega), ho]; simp
      | false =>
        have hn : ((out ++ [g]).any fun e => e == g) = true := by simp
        rw [if_pos (by decide), spec_groups2 g o0 rc l (i + 1) (out ++ [g]) (by simp; omega), hn]; simp
def gUp (p : TPolicy) (g : Nat) : List Int := ((List.range g).filter fun n : Nat => p.fTargets.any fun t => t.fGroup == (n : Int)).map fun n : Nat => (n : Int)
theorem gUp_succ (p : TPolicy) (g : Nat) : gUp p (g + 1) = if (p.fTargets.any fun t => t.fGroup == (g : Int)) = true then gUp p g ++ [(g : Int)] else gUp p g := by
  unfold gUp
  rw [List.range_succ, List.filter_append, List.map_append]
  cases h : (p.fTargets.any fun t => t.fGroup == (g : Int)) <;> simp [h]
theorem gUp_mem (p : TPolicy) (g : Nat) (x : Int) : x ∈ gUp p g ↔ 0 ≤ x ∧ x < (g : Int) ∧ ∃ t ∈ p.fTargets, t.fGroup = x := by
  unfold gUp
  simp only [List.mem_map, List.mem_filter, List.mem_range, List.any_eq_true, beq_iff_eq]
  constructor
  · rintro ⟨n, ⟨h1, t, ht, he⟩, rfl⟩
    exact ⟨by omega, by omega, t, ht, he⟩
  · rintro ⟨h1, h2, t, ht, he⟩
    exact ⟨x.toNat, ⟨by omega, t, ht, by omega⟩, by omega⟩
theorem gUp_len (p : TPolicy) (g : Nat) : (gUp p g).length ≤ g := by
  unfold gUp
  rw [List.length_map]
  exact Nat.le_trans (List.length_filter_le _ _) (by simp)
theorem gUp_lt (p : TPolicy) (g : Nat) : (gUp p g).Pairwise (· < ·) := by
  unfold gUp
  rw [List.pairwise_map]
  refine List.Pairwise.filter _ ?_
  exact (List.pairwise_lt_range).imp (fun h => by omega)
theorem spec_groups_go (p : TPolicy) (hm : p.fTargets.length ≤ 1048576) : ∀ (d g n : Nat), g + d = 10 → d < n → spec_l14Groups_L1 p n (g : Int) (gUp p g) = some (gUp p 10)
  | d, g, 0, _, h => by omega
  | 0, g, n + 1, h, _ => by
    have : g = 10 := by omega
    subst this
    rw [spec_l14Groups_L1, if_neg (by decide)]
  | d + 1, g, n + 1, h, hn => by
    have hl := gUp_len p g
    rw [spec_l14Groups_L1, if_pos (by simp; omega), spec_groups2 _ _ _ _ _ _ (by omega), w64 ((g : Int) + 1) (by omega) (by omega)]
    have ho : ((gUp p g).any fun e => e == (g : Int)) = false := by
      rw [List.any_eq_false]
      intro e he
      have := (gUp_mem p g e).1 he
      simp; omega
    rw [ho, Bool.not_false, Bool.and_true, ← gUp_succ]
    exact spec_groups_go p hm d (g + 1) n (by omega) (by omega)
theorem spec_groups (p : TPolicy) (hm : p.fTargets.length ≤ 1048576) : spec_l14Groups p = some (gUp p 10) := by
  have := spec_groups_go p hm 10 0 FU rfl (by unfold FU; omega)
  exact this
theorem compact_go (d : Array Int) (hd : ∀ i j, i ≤ j → j < d.size → d[i]! ≤ d[j]!) : ∀ m, m ≤ d.size → (Lib.compactUpTo d m).Pairwise (· < ·) ∧ ∀ x, x ∈ Lib.compactUpTo d m ↔ ∃ j, j < m ∧ d[j]! = x
  | 0, _ => ⟨by simp [Lib.compactUpTo], by simp [Lib.compactUpTo]⟩
  | m + 1, h => by
    obtain ⟨h1, h2⟩ := compact_go d hd m (by omega)
    rw [Lib.compactUpTo_succ]
    cases hk : Lib.keeps d m with
    | true =>
      simp only [if_true]
      refine ⟨List.pairwise_append.2 ⟨h1, by simp, ?_⟩, ?_⟩
      · intro a ha b hb
        obtain ⟨j, hj, rfl⟩ := (h2 a).1 ha
        simp only [List.mem_singleton] at hb
        subst hb
        simp only [Lib.keeps, decide_eq_true_eq] at hk
        have h3 := hd j (m - 1) (by omega) (by omega)
        have h4 := hd (m - 1) m (by omega) (by omega)
        rcases hk with hk | hk
        · omega
        · omega
      · intro x
        rw [List.mem_append, h2, List.mem_singleton]
        constructor
        · rintro (⟨j, hj, rfl⟩ | rfl)
          · exact ⟨j, by omega, rfl⟩
          · exact ⟨m, by omega, rfl⟩
        · rintro ⟨j, hj, rfl⟩
          by_cases hjm : j = m
          · subst hjm; exact .inr rfl
          · exact .inl ⟨j, by omega, rfl⟩
    | false =>
      simp only [Bool.false_eq_true, if_false, List.append_nil]
      refine ⟨h1, fun x => ?_⟩
      rw [h2]
      simp only [Lib.keeps, decide_eq_false_iff_not, not_or, Classical.not_not] at hk
      constructor
      · rintro ⟨j, hj, rfl⟩; exact ⟨j, by omega, rfl⟩
      · rintro ⟨j, hj, rfl⟩
        by_cases hjm : j = m
        · subst hjm; exact ⟨j - 1, by omega, hk.2.symm⟩
        · exact ⟨j, by omega, rfl⟩
theorem compact_sorted (l : List Int) (h : l.Pairwise (· ≤ ·)) : (Lib.compact l).Pairwise (· < ·) ∧ ∀ x, x ∈ Lib.compact l ↔ x ∈ l := by
  have hd : ∀ i j, i ≤ j → j < l.toArray.size → l.toArray[i]! ≤ l.toArray[j]! := by
    intro i j hij hj
    have hj' : j < l.length := by simpa using hj
    by_cases e : i = j
    · subst e; exact Int.le_refl _
    · have := List.pairwise_iff_getElem.1 h i j (by omega) hj' (by omega)
      simpa [getElem!_pos, hj', show i < l.length from by omega] using this
  obtain ⟨h1, h2⟩ := compact_go l.toArray hd l.length (by simp)
  refine ⟨h1, fun x => ?_⟩
  unfold Lib.compact
  rw [h2]
  constructor
  · rintro ⟨j, hj, rfl⟩
    simp [getElem!_pos, hj]
  · intro hx
    obtain ⟨j, hj, rfl⟩ := List.mem_iff_getElem.1 hx
    exact ⟨j, hj, by simp [getElem!_pos, hj]⟩
theorem lt_unique : ∀ (l1 l2 : List Int), l1.Pairwise (· < ·) → l2.Pairwise (· < ·) → (∀ x, x ∈ l1 ↔ x ∈ l2) → l1 = l2
  | [], [], _, _, _ => rfl
  | [], y :: l2, _, _, h => by have := (h y).2 (by simp); simp at this
  | x :: l1, [], _, _, h => by have := (h x).1 (by simp); simp at this
  | x :: l1, y :: l2, h1, h2, h => by
    rw [List.pairwise_cons] at h1 h2
    have hxy : x = y := by
      have a := (h x).1 (by simp)
      have b := (h y).2 (by simp)
      rcases List.mem_cons.1 a with a | a
      · exact a
      · rcases List.mem_cons.1 b with b | b
        · exact b.symm
        · have := h1.1 y b
          have := h2.1 x a
          omega
    subst hxy
    congr 1
    refine lt_unique l1 l2 h1.2 h2.2 fun z => ⟨fun hz => ?_, fun hz => ?_⟩
    · have := h1.1 z hz
      rcases List.mem_cons.1 ((h z).1 (by simp [hz])) with a | a
      · omega
      · exact a
    · have := h2.1 z hz
      rcases List.mem_cons.1 ((h z).2 (by simp [hz])) with a | a
      · omega
      · exact a
theorem impl_groups_go : ∀ (l : List TTarget) (i : Nat) (out : List Int), out.length + l.length ≤ 2000000 → impl_groupsIn_L1 l i out = impl_groupsIn_K1 (out ++ l.map TTarget.fGroup)
  | [], i, out, _ => by rw [impl_groupsIn_L1]; simp
  | t :: l, i, out, h => by
    simp only [List.length_cons] at h
    rw [impl_groupsIn_L1, app_ok (by simp; omega), Option.bind_some, impl_groups_go l (i + 1) _ (by simp; omega)]
    simp
theorem impl_groups (p : TPolicy) (hm : p.fTargets.length ≤ 1048576) (hg : ∀ t ∈ p.fTargets, 0 ≤ t.fGroup ∧ t.fGroup < 10) : impl_groupsIn p = some (gUp p 10) := by
  unfold impl_groupsIn
  rw [impl_groups_go _ 0 [] (by simp; omega), List.nil_append, impl_groupsIn_K1, slices_Sort_int_int, if_pos (by simp; omega), Option.bind_some, same_ok (by rw [List.length_mergeSort]), Option.bind_some, slices_Compact_int_int, if_pos (by rw [List.length_mergeSort]; simp; omega), Option.bind_some]
  congr 1
  have hs : ((p.fTargets.map TTarget.fGroup).mergeSort fun x y => decide (x ≤ y)).Pairwise (· ≤ ·) := by
    have := List.pairwise_mergeSort (le := fun x y : Int => decide (x ≤ y)) (fun a b c h1 h2 => by simp at *; omega) (fun a b => by simp; omega) (p.fTargets.map TTarget.fGroup)
    exact this.imp (fun h => by simpa using h)
  obtain ⟨h1, h2⟩ := compact_sorted _ hs
  refine lt_unique _ _ h1 (gUp_lt p 10) fun x => ?_
  rw [h2, List.mem_mergeSort, gUp_mem, List.mem_map]
  constructor
  · rintro ⟨t, ht, rfl⟩
    have := hg t ht
    exact ⟨this.1, by omega, t, ht, rfl⟩
  · rintro ⟨_, _, t, ht, he⟩
    exact ⟨t, ht, he⟩

/-! ## Candidates -/
def hasWell (p : TPolicy) (h : THealth) (g : Int) : Bool := p.fTargets.any fun t => t.fGroup == g && well h t.fHost
def groupSel (p : TPolicy) (h : THealth) : Option Int := match (gUp p 10).find? (hasWell p h) with | some g => some g | none => (gUp p 10)[0]?
theorem spec_group2 (h : THealth) (hs : SmHealth h) (hg : okHealth h = true) (i0 : Nat) (g : Int) (rc : Nat → Option Int) : ∀ (l : List TTarget) (i : Nat), spec_l14Group_L2 h i0 g rc l i = if (l.any fun t => t.fGroup == g && well h t.fHost) = true then some g else rc (i0 + 1)
  | [], i => by rw [spec_l14Group_L2]; rfl
  | t :: l, i => by
    rw [spec_l14Group_L2, spec_well h hs hg, spec_group2 h hs hg i0 g rc l (i + 1), List.any_cons, Option.bind_some]
    cases (t.fGroup == g) <;> cases well h t.fHost <;> simp
theorem spec_group (p : TPolicy) (h : THealth) (hm : p.fTargets.length ≤ 1048576) (hs : SmHealth h) (hg : okHealth h = true) : spec_l14Group p h = groupSel p h := by
  have key : ∀ (l : List Int) (i : Nat), spec_l14Group_L1 p h l i = match l.find? (hasWell p h) with | some g => some g | none => (gUp p 10)[0]? := by
    intro l
    induction l with
    | nil =>
      intro i
      rw [spec_l14Group_L1, spec_l14Group_K1, spec_groups p hm, Option.bind_some, show (0 : Int) = ((0 : Nat) : Int) from rfl, at?_nat]
      cases (gUp p 10)[0]? <;> rfl
    | cons g l ih =>
      intro i
      rw [spec_l14Group_L1, spec_group2 h hs hg, List.find?_cons, ih (i + 1)]
      have : (p.fTargets.any fun t => t.fGroup == g && well h t.fHost) = hasWell p h g := rfl
      rw [this]
      cases hasWell p h g <;> simp
  unfold spec_l14Group groupSel
  rw [spec_groups p hm, Option.bind_some]
  exact key _ 0
theorem impl_group (p : TPolicy) (h : THealth) (hm : p.fTargets.length ≤ 1048576) (hs : SmHealth h) (hg : ∀ t ∈ p.fTargets, 0 ≤ t.fGroup ∧ t.fGroup < 10) : impl_groupOf p h = groupSel p h := by
  have key : ∀ (l : List Int) (i : Nat), impl_groupOf_L1 p h (gUp p 10) l i = match l.find? (hasWell p h) with | some g => some g | none => (gUp p 10)[0]? := by
    intro l
    induction l with
    | nil =>
      intro i
      rw [impl_groupOf_L1, impl_groupOf_K1, show (0 : Int) = ((0 : Nat) : Int) from rfl, at?_nat]
      cases (gUp p 10)[0]? <;> rfl
    | cons g l ih =>
      intro i
      rw [impl_groupOf_L1, contains_target _ (fun t => t.fGroup == g && well h t.fHost) p.fTargets (by omega) (fun t ht => by
        rw [impl_groupOf_1, impl_well h hs.many]
        cases (t.fGroup == g) <;> simp), List.find?_cons, ih (i + 1), Option.bind_some]
      have : (p.fTargets.any fun t => t.fGroup == g && well h t.fHost) = hasWell p h g := rfl
      rw [this]
      cases hasWell p h g <;> simp
  unfold impl_groupOf groupSel
  rw [impl_groups p hm hg, Option.bind_some]
  exact key _ 0
/-- From i on: those of the group, and the well ones among them. -/
def ofGroup (g : Int) : Nat → List TTarget → List Int
  | _, [] => []
  | i, t :: l => if (t.fGroup == g) = true then (i : Int) :: ofGroup g (i + 1) l else ofGroup g (i + 1) l
def ofWell (h : THealth) (g : Int) : Nat → List TTarget → List Int
  | _, [] => []
  | i, t :: l => if (t.fGroup == g && well h t.fHost) = true then (i : Int) :: ofWell h g (i + 1) l else ofWell h g (i + 1) l
def pick2 (w a : List Int) : List Int := if w.length = 0 then a else w
theorem spec_cand_go (h : THealth) (hs : SmHealth h) (hg : okHealth h = true) (g : Int) : ∀ (l : List TTarget) (i : Nat) (w a : List Int), w.length + l.length ≤ 2000000 → a.length + l.length ≤ 2000000 →
    spec_l14Candidates_L1 h g l i w a = some (pick2 (w ++ ofWell h g i l) (a ++ ofGroup g i l))
  | [], i, w, a, _, _ => by
    rw [spec_l14Candidates_L1, spec_l14Candidates_K1, ofWell, ofGroup, List.append_nil, List.append_nil, pick2]
    by_cases hw : w.length = 0
    · rw [if_pos (by simp [hw]), if_pos hw]
    · rw [if_neg (by simpa using hw), if_neg hw]
  | t :: l, i, w, a, h1, h2 => by
    simp only [List.length_cons] at h1 h2
    rw [spec_l14Candidates_L1, spec_well h hs hg, app_ok (by simp; omega), Option.bind_some, Option.bind_some, app_ok (by simp; omega), Option.bind_some,
      spec_cand_go h hs hg g l (i + 1) w a (by omega) (by omega), spec_cand_go h hs hg g l (i + 1) w (a ++ [(i : Int)]) (by omega) (by simp; omega), spec_cand_go h hs hg g l (i + 1) (w ++ [(i : Int)]) (a ++ [(i : Int)]) (by simp; omega) (by simp; omega), ofWell, ofGroup]
    cases hb : (t.fGroup == g) <;> cases well h t.fHost <;> simp [bne, hb]
theorem impl_cand_go (h : THealth) (hs : SmHealth h) (g : Int) : ∀ (l : List TTarget) (i : Nat) (w a : List Int), w.length + l.length ≤ 2000000 → a.length + l.length ≤ 2000000 →
    impl_candidatesOf_L1 h g l i w a = some (pick2 (w ++ ofWell h g i l) (a ++ ofGroup g i l))
  | [], i, w, a, _, _ => by
    rw [impl_candidatesOf_L1, impl_candidatesOf_K1, ofWell, ofGroup, List.append_nil, List.append_nil, pick2]
    by_cases hw : w.length = 0
    · rw [if_neg (by simp [hw]), if_pos hw]
    · rw [if_pos (by simp; omega), if_neg hw]
  | t :: l, i, w, a, h1, h2 => by
    simp only [List.length_cons] at h1 h2
    rw [impl_candidatesOf_L1, impl_well h hs.many, app_ok (by simp; omega), Option.bind_some, Option.bind_some, app_ok (by simp; omega), Option.bind_some,
      impl_cand_go h hs g l (i + 1) w a (by omega) (by omega), impl_cand_go h hs g l (i + 1) w (a ++ [(i : Int)]) (by omega) (by simp; omega), impl_cand_go h hs g l (i + 1) (w ++ [(i : Int)]) (a ++ [(i : Int)]) (by simp; omega) (by simp; omega), ofWell, ofGroup]
    cases hb : (t.fGroup == g) <;> cases well h t.fHost <;> simp [bne, hb]
theorem ok_groups {p : TPolicy} (h : okPolicy p = true) : ∀ t ∈ p.fTargets, 0 ≤ t.fGroup ∧ t.fGroup < 10 := by
  intro t ht
  simp only [okPolicy, Bool.and_eq_true] at h
  have := List.all_eq_true.1 h.2 t ht
  simp only [okTarget, inR, Bool.and_eq_true, decide_eq_true_eq] at this
  omega
theorem ok_weights {p : TPolicy} (h : okPolicy p = true) : ∀ t ∈ p.fTargets, 1 ≤ t.fWeight ∧ t.fWeight ≤ 50 := by
  intro t ht
  simp only [okPolicy, Bool.and_eq_true] at h
  have := List.all_eq_true.1 h.2 t ht
  simp only [okTarget, inR, Bool.and_eq_true, decide_eq_true_eq] at this
  omega
theorem ok_count {p : TPolicy} (h : okPolicy p = true) : 1 ≤ p.fTargets.length ∧ p.fTargets.length ≤ 12 := by
  simp only [okPolicy, inR, Bool.and_eq_true, decide_eq_true_eq] at h
  omega
theorem groupSel_some {p : TPolicy} (h : THealth) (hp : okPolicy p = true) : ∃ g, groupSel p h = some g ∧ ∃ t ∈ p.fTargets, t.fGroup = g := by
  unfold groupSel
  cases hf : (gUp p 10).find? (hasWell p h) with
  | some g => exact ⟨g, rfl, ((gUp_mem p 10 g).1 (List.mem_of_find?_eq_some hf)).2.2⟩
  | none =>
    have hc := ok_count hp
    cases ht : p.fTargets with
    | nil => rw [ht] at hc; simp at hc
    | cons t l =>
      have hg := ok_groups hp t (by rw [ht]; simp)
      have hm : t.fGroup ∈ gUp p 10 := (gUp_mem p 10 t.fGroup).2 ⟨hg.1, by omega, t, by rw [ht]; simp, rfl⟩
      cases hl : gUp p 10 with
      | nil => rw [hl] at hm; simp at hm
      | cons g gs =>
        have := ((gUp_mem p 10 g).1 (by rw [hl]; simp)).2.2
        rw [ht] at this
        exact ⟨g, rfl, this⟩
theorem ofGroup_mem (g : Int) : ∀ (l : List TTarget) (i : Nat), (ofGroup g i l).length ≤ l.length ∧ ∀ x ∈ ofGroup g i l, (i : Int) ≤ x ∧ x < ((i + l.length : Nat) : Int)
  | [], i => by simp [ofGroup]
  | t :: l, i => by
    obtain ⟨h1, h2⟩ := ofGroup_mem g l (i + 1)
    rw [ofGroup]
    split
    · refine ⟨by simp; omega, fun x hx => ?_⟩
      simp only [List.length_cons]
      rcases List.mem_cons.1 hx with rfl | hx
      · omega
      · have := h2 x hx; omega
    · refine ⟨by simp; omega, fun x hx => ?_⟩
      simp only [List.length_cons]
      have := h2 x hx; omega
theorem ofWell_mem (h : THealth) (g : Int) : ∀ (l : List TTarget) (i : Nat), (ofWell h g i l).length ≤ l.length ∧ ∀ x ∈ ofWell h g i l, (i : Int) ≤ x ∧ x < ((i + l.length : Nat) : Int)
  | [], i => by simp [ofWell]
  | t :: l, i => by
    obtain ⟨h1, h2⟩ := ofWell_mem h g l (i + 1)
    rw [ofWell]
    split
    · refine ⟨by simp; omega, fun x hx => ?_⟩
      simp only [List.length_cons]
      rcases List.mem_cons.1 hx with rfl | hx
      · omega
      · have := h2 x hx; omega
    · refine ⟨by simp; omega, fun x hx => ?_⟩
      simp only [List.length_cons]
      have := h2 x hx; omega
theorem ofGroup_ne (g : Int) : ∀ (l : List TTarget) (i : Nat), (∃ t ∈ l, t.fGroup = g) → ofGroup g i l ≠ []
  | [], i, h => by simp at h
  | t :: l, i, h => by
    rw [ofGroup]
    split
    · simp
    · rename_i hn
      obtain ⟨s, hs, he⟩ := h
      rcases List.mem_cons.1 hs with rfl | hs
      · exact absurd (by simpa using he) hn
      · exact ofGroup_ne g l (i + 1) ⟨s, hs, he⟩
/-- The two find the same candidates. -/
theorem cand_same (p : TPolicy) (h : THealth) (sp : SmPolicy p) (sh : SmHealth h) (hp : okPolicy p = true) (hh : okHealth h = true) :
    ∃ cs : List Int, spec_l14Candidates p h = some cs ∧ impl_candidatesOf p h = some cs ∧ 1 ≤ cs.length ∧ cs.length ≤ p.fTargets.length ∧ ∀ x ∈ cs, 0 ≤ x ∧ x < (p.fTargets.length : Int) := by
  obtain ⟨g, hg, hg2⟩ := groupSel_some h hp
  have hm := sp.many
  refine ⟨pick2 (ofWell h g 0 p.fTargets) (ofGroup g 0 p.fTargets), ?_, ?_, ?_, ?_, ?_⟩
  · rw [spec_l14Candidates, spec_group p h hm sh hh, hg, Option.bind_some, spec_cand_go h sh hh g _ 0 [] [] (by simp; omega) (by simp; omega)]; rfl
  · rw [impl_candidatesOf, impl_group p h hm sh (ok_groups hp), hg, Option.bind_some, impl_cand_go h sh g _ 0 [] [] (by simp; omega) (by simp; omega)]; rfl
  · unfold pick2
    split
    · exact List.length_pos_iff.2 (ofGroup_ne g _ 0 hg2)
    · omega
  · unfold pick2
    split
    · exact (ofGroup_mem g _ 0).1
    · exact (ofWell_mem h g _ 0).1
  · unfold pick2
    intro x hx
    split at hx
    · have := (ofGroup_mem g _ 0).2 x hx; omega
    · have := (ofWell_mem h g _ 0).2 x hx; omega
end Go.Proofs.YthcmcjkljjfccaaGreatDoor.Abs
set_option maxRecDepth 20000
set_option linter.unusedVariables false
set_option linter.unusedSimpArgs false
namespace Go.Proofs.YthcmcjkljjfccaaGreatDoor.Abs
open Go Go.Proofs.Tryz

/-! ## The laws of candidates and of shares -/
theorem at_int {α : Type} {xs : List α} {e : Int} (h0 : 0 ≤ e) (h1 : e < (xs.length : Int)) : at? xs e = some (xs[e.toNat]'(by omega)) := by
  have : e = ((e.toNat : Nat) : Int) := by omega
  rw [show at? xs e = at? xs ((e.toNat : Nat) : Int) by rw [← this], at_ok (by omega)]
theorem put_int {α : Type} {xs : List α} {e : Int} {x : α} (h0 : 0 ≤ e) (h1 : e < (xs.length : Int)) : put? xs e x = some (xs.set e.toNat x) := by
  rw [put?, if_pos ⟨h0, by omega⟩]
theorem cand_all (p : TPolicy) (h : THealth) (sp : SmPolicy p) (sh : SmHealth h) : ∃ c : List Int × Bool, spec_CandidatesOf p h = some c ∧ impl_CandidatesOf p h = some c ∧ c.1.length ≤ 1048576 := by
  unfold spec_CandidatesOf impl_CandidatesOf
  rw [spec_goodPolicy p sp, impl_goodPolicy p sp, spec_goodHealth h sh, impl_goodHealth h sh]
  simp only [Option.bind_some]
  cases hp : okPolicy p with
  | false => exact ⟨([], false), by simp⟩
  | true =>
    cases hh : okHealth h with
    | false => exact ⟨([], false), by simp⟩
    | true =>
      obtain ⟨cs, e1, e2, _, h4, _⟩ := cand_same p h sp sh hp hh
      have := sp.many
      exact ⟨(cs, true), by simp [e1], by simp [e2], by simp; omega⟩
theorem total_same : ∀ (l : List Int) (i : Nat) (n : Int), ∃ s, spec_l12Total_L1 l i n = some s ∧ impl_totalOf_L1 l i n = some s
  | [], i, n => ⟨n, by rw [spec_l12Total_L1], by rw [impl_totalOf_L1]⟩
  | e :: l, i, n => by
    rw [spec_l12Total_L1, impl_totalOf_L1]
    exact total_same l (i + 1) _
theorem shares_go (p : TPolicy) : ∀ (l : List Int) (i : Nat) (out : List Int), (∀ x ∈ l, 0 ≤ x ∧ x < (p.fTargets.length : Int)) → out.length = p.fTargets.length →
    ∃ r : List Int × Int × Bool, spec_SharesOf_L1 p l i out = some r ∧ impl_SharesOf_L1 p l i out = some r ∧ r.1.length = p.fTargets.length
  | [], i, out, _, h => by
    obtain ⟨s, e1, e2⟩ := total_same out 0 0
    have t1 : spec_l12Total out = some s := e1
    have t2 : impl_totalOf out = some s := e2
    exact ⟨(out, s, true), by rw [spec_SharesOf_L1, spec_SharesOf_K1, t1]; rfl, by rw [impl_SharesOf_L1, impl_SharesOf_K1, t2]; rfl, h⟩
  | x :: l, i, out, hx, h => by
    obtain ⟨h0, h1⟩ := hx x (by simp)
    obtain ⟨r, e1, e2, e3⟩ := shares_go p l (i + 1) (out.set x.toNat (p.fTargets[x.toNat]'(by omega)).fWeight) (fun x hm => hx x (by simp [hm])) (by simp [h])
    refine ⟨r, ?_, ?_, e3⟩
    · rw [spec_SharesOf_L1, at_int h0 h1, at_int h0 (by omega), Option.bind_some, Option.bind_some, put_int h0 (by omega), Option.bind_some, e1]
    · rw [impl_SharesOf_L1, at_int h0 h1, at_int h0 (by omega), Option.bind_some, Option.bind_some, put_int h0 (by omega), Option.bind_some, e2]
theorem shares_all (p : TPolicy) (h : THealth) (sp : SmPolicy p) (sh : SmHealth h) : ∃ c : List Int × Int × Bool, spec_SharesOf p h = some c ∧ impl_SharesOf p h = some c ∧ c.1.length ≤ 1048576 := by
  unfold spec_SharesOf impl_SharesOf
  rw [spec_goodPolicy p sp, impl_goodPolicy p sp, spec_goodHealth h sh, impl_goodHealth h sh]
  simp only [Option.bind_some]
  cases hp : okPolicy p with
  | false => exact ⟨([], 0, false), by simp⟩
  | true =>
    cases hh : okHealth h with
    | false => exact ⟨([], 0, false), by simp⟩
    | true =>
      obtain ⟨cs, e1, e2, _, h4, h5⟩ := cand_same p h sp sh hp hh
      have hm := sp.many
      have hk : make? 8 (p.fTargets.length : Int) (0 : Int) = some (List.replicate p.fTargets.length 0) := make_ok (by omega)
      obtain ⟨r, r1, r2, r3⟩ := shares_go p cs 0 (List.replicate p.fTargets.length 0) h5 (by simp)
      refine ⟨r, ?_, ?_, by omega⟩
      · rw [if_neg (by decide), if_neg (by decide), hk, e1, Option.bind_some, Option.bind_some, r1]
      · rw [if_neg (by decide), if_neg (by decide), hk, e2, Option.bind_some, Option.bind_some, r2]
theorem law_CandidatesOf (p : TPolicy) (h : THealth) (sp : SmPolicy p) (sh : SmHealth h) : laws_FnExactCandidatesOf p h = some true := by
  unfold laws_FnExactCandidatesOf
  have hp := sp.many
  have hh := sh.many
  obtain ⟨y1, s1, l1⟩ := szPolicy_ok p sp 1048576 (by omega) (by omega)
  rw [s1, Option.bind_some]
  by_cases c1 : y1 < 0
  · rw [if_pos (by simpa using c1)]
  rw [if_neg (by simpa using c1)]
  obtain ⟨y3, s3, l3⟩ := szHealth_ok h sh y1 (by omega) l1
  rw [s3, Option.bind_some]
  by_cases c3 : y3 < 0
  · rw [if_pos (by simpa using c3)]
  rw [if_neg (by simpa using c3)]
  obtain ⟨c, e1, e2, e3⟩ := cand_all p h sp sh
  obtain ⟨a1, m1, n1⟩ := markPolicy_ok p hp 1 (by omega) (by omega)
  obtain ⟨a2, m2, n2⟩ := markHealth_ok h hh (1 + 4 * (p.fTargets.length : Int)) (by omega) (by omega)
  have hz : ¬ 1 + 4 * (p.fTargets.length : Int) + 3 * (h.fHosts.length : Int) < 0 := by omega
  have hy : ¬ 1 + (c.1.length : Int) < 0 := by omega
  simp only [toPolicy_ok p hp, toHealth_ok h hh, e1, e2, eqIntS_ok c.1 e3, eqPolicy_ok p hp, eqHealth_ok h hh, m1, m2, markIntS_ok c.1 e3, heldIntS_ok c.1.length e3, Option.bind_some, Bool.not_true, Bool.false_eq_true, if_false, beq_self_eq_true, bne_self_eq_false, same_ok n1, same_ok n2, same_ok (show c.1.length = (ramp 1 c.1.length).length by rw [ramp_len]), decide_eq_true_eq, hz, hy]
theorem law_SharesOf (p : TPolicy) (h : THealth) (sp : SmPolicy p) (sh : SmHealth h) : laws_FnExactSharesOf p h = some true := by
  unfold laws_FnExactSharesOf
  have hp := sp.many
  have hh := sh.many
  obtain ⟨y1, s1, l1⟩ := szPolicy_ok p sp 1048576 (by omega) (by omega)
  rw [s1, Option.bind_some]
  by_cases c1 : y1 < 0
  · rw [if_pos (by simpa using c1)]
  rw [if_neg (by simpa using c1)]
  obtain ⟨y3, s3, l3⟩ := szHealth_ok h sh y1 (by omega) l1
  rw [s3, Option.bind_some]
  by_cases c3 : y3 < 0
  · rw [if_pos (by simpa using c3)]
  rw [if_neg (by simpa using c3)]
  obtain ⟨c, e1, e2, e3⟩ := shares_all p h sp sh
  obtain ⟨a1, m1, n1⟩ := markPolicy_ok p hp 1 (by omega) (by omega)
  obtain ⟨a2, m2, n2⟩ := markHealth_ok h hh (1 + 4 * (p.fTargets.length : Int)) (by omega) (by omega)
  have hz : ¬ 1 + 4 * (p.fTargets.length : Int) + 3 * (h.fHosts.length : Int) < 0 := by omega
  have hy : ¬ 1 + (c.1.length : Int) < 0 := by omega
  simp only [toPolicy_ok p hp, toHealth_ok h hh, e1, e2, eqIntS_ok c.1 e3, eqPolicy_ok p hp, eqHealth_ok h hh, m1, m2, markIntS_ok c.1 e3, heldIntS_ok c.1.length e3, Option.bind_some, Bool.not_true, Bool.false_eq_true, if_false, beq_self_eq_true, bne_self_eq_false, same_ok n1, same_ok n2, same_ok (show c.1.length = (ramp 1 c.1.length).length by rw [ramp_len]), decide_eq_true_eq, hz, hy]
end Go.Proofs.YthcmcjkljjfccaaGreatDoor.Abs
