/-
  A law of calls, told over values without addresses: part 2. It holds of every program; it asks nothing of this one.
-/
import Derived.Test.YthcmcjkljjfccaaGreatDoorAbs1
set_option linter.unusedVariables false
set_option linter.unusedSimpArgs false
set_option linter.unusedVariables false
namespace Go.Proofs.YthcmcjkljjfccaaGreatDoor.Abs
open Go Go.RowKit

section
variable {P : Program} [Begin P] {B : Base} {w w' : World} {Γ Γ' : Gh} {st : St} {a : Act} {S S' : Nat → Prop}

def maskOf (o : Oper) (acc : List Nat) : Nat := o.after.toList.foldl (fun m e => if Region.binds .any e then m ||| (1 <<< e.on) ||| acc.getD e.on 0 else m) 0
theorem masks_snoc (os : List Oper) (o : Oper) : masks (os ++ [o]) = masks os ++ [maskOf o (masks os)] := by
  simp [masks, masksGo, List.foldl_append, maskOf]
theorem masks_length (os : List Oper) : (masks os).length = os.length := by
  have h : ∀ n (os : List Oper), os.length = n → (masks os).length = os.length := by
    intro n
    induction n with
    | zero => intro os h; have := List.eq_nil_of_length_eq_zero h; subst this; rfl
    | succ n ih =>
      intro os h
      obtain ⟨os', o, rfl⟩ : ∃ os' o, os = os' ++ [o] := ⟨os.dropLast, os.getLast (by intro hn; simp [hn] at h), (List.dropLast_concat_getLast _).symm⟩
      rw [masks_snoc, List.length_append, ih os' (by simpa using h)]
      simp
  exact h _ os rfl
theorem masks_get (os : List Oper) : ∀ (i : Nat) (o : Oper), os[i]? = some o → ∃ acc, (masks os)[i]? = some (maskOf o acc) ∧ ∀ k, k < i → acc.getD k 0 = (masks os).getD k 0 := by
  have h : ∀ n (os : List Oper), os.length = n → ∀ (i : Nat) (o : Oper), os[i]? = some o → ∃ acc, (masks os)[i]? = some (maskOf o acc) ∧ ∀ k, k < i → acc.getD k 0 = (masks os).getD k 0 := by
    intro n
    induction n with
    | zero => intro os h i o ho; have := List.eq_nil_of_length_eq_zero h; subst this; simp at ho
    | succ n ih =>
      intro os h i o ho
      obtain ⟨os', q, rfl⟩ : ∃ os' o, os = os' ++ [o] := ⟨os.dropLast, os.getLast (by intro hn; simp [hn] at h), (List.dropLast_concat_getLast _).symm⟩
      have hlen : os'.length = n := by simpa using h
      rw [masks_snoc]
      rcases Nat.lt_or_ge i os'.length with hi | hi
      · rw [List.getElem?_append_left hi] at ho
        obtain ⟨acc, h1, h2⟩ := ih os' hlen i o ho
        refine ⟨acc, by rw [List.getElem?_append_left (by rw [masks_length]; exact hi)]; exact h1, fun k hk => ?_⟩
        rw [h2 k hk, List.getD_eq_getElem?_getD, List.getD_eq_getElem?_getD, List.getElem?_append_left (by rw [masks_length]; omega)]
      · have hie : i = os'.length := by
          have := (List.getElem?_eq_some_iff.1 ho).1
          simp at this; omega
        subst hie
        rw [List.getElem?_append_right (Nat.le_refl _)] at ho
        simp at ho
        subst ho
        refine ⟨masks os', by rw [List.getElem?_append_right (by rw [masks_length]; exact Nat.le_refl _), masks_length]; simp, fun k hk => ?_⟩
        rw [List.getD_eq_getElem?_getD, List.getD_eq_getElem?_getD, List.getElem?_append_left (by rw [masks_length]; omega)]
  exact h _ os rfl

theorem maskOf_bit (o : Oper) (acc : List Nat) (j : Nat) (h : (maskOf o acc).testBit j = true) : ∃ e ∈ o.after, Region.binds .any e = true ∧ (e.on = j ∨ (acc.getD e.on 0).testBit j = true) := by
  have key : ∀ (es : List Edge) (m : Nat), (es.foldl (fun m e => if Region.binds .any e then m ||| (1 <<< e.on) ||| acc.getD e.on 0 else m) m).testBit j = true →
      m.testBit j = true ∨ ∃ e ∈ es, Region.binds .any e = true ∧ (e.on = j ∨ (acc.getD e.on 0).testBit j = true) := by
    intro es
    induction es with
    | nil => intro m h; exact .inl h
    | cons e es ih =>
      intro m h
      rw [List.foldl_cons] at h
      rcases ih _ h with h1 | ⟨e', he', h1⟩
      · split at h1
        · rename_i hb
          rw [Nat.testBit_or, Nat.testBit_or] at h1
          simp only [Bool.or_eq_true] at h1
          rcases h1 with (h1 | h1) | h1
          · exact .inl h1
          · refine .inr ⟨e, by simp, hb, .inl ?_⟩
            rw [Nat.one_shiftLeft, Nat.testBit_two_pow] at h1
            simpa using h1
          · exact .inr ⟨e, by simp, hb, .inr h1⟩
        · exact .inl h1
      · exact .inr ⟨e', by simp [he'], h1⟩
  rcases key _ _ h with h1 | ⟨e, he, h1⟩
  · simp at h1
  · exact ⟨e, by simpa using he, h1⟩

theorem nodupD_spec : ∀ {os : List Oper}, nodupD os = true → ∀ (i j : Nat) (x y : Oper) (d : Nat), i ≠ j → os[i]? = some x → os[j]? = some y → x.dst = some d → y.dst ≠ some d
  | [], _, i, j, x, y, d, _, hx, _, _ => by simp at hx
  | o :: os, h, i, j, x, y, d, hij, hx, hy, hd => by
    simp only [nodupD, Bool.and_eq_true] at h
    have key : ∀ (k : Nat) z d, o.dst = some d → os[k]? = some z → z.dst ≠ some d := by
      intro k z d hd hz
      have h1 := h.1
      rw [hd] at h1
      simp only [List.all_eq_true, bne_iff_ne, ne_eq] at h1
      exact h1 z (List.mem_of_getElem? hz)
    cases i with
    | zero =>
      simp at hx; subst hx
      cases j with
      | zero => exact absurd rfl hij
      | succ j => exact key j y d hd (by simpa using hy)
    | succ i =>
      cases j with
      | zero =>
        simp at hy; subst hy
        intro hyd
        exact key i x d hyd (by simpa using hx) hd
      | succ j => exact nodupD_spec h.2 i j x y d (by omega) (by simpa using hx) (by simpa using hy) hd

structure RegOK (N : Nat) (ops : Array Oper) : Prop where
  nodup : nodupD ops.toList = true
  dst : ∀ (i : Nat) o d, ops[i]? = some o → o.dst = some d → d < N
  back : ∀ (i : Nat) o, ops[i]? = some o → ∀ e ∈ o.after, Region.binds .any e = true → e.on < i
  pair : ∀ (j i : Nat) x y, j < i → ops[j]? = some x → ops[i]? = some y → ((masks ops.toList).getD i 0).testBit j = true ∨ pairOK ops x y = true

theorem regOK_spec {N : Nat} {ops : Array Oper} (h : regOK N ops true = true) : RegOK N ops := by
  simp only [regOK, Bool.and_eq_true, Bool.not_true, Bool.false_or] at h
  obtain ⟨⟨h1, h2⟩, h3⟩ := h
  rw [List.all_eq_true] at h2 h3
  have hi : ∀ (i : Nat) o, ops[i]? = some o → i ∈ List.range ops.size := fun i o ho => List.mem_range.2 (Array.getElem?_eq_some_iff.1 ho).1
  refine ⟨h1, ?_, ?_, ?_⟩
  · intro i o d ho hd
    have := h2 o (by simpa using Array.mem_of_getElem? ho)
    rw [hd] at this
    simpa using this
  · intro i o ho e he hb
    have := h3 i (hi i o ho)
    rw [ho] at this
    simp only [Bool.and_eq_true] at this
    have h4 := List.all_eq_true.1 this.1.2 e (by simpa using he)
    simpa [hb] using h4
  · intro j i x y hji hx hy
    have := h3 i (hi i y hy)
    rw [hy] at this
    simp only [Bool.and_eq_true] at this
    have h4 := List.all_eq_true.1 this.2 j (List.mem_range.2 hji)
    rw [hx] at h4
    simpa using h4

/-- What is listed bears all that it stands on. -/
def Closed (ops : Array Oper) (L : Nat → Bool) : Prop := ∀ (i : Nat) o, ops[i]? = some o → L i = true → ∀ e ∈ o.after, Region.binds .any e = true → L e.on = true

theorem mask_in {N : Nat} {ops : Array Oper} (hr : RegOK N ops) {L : Nat → Bool} (hc : Closed ops L) (j : Nat) : ∀ (i : Nat) o, ops[i]? = some o → (∀ e ∈ o.after, Region.binds .any e = true → L e.on = true) → ((masks ops.toList).getD i 0).testBit j = true → L j = true := by
  intro i
  induction i using Nat.strongRecOn with
  | _ i ih =>
    intro o ho hL hb
    obtain ⟨acc, h1, h2⟩ := masks_get ops.toList i o (by simpa using ho)
    rw [List.getD_eq_getElem?_getD, h1] at hb
    simp only [Option.getD_some] at hb
    obtain ⟨e, he, hbi, h3⟩ := maskOf_bit o acc j hb
    have hlt := hr.back i o ho e he hbi
    rcases h3 with rfl | h3
    · exact hL e he hbi
    · rw [h2 _ hlt] at h3
      have hsz : e.on < ops.size := by
        have := (Array.getElem?_eq_some_iff.1 ho).1; omega
      exact ih e.on hlt ops[e.on] (by simp [hsz]) (hc e.on _ (by simp [hsz]) (hL e he hbi)) h3

theorem stOf_nothing (n : Nat) (g : Nat → App) (st : St) : stOf n g (fun _ => false) st = st := by
  have : (List.range n).filter (fun _ => false) = [] := List.filter_eq_nil_iff.2 (by simp)
  unfold stOf
  rw [this]
  rfl

/-- A region whose order is drawn. -/
theorem draw_sound (hB : BaseOK P B) {ops : Array Oper} {K : St → Prop} {Q : Exit → Act → World → Prop} (hreg : regOK B.N ops true = true) {τ : Nat} (h : SR B Γ st a w) (hτ : τ < st.t) (hfr : ∀ d j, st.H (τ, d, j) = none)
    (hp : pdraw P τ ops ops.toList st [] K) (hQ : ∀ Γ' st' a' w', SR B Γ' st' a' w' → K st' → Q .normal a' w') : wpAny P .any ops Q ops.size (Array.replicate ops.size false) a w := by
  have hr := regOK_spec hreg
  obtain ⟨es, hlen, heff, hlog, hKf⟩ := pdraw_effs ops.toList st [] hp
  rw [List.nil_append] at hlog
  simp only [Array.length_toList] at hlen
  let n := ops.size
  let g : Nat → App := fun i => ((ops.toList[i]?).bind (·.dst), es.getD i noEff)
  have hes : ∀ i, i < n → es[i]? = some (es.getD i noEff) := by
    intro i hi
    have : i < es.length := by rw [hlen]; exact hi
    rw [List.getD_eq_getElem?_getD, List.getElem?_eq_getElem this]; rfl
  have hop : ∀ i, i < n → ∃ o, ops[i]? = some o ∧ ops.toList[i]? = some o ∧ (g i).1 = o.dst := by
    intro i hi
    have hi' : i < ops.size := hi
    refine ⟨ops[i], by simp [hi'], by simp [hi'], ?_⟩
    simp only [g]
    simp [hi']
  have hE : ∀ i, i < n → ∀ o, ops[i]? = some o → EffR P τ ops o (stOf n g (fun j => decide (j < i)) st) (g i).2 := by
    intro i hi o ho
    rw [stOf_lt n g i (Nat.le_of_lt hi)]
    exact heff i o _ (by simpa using ho) (hes i hi)
  have hlogAt : ∀ j i, j < i → i < n → ((masks ops.toList).getD i 0).testBit j = true ∨ (apartN ((g j).2.rd, wrN (g j)) ((g i).2.rd, wrN (g i)) ∧ apartN ((g i).2.rd, wrN (g i)) ((g j).2.rd, wrN (g j))) := by
    intro j i hji hi
    have hml : i < (masks ops.toList).length := by rw [masks_length]; simpa using hi
    have := hlog j i hji ((g j).2.rd, wrN (g j)) ((g i).2.rd, wrN (g i)) ((masks ops.toList).getD i 0)
      (by rw [List.getElem?_map, hes j (by omega)]; rfl) (by rw [List.getElem?_map, hes i hi]; rfl) (by rw [List.getD_eq_getElem?_getD, List.getElem?_eq_getElem hml]; rfl)
    exact this
  -- the walk
  have walk : ∀ (fuel : Nat) (listed : Array Bool) (Γ : Gh) (a : Act) (w : World), listed.size = n → Closed ops (fun i => listed.getD i false) → ((List.range n).filter fun i => !listed.getD i false).length = fuel →
      SR B Γ (stOf n g (fun i => listed.getD i false) st) a w → wpAny P .any ops Q fuel listed a w := by
    intro fuel
    induction fuel with
    | zero =>
      intro listed Γ a w hsz hcl hcount hsr
      have hall : ∀ i, i < n → listed.getD i false = true := by
        intro i hi
        have := List.eq_nil_of_length_eq_zero hcount
        rw [List.filter_eq_nil_iff] at this
        simpa using this i (List.mem_range.2 hi)
      refine ⟨?_, hQ Γ _ a w hsr ?_⟩
      · rw [List.eq_nil_iff_forall_not_mem]
        intro i hi
        obtain ⟨h1, o, ho, _⟩ := mem_ready.1 hi
        have hi' : i < n := (Array.getElem?_eq_some_iff.1 ho).1
        have h2 := hall i hi'
        have h3 : i < listed.size := by rw [hsz]; exact hi'
        simp [h3] at h1 h2
        rw [h1] at h2; cases h2
      · have : stOf n g (fun i => listed.getD i false) st = stOf n g (fun j => decide (j < n)) st := by
          refine St.ext' ?_ ?_ ?_
          · intro s; exact stOf_fr n g _ _ st s fun j hj _ => by rw [hall j hj]; simp [hj]
          · intro s; exact stOf_H n g _ _ st s fun j hj _ => by rw [hall j hj]; simp [hj]
          · simp [stOf, runA_t]
        rw [this, stOf_lt n g n (Nat.le_refl _)]
        have hn : ops.toList.length = n := by simp [n]
        rw [hn] at hKf
        exact hKf
    | succ fuel ih =>
      intro listed Γ a w hsz hcl hcount hsr
      refine ⟨?_, ?_⟩
      · intro hnil
        exfalso
        -- the least that is not listed is ready
        have hex : ∃ i, i < n ∧ listed.getD i false = false := by
          have hne : ((List.range n).filter fun i => !listed.getD i false) ≠ [] := by
            intro h0; rw [h0] at hcount; cases hcount
          obtain ⟨i, hi⟩ := List.exists_mem_of_ne_nil _ hne
          rw [List.mem_filter] at hi
          exact ⟨i, List.mem_range.1 hi.1, by simpa using hi.2⟩
        obtain ⟨i, ⟨hi, hni⟩, hleast⟩ := exists_least (p := fun i => i < n ∧ listed.getD i false = false) hex
        obtain ⟨o, ho, _, _⟩ := hop i hi
        have : i ∈ Region.ready .any ops listed := by
          refine mem_ready.2 ⟨?_, o, ho, fun e he hb => ?_⟩
          · have h3 : i < listed.size := by rw [hsz]; exact hi
            simp [h3] at hni ⊢; exact hni
          · have hlt := hr.back i o ho e he hb
            rcases hb2 : listed.getD e.on false with _ | _
            · have := hleast e.on ⟨by omega, hb2⟩; omega
            · rfl
        rw [hnil] at this
        cases this
      · intro i hir
        obtain ⟨h1, o, ho, hafter⟩ := mem_ready.1 hir
        have hi : i < n := (Array.getElem?_eq_some_iff.1 ho).1
        have hi3 : i < listed.size := by rw [hsz]; exact hi
        have hLi : listed.getD i false = false := by simp [hi3] at h1 ⊢; exact h1
        have hgd : (g i).1 = o.dst := by
          obtain ⟨o', ho', _, hd⟩ := hop i hi
          rw [ho] at ho'; cases ho'; exact hd
        -- what i stands on is listed; what stands on i is not
        have hpre : ∀ j, ((masks ops.toList).getD i 0).testBit j = true → listed.getD j false = true := fun j hb => mask_in hr hcl j i o ho hafter hb
        have hpost : ∀ j, j < n → ((masks ops.toList).getD j 0).testBit i = true → listed.getD j false = false := by
          intro j hj hb
          rcases hL : listed.getD j false with _ | _
          · rfl
          · obtain ⟨oj, hoj, _, _⟩ := hop j hj
            have := mask_in hr hcl i j oj hoj (hcl j oj hoj hL) hb
            rw [hLi] at this; cases this
        have same : ∀ j, j < n → (j < i → ((masks ops.toList).getD i 0).testBit j = true) → (i < j → ((masks ops.toList).getD j 0).testBit i = true) → listed.getD j false = decide (j < i) := by
          intro j hj ha hb
          rcases Nat.lt_trichotomy j i with h' | h' | h'
          · rw [hpre j (ha h')]; simp [h']
          · subst h'; rw [hLi]; simp
          · rw [hpost j hj (hb h')]; simp; omega
        have hfr' : ∀ s ∈ o.looksAt ops, (stOf n g (fun i => listed.getD i false) st).fr s = (stOf n g (fun j => decide (j < i)) st).fr s := by
          intro s hs
          refine stOf_fr n g _ _ st s fun j hj hgs => same j hj ?_ ?_
          · intro hji
            obtain ⟨oj, hoj, _, hgj⟩ := hop j hj
            rcases hr.pair j i oj o hji hoj ho with h' | h'
            · exact h'
            · rw [hgj] at hgs
              simp [pairOK, usesT, hgs, hs] at h'
          · intro hij
            obtain ⟨oj, hoj, _, hgj⟩ := hop j hj
            rcases hr.pair i j o oj hij ho hoj with h' | h'
            · exact h'
            · rw [hgj] at hgs
              simp [pairOK, usesT, hgs, hs] at h'
        have hH' : ∀ nm ∈ (g i).2.rd, (stOf n g (fun i => listed.getD i false) st).H nm = (stOf n g (fun j => decide (j < i)) st).H nm := by
          intro nm hnm
          refine stOf_H n g _ _ st nm fun j hj hgs => same j hj ?_ ?_
          · intro hji
            rcases hlogAt j i hji hi with h' | ⟨h', _⟩
            · exact h'
            · exact absurd hnm (h' nm hgs).1
          · intro hij
            rcases hlogAt i j hij hj with h' | ⟨_, h'⟩
            · exact h'
            · exact absurd hnm (h' nm hgs).1
        have hEi := (hE i hi o ho).facts.2 hfr' hH'
        have hnone : ∀ d, o.dst = some d → ∀ q, (stOf n g (fun i => listed.getD i false) st).H (τ, d, q) = none := by
          intro d hd q
          have hwr : ∀ j, j < n → (τ, d, q) ∈ wrN (g j) → listed.getD j false = false := by
            intro j hj hw
            obtain ⟨k, ⟨hk, hkw⟩, hleast⟩ := exists_least (p := fun k => k < n ∧ (τ, d, q) ∈ wrN (g k)) ⟨j, hj, hw⟩
            obtain ⟨ok, hok, _, hgk⟩ := hop k hk
            have hf := (hE k hk ok hok).facts (st' := st)
            have hki : k = i := by
              obtain ⟨x, hx, hxe⟩ := List.mem_map.1 hkw
              rcases hf.1.wr x hx with h' | ⟨q1, q2, h', h''⟩
              · exfalso
                refine hf.1.rd _ h' ?_
                rw [hxe, stOf_H n g _ (fun _ => false) st (τ, d, q) (fun m hm hmw => ?_)]
                · have : (stOf n g (fun _ => false) st) = st := stOf_nothing n g st
                  rw [this]; exact hfr d q
                · have := hleast m ⟨hm, hmw⟩
                  simp; omega
              · rw [hxe] at h''
                cases h''
                rcases Nat.decEq k i with hne | he
                · exact absurd hd (nodupD_spec hr.nodup k i ok o d hne (by simpa using hok) (by simpa using ho) h')
                · exact he
            subst hki
            rcases Nat.decEq j k with hne | he
            · have hkj : k < j := by have := hleast j ⟨hj, hw⟩; omega
              rcases hlogAt k j hkj hj with h' | ⟨h', _⟩
              · exact hpost j hj h'
              · exact absurd hw (h' (τ, d, q) hkw).2
            · subst he; exact hLi
          rw [stOf_H n g _ (fun _ => false) st (τ, d, q) (fun m hm hmw => hwr m hm hmw)]
          have : (stOf n g (fun _ => false) st) = st := stOf_nothing n g st
          rw [this]; exact hfr d q
        have hins : stOf n g (fun j => if j = i then true else listed.getD j false) st = (stOf n g (fun i => listed.getD i false) st).app o.dst (g i).2 := by
          rw [← hgd]
          refine stOf_insert n g _ st i hi hLi fun j hij hj hLj => ⟨?_, ?_⟩
          · rcases hd : (g i).1 with _ | d
            · exact .inl rfl
            · right
              obtain ⟨oj, hoj, _, hgj⟩ := hop j hj
              rw [hgj]
              rw [hgd] at hd
              exact fun he => nodupD_spec hr.nodup i j o oj d (by omega) (by simpa using ho) (by simpa using hoj) hd he.symm
          · intro q hq hq'
            rcases hlogAt i j hij hj with h' | ⟨h', _⟩
            · have := hpost j hj h'
              rw [hLj] at this; cases this
            · exact (h' q hq).2 hq'
        have hset : ∀ j, (listed.setIfInBounds i true).getD j false = if j = i then true else listed.getD j false := by
          intro j
          by_cases hji : j = i
          · subst hji
            simp [hi3]
          · rw [if_neg hji, getD_set_ne false (Ne.symm hji)]
        have key := hEi.sound hB (Q := Q) (K := wpAny P .any ops Q fuel (listed.setIfInBounds i true)) hsr (by simp only [stOf, runA_t]; exact hτ) (fun d hd => ⟨hr.dst i o d ho hd, hnone d hd⟩) ?_
        · unfold wpOp
          simp only [ho]
          split
          · rename_i hw; rw [if_pos hw] at key; exact .inl key
          · rename_i hw; rw [if_neg hw] at key; exact key
        · intro v w' Γ' hsr'
          refine ih (listed.setIfInBounds i true) Γ' _ _ (by simp [hsz]) ?_ ?_ ?_
          · intro j oj hoj hLj e he hb
            simp only [hset] at hLj ⊢
            by_cases hji : j = i
            · subst hji
              rw [ho] at hoj
              cases hoj
              rw [hafter e he hb]; simp
            · rw [if_neg hji] at hLj
              have := hcl j oj hoj hLj e he hb
              simp only at this
              rw [this]; simp
          · have hmem : i ∈ (List.range n).filter fun j => !listed.getD j false := by
              rw [List.mem_filter]; exact ⟨List.mem_range.2 hi, by simp [hLi]⟩
            have hf : ((List.range n).filter fun j => !(listed.setIfInBounds i true).getD j false) = ((List.range n).filter fun j => !listed.getD j false).filter fun j => decide (j ≠ i) := by
              rw [List.filter_filter]
              refine List.filter_congr fun j hj => ?_
              rw [hset]
              by_cases hji : j = i <;> simp [hji]
            rw [hf]
            have hnd : ((List.range n).filter fun j => !listed.getD j false).Nodup := List.Pairwise.filter _ List.nodup_range
            have := (List.filter_eq_self (l := [i]) (p := fun _ => true)).2 (by simp)
            have hcnt : (((List.range n).filter fun j => !listed.getD j false).filter fun j => decide (j ≠ i)) = ((List.range n).filter fun j => !listed.getD j false).erase i := by
              rw [hnd.erase_eq_filter]
              refine List.filter_congr fun j hj => ?_
              by_cases hji : j = i <;> simp [hji]
            rw [hcnt, List.length_erase_of_mem hmem, hcount]
            rfl
          · have : (fun i_1 => (listed.setIfInBounds i true).getD i_1 false) = fun j => if j = i then true else listed.getD j false := funext hset
            rw [this, hins]
            exact hsr'
  refine walk ops.size _ Γ a w (by simp [n]) ?_ ?_ ?_
  · intro i o ho hL
    exfalso
    have hi : i < ops.size := (Array.getElem?_eq_some_iff.1 ho).1
    simp [hi] at hL
  · have : ((List.range n).filter fun i => !(Array.replicate ops.size false).getD i false) = List.range n := by
      rw [List.filter_eq_self]
      intro i hi
      have := List.mem_range.1 hi
      simp [n] at this
      simp [this]
    rw [this]; simp [n]
  · have : stOf n g (fun i => (Array.replicate ops.size false).getD i false) st = st := by
      have hf : ((List.range n).filter fun i => (Array.replicate ops.size false).getD i false) = [] := by
        rw [List.filter_eq_nil_iff]
        intro i hi
        have := List.mem_range.1 hi
        simp [n] at this
        simp [this]
      simp only [stOf, hf]; rfl
    rw [this]
    exact h

end
end Go.Proofs.YthcmcjkljjfccaaGreatDoor.Abs
set_option linter.unusedVariables false
namespace Go.Proofs.YthcmcjkljjfccaaGreatDoor.Abs
open Go Go.RowKit

/-! ## The transformer is sound; a contract out of it -/

def resultA (P : Program) [Begin P] (st : St) : ResultVar → Option PV
  | .tmp t => some (st.fr t)
  | .cell a t => match TI.of P t with
    | some i => (evLoad i st.H (st.fr a)).map (·.v)
    | none => none
def resL (P : Program) [Begin P] (st : St) : List ResultVar → Option (List PV)
  | [] => some []
  | r :: rs => match resultA P st r, resL P st rs with
    | some x, some xs => some (x :: xs)
    | _, _ => none
def oneOr : List PV → PV
  | [x] => x
  | xs => .tup xs
/-- What is answered, with what is the activation's own seen through. -/
def resA (P : Program) [Begin P] (rs : List ResultVar) (st : St) : Option PV :=
  match resL P st rs with
  | some xs => seen st.H fuel (oneOr xs)
  | none => none

def retQ (P : Program) [Begin P] (rs : List ResultVar) (r : PV) : Exit → St → Prop
  | .normal, st => resA P rs st = some r
  | .ret, st => resA P rs st = some r
  | _, _ => False
def retF (rs : List ResultVar) (e : TypeId) (sz n : Nat) (cells : List PV) (st : St) : Prop :=
  match rs with
  | [.tmp t] => ∃ nm, st.fr t = .ref nm n ∧ st.H nm = some ⟨some (e, sz), n, cells⟩
  | _ => False
def retQF (rs : List ResultVar) (e : TypeId) (sz n : Nat) (cells : List PV) : Exit → St → Prop
  | .normal, st => retF rs e sz n cells st
  | .ret, st => retF rs e sz n cells st
  | _, _ => False

def st0G (args : List PV) (bin : List Buf) : St := { fr := fun s => args.getD s .undef, H := bufsH bin, t := 1 }
def retG (P : Program) [Begin P] (rs : List ResultVar) (m : Nat) (r : PV) (bout : List Buf) (st : St) : Prop :=
  ∃ (nms : List Nm) (xs : List PV), nms.length = bout.length ∧ nms.Nodup ∧ (∀ j, j < m → nameAt nms j = hole j) ∧ resL P st rs = some xs ∧ oneOr xs = ren (nameAt nms) r ∧ ∀ (j : Nat) b, bout[j]? = some b → st.H (nameAt nms j) = some (b.ren (nameAt nms))
def retQG (P : Program) [Begin P] (rs : List ResultVar) (m : Nat) (r : PV) (bout : List Buf) : Exit → St → Prop
  | .normal, st => retG P rs m r bout st
  | .ret, st => retG P rs m r bout st
  | _, _ => False

section
variable {P : Program} [Begin P] {B : Base} {w w' : World} {Γ Γ' : Gh} {st : St} {a : Act} {S S' : Nat → Prop}

theorem SR.tick (h : SR B Γ st a w) : SR B Γ { st with t := st.t + 1 } a w :=
  ⟨h.keep, h.defers, h.size, h.s0, h.sin, h.slots, h.sok, h.dom, h.res, h.own, h.apart, fun i hi => h.fresh i (by simp only at hi; omega), h.evo⟩
theorem SR.drawn (h : SR B Γ st a w) (n : Nat) : SR B Γ st a { w with drawn := n } :=
  h.grow (w' := { w with drawn := n }) (S' := Γ.S) ⟨rfl, rfl, rfl, Nat.le_refl _, fun _ _ => rfl⟩ (fun _ h => h) (fun _ h => .inl h)

def AW (P : Program) [Begin P] (B : Base) (c : Code) (Q : Exit → St → Prop) (st : St) : Prop :=
  ∀ Γ a w, SR B Γ st a w → c.wp P (fun e a w => ∃ Γ' st', SR B Γ' st' a w ∧ Q e st') a w

theorem regOK_any {N : Nat} {ops : Array Oper} {d : Bool} (h : regOK N ops d = true) : nodupD ops.toList = true ∧ ∀ o ∈ ops.toList, ∀ k, o.dst = some k → k < N := by
  simp only [regOK, Bool.and_eq_true] at h
  refine ⟨h.1.1, fun o ho k hk => ?_⟩
  have := List.all_eq_true.1 h.1.2 o ho
  rw [hk] at this
  simpa using this

theorem pwp_sound (hB : BaseOK P B) (hm : P.follows .mixedOrders = true) : ∀ (c : Code), codeOK B.N c = true → ∀ (Q : Exit → St → Prop) (st : St), pwp P c Q st → AW P B c Q st
  | .skip, _, Q, st, h => fun Γ a w hsr => wp_skip ⟨Γ, st, hsr, h⟩
  | .region id ops false, hok, Q, st, h => fun Γ a w hsr => by
    simp only [codeOK] at hok
    obtain ⟨h1, h2⟩ := regOK_any hok
    simp only [pwp] at h
    refine wp_region_list (pops_sound hB (τ := st.t) ops.toList _ Γ a w hsr.tick (Nat.lt_succ_self _) (fun o ho d hd => ⟨h2 o ho d hd, fun j => hsr.fresh _ (Nat.le_refl _)⟩) h1 h ?_)
    intro Γ' st' a' w' h3 h4
    exact ⟨Γ', st', h3, h4⟩
  | .region id ops true, hok, Q, st, h => fun Γ a w hsr => by
    simp only [codeOK] at hok
    simp only [pwp] at h
    refine wp_region_any hm (draw_sound hB hok (τ := st.t) (hsr.tick.drawn _) (Nat.lt_succ_self _) (fun d j => hsr.fresh _ (Nat.le_refl _)) h ?_)
    intro Γ' st' a' w' h3 h4
    exact ⟨Γ', st', h3, h4⟩
  | .seq x y, hok, Q, st, h => fun Γ a w hsr => by
    simp only [codeOK, Bool.and_eq_true] at hok
    simp only [pwp] at h
    refine wp_seq (wp_mono (pwp_sound hB hm x hok.1 _ st h Γ a w hsr) ?_)
    rintro e a w ⟨Γ', st', h3, h4⟩
    cases e with
    | normal =>
      simp only [nextE] at h4
      cases hr : isReg x <;> rw [hr] at h4
      rotate_right
      · exact pwp_sound hB hm y hok.2 Q st' h4 Γ' a w h3
      · obtain ⟨st2, Γ2, h5, h6⟩ := h4 B Γ' a w hB h3
        exact pwp_sound hB hm y hok.2 Q st2 h6 Γ2 a w h5
    | exit id => exact ⟨Γ', st', h3, h4⟩
    | goto l => exact ⟨Γ', st', h3, h4⟩
    | ret => exact ⟨Γ', st', h3, h4⟩
    | panic ch => exact ⟨Γ', st', h3, h4⟩
    | outgrown => exact ⟨Γ', st', h3, h4⟩
  | .cond c x y, hok, Q, st, h => fun Γ a w hsr => by
    simp only [codeOK, Bool.and_eq_true] at hok
    simp only [pwp, condK] at h
    split at h
    · rename_i b hb
      have hv := hsr.op c
      rw [hb] at hv
      simp only [VR, IR] at hv
      refine wp_cond_split hv (fun ht => ?_) (fun hf => ?_)
      · exact pwp_sound hB hm x hok.1 Q st (h.1 ht) Γ a w hsr
      · exact pwp_sound hB hm y hok.2 Q st (h.2 hf) Γ a w hsr
    · exact h.elim
  | .block id c, hok, Q, st, h => fun Γ a w hsr => by
    simp only [codeOK] at hok
    simp only [pwp] at h
    refine wp_block (wp_mono (pwp_sound hB hm c hok _ st h Γ a w hsr) ?_)
    rintro e a w ⟨Γ', st', h3, h4⟩
    cases e with
    | normal => exact ⟨Γ', st', h3, h4⟩
    | exit j =>
      simp only [blockE] at h4
      simp only [Exit.inBlock]
      split
      · rename_i hj; rw [if_pos hj] at h4; exact ⟨Γ', st', h3, h4⟩
      · rename_i hj; rw [if_neg hj] at h4; exact ⟨Γ', st', h3, h4⟩
    | goto l => exact ⟨Γ', st', h3, h4⟩
    | ret => exact ⟨Γ', st', h3, h4⟩
    | panic ch => exact ⟨Γ', st', h3, h4⟩
    | outgrown => exact ⟨Γ', st', h3, h4⟩
  | .loop c, hok, Q, st, h => fun Γ a w hsr => by
    simp only [codeOK] at hok
    simp only [pwp, loopK] at h
    obtain ⟨I, n, hI, hround⟩ := h
    obtain ⟨st0, Γ0, hsr0, hI⟩ := hI B Γ a w hB hsr
    refine wp_loop_ghost (fun n a w => ∃ Γ st, SR B Γ st a w ∧ I n st) n ⟨Γ0, st0, hsr0, hI⟩ ?_
    rintro m a w ⟨Γ1, st1, h1, hI1⟩
    refine wp_mono (pwp_sound hB hm c hok _ st1 (hround m st1 hI1) Γ1 a w h1) ?_
    rintro e a w ⟨Γ', st', h3, h4⟩
    cases e with
    | normal =>
      obtain ⟨st2, Γ2, h5, k, hk, hIk⟩ := h4 B Γ' a w hB h3
      exact ⟨k, hk, Γ2, st2, h5, hIk⟩
    | exit id => exact ⟨Γ', st', h3, h4⟩
    | goto l => exact ⟨Γ', st', h3, h4⟩
    | ret => exact ⟨Γ', st', h3, h4⟩
    | panic ch => exact ⟨Γ', st', h3, h4⟩
    | outgrown => exact ⟨Γ', st', h3, h4⟩
  | .exit id, _, Q, st, h => fun Γ a w hsr => wp_exit ⟨Γ, st, hsr, h⟩
  | .ret, _, Q, st, h => fun Γ a w hsr => wp_ret ⟨Γ, st, hsr, h⟩
  | .rangeFunc _ _ _ _, _, _, _, h => h.elim
  | .scope _, _, _, _, h => h.elim
  | .label _, _, _, _, h => h.elim
  | .goto _, _, _, _, h => h.elim
  | .refuse _, _, _, _, h => h.elim

/-! ### The start and the end of an activation -/

def st0 (args : List PV) : St := { fr := fun s => args.getD s .undef, H := fun _ => none, t := 1 }

theorem SR.start {f : Nat} {N : Nat} (w : World) (S : Nat → Prop) (hS : ∀ k, S k → k < w.heap.size) {args : List PV} {cargs : List Value} (h : ILR S w args cargs) (hN : args.length ≤ N) :
    SR ⟨N, fun _ => False, w, S, fun _ => none⟩ { S := S, K := fun _ => none } (st0 args) { tmps := cargs.toArray ++ Array.replicate (N - cargs.toArray.size) undef, defers := [] } w := by
  have hlen := ILR_length h
  refine ⟨Keep.refl _ _, rfl, by simp; omega, fun _ h => h, fun _ h => .inl h, ?_, hS, by simp [st0], by simp [st0], by simp, by simp, by simp [st0], by simp⟩
  intro s
  have hlr := LR_of_ILR (Γ := { S := S, K := fun _ => none }) _ _ h
  simp only [st0]
  rcases Nat.lt_or_ge s args.length with hs | hs
  · obtain ⟨c, hc, hv⟩ := LR_get hlr s args[s] (by simp [hs])
    rw [List.getD_eq_getElem?_getD, List.getElem?_eq_getElem hs, Option.getD_some]
    have hs' : s < cargs.length := by omega
    rw [Array.getD_eq_getD_getElem?, Array.getElem?_append_left (by simpa using hs')]
    simp [hc]
    exact hv
  · rw [List.getD_eq_getElem?_getD, List.getElem?_eq_none hs, Option.getD_none]
    have hs' : cargs.length ≤ s := by omega
    have : (cargs.toArray ++ Array.replicate (N - cargs.toArray.size) undef).getD s undef = undef := by
      rw [Array.getD_eq_getD_getElem?, Array.getElem?_append_right (by simpa using hs')]
      rw [Array.getElem?_replicate]
      split <;> rfl
    rw [this]
    simp [VR, IR]

def resOne (a : Act) : ResultVar → Sem Value
  | .tmp t => pure (a.tmps.getD t undef)
  | .cell b t => do loadVar t (← asAddr (a.tmps.getD b undef))
theorem results_eq (fn : Func) (a : Act) : results fn a.tmps = (do
    let vs ← fn.results.mapM (resOne a)
    pure (if h : vs.size = 1 then vs[0] else .tuple vs)) := rfl

theorem result_sound (h : SR B Γ st a w) (r : ResultVar) {x : PV} (hx : resultA P st r = some x) :
    ∃ v, (resOne a r).run P w = .ok v w ∧ VR Γ w x v := by
  cases r with
  | tmp t =>
    simp only [resultA] at hx
    cases hx
    exact ⟨_, by simp [resOne], h.slots t⟩
  | cell b t =>
    simp only [resultA] at hx
    split at hx
    · rename_i i hi
      rw [Option.map_eq_some_iff] at hx
      obtain ⟨e, he, rfl⟩ := hx
      obtain ⟨u, hr, hv, hw⟩ := load_sound (P := P) h hi (h.slots b) he
      refine ⟨u, ?_, hv⟩
      have hp : ∃ ad, a.tmps.getD b undef = .pointer (some ad) := by
        generalize a.tmps.getD b undef = v at hr
        cases v <;> try (simp [Instr.loadAt, Instr.sureAddr, stuck] at hr; done)
        rename_i ad
        cases ad with
        | none => simp [Instr.loadAt, Instr.sureAddr, stuck] at hr
        | some ad => exact ⟨ad, rfl⟩
      obtain ⟨ad, hp⟩ := hp
      simp only [resOne, hp]
      rw [hp] at hr
      simpa [Instr.loadAt, Instr.sureAddr, asAddr] using hr
    · cases hx

theorem resL_sound (h : SR B Γ st a w) : ∀ (rs : List ResultVar) (xs : List PV), resL P st rs = some xs →
    ∃ vs : List Value, (rs.mapM (resOne a)).run P w = .ok vs w ∧ LR Γ w xs vs
  | [], xs, hx => by
    simp only [resL] at hx
    cases hx
    exact ⟨[], by simp, rfl⟩
  | r :: rs, xs, hx => by
    simp only [resL] at hx
    split at hx
    · rename_i x xs' h1 h2
      cases hx
      obtain ⟨v, hr, hv⟩ := result_sound (P := P) h r h1
      obtain ⟨vs, hrs, hvs⟩ := resL_sound h rs xs' h2
      refine ⟨v :: vs, ?_, ⟨v, vs, rfl, hv, hvs⟩⟩
      rw [List.mapM_cons]
      simp only [Sem.run_bind, hr, Result.andThen_ok, hrs, Sem.run_pure]
    · cases hx

theorem results_sound (h : SR B Γ st a w) (fn : Func) {xs : List PV} (hx : resL P st fn.results.toList = some xs) : ∃ v, (results fn a.tmps).run P w = .ok v w ∧ VR Γ w (oneOr xs) v := by
  obtain ⟨vs, hr, hl⟩ := resL_sound (P := P) h _ _ hx
  have hlen := LR_length hl
  refine ⟨if h : vs.toArray.size = 1 then vs.toArray[0] else .tuple vs.toArray, ?_, ?_⟩
  · rw [results_eq, Array.mapM_eq_mapM_toList]
    simp [hr]
  · cases xs with
    | nil =>
      have : vs = [] := List.eq_nil_of_length_eq_zero (by simpa using hlen)
      subst this
      simp only [oneOr, VR]
      exact ⟨[], rfl, rfl⟩
    | cons x xs =>
      cases xs with
      | nil =>
        simp only [LR] at hl
        obtain ⟨c, r, rfl, h1, rfl⟩ := hl
        simpa [oneOr] using h1
      | cons y ys =>
        simp only [oneOr, VR]
        have : ¬ vs.toArray.size = 1 := by simp at hlen ⊢; omega
        rw [dif_neg this]
        exact ⟨vs, rfl, hl⟩

theorem resA_sound (h : SR B Γ st a w) (fn : Func) {r : PV} (hx : resA P fn.results.toList st = some r) : ∃ v, (results fn a.tmps).run P w = .ok v w ∧ IR Γ.all w r v := by
  unfold resA at hx
  split at hx
  · rename_i xs hxs
    obtain ⟨v, h1, h2⟩ := results_sound (P := P) h fn hxs
    exact ⟨v, h1, seen_sound h fuel _ _ _ h2 hx⟩
  · cases hx

/-- THE CONTRACT OF A FUNCTION. -/
theorem PC.introA {g : Nat} {fn : Func} {c : Code} {args : List PV} {r : PV} {rs : List ResultVar} (hf : P.funcs[g]? = some fn) (hb : fn.body = some c) (hrs : fn.results.toList = rs) (hm : P.follows .mixedOrders = true) (hcl : callable P g = true) (hok : codeOK fn.ntmps c = true) (hN : args.length ≤ fn.ntmps)
    (h : ∀ B, BaseOK P B → B.N = fn.ntmps → AW P B c (retQ P rs r) (st0 args)) : PC P g args r := by
  subst hrs
  refine ⟨hcl, fun S w cargs hG hS hl => ?_⟩
  refine calls_of_wp hf hb (wp_mono (h ⟨fn.ntmps, fun _ => False, w, S, fun _ => none⟩ ⟨hG, fun k hk => ⟨id, hS k hk⟩, fun i h => absurd rfl h, fun k h => h.elim⟩ rfl _ _ _ (SR.start (f := g) w S hS hl hN)) ?_)
  rintro e a w' ⟨Γ', st', hsr, hq⟩
  have fin : resA P fn.results.toList st' = some r → a.defers = [] ∧ ∃ v, (results fn a.tmps).run P w' = .ok v w' ∧ ∃ cr S', Ending.returned v = .returned cr ∧ IR S' w' r cr ∧ (∀ k, S k → S' k) ∧ (∀ k, S' k → S k ∨ (w.heap.size ≤ k ∧ k < w'.heap.size)) ∧ Below w.heap.size w w' := by
    intro hq
    obtain ⟨v, h1, h2⟩ := resA_sound (P := P) hsr fn hq
    refine ⟨hsr.defers, v, h1, v, Γ'.all, rfl, h2, fun k hk => .inl (hsr.s0 k hk), ?_, hsr.keep.below⟩
    rintro k (hk | ⟨i, r, hr, hk⟩)
    · rcases hsr.sin k hk with h3 | h3
      · exact .inl h3
      · exact .inr ⟨h3, hsr.sok k hk⟩
    · obtain ⟨o1, o2, o3⟩ := hsr.own i r k hr hk
      rcases o3 with o3 | o3
      · exact .inr ⟨o3, o2⟩
      · exact o3.elim
  cases e with
  | normal => exact fin hq
  | ret => exact fin hq
  | exit id => exact hq.elim
  | goto l => exact hq.elim
  | panic ch => exact hq.elim
  | outgrown => exact hq.elim

theorem PC.intro {g : Nat} {fn : Func} {c : Code} {args : List PV} {r : PV} {rs : List ResultVar} (hf : P.funcs[g]? = some fn) (hb : fn.body = some c) (hrs : fn.results.toList = rs) (hm : P.follows .mixedOrders = true) (hcl : callable P g = true) (hok : codeOK fn.ntmps c = true) (hN : args.length ≤ fn.ntmps)
    (h : pwp P c (retQ P rs r) (st0 args)) : PC P g args r := by
  exact PC.introA hf hb hrs hm hcl hok hN (fun B hB hN' => pwp_sound hB hm c (hN' ▸ hok) _ _ h)

/-- THE CONTRACT OF A FUNCTION THAT ANSWERS A NEW ROW. -/
theorem PCF.introA {g : Nat} {fn : Func} {c : Code} {args : List PV} {e : TypeId} {sz n : Nat} {cells : List PV} {rs : List ResultVar} (hf : P.funcs[g]? = some fn) (hb : fn.body = some c) (hrs : fn.results.toList = rs) (hm : P.follows .mixedOrders = true) (hcl : callable P g = true) (hok : codeOK fn.ntmps c = true) (hN : args.length ≤ fn.ntmps)
    (hsz : 0 < sz) (hall : cells.all isCell = true) (hset : settledL cells = true) (h : ∀ B, BaseOK P B → B.N = fn.ntmps → AW P B c (retQF rs e sz n cells) (st0 args)) : PCF P g args e sz n cells := by
  subst hrs
  refine ⟨hcl, hsz, hall, fun S w cargs hG hS hl => ?_⟩
  refine calls_of_wp hf hb (wp_mono (h ⟨fn.ntmps, fun _ => False, w, S, fun _ => none⟩ ⟨hG, fun k hk => ⟨id, hS k hk⟩, fun i h => absurd rfl h, fun k h => h.elim⟩ rfl _ _ _ (SR.start (f := g) w S hS hl hN)) ?_)
  rintro en a w' ⟨Γ', st', hsr, hq⟩
  have fin : retF fn.results.toList e sz n cells st' → a.defers = [] ∧ ∃ v, (results fn a.tmps).run P w' = .ok v w' ∧ ∃ cr S' l, Ending.returned v = .returned cr ∧ w'.ownsRow w.heap.size e sz cr n l ∧ ILR S' w' cells l ∧ (∀ k, S k → S' k) ∧ (∀ k, S' k → S k ∨ (w.heap.size ≤ k ∧ k < w'.heap.size)) ∧
      (∀ k, cr.ownBlock = some k → ¬ S' k) ∧ Below w.heap.size w w' := by
    intro hq
    unfold retF at hq
    split at hq
    · rename_i t hrs
      obtain ⟨nm, hfr, hH⟩ := hq
      have hx : resL P st' fn.results.toList = some [st'.fr t] := by rw [hrs]; rfl
      obtain ⟨v, h1, h2⟩ := results_sound (P := P) hsr fn hx
      simp only [oneOr, hfr, VR] at h2
      obtain ⟨r, hr, hle, ho, hv⟩ := h2
      have hrr := hsr.res nm _ r hH hr
      obtain ⟨v', rfl, rfl⟩ := hv (by rw [RR_len hrr])
      obtain ⟨q1, e', sz', l, q2, q3, q4, q5, q6⟩ := hrr
      cases q2
      refine ⟨hsr.defers, v, h1, v, Γ'.S, l, rfl, ?_, ILR_of_settled _ _ q5 hset, hsr.s0, ?_, ?_, hsr.keep.below⟩
      · obtain ⟨o1, o2⟩ := q4
        refine ⟨o1, ?_⟩
        rcases o2 with o2 | ⟨g, cap, cur, rfl, p⟩
        · exact .inl o2
        · rcases (hsr.own nm _ g hr rfl).2.2 with h3 | h3
          · exact .inr ⟨g, cap, cur, rfl, h3, p.2⟩
          · exact h3.elim
      · intro k hk
        rcases hsr.sin k hk with h3 | h3
        · exact .inl h3
        · exact .inr ⟨h3, hsr.sok k hk⟩
      · intro k hk
        exact (hsr.own nm _ k hr hk).1
    · exact hq.elim
  cases en with
  | normal => exact fin hq
  | ret => exact fin hq
  | exit id => exact hq.elim
  | goto l => exact hq.elim
  | panic ch => exact hq.elim
  | outgrown => exact hq.elim

theorem PCF.intro {g : Nat} {fn : Func} {c : Code} {args : List PV} {e : TypeId} {sz n : Nat} {cells : List PV} {rs : List ResultVar} (hf : P.funcs[g]? = some fn) (hb : fn.body = some c) (hrs : fn.results.toList = rs) (hm : P.follows .mixedOrders = true) (hcl : callable P g = true) (hok : codeOK fn.ntmps c = true) (hN : args.length ≤ fn.ntmps)
    (hsz : 0 < sz) (hall : cells.all isCell = true) (hset : settledL cells = true) (h : pwp P c (retQF rs e sz n cells) (st0 args)) : PCF P g args e sz n cells := by
  exact PCF.introA hf hb hrs hm hcl hok hN hsz hall hset (fun B hB hN' => pwp_sound hB hm c (hN' ▸ hok) _ _ h)

theorem SR.startG {N : Nat} {Γ : Gh} {bin : List Buf} (w : World) (h : HR Γ (bufsH bin) w) {args : List PV} {cargs : List Value} (hl : LR Γ w args cargs) (hN : args.length ≤ N) :
    SR ⟨N, Γ.blocks, w, Γ.S, Γ.K⟩ Γ (st0G args bin) { tmps := cargs.toArray ++ Array.replicate (N - cargs.toArray.size) undef, defers := [] } w := by
  have hlen := LR_length hl
  refine ⟨Keep.refl _ _, rfl, by simp; omega, fun _ h => h, fun _ h => .inl h, ?_, h.sok, h.dom, h.res, ?_, h.apart, ?_, fun i r hr => ⟨r, hr, .inl rfl⟩⟩
  · intro s
    simp only [st0G]
    rcases Nat.lt_or_ge s args.length with hs | hs
    · obtain ⟨c, hc, hv⟩ := LR_get hl s args[s] (by simp [hs])
      rw [List.getD_eq_getElem?_getD, List.getElem?_eq_getElem hs, Option.getD_some]
      have hs' : s < cargs.length := by omega
      rw [Array.getD_eq_getD_getElem?, Array.getElem?_append_left (by simpa using hs')]
      simp [hc]
      exact hv
    · rw [List.getD_eq_getElem?_getD, List.getElem?_eq_none hs, Option.getD_none]
      have hs' : cargs.length ≤ s := by omega
      have : (cargs.toArray ++ Array.replicate (N - cargs.toArray.size) undef).getD s undef = undef := by
        rw [Array.getD_eq_getD_getElem?, Array.getElem?_append_right (by simpa using hs')]
        rw [Array.getElem?_replicate]
        split <;> rfl
      rw [this]
      simp [VR, IR]
  · intro i r k hr hk
    obtain ⟨o1, o2⟩ := h.own i r k hr hk
    exact ⟨o1, o2, .inr ⟨i, r, hr, hk⟩⟩
  · intro i hi
    simp only [st0G, bufsH] at hi ⊢
    have : isHole i = false := by
      rw [Bool.eq_false_iff]
      intro hh
      have := isHole_eq hh
      rw [this] at hi
      simp [hole] at hi
    simp [this]

/-- THE CONTRACT OF A FUNCTION THAT TURNS WHAT IT IS HANDED. -/
theorem GC.introA {g : Nat} {fn : Func} {c : Code} {args : List PV} {bin bout : List Buf} {r : PV} {rs : List ResultVar} (hf : P.funcs[g]? = some fn) (hb : fn.body = some c) (hrs : fn.results.toList = rs) (hm : P.follows .mixedOrders = true) (hst : Static P g args bin r bout) (hok : codeOK fn.ntmps c = true) (hN : args.length ≤ fn.ntmps)
    (h : ∀ B, BaseOK P B → B.N = fn.ntmps → AW P B c (retQG P rs bin.length r bout) (st0G args bin)) : GC P g args bin r bout := by
  subst hrs
  refine ⟨hst, fun Γ w cargs hG hhr hl => ?_⟩
  refine calls_of_wp hf hb (wp_mono (h ⟨fn.ntmps, Γ.blocks, w, Γ.S, Γ.K⟩ ⟨hG, fun k hk => ⟨fun ⟨i, q, h1, h2⟩ => (hhr.own i q k h1 h2).1 hk, hhr.sok k hk⟩, fun i h => by
    have h0 : bufsH bin i ≠ none := fun h0 => h ((hhr.dom i).2 h0)
    simp only [bufsH] at h0
    split at h0
    · rename_i hh
      have := isHole_eq hh
      rw [this]
      exact ⟨rfl, rfl⟩
    · exact absurd rfl h0, fun k ⟨i, q, h1, h2⟩ => ⟨i, by show Γ.K i ≠ none; rw [h1]; simp⟩⟩ rfl _ _ _ (SR.startG w hhr hl hN)) ?_)
  rintro en a w' ⟨Γ', st', hsr, hq⟩
  have fin : retG P fn.results.toList bin.length r bout st' → a.defers = [] ∧ ∃ v, (results fn a.tmps).run P w' = .ok v w' ∧ ∃ cr Γ', Ending.returned v = .returned cr ∧ HR Γ' (bufsH bout) w' ∧ VR Γ' w' r cr ∧ (∀ k, Γ.S k → Γ'.S k) ∧ (∀ k, Γ'.S k → Γ.S k ∨ (w.heap.size ≤ k ∧ k < w'.heap.size)) ∧
      (∀ i q, Γ.K i = some q → ∃ q', Γ'.K i = some q' ∧ (q' = q ∨ q.len < q'.len)) ∧ (∀ i q k, Γ'.K i = some q → q.block = some k → w.heap.size ≤ k ∨ Γ.blocks k) ∧ Keep Γ.blocks w w' := by
    rintro ⟨nms, xs, hlen, hnd, hin, hx, hone, hH⟩
    obtain ⟨v, h1, h2⟩ := results_sound (P := P) hsr fn hx
    have hst2 : Static P g args bout r bout := ⟨hst.hcall, by
      have hmono : ∀ (m n : Nat), m ≤ n → (∀ x, holey m x = true → holey n x = true) ∧ ∀ cs, holeyL m cs = true → holeyL n cs = true := by
        intro m n hmn
        have key : ∀ x, holey m x = true → holey n x = true := by
          intro x
          refine PV.rec (motive_1 := fun x => holey m x = true → holey n x = true) (motive_2 := fun cs => holeyL m cs = true → holeyL n cs = true) ?_ ?_ ?_ ?_ ?_ ?_ ?_ ?_ ?_ ?_ ?_ ?_ ?_ ?_ ?_ ?_ ?_ x
          all_goals first
            | (intros; rfl)
            | (intros; rename_i h; simp only [holey, Bool.and_eq_true, decide_eq_true_eq] at h ⊢; exact ⟨h.1, by omega⟩)
            | (intro cs ih h; simp only [holey] at h ⊢; exact ih h)
            | (intro g cs ih h; simp only [holey] at h ⊢; exact ih h)
            | (intro c cs h1 h2 h; rw [holeyL, Bool.and_eq_true] at h ⊢; exact ⟨h1 h.1, h2 h.2⟩)
        refine ⟨key, fun cs => ?_⟩
        induction cs with
        | nil => intro _; rfl
        | cons c cs ih => intro h; rw [holeyL, Bool.and_eq_true] at h ⊢; exact ⟨key c h.1, ih h.2⟩
      exact (hmono _ _ hst.hle).2 _ hst.hargs, hst.hbout, Nat.le_refl _, hst.hr, hst.hbout⟩
    obtain ⟨hhr', hfit⟩ := hsr.hand hst2 hlen hnd (ν := nameAt nms) (fun j hj => rfl) hH
    refine ⟨hsr.defers, v, h1, v, Γ'.holes bout.length (nameAt nms), rfl, hhr', ?_, hsr.s0, ?_, ?_, ?_, hsr.keep⟩
    · rw [hone] at h2
      exact (VR_ren hfit r v hst.hr).2 h2
    · intro k hk
      rcases hsr.sin k hk with h3 | h3
      · exact .inl h3
      · exact .inr ⟨h3, hsr.sok k hk⟩
    · intro i q hq
      obtain ⟨q', h3, h4⟩ := hsr.evo i q hq
      have hi : isHole i = true ∧ i.2.2 < bin.length := by
        have : bufsH bin i ≠ none := by
          intro h0
          rw [(hhr.dom i).2 h0] at hq; cases hq
        simp only [bufsH] at this
        split at this
        · rename_i hh
          refine ⟨hh, ?_⟩
          rcases Nat.lt_or_ge i.2.2 bin.length with h5 | h5
          · exact h5
          · simp [h5] at this
        · exact absurd rfl this
      refine ⟨q', ?_, h4⟩
      have h5 : i.2.2 < bout.length := Nat.lt_of_lt_of_le hi.2 hst.hle
      simp only [Gh.holes, hi.1, h5, decide_true, Bool.and_true, if_true]
      rw [hin _ hi.2, ← isHole_eq hi.1]
      exact h3
    · intro i q k hq hk
      obtain ⟨h3, h4, h5⟩ := Gh.holes_some hq
      exact (hsr.own _ q k h5 hk).2.2
  cases en with
  | normal => exact fin hq
  | ret => exact fin hq
  | exit id => exact hq.elim
  | goto l => exact hq.elim
  | panic ch => exact hq.elim
  | outgrown => exact hq.elim

theorem GC.intro {g : Nat} {fn : Func} {c : Code} {args : List PV} {bin bout : List Buf} {r : PV} {rs : List ResultVar} (hf : P.funcs[g]? = some fn) (hb : fn.body = some c) (hrs : fn.results.toList = rs) (hm : P.follows .mixedOrders = true) (hst : Static P g args bin r bout) (hok : codeOK fn.ntmps c = true) (hN : args.length ≤ fn.ntmps)
    (h : pwp P c (retQG P rs bin.length r bout) (st0G args bin)) : GC P g args bin r bout := by
  exact GC.introA hf hb hrs hm hst hok hN (fun B hB hN' => pwp_sound hB hm c (hN' ▸ hok) _ _ h)

end
end Go.Proofs.YthcmcjkljjfccaaGreatDoor.Abs
set_option linter.unusedVariables false
namespace Go.Proofs.YthcmcjkljjfccaaGreatDoor.Abs
open Go Go.RowKit

/-! ## How the transformer is reckoned -/

def lgAdd (lg : Option Log) (rd wr : List Nm) : Option Log :=
  match lg with
  | some l => some (l ++ [(rd, wr)])
  | none => none
def lgEnd (ops : Array Oper) (lg : Option Log) (K : Prop) : Prop :=
  match lg with
  | some l => logOK (masks ops.toList) l ∧ K
  | none => K
def pgo (P : Program) [Begin P] (τ : Nat) (ops : Array Oper) : List Oper → St → Option Log → (St → Prop) → Prop
  | [], st, lg, K => lgEnd ops lg (K st)
  | o :: os, st, lg, K => stepK P τ ops o st fun e => pgo P τ ops os (st.app o.dst e) (lgAdd lg e.rd (e.wr.map (·.1))) K

/-- What follows an operation. -/
def goK (P : Program) [Begin P] (τ : Nat) (ops : Array Oper) (d : Option Nat) (os : List Oper) (st : St) (lg : Option Log) (K : St → Prop) (e : Eff) : Prop :=
  pgo P τ ops os (st.app d e) (lgAdd lg e.rd (e.wr.map (·.1))) K
/-- What follows a piece of code. -/
inductive Kont where
  | nil
  | code (c : Code) (k : Kont)
  | upc (c : Code) (k : Kont)
  | block (id : Nat) (k : Kont)
def kQ (P : Program) [Begin P] (Q : Exit → St → Prop) : Kont → Exit → St → Prop
  | .nil, e, st => Q e st
  | .upc c k, e, st => nextE (Up P fun st => pwp P c (kQ P Q k) st) (kQ P Q k) e st
  | .code c k, e, st => nextE (fun st => pwp P c (kQ P Q k) st) (kQ P Q k) e st
  | .block id k, e, st => blockE id (kQ P Q k) e st
/-- A fork. -/
def forkK (P : Program) [Begin P] (v : PV) (a b : Code) (Q : Exit → St → Prop) (st : St) : Prop := condK v (pwp P a Q st) (pwp P b Q st)
def gateK (P : Program) [Begin P] (τ : Nat) (g : Option Bool) (o : Oper) (st : St) (K : Eff → Prop) : Prop := guardK g (opK P τ o st K) (K ⟨.undef, [], []⟩)
/-- What follows a fork, a loop or a block. -/
def UpC (P : Program) [Begin P] (c : Code) (Q : Exit → St → Prop) (st : St) : Prop := Up P (fun st => pwp P c Q st) st
def loopG (P : Program) [Begin P] (c : Code) (Q : Exit → St → Prop) (st : St) : Prop := loopK P (fun Q st => pwp P c Q st) Q st

/-- What is known of an effect. -/
def evE (x : Option Eff) (f : Eff → Prop) : Prop :=
  match x with
  | some e => f e
  | none => False
def evP (x : Option PV) (f : Eff → Prop) : Prop :=
  match x with
  | some v => f ⟨v, [], []⟩
  | none => False

def callV (P : Program) [Begin P] (τ : Nat) (d : Option Nat) (v : PV) (args : List PV) (st : St) (K : Eff → Prop) : Prop :=
  match v with
  | .fn g caps => CallS P τ d g (args ++ caps) st.H K
  | _ => False

def evAlloc (i : Option TI) (nm : Nm) : Option Eff :=
  match i with
  | some i => if i.zero.all isCell = true then some ⟨.loc nm 0 0, [], [(nm, ⟨none, 0, i.zero⟩)]⟩ else none
  | none => none
def evBox (x : PV) (nm : Nm) : Option Eff :=
  if x.cells.all isCell = true then some ⟨.loc nm 0 0, [], [(nm, ⟨none, 0, x.cells⟩)]⟩ else none
def evPick (c x y : PV) : Option PV :=
  match c with
  | .bool q => some (bif q then x else y)
  | _ => none
def evBuild (i : Option TI) (parts : List (Nat × PV)) : Option PV :=
  match i with
  | some i => match i.k with
    | .strct fs => if i.zero.all isCell = true then (fillL (fs[·]?) i.zero parts).map .agg else none
    | _ => none
  | none => none
def elemTI (P : Program) [Begin P] (i : Option TI) : Option (TypeId × TI) :=
  match i with
  | some i => match i.k with
    | .slice e => match TI.of P e with
      | some j => some (e, j)
      | none => none
    | _ => none
  | none => none
def evBuildSlice (j : Option (TypeId × TI)) (len : Nat) (parts : List (Nat × PV)) (nm : Nm) : Option Eff :=
  match j with
  | some (e, j) => if 0 < j.size ∧ j.zero.length = j.size ∧ j.zero.all isCell = true ∧ len * j.size ≤ 16777216 then
      (fillL (fun q => some (q * j.size, j.size)) (List.replicate len j.zero).flatten parts).map fun cs => ⟨.ref nm len, [], [(nm, ⟨some (e, j.size), len, cs⟩)]⟩ else none
  | none => none
def evLoadT (i : Option TI) (H : Nm → Option Buf) (x : PV) : Option Eff :=
  match i with
  | some i => evLoad i H x
  | none => none
def evStoreT (i : Option TI) (H : Nm → Option Buf) (y x : PV) : Option Eff :=
  match i with
  | some i => evStore i H y x
  | none => none
def evNilCheck (H : Nm → Option Buf) (x : PV) : Option Eff :=
  match x with
  | .loc nm len off => if live H nm len = true then some ⟨.loc nm len off, [nm], []⟩ else none
  | .ptr cs => some ⟨.ptr cs, [], []⟩
  | _ => none
def evBinT (i : Option TI) (c : Bool) (op : BinOp) (x y : PV) : Option PV :=
  match i with
  | some i => evBin i.k c op x y
  | none => none
def evConvert (P : Program) [Begin P] (i s : Option TI) (sid : TypeId) (H : Nm → Option Buf) (x : PV) : Option Eff :=
  match i, x with
  | some i, .int _ n => match i.k, s with
    | .int k, some _ => some ⟨.int k (k.wrap n), [], []⟩
    | _, _ => none
  | some i, y => if isStr y = true then evConvS P i sid y else match i.k, elemTI P s with
    | .str, some (_, q) => match q.k with
      | .int .u8 => match rowOf H 1 y with
        | some (n, cs, rd) => (bytesOf cs).map fun l => ⟨.str l, rd, []⟩
        | none => none
      | _ => none
    | _, _ => none
  | _, _ => none
def evMakeSlice (j : Option (TypeId × TI)) (l c : PV) (nm : Nm) : Option Eff :=
  match j, l, c with
  | some (e, j), .int _ n, .int _ m =>
    if (n = m ∨ n = 0) ∧ 0 ≤ n ∧ 0 ≤ m ∧ m * j.bytes ≤ 140737488355328 ∧ 0 < j.bytes ∧ 0 < j.size ∧ j.zero.length = j.size ∧ j.zero.all isCell = true then
      some ⟨.ref nm n.toNat, [], [(nm, ⟨some (e, j.size), n.toNat, (List.replicate n.toNat j.zero).flatten⟩)]⟩ else none
  | _, _, _ => none
def evSliceT (P : Program) [Begin P] (i : Option TI) (x : PV) (lo hi : Option PV) : Option PV :=
  match i with
  | some i => match i.k with
    | .slice e => match TI.of P e with
      | some j => if isStr x = true then none else evSlice j.size lo hi x
      | none => none
    | .str => if isStr x = true then evSlice 0 lo hi x else none
    | _ => none
  | none => none
def evFieldT (i : Option TI) (f : Nat) (H : Nm → Option Buf) (x : PV) : Option Eff :=
  match i with
  | some i => evField i f H x
  | none => none
def evIndexAddrT (j : Option (TypeId × TI)) (H : Nm → Option Buf) (x y : PV) : Option Eff :=
  match j with
  | some (_, j) => evIndexAddr j.size H x y
  | none => none
def evIndexT (i : Option TI) (x y : PV) : Option PV :=
  match i with
  | some i => match i.k with
    | .str => evIndex x y
    | _ => none
  | none => none
def evExtract (x : PV) (j : Nat) : Option PV :=
  match x with
  | .tup vs => vs[j]?
  | _ => none
def evLen (i : Option TI) (H : Nm → Option Buf) (x : PV) : Option Eff :=
  match i, x with
  | some i, .str s => match i.k with | .str => some ⟨.int .i64 s.length, [], []⟩ | _ => none
  | some i, .sl n cs => match i.k with | .slice _ => some ⟨.int .i64 n, [], []⟩ | _ => none
  | some i, .nils => match i.k with | .slice _ => some ⟨.int .i64 0, [], []⟩ | _ => none
  | some i, .ref nm n => match i.k, H nm with
    | .slice _, some b => if b.n = n then some ⟨.int .i64 n, [nm], []⟩ else none
    | _, _ => none
  | _, _ => none
def evAppend (j : Option (TypeId × TI)) (H : Nm → Option Buf) (s x : PV) (nw : Nm) : Option Eff :=
  match j with
  | some (e, j) => if 0 < j.size ∧ 0 < j.bytes ∧ j.zero.length = j.size ∧ j.zero.all isCell = true then
      match s with
      | .ref nm n => match H nm, rowOf H j.size x with
        | some b, some (m, cs, rd) => if b.n = n ∧ b.row = some (e, j.size) ∧ b.cells.length = n * j.size ∧ (n + m) * j.bytes ≤ 140737488355328 then
            some ⟨.ref nm (n + m), nm :: rd, [(nm, ⟨some (e, j.size), n + m, b.cells ++ cs⟩)]⟩ else none
        | _, _ => none
      | .nils => match rowOf H j.size x with
        | some (m, cs, rd) => if m * j.bytes ≤ 140737488355328 then some ⟨.ref nw m, rd, [(nw, ⟨some (e, j.size), m, cs⟩)]⟩ else none
        | none => none
      | _ => none
    else none
  | none => none

section
variable {P : Program} [Begin P] {τ : Nat} {ops : Array Oper} {st : St} {K : Eff → Prop} {d : Option Nat} {k : Nat} {ty : TypeId} {pos : String} {af : Array Edge} {g : Option (Nat × Bool)}

theorem pops_pgo : ∀ (os : List Oper) (st : St) (K : St → Prop), pops P τ ops os st K = pgo P τ ops os st none K
  | [], st, K => rfl
  | o :: os, st, K => by
    simp only [pops, pgo]
    congr
    funext e
    exact pops_pgo os _ K
theorem pdraw_pgo : ∀ (os : List Oper) (st : St) (l : Log) (K : St → Prop), pdraw P τ ops os st l K = pgo P τ ops os st (some l) K
  | [], st, l, K => rfl
  | o :: os, st, l, K => by
    simp only [pdraw, pgo]
    congr
    funext e
    exact pdraw_pgo os _ _ K

theorem pgo_nil (lg : Option Log) (K : St → Prop) : pgo P τ ops [] st lg K = lgEnd ops lg (K st) := rfl
theorem pgo_cons (o : Oper) (os : List Oper) (lg : Option Log) (K : St → Prop) : pgo P τ ops (o :: os) st lg K = stepK P τ ops o st (goK P τ ops o.dst os st lg K) := rfl
theorem goK_app (os : List Oper) (lg : Option Log) (K : St → Prop) (v : PV) (rd : List Nm) (wr : List (Nm × Buf)) : goK P τ ops d os st lg K ⟨v, rd, wr⟩ = pgo P τ ops os (st.app d ⟨v, rd, wr⟩) (lgAdd lg rd (wr.map (·.1))) K := rfl
theorem pwp_region (id : Nat) (Q : Exit → St → Prop) : pwp P (.region id ops false) Q st = pgo P st.t ops ops.toList { st with t := st.t + 1 } none (Q .normal) := by
  simp only [pwp, pops_pgo]
theorem pwp_draw (id : Nat) (Q : Exit → St → Prop) : pwp P (.region id ops true) Q st = pgo P st.t ops ops.toList { st with t := st.t + 1 } (some []) (Q .normal) := by
  simp only [pwp, pdraw_pgo]
theorem pwp_skip (Q : Exit → St → Prop) : pwp P .skip Q st = Q .normal st := rfl
theorem pwp_ret (Q : Exit → St → Prop) : pwp P .ret Q st = Q .ret st := rfl
theorem pwp_exit (id : Nat) (Q : Exit → St → Prop) : pwp P (.exit id) Q st = Q (.exit id) st := rfl
variable {Q : Exit → St → Prop} {kk : Kont}
theorem pwp_start (c : Code) : pwp P c Q st = pwp P c (kQ P Q .nil) st := by
  have : kQ P Q .nil = Q := by funext e st; rfl
  rw [this]
theorem pwp_seq_r (id : Nat) (ops : Array Oper) (d : Bool) (b : Code) : pwp P (.seq (.region id ops d) b) (kQ P Q kk) st = pwp P (.region id ops d) (kQ P Q (.code b kk)) st := by
  have : kQ P Q (.code b kk) = nextE (fun st => pwp P b (kQ P Q kk) st) (kQ P Q kk) := by funext e st; rfl
  rw [this]; rw [pwp]; rfl
theorem pwp_seq_u (a b : Code) (h : isReg a = false) : pwp P (.seq a b) (kQ P Q kk) st = pwp P a (kQ P Q (.upc b kk)) st := by
  have : kQ P Q (.upc b kk) = nextE (Up P fun st => pwp P b (kQ P Q kk) st) (kQ P Q kk) := by funext e st; rfl
  rw [this, pwp, h]; rfl
theorem pwp_seq_c (c : Operand) (x y b : Code) : pwp P (.seq (.cond c x y) b) (kQ P Q kk) st = pwp P (.cond c x y) (kQ P Q (.upc b kk)) st := pwp_seq_u _ _ rfl
theorem pwp_seq_l (c b : Code) : pwp P (.seq (.loop c) b) (kQ P Q kk) st = pwp P (.loop c) (kQ P Q (.upc b kk)) st := pwp_seq_u _ _ rfl
theorem pwp_seq_b (id : Nat) (c b : Code) : pwp P (.seq (.block id c) b) (kQ P Q kk) st = pwp P (.block id c) (kQ P Q (.upc b kk)) st := pwp_seq_u _ _ rfl
theorem pwp_seq_s (a b c : Code) : pwp P (.seq (.seq a b) c) (kQ P Q kk) st = pwp P (.seq a b) (kQ P Q (.upc c kk)) st := pwp_seq_u _ _ rfl
theorem pwp_seq_k (c : Code) : pwp P (.seq .skip c) (kQ P Q kk) st = pwp P .skip (kQ P Q (.upc c kk)) st := pwp_seq_u _ _ rfl
theorem pwp_seq_e (id : Nat) (c : Code) : pwp P (.seq (.exit id) c) (kQ P Q kk) st = pwp P (.exit id) (kQ P Q (.upc c kk)) st := pwp_seq_u _ _ rfl
theorem pwp_seq_t (c : Code) : pwp P (.seq .ret c) (kQ P Q kk) st = pwp P .ret (kQ P Q (.upc c kk)) st := pwp_seq_u _ _ rfl
theorem kQ_un (c : Code) : kQ P Q (.upc c kk) .normal st = UpC P c (kQ P Q kk) st := rfl
theorem kQ_ur (c : Code) : kQ P Q (.upc c kk) .ret st = kQ P Q kk .ret st := rfl
theorem kQ_ue (c : Code) (j : Nat) : kQ P Q (.upc c kk) (.exit j) st = kQ P Q kk (.exit j) st := rfl
theorem Up.here {J : St → Prop} (h : J st) : Up P J st := fun _ Γ _ _ _ hsr => ⟨st, Γ, hsr, h⟩
theorem UpC.here {c : Code} {Q : Exit → St → Prop} (h : pwp P c Q st) : UpC P c Q st := Up.here h
theorem pwp_cond (c : Operand) (a b : Code) (Q : Exit → St → Prop) : pwp P (.cond c a b) Q st = forkK P (st.op c) a b Q st := rfl
theorem pwp_block (id : Nat) (c : Code) : pwp P (.block id c) (kQ P Q kk) st = pwp P c (kQ P Q (.block id kk)) st := by
  have : kQ P Q (.block id kk) = blockE id (kQ P Q kk) := by funext e st; rfl
  rw [this]; rfl
theorem pwp_loop (c : Code) (Q : Exit → St → Prop) : pwp P (.loop c) Q st = loopG P c Q st := rfl
theorem kQ_nil (e : Exit) : kQ P Q .nil e st = Q e st := rfl
theorem kQ_cn (c : Code) : kQ P Q (.code c kk) .normal st = pwp P c (kQ P Q kk) st := rfl
theorem kQ_cr (c : Code) : kQ P Q (.code c kk) .ret st = kQ P Q kk .ret st := rfl
theorem kQ_ce (c : Code) (j : Nat) : kQ P Q (.code c kk) (.exit j) st = kQ P Q kk (.exit j) st := rfl
theorem kQ_bn (id : Nat) : kQ P Q (.block id kk) .normal st = kQ P Q kk .normal st := rfl
theorem kQ_br (id : Nat) : kQ P Q (.block id kk) .ret st = kQ P Q kk .ret st := rfl
theorem kQ_be (id j : Nat) : kQ P Q (.block id kk) (.exit j) st = if j = id then kQ P Q kk .normal st else kQ P Q kk (.exit j) st := rfl
theorem forkK_t (a b : Code) (Q : Exit → St → Prop) : forkK P (.bool true) a b Q st = pwp P a Q st := by simp [forkK, condK]
theorem forkK_f (a b : Code) (Q : Exit → St → Prop) : forkK P (.bool false) a b Q st = pwp P b Q st := by simp [forkK, condK]
theorem forkK_i {b : Bool} {x y : Code} {Q : Exit → St → Prop} (h1 : b = true → pwp P x Q st) (h2 : b = false → pwp P y Q st) : forkK P (.bool b) x y Q st := ⟨h1, h2⟩
theorem gateK_t (o : Oper) : gateK P τ (some true) o st K = opK P τ o st K := by simp [gateK, guardK]
theorem gateK_f (o : Oper) : gateK P τ (some false) o st K = K ⟨.undef, [], []⟩ := by simp [gateK, guardK]
theorem gateK_i {b : Bool} {o : Oper} (h1 : b = true → opK P τ o st K) (h2 : b = false → K ⟨.undef, [], []⟩) : gateK P τ (some b) o st K := ⟨h1, h2⟩
/-- A loop: an invariant that bears a number, which every round lowers. What follows the round stands behind a name. -/
theorem loopG_i {c : Code} (I : Nat → St → Prop) (n : Nat) (h0 : Up P (I n) st)
    (h : ∀ (Q' : Exit → St → Prop) (n : Nat) (st : St), I n st → (∀ st', Up P (fun s => ∃ m, m < n ∧ I m s) st' → Q' .normal st') → (∀ st', Q .ret st' → Q' .ret st') → (∀ j st', Q (.exit j) st' → Q' (.exit j) st') → pwp P c (kQ P Q' .nil) st) : loopG P c Q st := by
  refine ⟨I, n, h0, fun n st hI => ?_⟩
  show pwp P c _ st
  rw [pwp_start]
  exact h _ n st hI (fun st' hI' => hI') (fun _ h => h) (fun _ _ h => h)

theorem stepK_none (op : Op) : stepK P τ ops ⟨d, op, ty, pos, af, none⟩ st K = opK P τ ⟨d, op, ty, pos, af, none⟩ st K := by
  simp [stepK, guardA, guardK, opK, ev]
/-- Where the j-th operation puts what it makes. -/
def dstAt (ops : Array Oper) (j : Nat) : Option Nat := (ops[j]?).bind (·.dst)
theorem dstAt_l (l : List Oper) (j : Nat) : dstAt l.toArray j = (l[j]?).bind (·.dst) := by simp [dstAt]
def guardS (d : Option Nat) (want : Bool) (st : St) : Option Bool :=
  match d with
  | some d => match st.fr d with
    | .bool b => some (bif want then b else !b)
    | .undef => some false
    | _ => none
  | none => some false
theorem stepK_some (op : Op) (j : Nat) (want : Bool) : stepK P τ ops ⟨d, op, ty, pos, af, some (j, want)⟩ st K = gateK P τ (guardS (dstAt ops j) want st) ⟨d, op, ty, pos, af, some (j, want)⟩ st K := by
  have : guardA ops ⟨d, op, ty, pos, af, some (j, want)⟩ st = guardS (dstAt ops j) want st := by
    simp only [guardA, guardS, dstAt]
    cases (ops[j]?).bind (·.dst) with
    | none => rfl
    | some k =>
      simp only
      cases st.fr k <;> simp only []
      rename_i b
      cases b <;> cases want <;> rfl
  simp only [stepK, this]
  rfl
theorem evE_some (e : Eff) (f : Eff → Prop) : evE (some e) f = f e := rfl
theorem evP_some (v : PV) (f : Eff → Prop) : evP (some v) f = f ⟨v, [], []⟩ := rfl

variable {x y z : Operand} {t s : TypeId}
theorem opK_move : opK P τ ⟨d, .move x, ty, pos, af, g⟩ st K = K ⟨st.op x, [], []⟩ := rfl
theorem opK_assign : opK P τ ⟨d, .assign x, ty, pos, af, g⟩ st K = K ⟨st.op x, [], []⟩ := rfl
theorem opK_pick : opK P τ ⟨d, .pick x y z, ty, pos, af, g⟩ st K = evP (evPick (st.op x) (st.op y) (st.op z)) K := by
  simp only [opK, ev, evP, evPick]
  cases st.op x <;> rfl
theorem opK_alloc : opK P τ ⟨some k, .alloc t, ty, pos, af, g⟩ st K = evE (evAlloc (TI.of P t) (τ, k, 0)) K := by
  simp only [opK, ev, evE, evAlloc]
  cases TI.of P t <;> rfl
theorem opK_box : opK P τ ⟨some k, .box t x, ty, pos, af, g⟩ st K = evE (evBox (st.op x) (τ, k, 0)) K := rfl
theorem opK_build (parts : Array (Nat × Operand)) : opK P τ ⟨d, .build t parts, ty, pos, af, g⟩ st K = evP (evBuild (TI.of P t) (parts.toList.map fun p => (p.1, st.op p.2))) K := by
  simp only [opK, ev, evP, evBuild]
  cases TI.of P t with
  | none => rfl
  | some i =>
    simp only
    cases i.k <;> simp only
    by_cases hz : i.zero.all isCell = true
    · rw [if_pos hz, if_pos hz]
      cases fillL (_ : Nat → Option (Nat × Nat)) i.zero (parts.toList.map fun p => (p.1, st.op p.2)) <;> rfl
    · rw [if_neg hz, if_neg hz]
theorem opK_buildSlice (len : Nat) (parts : Array (Nat × Operand)) : opK P τ ⟨some k, .buildSlice t len parts, ty, pos, af, g⟩ st K = evE (evBuildSlice (elemTI P (TI.of P t)) len (parts.toList.map fun p => (p.1, st.op p.2)) (τ, k, 0)) K := by
  simp only [opK, ev, evE, evBuildSlice, elemTI]
  cases TI.of P t with
  | none => rfl
  | some i =>
    simp only
    cases i.k <;> simp only
    rename_i e
    cases TI.of P e <;> rfl
theorem opK_load : opK P τ ⟨d, .load t x, ty, pos, af, g⟩ st K = evE (evLoadT (TI.of P t) st.H (st.op x)) K := rfl
theorem opK_store : opK P τ ⟨d, .store t x y, ty, pos, af, g⟩ st K = evE (evStoreT (TI.of P t) st.H (st.op y) (st.op x)) K := rfl
theorem opK_nilCheck : opK P τ ⟨d, .nilCheck x, ty, pos, af, g⟩ st K = evE (evNilCheck st.H (st.op x)) K := rfl
theorem opK_binOp (op : BinOp) (yt : TypeId) : opK P τ ⟨d, .binOp op t x y yt, ty, pos, af, g⟩ st K = evP (evBinT (TI.of P t) (isConst x || isConst y) op (st.op x) (st.op y)) K := by
  simp only [opK, ev, evP, evBinT]
  cases TI.of P t with
  | none => rfl
  | some i =>
    simp only
    cases evBin i.k (isConst x || isConst y) op (st.op x) (st.op y) <;> rfl
theorem opK_unOp (op : UnOp) : opK P τ ⟨d, .unOp op t x, ty, pos, af, g⟩ st K = evP (evUn op (st.op x)) K := by
  simp only [opK, ev, evP]
  cases evUn op (st.op x) <;> rfl
theorem opK_convert : opK P τ ⟨d, .convert s t x, ty, pos, af, g⟩ st K = evE (evConvert P (TI.of P t) (TI.of P s) s st.H (st.op x)) K := by
  simp only [opK, ev, evE, evConvert, elemTI]
  cases TI.of P t with
  | none => rfl
  | some i =>
    cases TI.of P s with
    | none =>
      cases st.op x <;> simp only [isStr, Bool.false_eq_true, if_false, if_true] <;> (try rfl) <;> (try cases i.k <;> rfl)
    | some j =>
      cases hx : st.op x <;> simp only [isStr, Bool.false_eq_true, if_false, if_true] <;> (try rfl) <;> cases i.k <;> simp only [Option.map_some] <;> (try rfl) <;> cases j.k <;> simp only [] <;> try rfl
      all_goals
        rename_i e
        cases TI.of P e <;> simp only [] <;> try rfl
theorem opK_makeFunc (f : Nat) (first captured : Array Operand) : opK P τ ⟨d, .makeFunc (.func f) first captured, ty, pos, af, g⟩ st K = evP (if first.size = 0 then some (.fn f (captured.toList.map st.op)) else none) K := by
  simp only [opK, ev, evP]
  by_cases hz : first.size = 0
  · rw [if_pos hz, if_pos hz]; rfl
  · rw [if_neg hz, if_neg hz]
theorem opK_makeSlice : opK P τ ⟨some k, .makeSlice t x y, ty, pos, af, g⟩ st K = evE (evMakeSlice (elemTI P (TI.of P t)) (st.op x) (st.op y) (τ, k, 0)) K := by
  simp only [opK, ev, evE, evMakeSlice, elemTI]
  cases TI.of P t with
  | none => rfl
  | some i =>
    cases st.op x <;> simp only [] <;> first | (cases i.k <;> simp only [] <;> (try rfl) <;> (rename_i e; cases TI.of P e <;> rfl)) | skip
    cases st.op y <;> simp only [] <;> (cases i.k <;> simp only [] <;> (try rfl) <;> (rename_i e; cases TI.of P e <;> rfl))
theorem opK_slice (lo hi : Option Operand) : opK P τ ⟨d, .slice t x lo hi none, ty, pos, af, g⟩ st K = evP (evSliceT P (TI.of P t) (st.op x) (lo.map st.op) (hi.map st.op)) K := by
  simp only [opK, ev, evP, evSliceT]
  cases TI.of P t with
  | none => rfl
  | some i =>
    simp only
    cases i.k <;> simp only []
    · by_cases hz : isStr (st.op x) = true
      · rw [if_pos hz, if_pos hz]
        cases evSlice 0 (lo.map st.op) (hi.map st.op) (st.op x) <;> rfl
      · rw [if_neg hz, if_neg hz]
    · rename_i e
      cases TI.of P e with
      | none => rfl
      | some j =>
        simp only
        by_cases hz : isStr (st.op x) = true
        · rw [if_pos hz, if_pos hz]
        · rw [if_neg hz, if_neg hz]
          cases evSlice j.size (lo.map st.op) (hi.map st.op) (st.op x) <;> rfl
theorem opK_fieldAddr (f : Nat) : opK P τ ⟨d, .fieldAddr t x f, ty, pos, af, g⟩ st K = evE (evFieldT (TI.of P t) f st.H (st.op x)) K := rfl
theorem opK_indexAddr : opK P τ ⟨d, .indexAddr t x y, ty, pos, af, g⟩ st K = evE (evIndexAddrT (elemTI P (TI.of P t)) st.H (st.op x) (st.op y)) K := by
  simp only [opK, ev, evE, evIndexAddrT, elemTI]
  cases TI.of P t with
  | none => rfl
  | some i =>
    simp only
    cases i.k <;> simp only []
    rename_i e
    cases TI.of P e <;> rfl
theorem opK_index : opK P τ ⟨d, .index t x y, ty, pos, af, g⟩ st K = evP (evIndexT (TI.of P t) (st.op x) (st.op y)) K := by
  simp only [opK, ev, evP, evIndexT]
  cases TI.of P t with
  | none => rfl
  | some i =>
    simp only
    cases i.k <;> simp only []
    cases evIndex (st.op x) (st.op y) <;> rfl
theorem opK_extract (j : Nat) : opK P τ ⟨d, .extract x j, ty, pos, af, g⟩ st K = evP (evExtract (st.op x) j) K := by
  simp only [opK, ev, evP, evExtract]
  cases st.op x <;> simp only []
  rename_i vs
  cases vs[j]? <;> rfl
theorem opK_call (f : Operand) (args : Array Operand) (ats : Array TypeId) : opK P τ ⟨d, .call ⟨.value f, args, ats⟩, ty, pos, af, g⟩ st K = callV P τ d (st.op f) (args.toList.map st.op) st K := by
  simp only [opK, calleeOf, callV]
  cases st.op f <;> rfl
theorem opK_len (t : TypeId) : opK P τ ⟨d, .call ⟨.builtin .len, #[x], #[t]⟩, ty, pos, af, g⟩ st K = evE (evLen (TI.of P t) st.H (st.op x)) K := by
  simp only [opK, ev, evE, evLen]
  have e1 : (#[t][0]?).bind (TI.of P) = TI.of P t := rfl
  simp only [e1]
  cases TI.of P t with
  | none => rfl
  | some i =>
    cases st.op x <;> (try simp only []) <;> cases i.k <;> rfl
theorem opK_append (t : TypeId) : opK P τ ⟨some k, .call ⟨.builtin .append, #[x, y], #[t, t]⟩, ty, pos, af, g⟩ st K = evE (evAppend (elemTI P (TI.of P t)) st.H (st.op x) (st.op y) (τ, k, 0)) K := by
  simp only [opK, ev, evE, evAppend, elemTI]
  cases TI.of P t with
  | none => rfl
  | some i =>
    simp only
    cases i.k <;> simp only []
    rename_i e
    cases TI.of P e with
    | none => rfl
    | some j =>
      simp only [true_and]
      rfl

theorem callV_fn (g : Nat) (caps args : List PV) : callV P τ d (.fn g caps) args st K = CallS P τ d g (args ++ caps) st.H K := rfl

theorem seen_all {H : Nm → Option Buf} (k : Nat) (x : PV) (h : canon x = true) : Abs.seen H k x = some x ∧ names H k x = [] := by
  cases k with
  | zero => simp [Abs.seen, names, h]
  | succ k => cases x <;> first | (simp [canon] at h; done) | (simp [Abs.seen, names, canon]; done) | simp [Abs.seen, names, h]
theorem seenL_all {H : Nm → Option Buf} (k : Nat) : ∀ (cs : List PV), canonL cs = true → seenL H k cs = some cs ∧ namesL H k cs = []
  | [], _ => by simp [seenL, namesL]
  | c :: cs, h => by
    rw [canonL, Bool.and_eq_true] at h
    obtain ⟨h1, h2⟩ := seenL_all (H := H) k cs h.2
    obtain ⟨h3, h4⟩ := seen_all (H := H) k c h.1
    simp [seenL, namesL, h1, h2, h3, h4]

section
variable {H : Nm → Option Buf}
theorem CallS.pc {g : Nat} {args ys : List PV} {r : PV} (h : PC P g ys r) (hs : seenL H fuel args = some ys) (hb : flat r = true) (hk : K ⟨r, namesL H fuel args, []⟩) : CallS P τ d g args H K :=
  .inl ⟨ys, hs, .inl ⟨r, h, .inr hb, hk⟩⟩
/-- Nothing of the caller's own is handed. -/
theorem CallS.pcs {g : Nat} {args : List PV} {r : PV} (h : PC P g args r) (hs : canonL args = true) (hk : K ⟨r, [], []⟩) : CallS P τ d g args H K :=
  .inl ⟨args, (seenL_all _ _ hs).1, .inl ⟨r, h, .inl (canonL_settled _ hs), by rw [(seenL_all _ _ hs).2]; exact hk⟩⟩
theorem CallS.pcf {g : Nat} {args ys : List PV} {el : TypeId} {sz n : Nat} {cells : List PV} (h : PCF P g ys el sz n cells) (hs : seenL H fuel args = some ys) (hb : flatL cells = true) (hk : K ⟨.ref (τ, k, 0) n, namesL H fuel args, [((τ, k, 0), ⟨some (el, sz), n, cells⟩)]⟩) : CallS P τ (some k) g args H K :=
  .inl ⟨ys, hs, .inr (.inl ⟨k, el, sz, n, cells, rfl, h, .inr hb, hk⟩)⟩
theorem CallS.pcfs {g : Nat} {args : List PV} {el : TypeId} {sz n : Nat} {cells : List PV} (h : PCF P g args el sz n cells) (hs : canonL args = true) (hk : K ⟨.ref (τ, k, 0) n, [], [((τ, k, 0), ⟨some (el, sz), n, cells⟩)]⟩) : CallS P τ (some k) g args H K :=
  .inl ⟨args, (seenL_all _ _ hs).1, .inr (.inl ⟨k, el, sz, n, cells, rfl, h, .inl (canonL_settled _ hs), by rw [(seenL_all _ _ hs).2]; exact hk⟩)⟩
/-- A call, all that is handed seen through. -/
theorem CallS.see {g : Nat} {args ys : List PV} {r : PV} (h : PC P g ys r) (hs : seenL H fuel args = some ys) (hb : (settledL args || flat r) = true) (hk : K ⟨r, namesL H fuel args, []⟩) : CallS P τ d g args H K :=
  .inl ⟨ys, hs, .inl ⟨r, h, by simpa using hb, hk⟩⟩
theorem CallS.seef {g : Nat} {args ys : List PV} {el : TypeId} {sz n : Nat} {cells : List PV} (h : PCF P g ys el sz n cells) (hs : seenL H fuel args = some ys) (hb : (settledL args || flatL cells) = true) (hk : K ⟨.ref (τ, k, 0) n, namesL H fuel args, [((τ, k, 0), ⟨some (el, sz), n, cells⟩)]⟩) : CallS P τ (some k) g args H K :=
  .inl ⟨ys, hs, .inr (.inl ⟨k, el, sz, n, cells, rfl, h, by simpa using hb, hk⟩)⟩
theorem CallS.seeg {g : Nat} {args ys : List PV} {r : PV} {bout : List Buf} (h : GC P g ys [] r bout) (hs : seenL H fuel args = some ys) (hb : (settledL args || (flatH r && bout.all (fun b => flatHL b.cells))) = true)
    (hk : K ⟨ren (nameAt (newNames τ k bout.length)) r, namesL H fuel args, (newNames τ k bout.length).zip (bout.map (Buf.ren (nameAt (newNames τ k bout.length))))⟩) : CallS P τ (some k) g args H K :=
  .inl ⟨ys, hs, .inr (.inr ⟨k, r, bout, rfl, h, by simpa using hb, hk⟩)⟩
/-- What is handed is turned; new things come back under the names (τ, k, 0), (τ, k, 1) .. -/
theorem CallS.gc {g : Nat} {acts args : List PV} {bin bout : List Buf} {r : PV} (h : GC P g args bin r bout) (σ : List Nm) (hσ : σ.length = bin.length) (hnd : σ.Nodup) {ν : Nat → Nm} (hν : ν = nameAt (σ ++ newNames τ k (bout.length - bin.length))) (ha : renL ν args = acts)
    (hH : ∀ (j : Nat) b, bin[j]? = some b → H (nameAt σ j) = some (b.ren ν)) (hk : K ⟨ren ν r, σ, (σ ++ newNames τ k (bout.length - bin.length)).zip (bout.map (Buf.ren ν))⟩) : CallS P τ (some k) g acts H K := by
  subst hν
  exact .inr ⟨args, bin, r, bout, _, h, ⟨k, σ, .inl rfl, hσ, hnd, ha, hH, rfl⟩, hk⟩
theorem CallS.gcn {g : Nat} {acts args : List PV} {bin bout : List Buf} {r : PV} (h : GC P g args bin r bout) (σ : List Nm) (hσ : σ.length = bin.length) (hl : bout.length = bin.length) (hnd : σ.Nodup) {ν : Nat → Nm} (hν : ν = nameAt σ) (ha : renL ν args = acts)
    (hH : ∀ (j : Nat) b, bin[j]? = some b → H (nameAt σ j) = some (b.ren ν)) (hk : K ⟨ren ν r, σ, σ.zip (bout.map (Buf.ren ν))⟩) : CallS P τ d g acts H K := by
  subst hν
  refine .inr ⟨args, bin, r, bout, _, h, ⟨0, σ, .inr hl, hσ, hnd, ?_, ?_, rfl⟩, ?_⟩ <;> rw [hl, Nat.sub_self] <;> simpa [newNames] using by assumption
end

section
variable {H : Nm → Option Buf} {m : Nat}
theorem seen_bool (b : Bool) : Abs.seen H m (.bool b) = some (.bool b) := (seen_all m _ rfl).1
theorem seen_int (q : IntKind) (n : Int) : Abs.seen H m (.int q n) = some (.int q n) := (seen_all m _ rfl).1
theorem seen_str (s : List UInt8) : Abs.seen H m (.str s) = some (.str s) := (seen_all m _ rfl).1
theorem seen_nils : Abs.seen H (m + 1) .nils = some (.sl 0 []) := by simp [Abs.seen, canon]
theorem seen_sl (n : Nat) (cs : List PV) : Abs.seen H m (.sl n cs) = some (.sl n cs) := (seen_all m _ rfl).1
theorem seen_ptr (cs : List PV) : Abs.seen H m (.ptr cs) = some (.ptr cs) := (seen_all m _ rfl).1
theorem seen_nerr : Abs.seen H m .nerr = some .nerr := (seen_all m _ rfl).1
theorem seen_err : Abs.seen H m .err = some .err := (seen_all m _ rfl).1
theorem seen_undef : Abs.seen H m .undef = some .undef := (seen_all m _ rfl).1
theorem seen_ref (nm : Nm) (n : Nat) : Abs.seen H (m + 1) (.ref nm n) = match H nm with
      | some b => if b.n = n ∧ b.row.isSome = true then (seenL H m b.cells).map (.sl n ·) else none
      | none => none := by
  simp only [Abs.seen, canon, Bool.false_eq_true, if_false]
  cases H nm <;> rfl
theorem seen_loc (nm : Nm) (n off : Nat) : Abs.seen H (m + 1) (.loc nm n off) = match H nm with
      | some b => if b.n = n then (seenL H m b.cells).map (fun cs => .ptr (cs.drop off)) else none
      | none => none := by
  simp only [Abs.seen, canon, Bool.false_eq_true, if_false]
  cases H nm <;> rfl
theorem seenL_of_canon {cs : List PV} (h : canonL cs = true) : seenL H m cs = some cs := (seenL_all m cs h).1
theorem seen_agg (cs : List PV) : Abs.seen H (m + 1) (.agg cs) = (seenL H m cs).map .agg := by
  by_cases h : canonL cs = true
  · rw [seenL_of_canon h, (seen_all (m + 1) (.agg cs) h).1]; rfl
  · simp [Abs.seen, canon, h]
theorem seen_tup (cs : List PV) : Abs.seen H (m + 1) (.tup cs) = (seenL H m cs).map .tup := by
  by_cases h : canonL cs = true
  · rw [seenL_of_canon h, (seen_all (m + 1) (.tup cs) h).1]; rfl
  · simp [Abs.seen, canon, h]
theorem seen_fn (g : Nat) (cs : List PV) : Abs.seen H (m + 1) (.fn g cs) = (seenL H m cs).map (.fn g ·) := by
  by_cases h : canonL cs = true
  · rw [seenL_of_canon h, (seen_all (m + 1) (.fn g cs) h).1]; rfl
  · simp [Abs.seen, canon, h]
theorem seenL_nil : seenL H m [] = some [] := by simp [seenL]
def consO (a : Option PV) (b : Option (List PV)) : Option (List PV) :=
  match a, b with
  | some y, some ys => some (y :: ys)
  | _, _ => none
theorem consO_s (y : PV) (ys : List PV) : consO (some y) (some ys) = some (y :: ys) := rfl
theorem seenL_cons (c : PV) (cs : List PV) : seenL H m (c :: cs) = consO (Abs.seen H m c) (seenL H m cs) := by
  simp only [seenL, consO]
  cases Abs.seen H m c <;> cases seenL H m cs <;> rfl
end
theorem evE_i {c : Prop} [Decidable c] {e : Eff} (h : c) (hk : K e) : evE (if c then some e else none) K := by rw [if_pos h]; exact hk
theorem evP_i {c : Prop} [Decidable c] {v : PV} (h : c) (hk : K ⟨v, [], []⟩) : evP (if c then some v else none) K := by rw [if_pos h]; exact hk

/-! ### Rows -/
section
variable {α : Type} {c : α → List PV} {sz : Nat}
theorem row_len (hc : ∀ x, (c x).length = sz) : ∀ l : List α, (l.flatMap c).length = l.length * sz
  | [] => by simp
  | x :: l => by simp [List.flatMap_cons, row_len hc l, hc, Nat.add_mul, Nat.add_comm]
theorem row_drop (hc : ∀ x, (c x).length = sz) (pre post : List α) : ((pre ++ post).flatMap c).drop (pre.length * sz) = post.flatMap c := by
  rw [List.flatMap_append, ← row_len hc pre]
  exact List.drop_left
theorem row_take (hc : ∀ x, (c x).length = sz) (pre post : List α) : ((pre ++ post).flatMap c).take (pre.length * sz) = pre.flatMap c := by
  rw [List.flatMap_append, ← row_len hc pre]
  exact List.take_left
theorem row_all {p : PV → Bool} (h : ∀ x, (c x).all p = true) (l : List α) : (l.flatMap c).all p = true := by
  rw [List.all_flatMap]
  exact List.all_eq_true.2 fun x _ => h x
theorem settledL_append : ∀ (a b : List PV), settledL (a ++ b) = (settledL a && settledL b)
  | [], b => by simp [settledL]
  | x :: a, b => by simp [settledL, settledL_append a b, Bool.and_assoc]
theorem flatL_append : ∀ (a b : List PV), flatL (a ++ b) = (flatL a && flatL b)
  | [], b => by simp [flatL]
  | x :: a, b => by simp [flatL, flatL_append a b, Bool.and_assoc]
theorem canonL_append : ∀ (a b : List PV), canonL (a ++ b) = (canonL a && canonL b)
  | [], b => by simp [canonL]
  | x :: a, b => by simp [canonL, canonL_append a b, Bool.and_assoc]
theorem row_canon (h : ∀ x, canonL (c x) = true) : ∀ l : List α, canonL (l.flatMap c) = true
  | [] => rfl
  | x :: l => by rw [List.flatMap_cons, canonL_append, h, row_canon h l]; rfl
theorem row_settled (h : ∀ x, settledL (c x) = true) : ∀ l : List α, settledL (l.flatMap c) = true
  | [] => rfl
  | x :: l => by rw [List.flatMap_cons, settledL_append, h, row_settled h l]; rfl
theorem row_flat (h : ∀ x, flatL (c x) = true) : ∀ l : List α, flatL (l.flatMap c) = true
  | [] => rfl
  | x :: l => by rw [List.flatMap_cons, flatL_append, h, row_flat h l]; rfl
theorem ia_ref {H : Nm → Option Buf} (sz : Nat) (nm : Nm) (n : Nat) (q : IntKind) (i : Int) : evIndexAddr sz H (.ref nm n) (.int q i) = if 0 ≤ i ∧ i < n ∧ live H nm n = true then some ⟨.loc nm n (i.toNat * sz), [nm], []⟩ else none := rfl
/-- The element at a place of a settled row. -/
theorem ia_row {H : Nm → Option Buf} (hc : ∀ x, (c x).length = sz) (hs : 0 < sz) (pre : List α) (x : α) (post : List α) (q : IntKind) :
    evIndexAddr sz H (.sl (pre ++ x :: post).length ((pre ++ x :: post).flatMap c)) (.int q pre.length) = some ⟨.ptr (c x ++ post.flatMap c), [], []⟩ := by
  have h1 : ((pre ++ x :: post).flatMap c) ≠ [] := by
    intro h
    have := congrArg List.length h
    rw [row_len hc, List.length_nil] at this
    have h3 : 0 < (pre ++ x :: post).length * sz := Nat.mul_pos (by rw [List.length_append, List.length_cons]; omega) hs
    omega
  have h2 : (pre.length : Int) < ((pre ++ x :: post).length : Int) := by simp; omega
  simp only [evIndexAddr]
  rw [if_pos ⟨by omega, h2, h1⟩, Int.toNat_natCast, row_drop hc, List.flatMap_cons]
end

/-! ### States -/
variable {fr : Nat → PV} {H : Nm → Option Buf} {tt : Nat}
theorem op_tmp (s : Nat) : St.op ⟨fr, H, tt⟩ (.tmp s) = fr s := rfl
theorem op_const (v : Value) : St.op ⟨fr, H, tt⟩ (.const v) = litPV v := rfl
theorem op_func (f : Nat) : St.op ⟨fr, H, tt⟩ (.func f) = .fn f [] := rfl
theorem app_0 (v : PV) (rd : List Nm) : St.app ⟨fr, H, tt⟩ (some k) ⟨v, rd, []⟩ = ⟨setSlot fr (some k) v, H, tt⟩ := rfl
theorem app_1 (v : PV) (rd : List Nm) (nm : Nm) (b : Buf) : St.app ⟨fr, H, tt⟩ (some k) ⟨v, rd, [(nm, b)]⟩ = ⟨setSlot fr (some k) v, upd H nm b, tt⟩ := rfl
theorem app_n0 (v : PV) (rd : List Nm) : St.app ⟨fr, H, tt⟩ none ⟨v, rd, []⟩ = ⟨fr, H, tt⟩ := rfl
theorem app_n1 (v : PV) (rd : List Nm) (nm : Nm) (b : Buf) : St.app ⟨fr, H, tt⟩ none ⟨v, rd, [(nm, b)]⟩ = ⟨fr, upd H nm b, tt⟩ := rfl
theorem slot_eq (s d : Nat) (v : PV) : setSlot fr (some d) v s = if s = d then v else fr s := rfl
theorem upd_eq (i j : Nm) (b : Buf) : upd H j b i = if i = j then some b else H i := rfl
theorem lgAdd_n (rd wr : List Nm) : lgAdd none rd wr = none := rfl
theorem lgAdd_s (l : Log) (rd wr : List Nm) : lgAdd (some l) rd wr = some (l ++ [(rd, wr)]) := rfl
theorem lgEnd_n (K : Prop) : lgEnd ops none K = K := rfl
theorem next_n (J : St → Prop) (Q : Exit → St → Prop) : nextE J Q .normal st = J st := rfl
theorem next_r (J : St → Prop) (Q : Exit → St → Prop) : nextE J Q .ret st = Q .ret st := rfl
theorem next_e (J : St → Prop) (Q : Exit → St → Prop) (id : Nat) : nextE J Q (.exit id) st = Q (.exit id) st := rfl
theorem block_n (id : Nat) (Q : Exit → St → Prop) : blockE id Q .normal st = Q .normal st := rfl
theorem block_r (id : Nat) (Q : Exit → St → Prop) : blockE id Q .ret st = Q .ret st := rfl
theorem block_e (id j : Nat) (Q : Exit → St → Prop) : blockE id Q (.exit j) st = if j = id then Q .normal st else Q (.exit j) st := rfl
theorem retQ_n (rs : List ResultVar) (r : PV) : retQ P rs r .normal st = (resA P rs st = some r) := rfl
theorem retQ_r (rs : List ResultVar) (r : PV) : retQ P rs r .ret st = (resA P rs st = some r) := rfl
theorem retQF_n (rs : List ResultVar) (e : TypeId) (sz n : Nat) (cells : List PV) : retQF rs e sz n cells .normal st = retF rs e sz n cells st := rfl
theorem retQF_r (rs : List ResultVar) (e : TypeId) (sz n : Nat) (cells : List PV) : retQF rs e sz n cells .ret st = retF rs e sz n cells st := rfl

end
end Go.Proofs.YthcmcjkljjfccaaGreatDoor.Abs
set_option linter.unusedVariables false
namespace Go.Proofs.YthcmcjkljjfccaaGreatDoor.Abs
open Go Go.RowKit

/-! ## States that say no more -/

def frL : List (Nat × PV) → Nat → PV
  | [], _ => .junk
  | (k, v) :: l, j => if j = k then v else frL l j
def hL : List (Nm × Buf) → Nm → Option Buf
  | [], _ => none
  | (k, b) :: l, j => if j = k then some b else hL l j

mutual
/-- It names these alone. -/
def inN (ns : List Nm) : PV → Bool
  | .ref i _ => ns.contains i
  | .loc i _ _ => ns.contains i
  | .agg cs => inNL ns cs
  | .tup cs => inNL ns cs
  | .fn _ cs => inNL ns cs
  | .bool _ => true
  | .int _ _ => true
  | .str _ => true
  | .nils => true
  | .sl _ _ => true
  | .ptr _ => true
  | .nerr => true
  | .err => true
  | .undef => true
  | .junk => true
def inNL (ns : List Nm) : List PV → Bool
  | [] => true
  | c :: cs => inN ns c && inNL ns cs
end
def setAt : List (Nm × Buf) → Nm → Option Buf
  | [], _ => none
  | (k, b) :: l, j => if j = k then some b else setAt l j
mutual
/-- The rows of a list, settled. -/
def conv (ss : List (Nm × Buf)) : PV → PV
  | .ref i n => match setAt ss i with
    | some b => if b.n = n then .sl n b.cells else .junk
    | none => .ref i n
  | .loc i n o => match setAt ss i with
    | some b => .junk
    | none => .loc i n o
  | .agg cs => .agg (convL ss cs)
  | .tup cs => .tup (convL ss cs)
  | .fn g cs => .fn g (convL ss cs)
  | .bool b => .bool b
  | .int k n => .int k n
  | .str s => .str s
  | .nils => .nils
  | .sl n cs => .sl n cs
  | .ptr cs => .ptr cs
  | .nerr => .nerr
  | .err => .err
  | .undef => .undef
  | .junk => .junk
def convL (ss : List (Nm × Buf)) : List PV → List PV
  | [] => []
  | c :: cs => conv ss c :: convL ss cs
end
mutual
/-- Each nil an empty row. -/
def nz : PV → PV
  | .nils => .sl 0 []
  | .agg cs => .agg (nzL cs)
  | .tup cs => .tup (nzL cs)
  | .fn g cs => .fn g (nzL cs)
  | .ref i n => .ref i n
  | .loc i n o => .loc i n o
  | .bool b => .bool b
  | .int k n => .int k n
  | .str s => .str s
  | .sl n cs => .sl n cs
  | .ptr cs => .ptr cs
  | .nerr => .nerr
  | .err => .err
  | .undef => .undef
  | .junk => .junk
def nzL : List PV → List PV
  | [] => []
  | c :: cs => nz c :: nzL cs
end

section
variable {P : Program} [Begin P] {B : Base} {w w' : World} {Γ Γ' : Gh} {st : St} {a : Act} {S S' : Nat → Prop} {J : St → Prop}

mutual
theorem conv_settled (ss : List (Nm × Buf)) : ∀ (x : PV), settled x = true → conv ss x = x
  | .ref _ _, h => by simp [settled] at h
  | .loc _ _ _, h => by simp [settled] at h
  | .agg cs, h => by rw [settled] at h; rw [conv, convL_settled ss cs h]
  | .tup cs, h => by rw [settled] at h; rw [conv, convL_settled ss cs h]
  | .fn g cs, h => by rw [settled] at h; rw [conv, convL_settled ss cs h]
  | .bool _, _ => rfl
  | .int _ _, _ => rfl
  | .str _, _ => rfl
  | .nils, _ => rfl
  | .sl _ _, _ => rfl
  | .ptr _, _ => rfl
  | .nerr, _ => rfl
  | .err, _ => rfl
  | .undef, _ => rfl
  | .junk, h => by simp [settled] at h
theorem convL_settled (ss : List (Nm × Buf)) : ∀ (cs : List PV), settledL cs = true → convL ss cs = cs
  | [], _ => rfl
  | c :: cs, h => by
    rw [settledL, Bool.and_eq_true] at h
    rw [convL, conv_settled ss c h.1, convL_settled ss cs h.2]
end
mutual
theorem inN_settled (ns : List Nm) : ∀ (x : PV), settled x = true → inN ns x = true
  | .ref _ _, h => by simp [settled] at h
  | .loc _ _ _, h => by simp [settled] at h
  | .agg cs, h => by rw [settled] at h; rw [inN, inNL_settled ns cs h]
  | .tup cs, h => by rw [settled] at h; rw [inN, inNL_settled ns cs h]
  | .fn g cs, h => by rw [settled] at h; rw [inN, inNL_settled ns cs h]
  | .bool _, _ => rfl
  | .int _ _, _ => rfl
  | .str _, _ => rfl
  | .nils, _ => rfl
  | .sl _ _, _ => rfl
  | .ptr _, _ => rfl
  | .nerr, _ => rfl
  | .err, _ => rfl
  | .undef, _ => rfl
  | .junk, h => by simp [settled] at h
theorem inNL_settled (ns : List Nm) : ∀ (cs : List PV), settledL cs = true → inNL ns cs = true
  | [], _ => rfl
  | c :: cs, h => by
    rw [settledL, Bool.and_eq_true] at h
    rw [inNL, inN_settled ns c h.1, inNL_settled ns cs h.2]; rfl
end
mutual
theorem nz_canon : ∀ (x : PV), canon x = true → nz x = x
  | .ref _ _, h => by simp [canon] at h
  | .loc _ _ _, h => by simp [canon] at h
  | .agg cs, h => by rw [canon] at h; rw [nz, nzL_canon cs h]
  | .tup cs, h => by rw [canon] at h; rw [nz, nzL_canon cs h]
  | .fn g cs, h => by rw [canon] at h; rw [nz, nzL_canon cs h]
  | .bool _, _ => rfl
  | .int _ _, _ => rfl
  | .str _, _ => rfl
  | .nils, h => by simp [canon] at h
  | .sl _ _, _ => rfl
  | .ptr _, _ => rfl
  | .nerr, _ => rfl
  | .err, _ => rfl
  | .undef, _ => rfl
  | .junk, h => by simp [canon] at h
theorem nzL_canon : ∀ (cs : List PV), canonL cs = true → nzL cs = cs
  | [], _ => rfl
  | c :: cs, h => by
    rw [canonL, Bool.and_eq_true] at h
    rw [nzL, nz_canon c h.1, nzL_canon cs h.2]
end
theorem nzL_append : ∀ (a b : List PV), nzL (a ++ b) = nzL a ++ nzL b
  | [], b => rfl
  | x :: a, b => by simp [nzL, nzL_append a b]
theorem convL_append (ss : List (Nm × Buf)) : ∀ (a b : List PV), convL ss (a ++ b) = convL ss a ++ convL ss b
  | [], b => rfl
  | x :: a, b => by simp [convL, convL_append ss a b]
theorem inNL_append (ns : List Nm) : ∀ (a b : List PV), inNL ns (a ++ b) = (inNL ns a && inNL ns b)
  | [], b => rfl
  | x :: a, b => by simp [inNL, inNL_append ns a b, Bool.and_assoc]
def appO (a b : Option (List PV)) : Option (List PV) :=
  match a, b with
  | some x, some y => some (x ++ y)
  | _, _ => none
theorem appO_s (x y : List PV) : appO (some x) (some y) = some (x ++ y) := rfl
theorem seenL_append {H : Nm → Option Buf} (k : Nat) : ∀ (a b : List PV), seenL H k (a ++ b) = appO (seenL H k a) (seenL H k b)
  | [], b => by
    simp only [List.nil_append, seenL, appO]
    cases seenL H k b <;> rfl
  | x :: a, b => by
    simp only [List.cons_append, seenL_cons, seenL_append k a b]
    cases Abs.seen H k x <;> cases seenL H k a <;> cases seenL H k b <;> rfl
mutual
theorem VR_nz : ∀ (x : PV) (v : Value), VR Γ w x v → VR Γ w (nz x) v
  | .bool b, v, h => h
  | .int k n, v, h => h
  | .str s, v, h => h
  | .nils, v, h => by
    simp only [VR, IR] at h
    subst h
    simp only [nz, VR, IR]
    exact ⟨none, 0, rfl, Nat.le_refl _, by simp [maxLen], .inl trivial⟩
  | .sl n cs, v, h => h
  | .ptr cs, v, h => h
  | .agg cs, v, h => by
    simp only [VR] at h
    obtain ⟨l, rfl, h⟩ := h
    simp only [nz, VR]
    exact ⟨l, rfl, LR_nz cs l h⟩
  | .tup cs, v, h => by
    simp only [VR] at h
    obtain ⟨l, rfl, h⟩ := h
    simp only [nz, VR]
    exact ⟨l, rfl, LR_nz cs l h⟩
  | .fn g cs, v, h => by
    simp only [VR] at h
    obtain ⟨l, rfl, h⟩ := h
    simp only [nz, VR]
    exact ⟨l, rfl, LR_nz cs l h⟩
  | .nerr, v, h => h
  | .err, v, h => h
  | .undef, v, h => h
  | .ref _ _, v, h => h
  | .loc _ _ _, v, h => h
  | .junk, v, h => h
theorem LR_nz : ∀ (cs : List PV) (l : List Value), LR Γ w cs l → LR Γ w (nzL cs) l
  | [], l, h => h
  | u :: us, l, h => by
    simp only [LR] at h
    obtain ⟨c, r, rfl, h1, h2⟩ := h
    simp only [nzL, LR]
    exact ⟨c, r, rfl, VR_nz u c h1, LR_nz us r h2⟩
end

theorem maxLen_big {n : Nat} (h : n ≤ maxLen) : n ≤ 9223372036854775807 := by simpa [maxLen] using h
/-- A slice is no longer than a machine bears. -/
theorem Up.bound (s n : Nat) (cs : List PV) (h : st.fr s = .sl n cs) (k : n ≤ 9223372036854775807 → Up P J st) : Up P J st := fun B Γ a w hB hsr => by
  have hv := hsr.slots s
  rw [h] at hv
  simp only [VR, IR] at hv
  obtain ⟨A, c, _, h1, h2, _⟩ := hv
  exact k (maxLen_big (Nat.le_trans h1 h2)) B Γ a w hB hsr

/-- Nil is taken for a row of one's own. -/
def St.own (st : St) (s : Nat) (e : TypeId) (sz : Nat) : St :=
  { fr := setSlot st.fr (some s) (.ref (st.t, s, 0) 0), H := upd st.H (st.t, s, 0) ⟨some (e, sz), 0, []⟩, t := st.t + 1 }
theorem SR.own1 (h : SR B Γ st a w) (s : Nat) (e : TypeId) (sz : Nat) (hn : st.fr s = .nils) (hsz : 0 < sz) : ∃ Γ', SR B Γ' (st.own s e sz) a w := by
  have hv := h.slots s
  rw [hn] at hv
  simp only [VR, IR] at hv
  have hc := h.tick.create (w' := w) (st.t, s, 0) (h.fresh _ (Nat.le_refl _)) (Nat.lt_succ_self _) ⟨some (e, sz), 0, []⟩ (.row 0 (.slice none 0 0)) (Keep.refl _ _) (by
    intro Γ' hm
    exact ⟨rfl, e, sz, [], rfl, hsz, World.ownsRow_nil w 0 e sz, rfl, by simp⟩) (by
    intro k hk
    simp [KR.block, Value.ownBlock] at hk)
  refine ⟨_, { hc with slots := ?_ }⟩
  intro q
  simp only [St.own, setSlot]
  by_cases hq : q = s
  · subst hq
    simp only [if_true, VR]
    refine ⟨.row 0 (.slice none 0 0), by simp [updK], Nat.le_refl _, by rw [hv]; rfl, fun _ => ⟨_, rfl, hv⟩⟩
  · simp only [hq, if_false]
    exact hc.slots q
theorem Up.own (s : Nat) (e : TypeId) (sz : Nat) (hn : st.fr s = .nils) (hsz : 0 < sz) (k : Up P J ⟨setSlot st.fr (some s) (.ref (st.t, s, 0) 0), upd st.H (st.t, s, 0) ⟨some (e, sz), 0, []⟩, st.t + 1⟩) : Up P J st := fun B Γ a w hB hsr => by
  obtain ⟨Γ1, h1⟩ := hsr.own1 s e sz hn hsz
  exact k B Γ1 a w hB h1

theorem SR.slotsTo (h : SR B Γ st a w) (fr : Nat → PV) (hs : ∀ s, VR Γ w (fr s) (a.tmps.getD s Go.undef)) : SR B Γ { st with fr := fr } a w :=
  ⟨h.keep, h.defers, h.size, h.s0, h.sin, hs, h.sok, h.dom, h.res, h.own, h.apart, h.fresh, h.evo⟩
/-- A slot's nils are empty rows. -/
theorem Up.nz (s : Nat) (k : Up P J { st with fr := setSlot st.fr (some s) (nz (st.fr s)) }) : Up P J st := fun B Γ a w hB hsr => by
  refine k B Γ a w hB (hsr.slotsTo _ fun q => ?_)
  simp only [setSlot]
  by_cases hq : q = s
  · subst hq; simp only [if_true]; exact VR_nz _ _ (hsr.slots q)
  · simp only [hq, if_false]; exact hsr.slots q
theorem RR_nz {b : Buf} {r : KR} (h : RR Γ w b r) : RR Γ w { b with cells := nzL b.cells } r := by
  cases r with
  | gone n => simp only [RR] at h ⊢; subst h; rfl
  | box k =>
    obtain ⟨h1, h2, l, t, cur, h3, h4, h5, h6, h7⟩ := h
    exact ⟨h1, h2, l, t, cur, h3, h4, h5, LR_nz _ _ h6, h7⟩
  | row n v =>
    obtain ⟨h1, e, sz, l, h2, h3, h4, h5, h6⟩ := h
    exact ⟨h1, e, sz, l, h2, h3, h4, LR_nz _ _ h5, h6⟩
/-- A row's nils are empty rows. -/
theorem Up.nzH (nm : Nm) (b : Buf) (hb : st.H nm = some b) (k : Up P J { st with H := upd st.H nm { b with cells := nzL b.cells } }) : Up P J st := fun B Γ a w hB hsr => by
  refine k B Γ a w hB ⟨hsr.keep, hsr.defers, hsr.size, hsr.s0, hsr.sin, hsr.slots, hsr.sok, ?_, ?_, hsr.own, hsr.apart, ?_, hsr.evo⟩
  · intro i
    simp only [upd]
    by_cases hi : i = nm
    · subst hi; simp [hsr.dom i, hb]
    · simp only [hi, if_false]; exact hsr.dom i
  · intro i b' r hb' hr
    simp only [upd] at hb'
    by_cases hi : i = nm
    · subst hi
      simp only [if_true] at hb'
      cases hb'
      exact RR_nz (hsr.res i b r hb hr)
    · simp only [hi, if_false] at hb'; exact hsr.res i b' r hb' hr
  · intro i hi
    simp only [upd]
    by_cases hq : i = nm
    · subst hq; have := hsr.fresh i hi; rw [hb] at this; cases this
    · simp only [hq, if_false]; exact hsr.fresh i hi

/-! ### Cuts -/

theorem frL_at {l : List (Nat × PV)} (s : Nat) : frL l s = .junk ∨ ∃ x ∈ l, x.1 = s ∧ frL l s = x.2 := by
  induction l with
  | nil => exact .inl rfl
  | cons x l ih =>
    obtain ⟨k, v⟩ := x
    simp only [frL]
    by_cases h : s = k
    · exact .inr ⟨(k, v), by simp, h.symm, by simp [h]⟩
    · simp only [h, if_false]
      rcases ih with h1 | ⟨x, h1, h2, h3⟩
      · exact .inl h1
      · exact .inr ⟨x, by simp [h1], h2, h3⟩
theorem hL_at {l : List (Nm × Buf)} (i : Nm) : (hL l i = none ∧ ∀ x ∈ l, x.1 ≠ i) ∨ ∃ x ∈ l, x.1 = i ∧ hL l i = some x.2 := by
  induction l with
  | nil => exact .inl ⟨rfl, by simp⟩
  | cons x l ih =>
    obtain ⟨k, v⟩ := x
    simp only [hL]
    by_cases h : i = k
    · exact .inr ⟨(k, v), by simp, h.symm, by simp [h]⟩
    · simp only [h, if_false]
      rcases ih with ⟨h1, h2⟩ | ⟨x, h1, h2, h3⟩
      · refine .inl ⟨h1, fun y hy => ?_⟩
        rcases List.mem_cons.1 hy with rfl | hy
        · exact fun h' => h h'.symm
        · exact h2 y hy
      · exact .inr ⟨x, by simp [h1], h2, h3⟩
theorem setAt_some {l : List (Nm × Buf)} {i : Nm} {b : Buf} (h : setAt l i = some b) : (i, b) ∈ l := by
  induction l with
  | nil => cases h
  | cons x l ih =>
    obtain ⟨k, v⟩ := x
    simp only [setAt] at h
    split at h
    · rename_i hk; cases h; simp [hk]
    · exact List.mem_cons_of_mem _ (ih h)
theorem setAt_none {l : List (Nm × Buf)} {i : Nm} (h : setAt l i = none) : ∀ b, (i, b) ∉ l := by
  induction l with
  | nil => simp
  | cons x l ih =>
    obtain ⟨k, v⟩ := x
    simp only [setAt] at h
    split at h
    · cases h
    · rename_i hk
      intro b hb
      rcases List.mem_cons.1 hb with h1 | h1
      · cases h1; exact hk rfl
      · exact ih h b h1

/-- The ghost that is left: these names alone, and the rows of 'ss' settled. -/
def Gh.left (Γ : Gh) (ns : List Nm) (ss : List (Nm × Buf)) : Gh :=
  { S := fun k => Γ.S k ∨ ∃ i b r, (i, b) ∈ ss ∧ Γ.K i = some r ∧ r.block = some k, K := fun i => if ns.contains i = true then Γ.K i else none }

mutual
theorem VR_left {st : St} (h : SR B Γ st a w) {ns : List Nm} {ss : List (Nm × Buf)} (hss : ∀ x ∈ ss, st.H x.1 = some x.2 ∧ x.2.row.isSome = true ∧ settledL x.2.cells = true) :
    ∀ (x : PV) (v : Value), VR Γ w x v → inN ns (conv ss x) = true → VR (Γ.left ns ss) w (conv ss x) v
  | .bool b, v, hv, _ => hv
  | .int k n, v, hv, _ => hv
  | .str s, v, hv, _ => hv
  | .nils, v, hv, _ => hv
  | .sl n cs, v, hv, _ => by
    simp only [conv]
    exact VR_of_IR _ _ (IR_mono (fun k hk => .inl hk) (fun k hk => rfl) _ _ (by simpa only [VR] using hv))
  | .ptr cs, v, hv, _ => by
    simp only [conv]
    exact VR_of_IR _ _ (IR_mono (fun k hk => .inl hk) (fun k hk => rfl) _ _ (by simpa only [VR] using hv))
  | .agg cs, v, hv, hn => by
    simp only [VR] at hv
    obtain ⟨l, rfl, hv⟩ := hv
    simp only [conv, inN] at hn
    simp only [conv, VR]
    exact ⟨l, rfl, LR_left h hss cs l hv hn⟩
  | .tup cs, v, hv, hn => by
    simp only [VR] at hv
    obtain ⟨l, rfl, hv⟩ := hv
    simp only [conv, inN] at hn
    simp only [conv, VR]
    exact ⟨l, rfl, LR_left h hss cs l hv hn⟩
  | .fn g cs, v, hv, hn => by
    simp only [VR] at hv
    obtain ⟨l, rfl, hv⟩ := hv
    simp only [conv, inN] at hn
    simp only [conv, VR]
    exact ⟨l, rfl, LR_left h hss cs l hv hn⟩
  | .nerr, v, hv, _ => hv
  | .err, v, hv, _ => hv
  | .undef, v, hv, _ => hv
  | .ref i n, v, hv, hn => by
    cases hb : setAt ss i with
    | some b =>
      simp only [conv, hb] at hn ⊢
      by_cases hbn : b.n = n
      · rw [if_pos hbn]
        have hm := setAt_some hb
        obtain ⟨h1, h2, h3⟩ := hss _ hm
        simp only at h1 h2 h3
        simp only [VR] at hv
        obtain ⟨r, hr, hle, ho, hv⟩ := hv
        have hrr := h.res i b r h1 hr
        obtain ⟨v', rfl, rfl⟩ := hv (by rw [RR_len hrr, hbn])
        obtain ⟨q1, e, sz, l, q2, q3, q4, q5, q6⟩ := hrr
        have hl : ILR (Γ.left ns ss).S w b.cells l := ILR_mono (fun k hk => .inl hk) (fun k hk => rfl) _ _ (ILR_of_settled (Γ := Γ) _ _ q5 h3)
        simp only [VR, IR]
        rcases q4.2 with ⟨rfl, hm0⟩ | ⟨g, cap, cur, rfl, hg, hh, hc1, hc2, hc3, hc4⟩
        · refine ⟨none, 0, by rw [hm0], by omega, by simp [maxLen], .inl ?_⟩
          have : l = [] := List.eq_nil_of_length_eq_zero (by rw [q4.1, hm0]; simp)
          subst this
          cases hbc : b.cells with
          | nil => rfl
          | cons y ys => rw [hbc] at hl; simp [ILR] at hl
        · exact ⟨_, cap, rfl, hc1, hc2, .inr ⟨_, rfl, CR_of_cells hl (.inr ⟨i, b, _, hm, hr, rfl⟩) (q4.cells (g := g) rfl) q6⟩⟩
      · rw [if_neg hbn]
        simp only [VR]
    | none =>
      simp only [conv, hb, inN] at hn ⊢
      simpa only [VR, Gh.left, hn, if_true] using hv
  | .loc i n o, v, hv, hn => by
    cases hb : setAt ss i with
    | some b => simp only [conv, hb, VR]
    | none =>
      simp only [conv, hb, inN] at hn ⊢
      simpa only [VR, Gh.left, hn, if_true] using hv
  | .junk, v, hv, _ => hv
theorem LR_left {st : St} (h : SR B Γ st a w) {ns : List Nm} {ss : List (Nm × Buf)} (hss : ∀ x ∈ ss, st.H x.1 = some x.2 ∧ x.2.row.isSome = true ∧ settledL x.2.cells = true) :
    ∀ (cs : List PV) (l : List Value), LR Γ w cs l → inNL ns (convL ss cs) = true → LR (Γ.left ns ss) w (convL ss cs) l
  | [], l, hl, _ => hl
  | u :: us, l, hl, hn => by
    simp only [LR] at hl
    obtain ⟨c, r, rfl, h1, h2⟩ := hl
    simp only [convL, inNL, Bool.and_eq_true] at hn
    simp only [convL, LR]
    exact ⟨c, r, rfl, VR_left h hss u c h1 hn.1, LR_left h hss us r h2 hn.2⟩
end
theorem RR_left {st : St} (h : SR B Γ st a w) {ns : List Nm} {ss : List (Nm × Buf)} (hss : ∀ x ∈ ss, st.H x.1 = some x.2 ∧ x.2.row.isSome = true ∧ settledL x.2.cells = true)
    {b : Buf} {r : KR} (hr : RR Γ w b r) (hn : inNL ns (convL ss b.cells) = true) : RR (Γ.left ns ss) w { b with cells := convL ss b.cells } r := by
  cases r with
  | gone n => simp only [RR] at hr ⊢; subst hr; rfl
  | box k =>
    obtain ⟨h1, h2, l, t, cur, h3, h4, h5, h6, h7⟩ := hr
    exact ⟨h1, h2, l, t, cur, h3, h4, h5, LR_left h hss _ _ h6 hn, h7⟩
  | row n v =>
    obtain ⟨h1, e, sz, l, h2, h3, h4, h5, h6⟩ := hr
    exact ⟨h1, e, sz, l, h2, h3, h4, LR_left h hss _ _ h5 hn, h6⟩

/-- What is cut away: all slots but these, all names but these; the rows of 'ss' are settled. -/
theorem Up.cut (ss : List (Nm × Buf)) (l : List (Nat × PV)) (nb : List (Nm × Buf)) (t0 : Nat)
    (hs : ss.map (fun x => st.H x.1) = ss.map (fun x => some x.2))
    (hs2 : ss.all (fun x => x.2.row.isSome && settledL x.2.cells && !(nb.map (·.1)).contains x.1) = true)
    (h1 : l.map (fun x => conv ss (st.fr x.1)) = l.map (·.2))
    (h2 : nb.map (fun x => (st.H x.1).map fun b => { b with cells := convL ss b.cells }) = nb.map (fun x => some x.2))
    (h3 : inNL (nb.map (·.1)) (l.map (·.2)) = true)
    (h4 : nb.all (fun x => inNL (nb.map (·.1)) x.2.cells && decide (x.1.1 < t0)) = true)
    (h5 : ∀ j, (st.H (hole j)).isSome = true → (nb.map (·.1)).contains (hole j) = true)
    (h6 : ss = [] ∨ ∀ j, st.H (hole j) = none)
    (k : J ⟨frL l, hL nb, t0⟩) : Up P J st := fun B Γ a w hB hsr => by
  have hss : ∀ x ∈ ss, st.H x.1 = some x.2 ∧ x.2.row.isSome = true ∧ settledL x.2.cells = true := by
    intro x hx
    have e1 := List.map_inj_left.1 hs x hx
    have e2 := List.all_eq_true.1 hs2 x hx
    simp only [Bool.and_eq_true] at e2
    exact ⟨e1, e2.1.1, e2.1.2⟩
  have hss2 : ∀ x ∈ ss, (nb.map (·.1)).contains x.1 = false := by
    intro x hx
    have e2 := List.all_eq_true.1 hs2 x hx
    simp only [Bool.and_eq_true, Bool.not_eq_true'] at e2
    exact e2.2
  let ns := nb.map (·.1)
  have hnbH : ∀ x ∈ nb, ∃ b, st.H x.1 = some b ∧ x.2 = { b with cells := convL ss b.cells } := by
    intro x hx
    have e1 := List.map_inj_left.1 h2 x hx
    rw [Option.map_eq_some_iff] at e1
    obtain ⟨b, hb, he⟩ := e1
    exact ⟨b, hb, he.symm⟩
  have hinb : ∀ cs : List PV, ∀ v ∈ cs, inNL ns cs = true → inN ns v = true := by
    intro cs
    induction cs with
    | nil => simp
    | cons c cs ih =>
      intro v hv h
      simp only [inNL, Bool.and_eq_true] at h
      rcases List.mem_cons.1 hv with rfl | hv
      · exact h.1
      · exact ih v hv h.2
  have hmem : ∀ i, ns.contains i = true ↔ ∃ x ∈ nb, x.1 = i := by
    intro i
    simp [ns]
  have hhole : ∀ i, B.K0 i ≠ none → st.H i ≠ none ∧ ns.contains i = true := by
    intro i hi
    have hh := hB.holes i hi
    have hhi : i = hole i.2.2 := by obtain ⟨x, y, z⟩ := i; simp only at hh; obtain ⟨rfl, rfl⟩ := hh; rfl
    cases hq : B.K0 i with
    | none => exact absurd hq hi
    | some q =>
      obtain ⟨r', hr', _⟩ := hsr.evo i q hq
      have h7 : st.H i ≠ none := fun h7 => by rw [(hsr.dom i).2 h7] at hr'; cases hr'
      refine ⟨h7, ?_⟩
      rw [hhi] at h7 ⊢
      exact h5 _ (by cases h8 : st.H (hole i.2.2) with | none => exact absurd h8 h7 | some _ => rfl)
  have hnew : ∀ i b r k, (i, b) ∈ ss → Γ.K i = some r → r.block = some k → B.w0.heap.size ≤ k := by
    intro i b r k hi hr hk
    rcases (hsr.own i r k hr hk).2.2 with h7 | h7
    · exact h7
    · exfalso
      obtain ⟨j, hj⟩ := hB.mown k h7
      rcases h6 with h6 | h6
      · rw [h6] at hi; cases hi
      · have hh := hB.holes j hj
        have hhj : j = hole j.2.2 := by obtain ⟨x, y, z⟩ := j; simp only at hh; obtain ⟨rfl, rfl⟩ := hh; rfl
        have := (hhole j hj).1
        rw [hhj] at this
        exact this (h6 _)
  have hKs : ∀ i r, (Γ.left ns ss).K i = some r → ns.contains i = true ∧ Γ.K i = some r := by
    intro i r hr
    simp only [Gh.left] at hr
    split at hr
    · rename_i hc; exact ⟨hc, hr⟩
    · cases hr
  refine ⟨_, Γ.left ns ss, ⟨hsr.keep, hsr.defers, hsr.size, fun k hk => .inl (hsr.s0 k hk), ?_, ?_, ?_, ?_, ?_, ?_, ?_, ?_, ?_⟩, k⟩
  · rintro k (hk | ⟨i, b, r, hi, hr, hk⟩)
    · exact hsr.sin k hk
    · exact .inr (hnew i b r k hi hr hk)
  · intro s
    rcases frL_at (l := l) s with h7 | ⟨x, hx, rfl, h7⟩
    · show VR (Γ.left ns ss) w (frL l s) _
      rw [h7]; simp only [VR]
    · show VR (Γ.left ns ss) w (frL l x.1) _
      rw [h7, ← List.map_inj_left.1 h1 x hx]
      refine VR_left hsr hss _ _ (hsr.slots x.1) ?_
      rw [List.map_inj_left.1 h1 x hx]
      exact hinb _ _ (List.mem_map.2 ⟨x, hx, rfl⟩) h3
  · rintro k (hk | ⟨i, b, r, hi, hr, hk⟩)
    · exact hsr.sok k hk
    · exact (hsr.own i r k hr hk).2.1
  · intro i
    rcases hL_at (l := nb) i with ⟨h7, h8⟩ | ⟨x, hx, rfl, h7⟩
    · have : ns.contains i = false := by
        cases hc : ns.contains i with
        | false => rfl
        | true => obtain ⟨x, hx, he⟩ := (hmem i).1 hc; exact absurd he (h8 x hx)
      simp only [Gh.left, h7, this]
      simp
    · have hc : ns.contains x.1 = true := (hmem _).2 ⟨x, hx, rfl⟩
      obtain ⟨b, hb, _⟩ := hnbH x hx
      simp only [Gh.left, h7, hc, if_true]
      have := hsr.dom x.1
      rw [hb] at this
      simpa using this
  · intro i b r hb hr
    obtain ⟨hc, hr⟩ := hKs i r hr
    rcases hL_at (l := nb) i with ⟨h7, h8⟩ | ⟨x, hx, rfl, h7⟩
    · simp only at hb; rw [h7] at hb; cases hb
    · simp only at hb
      rw [h7] at hb
      cases hb
      obtain ⟨b, hb, he⟩ := hnbH x hx
      have h9 := List.all_eq_true.1 h4 x hx
      rw [Bool.and_eq_true] at h9
      rw [he] at h9 ⊢
      exact RR_left hsr hss (hsr.res x.1 b r hb hr) h9.1
  · intro i r k hr hk
    obtain ⟨hc, hr⟩ := hKs i r hr
    obtain ⟨o1, o2, o3⟩ := hsr.own i r k hr hk
    refine ⟨?_, o2, o3⟩
    rintro (h7 | ⟨j, b, q, hj, hq, hqk⟩)
    · exact o1 h7
    · have := hsr.apart i j r q k hr hq hk hqk
      subst this
      have := hss2 _ hj
      simp only at this
      rw [show (nb.map (·.1)).contains i = true from hc] at this
      cases this
  · intro i j r q k hr hq hk hk'
    exact hsr.apart i j r q k (hKs i r hr).2 (hKs j q hq).2 hk hk'
  · intro i hi
    rcases hL_at (l := nb) i with ⟨h7, h8⟩ | ⟨x, hx, rfl, h7⟩
    · exact h7
    · have h9 := List.all_eq_true.1 h4 x hx
      rw [Bool.and_eq_true, decide_eq_true_eq] at h9
      simp only at hi
      omega
  · intro i r hr
    obtain ⟨r', h7, h8⟩ := hsr.evo i r hr
    have := (hhole i (by rw [hr]; simp)).2
    exact ⟨r', by simp only [Gh.left, this, if_true]; exact h7, h8⟩

theorem conv_nil : ∀ x : PV, conv [] x = x := by
  intro x
  refine PV.rec (motive_1 := fun x => conv [] x = x) (motive_2 := fun cs => convL [] cs = cs) ?_ ?_ ?_ ?_ ?_ ?_ ?_ ?_ ?_ ?_ ?_ ?_ ?_ ?_ ?_ ?_ ?_ x
  all_goals first
    | (intros; rfl)
    | (intro a b h; simp only [conv, h])
    | (intro a h; simp only [conv, h])
    | (intro a b h1 h2; simp only [convL, h1, h2])
theorem convL_nil : ∀ cs : List PV, convL [] cs = cs
  | [] => rfl
  | c :: cs => by simp only [convL, conv_nil, convL_nil cs]

/-- What is cut away: all slots but these, all names but these. -/
theorem Up.to (l : List (Nat × PV)) (nb : List (Nm × Buf)) (t0 : Nat) (k : J ⟨frL l, hL nb, t0⟩)
    (h1 : l.map (fun x => st.fr x.1) = l.map (·.2) := by simp only [go_sem])
    (h2 : nb.map (fun x => st.H x.1) = nb.map (fun x => some x.2) := by simp only [go_sem])
    (h3 : inNL (nb.map (·.1)) (l.map (·.2)) = true := by simp only [go_sem] <;> rfl)
    (h4 : nb.all (fun x => inNL (nb.map (·.1)) x.2.cells && decide (x.1.1 < t0)) = true := by simp only [go_sem] <;> rfl)
    (h5 : ∀ j, (st.H (hole j)).isSome = true → (nb.map (·.1)).contains (hole j) = true := by intro j; simp only [go_sem, hole]) : Up P J st := by
  refine Up.cut [] l nb t0 rfl rfl ?_ ?_ h3 h4 h5 (.inl rfl) k
  · simpa only [conv_nil] using h1
  · have : (fun x : Nm × Buf => (st.H x.1).map fun b => ({ b with cells := convL [] b.cells } : Buf)) = fun x => st.H x.1 := by
      funext x
      cases st.H x.1 with
      | none => rfl
      | some b => simp only [Option.map_some, convL_nil]
    rw [this]; exact h2
/-- The same, and some rows are settled. -/
theorem Up.cutS (ss : List (Nm × Buf)) (l : List (Nat × PV)) (nb : List (Nm × Buf)) (t0 : Nat) (k : J ⟨frL l, hL nb, t0⟩)
    (hs : ss.map (fun x => st.H x.1) = ss.map (fun x => some x.2) := by simp only [go_sem])
    (hs2 : ss.all (fun x => x.2.row.isSome && settledL x.2.cells && !(nb.map (·.1)).contains x.1) = true := by simp only [go_sem] <;> rfl)
    (h1 : l.map (fun x => conv ss (st.fr x.1)) = l.map (·.2) := by simp only [go_sem])
    (h2 : nb.map (fun x => (st.H x.1).map fun b => { b with cells := convL ss b.cells }) = nb.map (fun x => some x.2) := by simp only [go_sem])
    (h3 : inNL (nb.map (·.1)) (l.map (·.2)) = true := by simp only [go_sem] <;> rfl)
    (h4 : nb.all (fun x => inNL (nb.map (·.1)) x.2.cells && decide (x.1.1 < t0)) = true := by simp only [go_sem] <;> rfl)
    (h5 : ∀ j, (st.H (hole j)).isSome = true → (nb.map (·.1)).contains (hole j) = true := by intro j; simp only [go_sem, hole])
    (h6 : ∀ j, st.H (hole j) = none := by intro j; simp only [go_sem, hole]) : Up P J st :=
  Up.cut ss l nb t0 hs hs2 h1 h2 h3 h4 h5 (.inr h6) k
theorem Up.done (k : J st) : Up P J st := Up.here k

end
end Go.Proofs.YthcmcjkljjfccaaGreatDoor.Abs
set_option linter.unusedVariables false
namespace Go.Proofs.YthcmcjkljjfccaaGreatDoor.Abs
open Go Go.RowKit

section
variable {P : Program} [Begin P] {τ : Nat} {ops : Array Oper} {st : St} {K K' : Eff → Prop} {d : Option Nat}

theorem Up.mono {J J' : St → Prop} (h : ∀ st, J st → J' st) (hu : Up P J st) : Up P J' st := fun B Γ a w hB hsr => by
  obtain ⟨st', Γ', h1, h2⟩ := hu B Γ a w hB hsr
  exact ⟨st', Γ', h1, h _ h2⟩
theorem Up.bind {J J' : St → Prop} (h : ∀ st, J st → Up P J' st) (hu : Up P J st) : Up P J' st := fun B Γ a w hB hsr => by
  obtain ⟨st', Γ', h1, h2⟩ := hu B Γ a w hB hsr
  exact h _ h2 B Γ' a w hB h1
theorem CallS.mono {g : Nat} {args : List PV} {H : Nm → Option Buf} (h : ∀ e, K e → K' e) (hc : CallS P τ d g args H K) : CallS P τ d g args H K' := by
  rcases hc with ⟨ys, h1, ⟨r, h2, h3, h4⟩ | ⟨d', el, sz, n, cells, h2, h3, h4, h5⟩ | ⟨d', r, bout, h2, h3, h4, h5⟩⟩ | ⟨args', bin, r, bout, e, h1, h2, h3⟩
  · exact .inl ⟨ys, h1, .inl ⟨r, h2, h3, h _ h4⟩⟩
  · exact .inl ⟨ys, h1, .inr (.inl ⟨d', el, sz, n, cells, h2, h3, h4, h _ h5⟩)⟩
  · exact .inl ⟨ys, h1, .inr (.inr ⟨d', r, bout, h2, h3, h4, h _ h5⟩)⟩
  · exact .inr ⟨args', bin, r, bout, e, h1, h2, h _ h3⟩
theorem opK_mono {o : Oper} (h : ∀ e, K e → K' e) (hc : opK P τ o st K) : opK P τ o st K' := by
  have evc : (match ev P τ o st with | some e => K e | none => False) → (match ev P τ o st with | some e => K' e | none => False) := by
    intro hh
    split at hh
    · exact h _ hh
    · exact hh.elim
  unfold opK at hc ⊢
  split at hc
  · split at hc
    · split at hc
      · exact CallS.mono h hc
      · exact hc.elim
    · exact evc hc
  · exact evc hc
theorem stepK_mono {o : Oper} (h : ∀ e, K e → K' e) (hc : stepK P τ ops o st K) : stepK P τ ops o st K' := by
  unfold stepK guardK at hc ⊢
  split at hc
  · exact ⟨fun hb => opK_mono h (hc.1 hb), fun hb => h _ (hc.2 hb)⟩
  · exact hc.elim
theorem pops_mono {K K' : St → Prop} (h : ∀ st, K st → K' st) : ∀ (os : List Oper) (st : St), pops P τ ops os st K → pops P τ ops os st K'
  | [], st, hc => h _ hc
  | o :: os, st, hc => stepK_mono (fun e he => pops_mono h os _ he) hc
theorem pdraw_mono {K K' : St → Prop} (h : ∀ st, K st → K' st) : ∀ (os : List Oper) (st : St) (lg : Log), pdraw P τ ops os st lg K → pdraw P τ ops os st lg K'
  | [], st, lg, hc => ⟨hc.1, h _ hc.2⟩
  | o :: os, st, lg, hc => stepK_mono (fun e he => pdraw_mono h os _ _ he) hc
theorem nextE_mono {J J' : St → Prop} {Q Q' : Exit → St → Prop} (h : ∀ st, J st → J' st) (hQ : ∀ e st, Q e st → Q' e st) : ∀ e st, nextE J Q e st → nextE J' Q' e st := by
  intro e st hc
  cases e <;> first | exact h _ hc | exact hQ _ _ hc
theorem blockE_mono {id : Nat} {Q Q' : Exit → St → Prop} (hQ : ∀ e st, Q e st → Q' e st) : ∀ e st, blockE id Q e st → blockE id Q' e st := by
  intro e st hc
  cases e with
  | exit j =>
    simp only [blockE] at hc ⊢
    split
    · rename_i hj; rw [if_pos hj] at hc; exact hQ _ _ hc
    · rename_i hj; rw [if_neg hj] at hc; exact hQ _ _ hc
  | _ => exact hQ _ _ hc
theorem pwp_mono : ∀ (c : Code) {Q Q' : Exit → St → Prop} (st : St), (∀ e st, Q e st → Q' e st) → pwp P c Q st → pwp P c Q' st
  | .skip, Q, Q', st, hQ, h => hQ _ _ h
  | .region id ops false, Q, Q', st, hQ, h => by
    simp only [pwp] at h ⊢
    exact pops_mono (hQ _) _ _ h
  | .region id ops true, Q, Q', st, hQ, h => by
    simp only [pwp] at h ⊢
    exact pdraw_mono (hQ _) _ _ _ h
  | .seq x y, Q, Q', st, hQ, h => by
    simp only [pwp] at h ⊢
    refine pwp_mono x st (nextE_mono (fun st' h' => ?_) hQ) h
    cases hr : isReg x <;> rw [hr] at h'
    · exact Up.mono (fun st2 h2 => pwp_mono y st2 hQ h2) h'
    · exact pwp_mono y st' hQ h'
  | .cond c x y, Q, Q', st, hQ, h => by
    simp only [pwp, condK] at h ⊢
    split at h
    · exact ⟨fun hb => pwp_mono x st hQ (h.1 hb), fun hb => pwp_mono y st hQ (h.2 hb)⟩
    · exact h.elim
  | .block id c, Q, Q', st, hQ, h => by
    simp only [pwp] at h ⊢
    exact pwp_mono c st (blockE_mono hQ) h
  | .loop c, Q, Q', st, hQ, h => by
    simp only [pwp, loopK] at h ⊢
    obtain ⟨I, n, h1, h2⟩ := h
    exact ⟨I, n, h1, fun n st hI => pwp_mono c st (nextE_mono (fun _ h => h) hQ) (h2 n st hI)⟩
  | .exit id, Q, Q', st, hQ, h => hQ _ _ h
  | .ret, Q, Q', st, hQ, h => hQ _ _ h
  | .rangeFunc _ _ _ _, _, _, _, _, h => h.elim
  | .scope _, _, _, _, _, h => h.elim
  | .label _, _, _, _, _, h => h.elim
  | .goto _, _, _, _, _, h => h.elim
  | .refuse _, _, _, _, _, h => h.elim

/-! ### Where roads meet -/

def joinQ (P : Program) [Begin P] (J : St → Prop) (Q : Exit → St → Prop) : Exit → St → Prop := nextE (Up P J) Q
variable {Q : Exit → St → Prop} {kk : Kont}
theorem pwp_join {X rest : Code} (hX : isReg X = false) (J0 : St → Prop) (h1 : ∀ J : St → Prop, (∀ st, J0 st → J st) → pwp P X (kQ P (joinQ P J (kQ P Q kk)) .nil) st) (h2 : ∀ st, J0 st → pwp P rest (kQ P Q kk) st) : pwp P (.seq X rest) (kQ P Q kk) st := by
  rw [pwp_seq_u _ _ hX]
  refine pwp_mono X st ?_ (h1 J0 fun _ h => h)
  intro e st' h
  cases e with
  | normal => exact Up.mono h2 h
  | _ => exact h
theorem pwp_plain {X rest : Code} (hX : isReg X = false) (h1 : pwp P X (kQ P Q (.upc rest kk)) st) : pwp P (.seq X rest) (kQ P Q kk) st := by
  rw [pwp_seq_u _ _ hX]; exact h1
theorem join_n {J : St → Prop} (h : Up P J st) : joinQ P J Q .normal st := h
theorem join_r (J : St → Prop) : joinQ P J Q .ret st = Q .ret st := rfl
theorem join_e (J : St → Prop) (j : Nat) : joinQ P J Q (.exit j) st = Q (.exit j) st := rfl

/-! ### Steps that may fail -/

theorem bind_i {α β : Type} {x : Option α} {f : α → Option β} {r : β} (h : x.bind f = some r) : ∃ a, x = some a ∧ f a = some r := Option.bind_eq_some_iff.1 h
theorem if_t {α : Type} {b : Bool} {X Y : α} {r : α} (g : b = true) (h : (if b = true then X else Y) = r) : X = r := by rw [if_pos g] at h; exact h
theorem if_f {α : Type} {b : Bool} {X Y : α} {r : α} (g : b = false) (h : (if b = true then X else Y) = r) : Y = r := by rw [if_neg (by rw [g]; decide)] at h; exact h

/-- The element at a place. -/
def at? {α : Type} (xs : List α) (i : Int) : Option α := if 0 ≤ i then xs[i.toNat]? else none
theorem at?_some {α : Type} {xs : List α} {i : Int} {x : α} (h : at? xs i = some x) : 0 ≤ i ∧ xs[i.toNat]? = some x := by
  unfold at? at h
  split at h
  · exact ⟨by assumption, h⟩
  · cases h
theorem at?_split {α : Type} {xs : List α} {i : Int} {x : α} (h : at? xs i = some x) : ∃ pre post, xs = pre ++ x :: post ∧ i = (pre.length : Int) := by
  obtain ⟨h1, h2⟩ := at?_some h
  obtain ⟨hlt, he⟩ := List.getElem?_eq_some_iff.1 h2
  refine ⟨xs.take i.toNat, xs.drop (i.toNat + 1), ?_, ?_⟩
  · rw [← he, ← List.drop_eq_getElem_cons hlt, List.take_append_drop]
  · rw [List.length_take]; omega
section
variable {α : Type} {c : α → List PV} {sz : Nat} {H : Nm → Option Buf} {q : IntKind}
theorem evE_index {xs : List α} {i : Int} {x : α} (h : at? xs i = some x) (hc : ∀ x, (c x).length = sz) (hs : 0 < sz) (hk : ∀ rest, K ⟨.ptr (c x ++ rest), [], []⟩) : evE (evIndexAddr sz H (.sl xs.length (xs.flatMap c)) (.int q i)) K := by
  obtain ⟨pre, post, rfl, rfl⟩ := at?_split h
  rw [ia_row hc hs]
  exact hk _
theorem evP_ix {s : List UInt8} {i : Int} {b : UInt8} (h : at? s i = some b) (hk : K ⟨.int .u8 (b.toNat : Int), [], []⟩) : evP (evIndex (.str s) (.int q i)) K := by
  obtain ⟨h1, h2⟩ := at?_some h
  simp only [evIndex, h1, if_true, h2, Option.map_some]
  exact hk
theorem evE_indexRef {nm : Nm} {y : List α} {i : Int} {x : α} (h : at? y i = some x) (hl : live H nm y.length = true) (hk : K ⟨.loc nm y.length (i.toNat * sz), [nm], []⟩) : evE (evIndexAddr sz H (.ref nm y.length) (.int q i)) K := by
  obtain ⟨h1, h2⟩ := at?_some h
  obtain ⟨hlt, _⟩ := List.getElem?_eq_some_iff.1 h2
  have : 0 ≤ i ∧ i < (y.length : Int) ∧ live H nm y.length = true := ⟨h1, by omega, hl⟩
  simp only [evIndexAddr]
  rw [if_pos this]
  exact hk
theorem row_at (hc : ∀ x, (c x).length = sz) {y : List α} {i : Nat} {x : α} (h : y[i]? = some x) (o s : Nat) (ho : o + s ≤ sz) : ((y.flatMap c).drop (i * sz + o)).take s = ((c x).drop o).take s := by
  obtain ⟨hlt, he⟩ := List.getElem?_eq_some_iff.1 h
  have e1 : y = y.take i ++ x :: y.drop (i + 1) := by rw [← he, ← List.drop_eq_getElem_cons hlt, List.take_append_drop]
  have e2 : (y.take i).length = i := by rw [List.length_take]; omega
  rw [← List.drop_drop]
  have := row_drop hc (y.take i) (x :: y.drop (i + 1))
  rw [e2, ← e1] at this
  rw [this, List.flatMap_cons, List.drop_append_of_le_length (by rw [hc]; omega), List.take_append_of_le_length (by rw [List.length_drop, hc]; omega)]
/-- A part of an element of a row of one's own is looked at. -/
theorem evE_loadRow {nm : Nm} {y : List α} {i : Int} {x : α} (h : at? y i = some x) (hc : ∀ x, (c x).length = sz) {row : Option (TypeId × Nat)} (hH : H nm = some ⟨row, y.length, y.flatMap c⟩) (ti : TI) (o : Nat) (ho : o + ti.size ≤ sz) {off : Nat} (hoff : off = i.toNat * sz + o) {v : PV} (hv : mkV ti (((c x).drop o).take ti.size) = some v)
    (hk : K ⟨v, [nm], []⟩) : evE (evLoad ti H (.loc nm y.length off)) K := by
  subst hoff
  obtain ⟨h1, h2⟩ := at?_some h
  have e := row_at hc h2 o ti.size ho
  simp only [evLoad, hH, e]
  rw [if_pos ⟨trivial, by rw [List.length_take, List.length_drop, hc]; omega⟩, hv]
  exact hk
/-- An element of a row is put in its place. -/
def put? {α : Type} (y : List α) (i : Int) (x : α) : Option (List α) := if 0 ≤ i ∧ i.toNat < y.length then some (y.set i.toNat x) else none
theorem put?_some {y z : List α} {i : Int} {x : α} (h : put? y i x = some z) : (0 ≤ i ∧ i.toNat < y.length) ∧ z = y.set i.toNat x := by
  unfold put? at h
  split at h
  · rename_i h1; cases h; exact ⟨h1, rfl⟩
  · cases h
theorem put?_len {y z : List α} {i : Int} {x : α} (h : put? y i x = some z) : y.length = z.length := by
  obtain ⟨_, rfl⟩ := put?_some h
  rw [List.length_set]
theorem row_set (hc : ∀ x, (c x).length = sz) {y : List α} {i : Nat} (hi : i < y.length) (x : α) : (y.flatMap c).take (i * sz) ++ c x ++ (y.flatMap c).drop (i * sz + sz) = (y.set i x).flatMap c := by
  have e0 : y = y.take i ++ y[i] :: y.drop (i + 1) := by rw [← List.drop_eq_getElem_cons hi, List.take_append_drop]
  have e2 : (y.take i).length = i := by rw [List.length_take]; omega
  have h1 : (y.flatMap c).take (i * sz) = (y.take i).flatMap c := by
    have := row_take hc (y.take i) (y[i] :: y.drop (i + 1))
    rw [e2, ← e0] at this
    exact this
  have h2 : (y.flatMap c).drop (i * sz + sz) = (y.drop (i + 1)).flatMap c := by
    have e3 : y = y.take (i + 1) ++ y.drop (i + 1) := (List.take_append_drop _ _).symm
    have := row_drop hc (y.take (i + 1)) (y.drop (i + 1))
    rw [← e3, List.length_take, Nat.min_eq_left (by omega), Nat.add_mul, Nat.one_mul] at this
    exact this
  rw [h1, h2, List.set_eq_take_append_cons_drop, if_pos hi, List.flatMap_append, List.flatMap_cons, List.append_assoc]
theorem evE_storeRow {nm : Nm} {y z : List α} {i : Int} {x : α} {v : PV} (h : put? y i x = some z) (hc : ∀ x, (c x).length = sz) {row : Option (TypeId × Nat)} (hH : H nm = some ⟨row, y.length, y.flatMap c⟩) (ti : TI) {off : Nat} (hoff : off = i.toNat * sz) (hti : ti.size = sz) (hv : v.cells = c x) (hcell : (c x).all isCell = true)
    (hk : K ⟨.undef, [nm], [(nm, ⟨row, z.length, z.flatMap c⟩)]⟩) : evE (evStore ti H v (.loc nm y.length off)) K := by
  subst hoff
  obtain ⟨⟨h1, h2⟩, rfl⟩ := put?_some h
  have e1 := row_set hc h2 x
  unfold evStore
  simp only [hH, hv, hti]
  have hm : i.toNat * sz + sz ≤ y.length * sz := by
    have := Nat.mul_le_mul_right sz (show i.toNat + 1 ≤ y.length by omega)
    rwa [Nat.add_mul, Nat.one_mul] at this
  rw [if_pos ⟨trivial, by rw [row_len hc]; exact hm, hc x, hcell⟩, e1]
  rw [List.length_set] at hk
  exact hk

/-- A row grows; 'b' are an element's bytes. -/
def app? {α : Type} (b : Nat) (y xs : List α) : Option (List α) := if (y.length + xs.length) * b ≤ 140737488355328 then some (y ++ xs) else none
theorem app?_some {b : Nat} {y xs z : List α} (h : app? b y xs = some z) : (y.length + xs.length) * b ≤ 140737488355328 ∧ z = y ++ xs := by
  unfold app? at h
  split at h
  · rename_i h1; cases h; exact ⟨h1, rfl⟩
  · cases h
theorem evE_app {e : TypeId} {j : TI} {nm nw : Nm} {y xs z : List α} {v : PV} {n m : Nat} {rd : List Nm} {cells xc : List PV} (h : app? j.bytes y xs = some z) (hc : ∀ x, (c x).length = sz) (hj : 0 < sz ∧ j.size = sz ∧ 0 < j.bytes ∧ j.zero.length = sz ∧ j.zero.all isCell = true)
    (hH : H nm = some ⟨some (e, sz), n, cells⟩) (hcl : cells = y.flatMap c) (hn : n = y.length) (hv : rowOf H sz v = some (m, xc, rd)) (hm : m = xs.length) (hxc : xc = xs.flatMap c)
    (hk : K ⟨.ref nm z.length, nm :: rd, [(nm, ⟨some (e, sz), z.length, z.flatMap c⟩)]⟩) : evE (evAppend (some (e, j)) H (.ref nm n) v nw) K := by
  obtain ⟨h1, rfl⟩ := app?_some h
  obtain ⟨j1, rfl, j3, j4, j5⟩ := hj
  subst hcl hn hm hxc
  rw [List.flatMap_append, List.length_append] at hk
  simp only [evAppend, j1, j3, j4, j5, and_self, if_true, hH, hv, row_len hc, h1]
  exact hk
theorem evE_app0 {e : TypeId} {j : TI} {nw : Nm} {xs z : List α} {v : PV} {m : Nat} {rd : List Nm} {xc : List PV} (h : app? j.bytes [] xs = some z) (hj : 0 < sz ∧ j.size = sz ∧ 0 < j.bytes ∧ j.zero.length = sz ∧ j.zero.all isCell = true)
    (hv : rowOf H sz v = some (m, xc, rd)) (hm : m = xs.length) (hxc : xc = xs.flatMap c)
    (hk : K ⟨.ref nw z.length, rd, [(nw, ⟨some (e, sz), z.length, z.flatMap c⟩)]⟩) : evE (evAppend (some (e, j)) H .nils v nw) K := by
  obtain ⟨h1, rfl⟩ := app?_some h
  obtain ⟨j1, rfl, j3, j4, j5⟩ := hj
  subst hm hxc
  rw [List.length_nil, Nat.zero_add] at h1
  (try simp only [List.nil_append] at hk)
  simp only [evAppend, j1, j3, j4, j5, and_self, if_true, hv, h1]
  exact hk
theorem rowOf_sl {xs : List α} (hc : ∀ x, (c x).length = sz) : rowOf H sz (.sl xs.length (xs.flatMap c)) = some (xs.length, xs.flatMap c, []) := by
  simp only [rowOf, row_len hc, if_true]
theorem rowOf_ref {nm : Nm} {xs : List α} {e : TypeId} (hH : H nm = some ⟨some (e, sz), xs.length, xs.flatMap c⟩) : rowOf H sz (.ref nm xs.length) = some (xs.length, xs.flatMap c, [nm]) := by
  simp only [rowOf, hH, Option.map_some, and_self, if_true]

/-- A piece. -/
def cut? {α : Type} (s : List α) (lo hi : Int) : Option (List α) := if 0 ≤ lo ∧ lo ≤ hi ∧ hi ≤ (s.length : Int) then some ((s.take hi.toNat).drop lo.toNat) else none
theorem cut?_some {s z : List α} {lo hi : Int} (h : cut? s lo hi = some z) : (0 ≤ lo ∧ lo ≤ hi ∧ hi ≤ (s.length : Int)) ∧ z = (s.take hi.toNat).drop lo.toNat := by
  unfold cut? at h
  split at h
  · rename_i h1; cases h; exact ⟨h1, rfl⟩
  · cases h
theorem cut?_len {s z : List α} {lo hi : Int} (h : cut? s lo hi = some z) : z.length = hi.toNat - lo.toNat := by
  obtain ⟨⟨h1, h2, h3⟩, rfl⟩ := cut?_some h
  rw [List.length_drop, List.length_take]; omega
theorem evP_cut {s z : List UInt8} {lo hi : Int} {p q : IntKind} (h : cut? s lo hi = some z) (hk : K ⟨.str z, [], []⟩) : evP (evSlice 0 (some (.int p lo)) (some (.int q hi)) (.str s)) K := by
  obtain ⟨⟨h1, h2, h3⟩, rfl⟩ := cut?_some h
  simp only [evSlice, cutLo, cutHi, h1, show 0 ≤ hi by omega, if_true]
  rw [if_pos ⟨by omega, by omega⟩]
  exact hk
theorem evP_cutL {s z : List UInt8} {lo : Int} {p : IntKind} (h : cut? s lo (s.length : Int) = some z) (hk : K ⟨.str z, [], []⟩) : evP (evSlice 0 (some (.int p lo)) none (.str s)) K := by
  obtain ⟨⟨h1, h2, h3⟩, rfl⟩ := cut?_some h
  simp only [evSlice, cutLo, cutHi, h1, if_true]
  rw [if_pos ⟨by omega, by omega⟩]
  rw [Int.toNat_natCast] at hk
  exact hk
theorem evP_cutH {s z : List UInt8} {hi : Int} {q : IntKind} (h : cut? s 0 hi = some z) (hk : K ⟨.str z, [], []⟩) : evP (evSlice 0 none (some (.int q hi)) (.str s)) K := by
  obtain ⟨⟨h1, h2, h3⟩, rfl⟩ := cut?_some h
  simp only [evSlice, cutLo, cutHi, h2, if_true]
  rw [if_pos ⟨by omega, by omega⟩]
  exact hk
theorem evP_cutN {s : List UInt8} (hk : K ⟨.str s, [], []⟩) : evP (evSlice 0 none none (.str s)) K := by
  simp only [evSlice, cutLo, cutHi]
  rw [if_pos ⟨by omega, by omega⟩, List.take_length, List.drop_zero]
  exact hk
theorem row_cut (hc : ∀ x, (c x).length = sz) (s : List α) (lo hi : Nat) (h : lo ≤ hi ∧ hi ≤ s.length) : ((s.flatMap c).take (hi * sz)).drop (lo * sz) = ((s.take hi).drop lo).flatMap c := by
  have e1 : (s.flatMap c).take (hi * sz) = (s.take hi).flatMap c := by
    have := row_take hc (s.take hi) (s.drop hi)
    rwa [List.take_append_drop, List.length_take, Nat.min_eq_left h.2] at this
  have e2 := row_drop hc ((s.take hi).take lo) ((s.take hi).drop lo)
  rw [List.take_append_drop, List.length_take, List.length_take, Nat.min_eq_left h.2, Nat.min_eq_left h.1] at e2
  rw [e1, e2]
theorem evP_rcut {s z : List α} {lo hi : Int} {p q : IntKind} (h : cut? s lo hi = some z) (hc : ∀ x, (c x).length = sz) (hk : K ⟨.sl z.length (z.flatMap c), [], []⟩) : evP (evSlice sz (some (.int p lo)) (some (.int q hi)) (.sl s.length (s.flatMap c))) K := by
  have hl := cut?_len h
  obtain ⟨⟨h1, h2, h3⟩, rfl⟩ := cut?_some h
  simp only [evSlice, cutLo, cutHi, h1, show 0 ≤ hi by omega, if_true]
  rw [if_pos ⟨by omega, by omega, row_len hc _⟩, row_cut hc _ _ _ ⟨by omega, by omega⟩, ← hl]
  exact hk
theorem evP_rcutL {s z : List α} {lo : Int} {p : IntKind} (h : cut? s lo (s.length : Int) = some z) (hc : ∀ x, (c x).length = sz) (hk : K ⟨.sl z.length (z.flatMap c), [], []⟩) : evP (evSlice sz (some (.int p lo)) none (.sl s.length (s.flatMap c))) K := by
  have hl := cut?_len h
  obtain ⟨⟨h1, h2, h3⟩, rfl⟩ := cut?_some h
  rw [Int.toNat_natCast] at hl hk
  simp only [evSlice, cutLo, cutHi, h1, if_true]
  rw [if_pos ⟨by omega, by omega, row_len hc _⟩, row_cut hc _ _ _ ⟨by omega, by omega⟩, ← hl]
  exact hk
theorem evP_rcutH {s z : List α} {hi : Int} {q : IntKind} (h : cut? s 0 hi = some z) (hc : ∀ x, (c x).length = sz) (hk : K ⟨.sl z.length (z.flatMap c), [], []⟩) : evP (evSlice sz none (some (.int q hi)) (.sl s.length (s.flatMap c))) K := by
  have hl := cut?_len h
  obtain ⟨⟨h1, h2, h3⟩, rfl⟩ := cut?_some h
  rw [show (0 : Int).toNat = 0 from rfl] at hl hk
  simp only [evSlice, cutLo, cutHi, h2, if_true]
  rw [if_pos ⟨by omega, by omega, row_len hc _⟩, row_cut hc _ _ _ ⟨by omega, by omega⟩, ← hl]
  exact hk
/-- A row is made, all of it zero. -/
def make? {α : Type} (b : Nat) (n : Int) (z : α) : Option (List α) := if 0 ≤ n ∧ n * b ≤ 140737488355328 then some (List.replicate n.toNat z) else none
theorem make?_some {b : Nat} {n : Int} {z : α} {y : List α} (h : make? b n z = some y) : (0 ≤ n ∧ n * b ≤ 140737488355328) ∧ y = List.replicate n.toNat z := by
  unfold make? at h
  split at h
  · rename_i h1; cases h; exact ⟨h1, rfl⟩
  · cases h
theorem evE_make {e : TypeId} {j : TI} {nm : Nm} {n : Int} {z : α} {y : List α} {p q : IntKind} (h : make? j.bytes n z = some y) (hz : j.zero = c z) (hc : ∀ x, (c x).length = sz) (hj : 0 < j.bytes ∧ 0 < sz ∧ j.size = sz) (hall : (c z).all isCell = true)
    (hk : K ⟨.ref nm y.length, [], [(nm, ⟨some (e, sz), y.length, y.flatMap c⟩)]⟩) : evE (evMakeSlice (some (e, j)) (.int p n) (.int q n) nm) K := by
  obtain ⟨⟨h1, h2⟩, rfl⟩ := make?_some h
  obtain ⟨j1, j2, rfl⟩ := hj
  have e1 : (List.replicate n.toNat (c z)).flatten = (List.replicate n.toNat z).flatMap c := by
    rw [List.flatMap_def, List.map_replicate]
  simp only [evMakeSlice, hz]
  rw [if_pos ⟨.inl trivial, h1, h1, h2, j1, j2, hc z, hall⟩, e1]
  rw [List.length_replicate] at hk
  exact hk
/-- Two texts are joined. -/
def cat? (s t : List UInt8) : Option (List UInt8) := if s.length + t.length ≤ 9223372036854775807 then some (s ++ t) else none
theorem evP_cat {s t u : List UInt8} {tk : TK} {cc : Bool} (h : cat? s t = some u) (hk : K ⟨.str u, [], []⟩) : evP (evBin tk cc .add (.str s) (.str t)) K := by
  unfold cat? at h
  split at h
  · rename_i h1
    cases h
    simp only [evBin, h1, if_true]
    exact hk
  · cases h
theorem evBin_i {tk : TK} {cc : Bool} (op : BinOp) (p q : IntKind) (x y : Int) : evBin tk cc op (.int p x) (.int q y) = match op with
    | .shl => if y < 0 then none else some (.int p (p.wrap (x * 2 ^ min y.toNat p.bits)))
    | .shr => if y < 0 then none else some (.int p (x.fdiv (2 ^ min y.toNat p.bits)))
    | _ => if p = q then evInt op p x y else none := rfl
theorem evBin_s1 {tk : TK} {cc : Bool} (s t : List UInt8) : evBin tk cc .eql (.str s) (.str t) = some (.bool (s == t)) := rfl
theorem evBin_s2 {tk : TK} {cc : Bool} (s t : List UInt8) : evBin tk cc .neq (.str s) (.str t) = some (.bool (!(s == t))) := rfl
theorem evBin_s3 {tk : TK} {cc : Bool} (s t : List UInt8) : evBin tk cc .lss (.str s) (.str t) = some (.bool (Op.bytesLess s t)) := rfl
theorem evBin_s4 {tk : TK} {cc : Bool} (s t : List UInt8) : evBin tk cc .leq (.str s) (.str t) = some (.bool (Op.bytesLess s t || s == t)) := rfl
theorem evBin_s5 {tk : TK} {cc : Bool} (s t : List UInt8) : evBin tk cc .gtr (.str s) (.str t) = some (.bool (!(Op.bytesLess s t || s == t))) := rfl
theorem evBin_s6 {tk : TK} {cc : Bool} (s t : List UInt8) : evBin tk cc .geq (.str s) (.str t) = some (.bool (!Op.bytesLess s t)) := rfl
theorem evBin_b {cc : Bool} (op : BinOp) (x y : Bool) : evBin .bool cc op (.bool x) (.bool y) = evNil op (x == y) := rfl
theorem evBin_n (op : BinOp) : evBin .iface true op .nerr .nerr = evNil op true := rfl
theorem evBin_e {cc : Bool} (op : BinOp) : evBin .iface cc op .err .nerr = evNil op false := rfl
/-- Rows of one length. -/
def same? {α : Type} (xs ys : List α) : Option Unit := if xs.length = ys.length then some () else none
theorem same?_some {α : Type} {xs ys : List α} {u : Unit} (h : same? xs ys = some u) : xs.length = ys.length := by
  unfold same? at h
  split at h
  · assumption
  · cases h
/-- A shift that is none to the other side. -/
def ge0? (y : Int) : Option Unit := if y < 0 then none else some ()
theorem ge0?_some {y : Int} {u : Unit} (h : ge0? y = some u) : ¬ y < 0 := by
  unfold ge0? at h
  split at h
  · cases h
  · assumption
theorem evLoad_p (i : TI) (H : Nm → Option Buf) (cs : List PV) : evLoad i H (.ptr cs) = if (cs.take i.size).length = i.size then (mkV i (cs.take i.size)).map fun v => ⟨v, [], []⟩ else none := rfl
theorem evLoad_b (i : TI) (H : Nm → Option Buf) (nm : Nm) (off : Nat) : evLoad i H (.loc nm 0 off) = match H nm with
    | some b => if b.n = 0 ∧ ((b.cells.drop off).take i.size).length = i.size then (mkV i ((b.cells.drop off).take i.size)).map fun v => ⟨v, [nm], []⟩ else none
    | none => none := rfl
theorem evStore_b (i : TI) (H : Nm → Option Buf) (x : PV) (nm : Nm) (off : Nat) : evStore i H x (.loc nm 0 off) = match H nm with
    | some b => if b.n = 0 ∧ off + i.size ≤ b.cells.length ∧ x.cells.length = i.size ∧ x.cells.all isCell = true then
        some ⟨.undef, [nm], [(nm, { b with cells := b.cells.take off ++ x.cells ++ b.cells.drop (off + i.size) })]⟩ else none
    | none => none := rfl
/-- A part of an element is put in its place. -/
theorem row_put (hc : ∀ x, (c x).length = sz) {y : List α} {i : Nat} {x x' : α} (hx : y[i]? = some x) (o : Nat) (ds : List PV) (ho : o + ds.length ≤ sz) (hx' : c x' = (c x).take o ++ ds ++ (c x).drop (o + ds.length)) :
    (y.flatMap c).take (i * sz + o) ++ ds ++ (y.flatMap c).drop (i * sz + o + ds.length) = (y.set i x').flatMap c := by
  obtain ⟨hi, he⟩ := List.getElem?_eq_some_iff.1 hx
  have e0 : y = y.take i ++ x :: y.drop (i + 1) := by rw [← he, ← List.drop_eq_getElem_cons hi, List.take_append_drop]
  have e2 : (y.take i).length = i := by rw [List.length_take]; omega
  have e3 : ((y.take i).flatMap c).length = i * sz := by rw [row_len hc, e2]
  have e4 : y.flatMap c = (y.take i).flatMap c ++ (c x ++ (y.drop (i + 1)).flatMap c) := by
    conv => lhs; rw [e0]
    rw [List.flatMap_append, List.flatMap_cons]
  have e5 : (y.set i x').flatMap c = (y.take i).flatMap c ++ (c x' ++ (y.drop (i + 1)).flatMap c) := by
    rw [List.set_eq_take_append_cons_drop, if_pos hi, List.flatMap_append, List.flatMap_cons]
  have l1 : (c x).length = sz := hc x
  rw [e5, e4, hx']
  rw [show i * sz + o + ds.length = ((y.take i).flatMap c).length + (o + ds.length) by rw [e3]; omega, show i * sz + o = ((y.take i).flatMap c).length + o by rw [e3]]
  rw [List.take_length_add_append, List.drop_length_add_append, List.take_append_of_le_length (by omega), List.drop_append_of_le_length (by omega)]
  simp only [List.append_assoc]
theorem evE_putRow {nm : Nm} {y z : List α} {i : Int} {x x' : α} {v : PV} (hx : at? y i = some x) (h : put? y i x' = some z) (hc : ∀ x, (c x).length = sz) {row : Option (TypeId × Nat)} (hH : H nm = some ⟨row, y.length, y.flatMap c⟩) (ti : TI) (o : Nat) (ho : o + ti.size ≤ sz) {off : Nat} (hoff : off = i.toNat * sz + o) (hv : v.cells.length = ti.size) (hcell : v.cells.all isCell = true)
    (hx' : c x' = (c x).take o ++ v.cells ++ (c x).drop (o + ti.size)) (hk : K ⟨.undef, [nm], [(nm, ⟨row, z.length, z.flatMap c⟩)]⟩) : evE (evStore ti H v (.loc nm y.length off)) K := by
  subst hoff
  obtain ⟨⟨h1, h2⟩, rfl⟩ := put?_some h
  have e1 := row_put hc (at?_some hx).2 o v.cells (by omega) (by rw [hv]; exact hx')
  unfold evStore
  simp only [hH]
  have hm : i.toNat * sz + sz ≤ y.length * sz := by
    have := Nat.mul_le_mul_right sz (show i.toNat + 1 ≤ y.length by omega)
    rwa [Nat.add_mul, Nat.one_mul] at this
  rw [hv] at e1
  rw [if_pos ⟨trivial, by rw [row_len hc]; omega, hv, hcell⟩, e1]
  rw [List.length_set] at hk
  exact hk
/-- A number that one may divide by. -/
def nz? (y : Int) : Option Unit := if y = 0 then none else some ()
theorem nz?_some {y : Int} {u : Unit} (h : nz? y = some u) : ¬ y = 0 := by
  unfold nz? at h
  split at h
  · cases h
  · assumption
/-- A text out of numbers. -/
def text? : List Int → Option (List UInt8)
  | [] => some []
  | n :: l => if 0 ≤ n ∧ n < 256 then (text? l).map (UInt8.ofNat n.toNat :: ·) else none
end
/-- What is left of a row behind so many. -/
def Rg {α : Type} (xs : List α) (i : Nat) (post : List α) : Prop := ∃ pre, xs = pre ++ post ∧ pre.length = i
theorem rg_0 {α : Type} (xs : List α) : Rg xs 0 xs := ⟨[], rfl, rfl⟩
theorem rg_nil {α : Type} {xs : List α} {i : Nat} (h : Rg xs i []) : decide ((i : Int) < (xs.length : Int)) = false := by
  obtain ⟨pre, rfl, rfl⟩ := h; simp
theorem rg_cons {α : Type} {xs post : List α} {i : Nat} {x : α} (h : Rg xs i (x :: post)) : decide ((i : Int) < (xs.length : Int)) = true := by
  obtain ⟨pre, rfl, rfl⟩ := h; simp; omega
theorem w64 (x : Int) (h1 : -9223372036854775808 ≤ x) (h2 : x ≤ 9223372036854775807) : IntKind.i64.wrap x = x := by
  have e : IntKind.i64.wrap x = (x + 9223372036854775808) % 18446744073709551616 - 9223372036854775808 := by
    simp [IntKind.wrap, IntKind.signed, IntKind.bits]
    first | rfl | omega
  rw [e]; omega
theorem rg_step {α : Type} {xs post : List α} {i : Nat} {x : α} (h : Rg xs i (x :: post)) (hb : xs.length ≤ 9223372036854775807) : IntKind.i64.wrap ((i : Int) + 1) = ((i + 1 : Nat) : Int) := by
  obtain ⟨pre, hx, rfl⟩ := h
  have : xs.length = pre.length + (post.length + 1) := by rw [hx]; simp
  rw [w64 _ (by omega) (by omega)]; simp
theorem rg_next {α : Type} {xs post : List α} {i : Nat} {x : α} (h : Rg xs i (x :: post)) : Rg xs (i + 1) post := by
  obtain ⟨pre, rfl, rfl⟩ := h; exact ⟨pre ++ [x], by simp, by simp⟩

/-- The element that a round looks at. -/
theorem evE_round {α : Type} {c : α → List PV} {sz : Nat} {H : Nm → Option Buf} {q : IntKind} {xs post : List α} {i : Nat} {x : α} (h : Rg xs i (x :: post)) (hc : ∀ x, (c x).length = sz) (hs : 0 < sz) (hk : ∀ rest, K ⟨.ptr (c x ++ rest), [], []⟩) : evE (evIndexAddr sz H (.sl xs.length (xs.flatMap c)) (.int q (i : Int))) K := by
  obtain ⟨pre, rfl, rfl⟩ := h
  rw [ia_row hc hs]
  exact hk _
/-- A text made a row of bytes. -/
def bytes? (s : List UInt8) : Option (List Int) := if s.length ≤ 9223372036854775807 then some (s.map fun b => (b.toNat : Int)) else none
theorem evE_bytes {c : Int → List PV} {s : List UInt8} {y : List Int} (hc : ∀ n, c n = [.int .u8 n]) (h : bytes? s = some y) (hk : K ⟨.sl y.length (y.flatMap c), [], []⟩) : evE (if s.length ≤ 9223372036854775807 then some ⟨.sl s.length (s.map fun b => .int .u8 b.toNat), [], []⟩ else none) K := by
  unfold bytes? at h
  split at h
  · rename_i h1
    cases h
    rw [if_pos h1]
    have e : (s.map fun b => (b.toNat : Int)).flatMap c = s.map fun b => PV.int .u8 b.toNat := by
      clear hk h1
      induction s with
      | nil => rfl
      | cons b s ih => rw [List.map_cons, List.flatMap_cons, hc, ih]; rfl
    rw [e, List.length_map] at hk
    exact hk
  · cases h
/-- A row of bytes made a text. -/
theorem bytes_text {c : Int → List PV} {l : List Int} {s : List UInt8} (hc : ∀ n, c n = [.int .u8 n]) (h : text? l = some s) : bytesOf (l.flatMap c) = some s := by
  induction l generalizing s with
  | nil => cases h; rfl
  | cons n l ih =>
    rw [text?] at h
    split at h
    · rename_i h1
      rw [Option.map_eq_some_iff] at h
      obtain ⟨t, ht, rfl⟩ := h
      rw [List.flatMap_cons, hc]
      simp only [List.cons_append, List.nil_append, bytesOf, h1, and_self, if_true, ih ht, Option.map_some]
    · cases h
theorem logOK_pure {ms : List Nat} {log : Log} (h : ∀ x ∈ log, x.2 = []) : logOK ms log := by
  intro j i _ x y m hx hy _
  right
  have h1 := h x (List.mem_of_getElem? hx)
  have h2 := h y (List.mem_of_getElem? hy)
  constructor
  · intro q hq; rw [h1] at hq; simp at hq
  · intro q hq; rw [h2] at hq; simp at hq
def apartB (x y : List Nm × List Nm) : Bool := x.2.all fun i => !y.1.contains i && !y.2.contains i
def logB (ms : List Nat) (log : Log) : Bool :=
  (List.range log.length).all fun i => (List.range i).all fun j => (ms.getD i 0).testBit j || (apartB (log.getD j ([], [])) (log.getD i ([], [])) && apartB (log.getD i ([], [])) (log.getD j ([], [])))
theorem apartB_ok {x y : List Nm × List Nm} (h : apartB x y = true) : apartN x y := by
  intro i hi
  have := List.all_eq_true.1 h i hi
  simpa using this
theorem lgEnd_dec {ops : Array Oper} {log : Log} {K : Prop} (h : logB (masks ops.toList) log = true) (hk : K) : lgEnd ops (some log) K := by
  refine ⟨?_, hk⟩
  intro j i hji x y m hx hy hm
  have hi : i < log.length := (List.getElem?_eq_some_iff.1 hy).1
  have h1 := List.all_eq_true.1 (List.all_eq_true.1 h i (List.mem_range.2 hi)) j (List.mem_range.2 hji)
  rw [List.getD_eq_getElem?_getD, List.getD_eq_getElem?_getD, List.getD_eq_getElem?_getD, hx, hy, hm] at h1
  simp only [Option.getD_some, Bool.or_eq_true, Bool.and_eq_true] at h1
  rcases h1 with h1 | ⟨h1, h2⟩
  · exact .inl h1
  · exact .inr ⟨apartB_ok h1, apartB_ok h2⟩
theorem lgEnd_pure {ops : Array Oper} {log : Log} {K : Prop} (h : ∀ x ∈ log, x.2 = []) (hk : K) : lgEnd ops (some log) K := ⟨logOK_pure h, hk⟩
end
end Go.Proofs.YthcmcjkljjfccaaGreatDoor.Abs
set_option linter.unusedVariables false
namespace Go.Proofs.YthcmcjkljjfccaaGreatDoor.Abs
open Go Go.RowKit

/-! ## Contracts whose end may say less -/

def upQ (P : Program) [Begin P] (J : St → Prop) : Exit → St → Prop
  | .normal, st => Up P J st
  | .ret, st => Up P J st
  | _, _ => False

section
variable {P : Program} [Begin P]

theorem upQ_n (J : St → Prop) (st : St) : upQ P J .normal st = Up P J st := rfl
theorem upQ_r (J : St → Prop) (st : St) : upQ P J .ret st = Up P J st := rfl

theorem AW.up {B : Base} (hB : BaseOK P B) {c : Code} {J : St → Prop} {st : St} {Q : Exit → St → Prop} (hn : ∀ st, J st → Q .normal st) (hr : ∀ st, J st → Q .ret st) (h : AW P B c (upQ P J) st) : AW P B c Q st := by
  intro Γ a w hsr
  refine wp_mono (h Γ a w hsr) ?_
  rintro e a w ⟨Γ', st', h1, h2⟩
  cases e with
  | normal =>
    obtain ⟨st2, Γ2, h3, h4⟩ := h2 B Γ' a w hB h1
    exact ⟨Γ2, st2, h3, hn _ h4⟩
  | ret =>
    obtain ⟨st2, Γ2, h3, h4⟩ := h2 B Γ' a w hB h1
    exact ⟨Γ2, st2, h3, hr _ h4⟩
  | exit id => exact h2.elim
  | goto l => exact h2.elim
  | panic ch => exact h2.elim
  | outgrown => exact h2.elim

theorem UpC.to {c : Code} {Q : Exit → St → Prop} {st : St} (l : List (Nat × PV)) (nb : List (Nm × Buf)) (t0 : Nat) (k : pwp P c Q ⟨frL l, hL nb, t0⟩)
    (h1 : l.map (fun x => st.fr x.1) = l.map (·.2) := by simp only [go_sem])
    (h2 : nb.map (fun x => st.H x.1) = nb.map (fun x => some x.2) := by simp only [go_sem])
    (h3 : inNL (nb.map (·.1)) (l.map (·.2)) = true := by simp only [go_sem] <;> rfl)
    (h4 : nb.all (fun x => inNL (nb.map (·.1)) x.2.cells && decide (x.1.1 < t0)) = true := by simp only [go_sem] <;> rfl)
    (h5 : ∀ j, (st.H (hole j)).isSome = true → (nb.map (·.1)).contains (hole j) = true := by intro j; simp only [go_sem, hole]) : UpC P c Q st :=
  Up.to (J := fun st => pwp P c Q st) l nb t0 k h1 h2 h3 h4 h5
/-- A road may end in a state that says less. -/
theorem PCF.introU {g : Nat} {fn : Func} {c : Code} {args : List PV} {e : TypeId} {sz n : Nat} {cells : List PV} {rs : List ResultVar} (hf : P.funcs[g]? = some fn) (hb : fn.body = some c) (hrs : fn.results.toList = rs) (hm : P.follows .mixedOrders = true) (hcl : callable P g = true) (hok : codeOK fn.ntmps c = true) (hN : args.length ≤ fn.ntmps)
    (hsz : 0 < sz) (hall : cells.all isCell = true) (hset : settledL cells = true) (h : pwp P c (upQ P (retF rs e sz n cells)) (st0 args)) : PCF P g args e sz n cells :=
  PCF.introA hf hb hrs hm hcl hok hN hsz hall hset (fun B hB hN' => AW.up hB (fun _ h => h) (fun _ h => h) (pwp_sound hB hm c (hN' ▸ hok) _ _ h))
theorem retF_i {t : Nat} {e : TypeId} {sz n : Nat} {cells : List PV} {st : St} (nm : Nm) (h1 : st.fr t = .ref nm n) (h2 : st.H nm = some ⟨some (e, sz), n, cells⟩) : retF [.tmp t] e sz n cells st := ⟨nm, h1, h2⟩

/-- The start of an activation that is handed things of its caller. -/
def st0H (args : List PV) (nb : List (Nm × Buf)) : St := { fr := fun s => args.getD s .undef, H := hL nb, t := 1 }
def holesL : Nat → List Buf → List (Nm × Buf)
  | _, [] => []
  | k, b :: bs => (hole k, b) :: holesL (k + 1) bs
theorem hL_holes : ∀ (bs : List Buf) (k : Nat) (i : Nm), hL (holesL k bs) i = if isHole i then (if k ≤ i.2.2 then bs[i.2.2 - k]? else none) else none
  | [], k, i => by simp [holesL, hL]
  | b :: bs, k, i => by
    simp only [holesL, hL, hL_holes bs (k + 1) i]
    by_cases hi : isHole i = true
    · simp only [hi, if_true]
      have he := isHole_eq hi
      by_cases hk : i.2.2 = k
      · have : i = hole k := by rw [he, hk]
        rw [if_pos this, if_pos (by omega), hk, Nat.sub_self]; rfl
      · have : ¬ i = hole k := by intro h; rw [h] at hk; exact hk rfl
        rw [if_neg this]
        by_cases hle : k + 1 ≤ i.2.2
        · rw [if_pos hle, if_pos (by omega), show i.2.2 - k = (i.2.2 - (k + 1)) + 1 by omega, List.getElem?_cons_succ]
        · rw [if_neg hle, if_neg (by omega)]
    · have hf : isHole i = false := by simpa using hi
      have : ¬ i = hole k := by intro h; rw [h] at hi; exact hi rfl
      rw [if_neg this]; simp [hf]
theorem bufsH_hL (bs : List Buf) : bufsH bs = hL (holesL 0 bs) := by
  funext i
  rw [hL_holes]
  simp [bufsH]
theorem Static.mk' {g : Nat} {args : List PV} {bin bout : List Buf} {r : PV} (h1 : callable P g = true) (h2 : holeyL bin.length args = true) (h3 : bin.all (fun b => holeyL bin.length b.cells) = true) (h4 : bin.length ≤ bout.length) (h5 : holey bout.length r = true) (h6 : bout.all (fun b => holeyL bout.length b.cells) = true) : Static P g args bin r bout :=
  ⟨h1, h2, fun b hb => List.all_eq_true.1 h3 b hb, h4, h5, fun b hb => List.all_eq_true.1 h6 b hb⟩
theorem GC.introU {g : Nat} {fn : Func} {c : Code} {args : List PV} {bin bout : List Buf} {r : PV} {rs : List ResultVar} (hf : P.funcs[g]? = some fn) (hb : fn.body = some c) (hrs : fn.results.toList = rs) (hm : P.follows .mixedOrders = true) (hst : Static P g args bin r bout) (hok : codeOK fn.ntmps c = true) (hN : args.length ≤ fn.ntmps)
    (h : pwp P c (upQ P (retG P rs bin.length r bout)) (st0H args (holesL 0 bin))) : GC P g args bin r bout := by
  have e : st0G args bin = st0H args (holesL 0 bin) := by rw [st0G, bufsH_hL]; rfl
  refine GC.introA hf hb hrs hm hst hok hN (fun B hB hN' => ?_)
  rw [e]
  exact AW.up hB (fun _ h => h) (fun _ h => h) (pwp_sound hB hm c (hN' ▸ hok) _ _ h)
theorem retG_i {rs : List ResultVar} {m : Nat} {r : PV} {bout : List Buf} {st : St} (nms : List Nm) (xs : List PV) (h1 : nms.length = bout.length) (h2 : nms.Nodup) (h3 : ∀ j, j < m → nameAt nms j = hole j) (h4 : resL P st rs = some xs) (h5 : oneOr xs = ren (nameAt nms) r)
    (h6 : nms.map st.H = bout.map fun b => some (b.ren (nameAt nms))) : retG P rs m r bout st := by
  refine ⟨nms, xs, h1, h2, h3, h4, h5, fun j b hb => ?_⟩
  have hj : j < bout.length := (List.getElem?_eq_some_iff.1 hb).1
  have e : (nms.map st.H)[j]? = (bout.map fun b => some (b.ren (nameAt nms)))[j]? := by rw [h6]
  rw [List.getElem?_map, List.getElem?_map, nameAt_get (by omega), hb] at e
  simpa using e

section
variable {τ k : Nat} {d : Option Nat} {K : Eff → Prop} {H : Nm → Option Buf}
theorem bufs_at {bin : List Buf} {σ : List Nm} {ν : Nat → Nm} (hσ : σ.length = bin.length) (h : σ.map H = bin.map fun b => some (b.ren ν)) : ∀ (j : Nat) b, bin[j]? = some b → H (nameAt σ j) = some (b.ren ν) := by
  intro j b hb
  have hj : j < bin.length := (List.getElem?_eq_some_iff.1 hb).1
  have e : (σ.map H)[j]? = (bin.map fun b => some (b.ren ν))[j]? := by rw [h]
  rw [List.getElem?_map, List.getElem?_map, nameAt_get (by omega), hb] at e
  simpa using e
/-- What is handed is taken over; what is new comes back. -/
theorem CallS.take {g : Nat} {acts args : List PV} {bin bout : List Buf} {r : PV} (h : GC P g args bin r bout) (σ ns : List Nm) (hσ : σ.length = bin.length) (hnd : σ.Nodup) (hns : ns = σ ++ newNames τ k (bout.length - bin.length)) (ha : renL (nameAt ns) args = acts)
    (hH : σ.map H = bin.map fun b => some (b.ren (nameAt ns))) (hk : K ⟨ren (nameAt ns) r, σ, ns.zip (bout.map (Buf.ren (nameAt ns)))⟩) : CallS P τ (some k) g acts H K := by
  subst hns
  exact CallS.gc h σ hσ hnd rfl ha (bufs_at hσ hH) hk
/-- What is handed is turned. -/
theorem CallS.turn {g : Nat} {acts args : List PV} {bin bout : List Buf} {r : PV} (h : GC P g args bin r bout) (σ : List Nm) (hσ : σ.length = bin.length) (hl : bout.length = bin.length) (hnd : σ.Nodup) (ha : renL (nameAt σ) args = acts)
    (hH : σ.map H = bin.map fun b => some (b.ren (nameAt σ))) (hk : K ⟨ren (nameAt σ) r, σ, σ.zip (bout.map (Buf.ren (nameAt σ)))⟩) : CallS P τ d g acts H K :=
  CallS.gcn h σ hσ hl hnd rfl ha (bufs_at hσ hH) hk
end
section
variable {α : Type} {c : α → List PV}
theorem holeyL_settled' (h : ∀ x, canonL (c x) = true) (m : Nat) (l : List α) : holeyL m (l.flatMap c) = true := holeyL_settled m _ (canonL_settled _ (row_canon h l))
theorem renL_row (h : ∀ x, canonL (c x) = true) (ν : Nat → Nm) (l : List α) : renL ν (l.flatMap c) = l.flatMap c := renL_settled ν _ (canonL_settled _ (row_canon h l))
end
theorem app_w {fr : Nat → PV} {H : Nm → Option Buf} {t k : Nat} (v : PV) (rd : List Nm) (wr : List (Nm × Buf)) : St.app ⟨fr, H, t⟩ (some k) ⟨v, rd, wr⟩ = ⟨setSlot fr (some k) v, wr.foldl (fun H x => upd H x.1 x.2) H, t⟩ := rfl
end
end Go.Proofs.YthcmcjkljjfccaaGreatDoor.Abs
