/-
  From what a row says of its arguments to the contracts, and back.
-/
import Derived.ProofKit
import Derived.OpenShut
import Derived.Carry
import Derived.Stop.LaidErr
import Derived.Deep.DeepHandedRow
import Derived.Lib.LaidTab
import Derived.Lay
import Derived.MakeChecks
import Derived.SevenTiedAt
import Derived.Test.YthcmcjkljjfccaaGreatDoorCards
import Derived.Test.YthcmcjkljjfccaaGreatDoorTie
import Derived.Test.YthcmcjkljjfccaaGreatDoorPlain
set_option linter.unusedVariables false
set_option linter.unusedSimpArgs false
set_option maxRecDepth 20000
set_option linter.unusedVariables false
set_option linter.unusedSimpArgs false
namespace Go.Proofs.YthcmcjkljjfccaaGreatDoor.Abs
open Go Go.ChangeShapes Go.WideShapes Go.ChangeAt Go.RowKit

/-! ## What a reading of the arguments tells -/
theorem IR_one {S : Nat → Prop} {w : World} : ∀ {u : PV} {c : Value}, isCell u = true → IR S w u c → c.oneCell' = true
  | .bool _, c, _, h => by simp only [IR] at h; subst h; rfl
  | .int _ _, c, _, h => by simp only [IR] at h; subst h; rfl
  | .str _, c, _, h => by simp only [IR] at h; subst h; rfl
  | .nils, c, _, h => by simp only [IR] at h; subst h; rfl
  | .sl _ _, c, _, h => by simp only [IR] at h; obtain ⟨A, k, rfl, _⟩ := h; rfl
  | .nerr, c, _, h => by simp only [IR] at h; subst h; rfl
  | .err, c, _, h => by simp only [IR] at h; obtain ⟨t, x, rfl⟩ := h; rfl
  | .ref _ _, c, _, h => by simp only [IR] at h
  | .loc _ _ _, _, h, _ => by simp [isCell] at h
  | .ptr _, _, h, _ => by simp [isCell] at h
  | .agg _, _, h, _ => by simp [isCell] at h
  | .tup _, _, h, _ => by simp [isCell] at h
  | .fn _ _, _, h, _ => by simp [isCell] at h
  | .undef, _, h, _ => by simp [isCell] at h
  | .junk, _, h, _ => by simp [isCell] at h
theorem ILR_one {S : Nat → Prop} {w : World} : ∀ {cs : List PV} {l : List Value}, cs.all isCell = true → ILR S w cs l → ∀ u ∈ l, u.oneCell' = true
  | [], l, _, h => by simp only [ILR] at h; subst h; simp
  | u :: us, l, hc, h => by
    simp only [ILR] at h
    obtain ⟨c, r, rfl, h1, h2⟩ := h
    rw [List.all_cons, Bool.and_eq_true] at hc
    intro x hx
    rcases List.mem_cons.1 hx with rfl | hx
    · exact IR_one hc.1 h1
    · exact ILR_one hc.2 h2 x hx
theorem ILR_app {S : Nat → Prop} {w : World} : ∀ {us vs : List PV} {l m : List Value}, ILR S w us l → ILR S w vs m → ILR S w (us ++ vs) (l ++ m)
  | [], vs, l, m, h, k => by simp only [ILR] at h; subst h; exact k
  | u :: us, vs, l, m, h, k => by
    simp only [ILR] at h
    obtain ⟨c, r, rfl, h1, h2⟩ := h
    simp only [List.cons_append, ILR]
    exact ⟨c, r ++ m, rfl, h1, ILR_app h2 k⟩
theorem addr_add0 (ad : Addr) : ad.add 0 = ad := by cases ad; rfl
theorem CR_app {S : Nat → Prop} {w : World} : ∀ {us vs : List PV} {ad : Addr}, CR S w us ad → CR S w vs (ad.add us.length) → CR S w (us ++ vs) ad
  | [], vs, ad, h, k => by rw [List.length_nil, addr_add0] at k; exact k
  | u :: us, vs, ad, h, k => by
    simp only [CR] at h
    simp only [List.cons_append, CR]
    refine ⟨h.1, CR_app h.2 ?_⟩
    rw [add_add', Nat.add_comm 1]; exact k
section
variable {H : Type} {enc : TypeId × Value → H} {P : Program} {S : Nat → Prop} {W : World} {b : DataW H → Nat} {N : Nat} {α β : Type}
/-- How much a reading holds. -/
structure Bulk (b : DataW H → Nat) : Prop where
  str : ∀ s, b (.lit (.string s)) = s.length + 1
  agg : ∀ ps, b (.agg ps) = (ps.map b).sum + 1
  slice : ∀ e s, b (.slice e s) = (e.map b).sum + (s.map b).sum + 1
  one : ∀ d, 1 ≤ b d
theorem le_sum (b : DataW H → Nat) : ∀ {l : List (DataW H)} {d : DataW H}, d ∈ l → b d ≤ (l.map b).sum
  | x :: l, d, h => by
    simp only [List.map_cons, List.sum_cons]
    rcases List.mem_cons.1 h with rfl | h
    · omega
    · have := le_sum b h; omega
theorem len_sum (hb : Bulk b) : ∀ (l : List (DataW H)), l.length ≤ (l.map b).sum
  | [] => by simp
  | x :: l => by
    have := len_sum hb l
    have := hb.one x
    simp only [List.map_cons, List.sum_cons, List.length_cons]; omega
/-- Cells of a type, read as a datum, are the image of something small. -/
structure Rd (enc : TypeId × Value → H) (P : Program) (S : Nat → Prop) (W : World) (b : DataW H → Nat) (N : Nat) (t : TypeId) (c : α → List PV) (sm : α → Prop) : Prop where
  pos : 0 < P.cellsOf t
  len : ∀ a, (c a).length = P.cellsOf t
  cell : ∀ a, (c a).all isCell = true
  read : ∀ (n : Nat) (cs : List Value) (x : DataW H × List MemPlace), DataW.trod enc P W 0 (fun _ => true) true n t cs = some x → b x.1 ≤ N → ∃ a, ILR S W (c a) cs ∧ sm a
theorem rd_str (hb : Bulk b) {t : TypeId} (ht : P.underlying t = some .string) (hc : P.cellsOf t = 1) : Rd enc P S W b N t (fun s : Str => [.str s]) (fun s => s.length ≤ N) where
  pos := by omega
  len := fun _ => hc.symm
  cell := fun _ => rfl
  read := fun n cs x h hl => by
    obtain ⟨s, rfl, rfl, _⟩ := DataW.trod_string ht h
    refine ⟨s.data.toList, ⟨_, _, rfl, ?_, rfl⟩, ?_⟩
    · simp only [IR]
    · have := hb.str s.data.toList; simp only at hl; omega
theorem rd_int {t : TypeId} {k : IntKind} (ht : P.underlying t = some (.int k)) (hc : P.cellsOf t = 1) : Rd enc P S W b N t (fun n : Int => [.int k n]) (fun _ => True) where
  pos := by omega
  len := fun _ => hc.symm
  cell := fun _ => rfl
  read := fun n cs x h hl => by
    obtain ⟨z, rfl, rfl, _⟩ := DataW.trod_int ht h
    exact ⟨z, ⟨_, _, rfl, by simp only [IR], rfl⟩, trivial⟩
theorem rd_bool {t : TypeId} (ht : P.underlying t = some .bool) (hc : P.cellsOf t = 1) : Rd enc P S W b N t (fun n : Bool => [.bool n]) (fun _ => True) where
  pos := by omega
  len := fun _ => hc.symm
  cell := fun _ => rfl
  read := fun n cs x h hl => by
    obtain ⟨z, rfl, rfl⟩ := DataW.trod_bool ht h
    exact ⟨z, ⟨_, _, rfl, by simp only [IR], rfl⟩, trivial⟩
theorem cells_at {w : World} {ad : Addr} {n : Nat} {cs : List Value} (h : w.cells? 0 ad n = some cs) : cs.length = n ∧ ∀ (j : Nat) u, cs[j]? = some u → w.cell? (ad.add j) = some u := by
  unfold World.cells? at h
  rw [if_pos (Nat.zero_le _)] at h
  have hl : cs.length = n := by simpa using mapM_some_length h
  refine ⟨hl, fun j u hu => ?_⟩
  have hj : j < n := by
    obtain ⟨h1, _⟩ := List.getElem?_eq_some_iff.1 hu
    omega
  have := mapM_some_get h j j (by simp [hj])
  rw [this, hu]
theorem rd_slice (hb : Bulk b) (hS : ∀ ad v, W.cell? ad = some v → S ad.block) {t e : TypeId} {c : α → List PV} {sm : α → Prop} (ht : P.underlying t = some (.slice e)) (hc : P.cellsOf t = 1) (he : Rd enc P S W b N e c sm) :
    Rd enc P S W b N t (fun xs : List α => [.sl xs.length (xs.flatMap c)]) (fun xs => xs.length ≤ N ∧ ∀ x ∈ xs, sm x) where
  pos := by omega
  len := fun _ => hc.symm
  cell := fun _ => rfl
  read := fun n cs x h hl => by
    rcases DataW.trod_slice ht h with ⟨rfl, rfl⟩ | ⟨a, len, cap, elems, rest, m, rfl, rfl, rfl, _, hlc, hcm, hlen, hel, _, _⟩
    · exact ⟨[], ⟨_, _, rfl, by simp only [IR]; exact ⟨none, 0, rfl, Nat.le_refl _, Nat.zero_le _, .inl rfl⟩, rfl⟩, by simp, by simp⟩
    · simp only at hl
      rw [hb.slice] at hl
      have key : ∀ k, k ≤ len → ∃ xs : List α, xs.length = k ∧ (∀ x ∈ xs, sm x) ∧ CR S W (xs.flatMap c) (a.add ((len - k) * P.cellsOf e)) := by
        intro k
        induction k with
        | zero => intro _; exact ⟨[], rfl, by simp, by simp [CR]⟩
        | succ k ih =>
          intro hk
          obtain ⟨xs, h1, h2, h3⟩ := ih (by omega)
          have hi : len - (k + 1) < len := by omega
          have hread := hel (len - (k + 1)) hi
          rw [List.getElem?_eq_getElem (by omega), Option.bind_eq_some_iff] at hread
          obtain ⟨ci, hci, hti⟩ := hread
          have hle : b (elems[len - (k + 1)]'(by omega)).1 ≤ N := by
            have := le_sum b (l := elems.map (·.1)) (d := (elems[len - (k + 1)]'(by omega)).1) (List.mem_map.2 ⟨_, List.getElem_mem _, rfl⟩)
            omega
          obtain ⟨y, hy1, hy2⟩ := he.read _ _ _ hti hle
          obtain ⟨hcl, hcc⟩ := cells_at hci
          refine ⟨y :: xs, by simp [h1], ?_, ?_⟩
          · intro z hz
            rcases List.mem_cons.1 hz with rfl | hz
            · exact hy2
            · exact h2 z hz
          · rw [List.flatMap_cons]
            refine CR_app ?_ ?_
            · refine CR_of_cells hy1 ?_ hcc (ILR_one (he.cell y) hy1)
              have hp := he.pos
              have h0 : ci[0]? = some (ci[0]'(by omega)) := List.getElem?_eq_getElem (by omega)
              have := hS _ _ (hcc 0 _ h0)
              exact this
            · rw [he.len, add_add']
              have : (len - (k + 1)) * P.cellsOf e + P.cellsOf e = (len - k) * P.cellsOf e := by
                rw [← Nat.succ_mul]; congr 1; omega
              rw [this]; exact h3
      obtain ⟨xs, h1, h2, h3⟩ := key len (Nat.le_refl _)
      rw [Nat.sub_self, Nat.zero_mul, addr_add0] at h3
      refine ⟨xs, ⟨_, _, rfl, ?_, rfl⟩, ?_, h2⟩
      · simp only [IR]
        exact ⟨some a, cap, by rw [h1], by omega, hcm, .inr ⟨a, rfl, h3⟩⟩
      · have := len_sum hb (elems.map (·.1))
        rw [List.length_map] at this
        omega
/-- Fields, one behind the other. -/
structure RdF (enc : TypeId × Value → H) (P : Program) (S : Nat → Prop) (W : World) (b : DataW H → Nat) (N : Nat) (fs : List Field) (off tot : Nat) (c : α → List PV) (sm : α → Prop) : Prop where
  len : ∀ a, (c a).length = tot
  cell : ∀ a, (c a).all isCell = true
  read : ∀ (n : Nat) (cs : List Value) (xs : List (DataW H × List MemPlace)), xs.length = fs.length → (∀ (i : Nat) f, fs[i]? = some f → DataW.trod enc P W 0 (fun _ => true) true n f.type ((cs.drop f.offset).take (P.cellsOf f.type)) = xs[i]?) → (∀ x ∈ xs, b x.1 ≤ N) → ∃ a, ILR S W (c a) ((cs.drop off).take tot) ∧ sm a
theorem rdf_nil {off : Nat} : RdF enc P S W b N [] off 0 (fun _ : Unit => []) (fun _ => True) where
  len := fun _ => rfl
  cell := fun _ => rfl
  read := fun n cs xs _ _ _ => ⟨(), by simp [ILR], trivial⟩
theorem rdf_cons {f : Field} {fs : List Field} {off sz tot : Nat} {c : α → List PV} {c' : β → List PV} {sm : α → Prop} {sm' : β → Prop} (ho : f.offset = off) (hs : P.cellsOf f.type = sz) (hf : Rd enc P S W b N f.type c sm) (hfs : RdF enc P S W b N fs (off + sz) tot c' sm') :
    RdF enc P S W b N (f :: fs) off (sz + tot) (fun x : α × β => c x.1 ++ c' x.2) (fun x => sm x.1 ∧ sm' x.2) where
  len := fun x => by rw [List.length_append, hf.len, hfs.len, hs]
  cell := fun x => by rw [List.all_append, hf.cell, hfs.cell]; rfl
  read := fun n cs xs hl h hb => by
    cases xs with
    | nil => simp at hl
    | cons x xs =>
      have h0 := h 0 f rfl
      rw [List.getElem?_cons_zero] at h0
      obtain ⟨y, hy1, hy2⟩ := hf.read _ _ _ h0 (hb x (by simp))
      obtain ⟨z, hz1, hz2⟩ := hfs.read n cs xs (by simpa using hl) (fun i g hg => by simpa using h (i + 1) g (by simpa using hg)) (fun x hx => hb x (by simp [hx]))
      refine ⟨(y, z), ?_, hy2, hz2⟩
      rw [List.take_add]
      rw [ho, hs] at hy1
      rw [List.drop_drop]
      exact ILR_app hy1 hz1
theorem rd_struct (hb : Bulk b) {t : TypeId} {fs : Array Field} {tot : Nat} {c : α → List PV} {sm : α → Prop} {cT : β → List PV} {smT : β → Prop} (ht : P.underlying t = some (.struct fs)) (hc : P.cellsOf t = tot) (hp : 0 < tot) (hfs : RdF enc P S W b N fs.toList 0 tot c sm)
    (g : α → β) (k : β → α) (hg : ∀ a, cT (g a) = c a) (hk : ∀ x, cT x = c (k x)) (hsm : ∀ a, sm a → smT (g a)) : Rd enc P S W b N t cT smT where
  pos := by omega
  len := fun x => by rw [hk, hfs.len, hc]
  cell := fun x => by rw [hk, hfs.cell]
  read := fun n cs x h hl => by
    obtain ⟨xs, m, rfl, rfl, hlen, hxl, hf⟩ := DataW.trod_struct ht h
    simp only at hl
    rw [hb.agg] at hl
    obtain ⟨a, h1, h2⟩ := hfs.read m cs xs (by simpa using hxl) (fun i f hi => hf i f (by simpa using hi)) (fun x hx => by
      have := le_sum b (l := xs.map (·.1)) (d := x.1) (List.mem_map.2 ⟨_, hx, rfl⟩)
      omega)
    refine ⟨g a, ?_, hsm a h2⟩
    rw [hg]
    have : (cs.drop 0).take tot = cs := by rw [List.drop_zero, List.take_of_length_le (by omega)]
    rw [this] at h1
    exact h1
/-- A parameter of struct type. -/
theorem param_struct {t : TypeId} {fs : Array Field} {r : Reach} {base : Nat} {v : Value} {d : DataW H} {ps : List MemPlace} {c : α → List PV} {sm : α → Prop} (ht : P.underlying t = some (.struct fs)) (hv : Value.okWide P W r base t v) (hr : Rd enc P S W b N t c sm)
    (h : DataW.Trod enc P W 0 (fun _ => true) true t v d ps) (hl : b d ≤ N) : ∃ a, IR S W (.agg (c a)) v ∧ sm a := by
  unfold Value.okWide at hv
  rw [ht] at hv
  obtain ⟨cs, rfl, _⟩ := hv
  obtain ⟨n, hn⟩ := h
  obtain ⟨a, h1, h2⟩ := hr.read n _ _ hn hl
  refine ⟨a, ?_, h2⟩
  simp only [IR]
  exact ⟨cs.toList, rfl, h1⟩

/-! ## What a row asks behind the call -/
theorem trodAll_stays (hl : laidOutB P = true) {W' : World} {sp : Nat → Bool} : ∀ {ts : List TypeId} {vs : List Value} {ds : List (DataW H)} {ps : List MemPlace}, (∀ t ∈ ts, P.readableRec t = true ∧ t < P.types.size) → DataW.TrodAll enc P W 0 (fun _ => true) true ts vs ds ps →
    Below W.heap.size W W' → (∀ x ∈ ps, x.block < W.heap.size) → (∀ x ∈ ps, sp x.block = true) → DataW.TrodAll enc P W' 0 sp true ts vs ds ps
  | [], vs, ds, ps, _, h, _, _, _ => by
    obtain ⟨rfl, rfl, rfl⟩ := trodAll_nil h
    rfl
  | t :: ts, vs, ds, ps, ht, h, hB, hlt, hsp => by
    obtain ⟨v, vs', d, ds', p, q, rfl, rfl, rfl, h1, h2⟩ := trodAll_cons h
    refine ⟨p, q, ?_, trodAll_stays hl (fun t h => ht t (by simp [h])) h2 hB (fun x hx => hlt x (by simp [hx])) (fun x hx => hsp x (by simp [hx])), rfl⟩
    exact WideElems.Trod_stays hl (ht t (by simp)).1 (ht t (by simp)).2 h1 (fun x hx => hB.same (hlt x (by simp [hx]))) (fun x hx => hsp x (by simp [hx]))
theorem post_of_below {f : Func} {s : ChangeSpec} {fresh handsOn again : Bool} {W W' : World} {args : Array Value} {v : Value} {ds : List (DataW H)} {before : List MemPlace} (hl : laidOutB P = true) (hts : ∀ t ∈ f.params.toList, P.readableRec t = true ∧ t < P.types.size)
    (hW : DataW.Whole enc P f.params.toList s.vars false W args.toList ds [] before) (hvars : s.vars = []) (hB : Below W.heap.size W W')
    (hres : ∀ (b : Nat) (sp : Nat → Bool) (hd : Bool), DataW.TrodAll enc P W' b sp hd f.resultTypes.toList (v.resultList f.resultTypes.size) (s.fn H (ds ++ [])).results [])
    (hargs : (s.fn H (ds ++ [])).args = ds) (hv : (s.fn H (ds ++ [])).vars = [])
    (hok : ∀ (j : Nat) (t : TypeId) (r : Value), f.resultTypes[j]? = some t → (v.resultList f.resultTypes.size)[j]? = some r → Value.okWide P W' .any 0 t r) :
    s.post enc P f false fresh handsOn again W args v W' := by
  have hlt := hW.lt
  have hW2 := hW
  obtain ⟨p, q, hA, hV, rfl, hz, _⟩ := hW2
  rw [hvars] at hV
  have hq : q = [] := hV
  subst hq
  simp only [List.append_nil] at hlt hz
  have hargs' : ∀ sp : Nat → Bool, (∀ x ∈ p, sp x.block = true) → DataW.TrodAll enc P W' 0 sp true f.params.toList args.toList (s.fn H (ds ++ [])).args p := fun sp hsp => by
    rw [hargs]
    exact trodAll_stays hl hts hA hB hlt hsp
  have hvars' : ∀ sp : Nat → Bool, DataW.TrodVars enc P W' sp s.vars (s.fn H (ds ++ [])).vars [] := fun sp => by
    rw [hvars, hv]; rfl
  refine ⟨ds, [], p ++ [], [], p, [], hW, hres _ _ _, hargs' _ (fun x hx => by simpa using hlt x hx), hvars' _, World.keptBut_mono (fun x hx => ⟨hx, Or.inr (Or.inl (by simpa using hx))⟩) (hB.frame _), fun _ => ?_⟩
  refine ⟨hok, _, _, ([] ++ p) ++ [], ⟨[] ++ p, [], trodAll_append (hargs' _ (fun _ _ => rfl)) (hres _ _ _), hvars' _, rfl, ?_, fun ha => by cases ha⟩, ?_⟩
  · intro b off hp
    simp only [List.nil_append, List.append_nil] at hp
    rw [hB.frozen (hlt _ hp)]
    exact hz b off hp
  · intro x hx _
    simpa using hx
end
end Go.Proofs.YthcmcjkljjfccaaGreatDoor.Abs
set_option maxRecDepth 20000
set_option linter.unusedVariables false
set_option linter.unusedSimpArgs false
namespace Go.Proofs.YthcmcjkljjfccaaGreatDoor.Abs
open Go Go.Proofs.Tryz Go.Proofs.YthcmcjkljjfccaaGreatDoor Go.ChangeShapes Go.WideShapes Go.ChangeAt Go.RowKit

/-! ## What all begins with -/
theorem ownK : ownKnob prog.godebug = none := by kernel_rfl
theorem laidOutK : laidOutB prog = true := by kernel_rfl
def theLaid : List (String × DataW Unit) := Rows.fnExactCandidatesOfUptoRow.laid
theorem starE : "*" ++ "errors.errorString" = "*errors.errorString" := by decide
theorem rowE (u : TypeId) (h : prog.typeName? 3 u = some "*errors.errorString") : u = 206 :=
  typeName_ptr_named (nm := "errors.errorString") (by rw [starE]; kernel_rfl) (by kernel_rfl) (by decide) u (by rw [starE]; exact h)
theorem begin_ok {W : World} (hs : W.ShapedOpen prog) (hL : laidMetH prog theLaid W) : BeginOK W := by
  rw [MakeChecks.laidMetH_plain _ _ _ (by kernel_rfl)] at hL
  have h3 := hL.tail.tail
  have h5 := h3.tail.tail
  have h6 := h5.tail
  refine ⟨hs, ?_, ?_, ?_⟩
  · exact Lib.tabIs_of_head (g := 5) (t := 210) (e := 180) (n := 20) (by kernel_rfl) (by kernel_rfl) underlying210 underlying180 (by kernel_rfl) (by kernel_rfl) h3
  · obtain ⟨a, s, h, _⟩ := laid_sentinel (g := 1) (ti := 138) (tp := 206) (te := 208) (ts := 9) h6 (by kernel_rfl) (by kernel_rfl) underlying138 rowE underlying206 underlying208 rfl rfl underlying9 (by kernel_rfl) (by kernel_rfl)
    exact ⟨_, _, h⟩
  · obtain ⟨a, s, h, _⟩ := laid_sentinel (g := 2) (ti := 138) (tp := 206) (te := 208) (ts := 9) h5 (by kernel_rfl) (by kernel_rfl) underlying138 rowE underlying206 underlying208 rfl rfl underlying9 (by kernel_rfl) (by kernel_rfl)
    exact ⟨_, _, h⟩
theorem bulkAll {H : Type} : ∀ l : List (DataW H), Rows.uptoBulkAll l = (l.map Rows.uptoBulk).sum
  | [] => rfl
  | d :: l => by rw [Rows.uptoBulkAll, bulkAll l]; rfl
theorem bulk {H : Type} : Bulk (Rows.uptoBulk (H := H)) where
  str := fun s => by simp [Rows.uptoBulk]
  agg := fun ps => by rw [Rows.uptoBulk, bulkAll]
  slice := fun e s => by rw [Rows.uptoBulk, bulkAll, bulkAll]
  one := fun d => by
    cases d with
    | lit l => cases l <;> simp [Rows.uptoBulk]
    | _ => simp [Rows.uptoBulk]
theorem small {H : Type} {l : List (DataW H)} (hk : Rows.uptoSmall H l = true) : ∀ d ∈ l, Rows.uptoBulk d ≤ 1048576 := by
  intro d hd
  have h1 := le_sum Rows.uptoBulk hd
  have h2 : Rows.uptoBulkAll l ≤ 1048576 := of_decide_eq_true hk
  rw [bulkAll] at h2
  omega
abbrev SW (W : World) : Nat → Prop := fun k => k < W.heap.size
theorem sw_ok (W : World) : ∀ ad v, W.cell? ad = some v → SW W ad.block := by
  intro ad v h
  unfold World.cell? at h
  by_cases hb : ad.block < W.heap.size
  · exact hb
  · rw [Array.getElem?_eq_none (by omega)] at h
    simp at h
theorem glob_ok {W : World} (h : BeginOK W) : Glob prog (SW W) W := ⟨W, h, fun k hk => ⟨hk, rfl⟩⟩
section
variable {H : Type} {enc : TypeId × Value → H} {W : World}
abbrev RdS {α : Type} (enc : TypeId × Value → H) (W : World) (t : TypeId) (c : α → List PV) (sm : α → Prop) : Prop := Rd enc prog (SW W) W Rows.uptoBulk 1048576 t c sm
theorem rd80 : RdS enc W 80 cTarget SmTarget :=
  rd_struct bulk underlying80 (by kernel_rfl) (by decide)
    (rdf_cons rfl rfl (rd_str bulk underlying9 (by kernel_rfl)) (rdf_cons rfl rfl (rd_str bulk underlying9 (by kernel_rfl)) (rdf_cons rfl rfl (rd_int underlying3 (by kernel_rfl)) (rdf_cons rfl rfl (rd_int underlying3 (by kernel_rfl)) rdf_nil))))
    (fun a => (⟨a.1, a.2.1, a.2.2.1, a.2.2.2.1⟩ : TTarget)) (fun x => (x.fHost, x.fData, x.fGroup, x.fWeight, ())) (fun _ => rfl) (fun _ => rfl) (fun a h => ⟨h.1, h.2.1⟩)
theorem rd24 : RdS enc W 24 (fun p : TPolicy => [.str p.fName, .sl p.fTargets.length (p.fTargets.flatMap cTarget)]) SmPolicy :=
  rd_struct bulk underlying24 (by kernel_rfl) (by decide)
    (rdf_cons rfl rfl (rd_str bulk underlying9 (by kernel_rfl)) (rdf_cons rfl rfl (rd_slice bulk (sw_ok W) underlying22 (by kernel_rfl) rd80) rdf_nil))
    (fun a => (⟨a.1, a.2.1⟩ : TPolicy)) (fun x => (x.fName, x.fTargets, ())) (fun _ => rfl) (fun _ => rfl) (fun a h => ⟨h.1, h.2.1.1, h.2.1.2⟩)
theorem rd83 : RdS enc W 83 cHost (fun x => x.fName.length ≤ 1048576) :=
  rd_struct bulk underlying83 (by kernel_rfl) (by decide)
    (rdf_cons rfl rfl (rd_str bulk underlying9 (by kernel_rfl)) (rdf_cons rfl rfl (rd_bool underlying4 (by kernel_rfl)) (rdf_cons rfl rfl (rd_int underlying3 (by kernel_rfl)) rdf_nil)))
    (fun a => (⟨a.1, a.2.1, a.2.2.1⟩ : THost)) (fun x => (x.fName, x.fUp, x.fRow, ())) (fun _ => rfl) (fun _ => rfl) (fun a h => h.1)
theorem rd27 : RdS enc W 27 (fun h : THealth => [.int .i64 h.fRise, .int .i64 h.fFall, .sl h.fHosts.length (h.fHosts.flatMap cHost)]) SmHealth :=
  rd_struct bulk underlying27 (by kernel_rfl) (by decide)
    (rdf_cons rfl rfl (rd_int underlying3 (by kernel_rfl)) (rdf_cons rfl rfl (rd_int underlying3 (by kernel_rfl)) (rdf_cons rfl rfl (rd_slice bulk (sw_ok W) underlying25 (by kernel_rfl) rd83) rdf_nil)))
    (fun a => (⟨a.1, a.2.1, a.2.2.1⟩ : THealth)) (fun x => (x.fRise, x.fFall, x.fHosts, ())) (fun _ => rfl) (fun _ => rfl) (fun a h => ⟨h.2.2.1.1, h.2.2.1.2⟩)
end
/-- A law that is true at all that it is handed, told of the call. -/
theorem calls_true {g : Nat} {args : List PV} {W : World} {cargs : List Value} (h : PC prog g args (.bool true)) (hB : BeginOK W) (hl : ILR (SW W) W args cargs) :
    Calls prog g cargs.toArray W fun e W' => e = .returned (.bool true) ∧ Below W.heap.size W W' := by
  refine (h.2 (SW W) W cargs (glob_ok hB) (fun _ hk => hk) hl).mono ?_
  rintro e W' ⟨cr, S', rfl, hr, _, _, hb⟩
  simp only [IR] at hr
  subst hr
  exact ⟨rfl, hb⟩
end Go.Proofs.YthcmcjkljjfccaaGreatDoor.Abs
