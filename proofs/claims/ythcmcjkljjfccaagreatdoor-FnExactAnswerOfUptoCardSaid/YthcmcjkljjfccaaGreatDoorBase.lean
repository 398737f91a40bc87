/-
  What the functions of this program compute, as plain functions, and how their values are told.
-/
import Derived.ShapedOpen
import Derived.Shelf.Strconv.Itoa3
import Derived.Test.YthcmcjkljjfccaaGreatDoorProg
import Derived.Shelf.Strings.SlTrimAscii
import Derived.Lib.AtoiErrMem
import Derived.Test.YthcmcjkljjfccaaGreatDoorShelf
import Derived.Test.YthcmcjkljjfccaaGreatDoorAbs2
set_option linter.unusedVariables false
set_option linter.unusedSimpArgs false
set_option linter.unusedVariables false
set_option linter.unusedSimpArgs false
set_option maxRecDepth 20000
namespace Go.Proofs.YthcmcjkljjfccaaGreatDoor.Abs
open Go Go.Proofs.Tryz

/-- What is known when all begins. -/
structure BeginOK (w : World) : Prop where
  shaped : w.ShapedOpen prog
  tab : Lib.TabIs prog w "internal/strconv.uint64pow10" .u64 Lib.pow10Tab
  syn : ∃ tp p, w.var? prog "strconv.ErrSyntax" = some #[.iface tp p]
  rng : ∃ tp p, w.var? prog "strconv.ErrRange" = some #[.iface tp p]
instance : Begin prog := ⟨BeginOK⟩
theorem mx : prog.follows .mixedOrders = true := by rfl

theorem nn_0 (t d : Nat) : newNames t d 0 = [] := rfl
theorem nn_1 (t d : Nat) : newNames t d 1 = [(t, d, 0)] := rfl
theorem nn_2 (t d : Nat) : newNames t d 2 = [(t, d, 0), (t, d, 1)] := rfl
theorem nn_3 (t d : Nat) : newNames t d 3 = [(t, d, 0), (t, d, 1), (t, d, 2)] := rfl
theorem nn_4 (t d : Nat) : newNames t d 4 = [(t, d, 0), (t, d, 1), (t, d, 2), (t, d, 3)] := rfl
theorem mn1 : min 1 64 = 1 := rfl
theorem mn2 : min 2 64 = 2 := rfl
theorem mn3 : min 3 64 = 3 := rfl
theorem mn4 : min 4 64 = 4 := rfl
theorem mn5 : min 5 64 = 5 := rfl
theorem mn6 : min 6 64 = 6 := rfl
theorem mn7 : min 7 64 = 7 := rfl
theorem mn8 : min 8 64 = 8 := rfl
theorem mn16 : min 16 64 = 16 := rfl
theorem mn24 : min 24 64 = 24 := rfl
theorem mn32 : min 32 64 = 32 := rfl
theorem mn40 : min 40 64 = 40 := rfl
theorem mn48 : min 48 64 = 48 := rfl
theorem mn56 : min 56 64 = 56 := rfl
attribute [go_sem] mn1 mn2 mn3 mn4 mn5 mn6 mn7 mn8 mn16 mn24 mn32 mn40 mn48 mn56
attribute [go_sem] pwp_seq_r pwp_region pwp_draw pwp_ret pwp_skip pwp_exit pwp_cond pwp_block pwp_loop pgo_nil pgo_cons goK_app stepK_none stepK_some gateK_t gateK_f forkK_t forkK_f
  guardS dstAt_l List.getElem?_cons_succ List.getElem?_cons_zero List.getElem?_nil Option.bind_some Option.map_some Option.map_none
  opK_move opK_assign opK_pick opK_alloc opK_box opK_build opK_buildSlice opK_load opK_store opK_nilCheck opK_binOp opK_unOp opK_convert opK_makeFunc opK_makeSlice opK_slice opK_fieldAddr opK_indexAddr opK_index opK_extract opK_call opK_len opK_append callV_fn
  evE_some evP_some evAlloc evBox evPick evBuild elemTI evBuildSlice evLoadT evStoreT evNilCheck evBinT evConvert evConvS evSliceT evFieldT evIndexAddrT evIndexT evExtract evLen
  evLoad_p evLoad_b evStore_b evField evBin_i evBin_s1 evBin_s2 evBin_s3 evBin_s4 evBin_s5 evBin_s6 evBin_b evBin_n evBin_e evInt evUn evNil isStr rowOf live mkV fillL splice PV.cells isCell isConst
  op_tmp op_const op_func app_0 app_1 app_w app_n0 app_n1 List.foldl_cons List.foldl_nil slot_eq upd_eq lgAdd_n lgAdd_s lgEnd_n
  kQ_nil kQ_cn kQ_cr kQ_ce kQ_un kQ_ur kQ_ue kQ_bn kQ_br kQ_be retQ_n retQ_r retQF_n retQF_r litPV litCell join_r join_e
  List.getD_cons_zero List.getD_cons_succ List.getD_nil Nat.reduceEqDiff if_true if_false cond_true cond_false
  resA resL resultA oneOr List.map_cons List.map_nil List.append_nil List.cons_append List.nil_append
  List.length_cons List.length_nil List.drop_succ_cons List.drop_zero List.take_succ_cons List.take_zero List.all_cons List.all_nil Bool.and_true Bool.true_and Bool.and_self
  ge_iff_le gt_iff_lt Prod.mk.injEq true_and and_true false_and and_false Bool.false_eq_true
  Bool.not_true Bool.not_false Nat.reduceAdd Nat.reduceMul Nat.reduceSub Nat.reduceLT Nat.reduceLeDiff decide_true decide_false Bool.or_true Bool.or_false Bool.true_or Bool.false_or
  eq_self Int.natCast_nonneg Int.toNat_natCast Int.toNat_zero Int.le_refl Nat.le_refl Nat.zero_le List.take_length Nat.mul_one Nat.one_mul Nat.lt_add_one beq_self_eq_true Nat.reduceBEq true_or or_true false_or or_false Int.reduceLE Int.reduceLT Int.reduceToNat Int.reduceAdd Int.reduceSub Int.reduceMul Int.reduceNeg Int.reduceEq Int.reduceBEq Int.reduceBNe Int.natCast_one Int.cast_ofNat_Int Nat.reducePow Int.reducePow Nat.reduceDiv Nat.reduceMod UInt8.reduceToNat Option.isSome_some Option.isSome_none List.replicate_succ List.replicate_zero List.flatten_cons List.flatten_nil Nat.zero_add Nat.add_zero List.toList_toArray List.size_toArray
  false_implies true_implies implies_true forall_const List.contains_cons List.contains_nil List.flatMap_nil List.flatMap_cons
attribute [go_sem] seen_bool seen_int seen_str seen_nils seen_sl seen_ptr seen_nerr seen_err seen_undef seen_ref seen_loc seen_agg seen_tup seen_fn seenL_nil seenL_cons consO_s fuel seenL_append appO_s
  upQ_n upQ_r ren renL Buf.ren nameAt hole List.zip_cons_cons List.zip_nil_left List.zip_nil_right canon canonL isHole holey holeyL nn_0 nn_1 nn_2 nn_3 nn_4 Nat.lt_irrefl
  settledL settled flat flatL flatH flatHL inN inNL frL hL convL conv setAt nz nzL Bool.and_false

abbrev Str := List UInt8
/-- So many rounds as nothing here needs. -/
def FU : Nat := 18446744073709551616
/-- A row of ints. -/
def cI (x : Int) : List PV := [.int .i64 x]
def cU (x : Int) : List PV := [.int .u8 x]
def cS (x : Str) : List PV := [.str x]
def cB (x : Bool) : List PV := [.bool x]
section
variable {α : Type} {c : α → List PV}
theorem pk_seen (h : ∀ x, canonL (c x) = true) (H : Nm → Option Buf) (k : Nat) (l : List α) : seenL H k (l.flatMap c) = some (l.flatMap c) := seenL_of_canon (row_canon h l)
theorem pk_can (h : ∀ x, canonL (c x) = true) (l : List α) : canonL (l.flatMap c) = true := row_canon h l
theorem pk_hol (h : ∀ x, canonL (c x) = true) (m : Nat) (l : List α) : holeyL m (l.flatMap c) = true := holeyL_settled' h m l
theorem pk_ren (h : ∀ x, canonL (c x) = true) (ν : Nat → Nm) (l : List α) : renL ν (l.flatMap c) = l.flatMap c := renL_row h ν l
theorem pk_set (h : ∀ x, canonL (c x) = true) (l : List α) : settledL (l.flatMap c) = true := canonL_settled _ (row_canon h l)
theorem pk_in (h : ∀ x, canonL (c x) = true) (ns : List Nm) (l : List α) : inNL ns (l.flatMap c) = true := inNL_settled ns _ (pk_set h l)
theorem pk_nz (h : ∀ x, canonL (c x) = true) (l : List α) : nzL (l.flatMap c) = l.flatMap c := nzL_canon _ (row_canon h l)
theorem pk_conv (h : ∀ x, canonL (c x) = true) (ss : List (Nm × Buf)) (l : List α) : convL ss (l.flatMap c) = l.flatMap c := convL_settled ss _ (pk_set h l)
end
theorem flatHL_append : ∀ (a b : List PV), flatHL (a ++ b) = (flatHL a && flatHL b)
  | [], b => by simp [flatHL]
  | x :: a, b => by simp [flatHL, flatHL_append a b, Bool.and_assoc]
theorem pk_flatH {α : Type} {c : α → List PV} (h : ∀ x, flatHL (c x) = true) : ∀ l : List α, flatHL (l.flatMap c) = true
  | [] => rfl
  | x :: l => by rw [List.flatMap_cons, flatHL_append, h, pk_flatH h l]; rfl
theorem cI_len (x : Int) : (cI x).length = 1 := rfl
theorem cU_len (x : Int) : (cU x).length = 1 := rfl
theorem cS_len (x : Str) : (cS x).length = 1 := rfl
theorem cB_len (x : Bool) : (cB x).length = 1 := rfl
theorem cI_can (x : Int) : canonL (cI x) = true := rfl
theorem cU_can (x : Int) : canonL (cU x) = true := rfl
theorem cS_can (x : Str) : canonL (cS x) = true := rfl
theorem cB_can (x : Bool) : canonL (cB x) = true := rfl
end Go.Proofs.YthcmcjkljjfccaaGreatDoor.Abs
set_option linter.unusedVariables false
set_option linter.unusedSimpArgs false
set_option maxRecDepth 20000
namespace Go.Proofs.YthcmcjkljjfccaaGreatDoor.Abs
open Go Go.RowKit Go.Proofs

theorem lt_of_some {w : World} {i : Nat} {o : Obj} (ho : w.heap[i]? = some o) : i < w.heap.size := by
  rcases Nat.lt_or_ge i w.heap.size with h' | h'
  · exact h'
  · simp [Array.getElem?_eq_none h'] at ho
theorem shaped_same {P : Program} {w0 w : World} (h : w0.ShapedOpen P) (hk : ∀ k, k < w0.heap.size → w.heap[k]? = w0.heap[k]?) : w.ShapedOpen P := by
  refine ⟨fun g zero t hg hz => ?_, fun k hk1 hk2 => ?_⟩
  · obtain ⟨cs, h1, h2, h3⟩ := h.1 g zero t hg hz
    refine ⟨cs, (hk g (lt_of_some h1)).trans h1, h2, fun hb => Row.ok_of_shape (fun b x hx => ?_) (h3 hb)⟩
    unfold World.shape? at hx ⊢
    have hb : b < w0.heap.size := by
      rcases Nat.lt_or_ge b w0.heap.size with h' | h'
      · exact h'
      · rw [Array.getElem?_eq_none h'] at hx; simp at hx
    rw [hk b hb]; exact hx
  · obtain ⟨o, o₀, h1, h2, h3⟩ := h.2 k hk1 hk2
    exact ⟨o, o₀, (hk k (lt_of_some h1)).trans h1, h2, h3⟩
theorem var_same {P : Program} {w0 w : World} {name : String} {cs : Array Value} (h : w0.var? P name = some cs) (hk : ∀ k, k < w0.heap.size → w.heap[k]? = w0.heap[k]?) : w.var? P name = some cs := by
  unfold World.var? at h ⊢
  cases hg : P.globalNamed name with
  | none => rw [hg] at h; simp at h
  | some g =>
    rw [hg] at h
    simp only [Option.bind_some] at h ⊢
    have hb : g < w0.heap.size := by
      rcases Nat.lt_or_ge g w0.heap.size with h' | h'
      · exact h'
      · rw [Array.getElem?_eq_none h'] at h; simp at h
    rw [hk g hb]; exact h
theorem Glob.begun {S : Nat → Prop} {w : World} (h : Glob Tryz.prog S w) : BeginOK w := by
  obtain ⟨w0, h1, h2⟩ := h
  have hk : ∀ k, k < w0.heap.size → w.heap[k]? = w0.heap[k]? := fun k hk => (h2 k hk).2
  obtain ⟨a1, a2, ⟨tp, p, a3⟩, ⟨tq, q, a4⟩⟩ := (h1 : BeginOK w0)
  exact ⟨shaped_same a1 hk, var_same a2 hk, ⟨tp, p, var_same a3 hk⟩, ⟨tq, q, var_same a4 hk⟩⟩

/-- A function of the library, that is handed no row and answers what is new or none. -/
theorem PC.lib {g : Nat} {args : List PV} {vals : List Value} {r : PV} (hc : callable Tryz.prog g = true) (ha : ∀ S w cargs, ILR S w args cargs → cargs = vals)
    (h : ∀ w, BeginOK w → Calls Tryz.prog g vals.toArray w fun e w' => ∃ cr, e = .returned cr ∧ Below w.heap.size w w' ∧ IR (fun k => w.heap.size ≤ k ∧ k < w'.heap.size) w' r cr) : PC Tryz.prog g args r := by
  refine ⟨hc, fun S w cargs hG hS hl => ?_⟩
  have := ha S w cargs hl
  subst this
  refine (h w hG.begun).mono ?_
  rintro e w' ⟨cr, rfl, hb, hr⟩
  refine ⟨cr, fun k => S k ∨ (w.heap.size ≤ k ∧ k < w'.heap.size), rfl, IR_mono (fun k hk => .inr hk) (fun _ _ => rfl) _ _ hr, fun k hk => .inl hk, fun k hk => hk, hb⟩

theorem str_of (s : Str) : (⟨s.toArray⟩ : ByteArray).data.toList = s := by simp
theorem str_size (s : Str) : (⟨s.toArray⟩ : ByteArray).size = s.length := by simp [ByteArray.size]
theorem below_alloc (w : World) (o : Obj) : Below w.heap.size w (w.alloc o) := (Keep.alloc w o).below
theorem below_drewN (w : World) (n : Nat) : Below w.heap.size w (w.drewN n) := ⟨rfl, rfl, rfl, Nat.le_refl _, fun _ _ => rfl⟩

/-- A row that lies in a block of its own. -/
theorem IR_row {S : Nat → Prop} {w : World} {b n c t : Nat} {l : List Value} {cells : List PV} {m : Nat} (hS : S b) (hb : w.heap[b]? = some (.cells l.toArray t (0, 0))) (hlen : cells.length = l.length ∨ True) (hm : m = n) (hc : n ≤ c) (hmax : c ≤ maxLen) (hl : ILR S w cells l) (h1 : ∀ u ∈ l, u.oneCell' = true) :
    IR S w (.sl m cells) (.slice (some ⟨b, 0, none⟩) n c) := by
  subst hm
  simp only [IR]
  refine ⟨_, c, rfl, hc, hmax, .inr ⟨_, rfl, CR_of_cells hl hS (fun j u hu => ?_) h1⟩⟩
  rw [add_pl]
  simp only [World.cell?, hb, Nat.zero_add]
  simpa using hu
theorem ILR_strs {S : Nat → Prop} {w : World} : ∀ ps : List ByteArray, ILR S w ((ps.map (·.data.toList)).flatMap cS) (ps.map Value.string)
  | [] => rfl
  | p :: ps => ⟨_, _, rfl, by simp [IR], ILR_strs ps⟩

def strings_Split (s sep : Str) : Option (List Str) := if s.length < 4294967281 ∧ 1 ≤ sep.length then some (Lib.split s sep) else none
theorem strings_Split_ok {s sep : Str} {r : List Str} (h : strings_Split s sep = some r) : PC Tryz.prog 90 [.str s, .str sep] (.sl r.length (r.flatMap cS)) := by
  unfold strings_Split at h
  split at h
  rotate_left
  · cases h
  rename_i hc
  cases h
  refine PC.lib (vals := [.string ⟨s.toArray⟩, .string ⟨sep.toArray⟩]) rfl (by intro S w cargs hl; simpa [ILR, IR] using hl) (fun w hw => ?_)
  refine (Tryz.strings_Split_shaped ⟨s.toArray⟩ ⟨sep.toArray⟩ w hw.shaped (by rw [str_size]; exact hc.1) (by rw [str_size]; exact hc.2)).mono ?_
  rintro e w' ⟨rfl, rfl⟩
  have hd : (Lib.splitB ⟨sep.toArray⟩ 0 (Lib.countB ⟨s.toArray⟩ ⟨sep.toArray⟩) ⟨s.toArray⟩).map (·.data.toList) = Lib.split s sep := Lib.splitB_data ⟨sep.toArray⟩ 0 (Lib.countB ⟨s.toArray⟩ ⟨sep.toArray⟩) ⟨s.toArray⟩
  have hl : (Lib.splitB ⟨sep.toArray⟩ 0 (Lib.countB ⟨s.toArray⟩ ⟨sep.toArray⟩) ⟨s.toArray⟩).length = Lib.countB ⟨s.toArray⟩ ⟨sep.toArray⟩ + 1 := Lib.splitB_all ⟨sep.toArray⟩ (by rw [str_size]; exact hc.2) 0 _ ⟨s.toArray⟩ rfl
  have hle : Lib.countB ⟨s.toArray⟩ ⟨sep.toArray⟩ ≤ s.length := by rw [← str_size]; exact Lib.countB_le ⟨sep.toArray⟩ (by rw [str_size]; exact hc.2) _ ⟨s.toArray⟩ (Nat.le_refl _)
  generalize Lib.splitB ⟨sep.toArray⟩ 0 (Lib.countB ⟨s.toArray⟩ ⟨sep.toArray⟩) ⟨s.toArray⟩ = pieces at hd hl
  refine ⟨_, rfl, below_alloc _ _, ?_⟩
  rw [← hl]
  refine IR_row (w := w.alloc (.cells (pieces.map Value.string).toArray 9)) (b := w.heap.size) (t := 9) (l := pieces.map Value.string) ⟨Nat.le_refl _, by show _ < (w.heap.push _).size; simp⟩ (by show (w.heap.push _)[w.heap.size]? = _; simp) (.inr trivial) (by rw [← hd, List.length_map]) (Nat.le_refl _) (by simp [maxLen]; omega) ?_ ?_
  · rw [← hd]; exact ILR_strs pieces
  · intro u hu
    obtain ⟨p, _, rfl⟩ := List.mem_map.1 hu
    rfl

def strings_Contains (s sub : Str) : Option Bool := if s.length < 4294967281 then some (Lib.contains s sub) else none
theorem strings_Contains_ok {s sub : Str} {r : Bool} (h : strings_Contains s sub = some r) : PC Tryz.prog 110 [.str s, .str sub] (.bool r) := by
  unfold strings_Contains at h
  split at h
  rotate_left
  · cases h
  rename_i hc
  cases h
  refine PC.lib (vals := [.string ⟨s.toArray⟩, .string ⟨sub.toArray⟩]) rfl (by intro S w cargs hl; simpa [ILR, IR] using hl) (fun w hw => ?_)
  refine (Tryz.strings_Contains_shaped ⟨s.toArray⟩ ⟨sub.toArray⟩ w hw.shaped (by rw [str_size]; exact hc)).mono ?_
  rintro e w' ⟨rfl, rfl⟩
  exact ⟨_, rfl, Below.refl _ _, rfl⟩
def strings_Cut (s sep : Str) : Option (Str × Str × Bool) := if s.length < 4294967281 then some (Lib.cut s sep) else none
theorem strings_Cut_ok {s sep : Str} {r : Str × Str × Bool} (h : strings_Cut s sep = some r) : PC Tryz.prog 95 [.str s, .str sep] (.tup [.str r.1, .str r.2.1, .bool r.2.2]) := by
  unfold strings_Cut at h
  split at h
  rotate_left
  · cases h
  rename_i hc
  cases h
  refine PC.lib (vals := [.string ⟨s.toArray⟩, .string ⟨sep.toArray⟩]) rfl (by intro S w cargs hl; simpa [ILR, IR] using hl) (fun w hw => ?_)
  refine (Tryz.strings_Cut_shaped ⟨s.toArray⟩ ⟨sep.toArray⟩ w hw.shaped (by rw [str_size]; exact hc)).mono ?_
  rintro e w' ⟨rfl, n, rfl⟩
  refine ⟨_, rfl, below_drewN _ _, ?_⟩
  simp only [IR]
  exact ⟨_, rfl, _, _, rfl, rfl, _, _, rfl, rfl, _, _, rfl, rfl, rfl⟩
def strings_Trim (s cut : Str) : Option Str := if s.length < 4294967281 ∧ cut.length < 4294967281 ∧ cut.all (fun b => decide (b.toNat < 128)) = true then some (Lib.trimS s cut) else none
theorem strings_Trim_ok {s cut : Str} {r : Str} (h : strings_Trim s cut = some r) : PC Tryz.prog 106 [.str s, .str cut] (.str r) := by
  unfold strings_Trim at h
  split at h
  rotate_left
  · cases h
  rename_i hc
  cases h
  refine PC.lib (vals := [.string ⟨s.toArray⟩, .string ⟨cut.toArray⟩]) rfl (by intro S w cargs hl; simpa [ILR, IR] using hl) (fun w hw => ?_)
  refine (Any.strings_Trim_laid Tryz.lays160 (by kernel_rfl) ⟨s.toArray⟩ ⟨cut.toArray⟩ w (by rw [str_size]; omega) (by rw [str_size]; exact hc.2.1) (ascii_of_all hc.2.2)).mono ?_
  rintro e w' ⟨rfl, hb⟩
  exact ⟨_, rfl, hb, rfl⟩
def strconv_Itoa (n : Int) : Option Str := if -9223372036854775808 ≤ n ∧ n ≤ 9223372036854775807 then some (Lib.itoa n) else none
theorem strconv_Itoa_ok {n : Int} {r : Str} (h : strconv_Itoa n = some r) : PC Tryz.prog 109 [.int .i64 n] (.str r) := by
  unfold strconv_Itoa at h
  split at h
  rotate_left
  · cases h
  rename_i hc
  cases h
  refine PC.lib (vals := [.int .i64 n]) rfl (by intro S w cargs hl; simpa [ILR, IR] using hl) (fun w hw => ?_)
  refine (Tryz.strconv_Itoa n hc.1 hc.2 w hw.tab).mono ?_
  rintro e w' ⟨rfl, k, os, rfl⟩
  exact ⟨_, rfl, ⟨rfl, rfl, rfl, by simp [Sort.grow, World.drewN], fun k hk => by simp [Sort.grow, World.drewN, Array.getElem?_append_left hk]⟩, rfl⟩
/-- Atoi at a text that is no number. -/
theorem atoi_bad (s : ByteArray) (hlim : s.size ≤ 281474976710656) (h0 : ∀ v, Lib.atoiAll s.data.toList ≠ .ok v) (h1 : Lib.atoiAll s.data.toList ≠ .range) (tp : TypeId) (p : Value) (w : World) (hvar : w.var? Tryz.prog "strconv.ErrSyntax" = some #[.iface tp p]) :
    Calls Tryz.prog 108 #[.string s] w fun e w' => ∃ t x, e = .returned (.tuple #[.int .i64 0, .iface t x]) ∧ RowKit.Below w.heap.size w w' := by
  cases h : Lib.atoiAll s.data.toList with
  | ok v => exact absurd h (h0 v)
  | range => exact absurd h h1
  | _ =>
    refine (Go.Proofs.Any.strconv_Atoi_syntax_var Tryz.laysC172 s hlim h tp p w hvar).mono ?_
    rintro e w' ⟨N, rfl, _, _, h3⟩
    exact ⟨_, _, rfl, h3⟩
/-- Atoi: the number, and whether that went wrong. -/
def strconv_Atoi (s : Str) : Option (Int × Bool) := if s.length < 4294967281 then some (match Lib.atoiAll s with
  | .ok v => (v, false)
  | .range => (Lib.atoiSat s, true)
  | _ => (0, true)) else none
theorem strconv_Atoi_ok {s : Str} {r : Int × Bool} (h : strconv_Atoi s = some r) : PC Tryz.prog 108 [.str s] (.tup [.int .i64 r.1, bif r.2 then .err else .nerr]) := by
  unfold strconv_Atoi at h
  split at h
  rotate_left
  · cases h
  rename_i hc
  refine PC.lib (vals := [.string ⟨s.toArray⟩]) rfl (by intro S w cargs hl; simpa [ILR, IR] using hl) (fun w hw => ?_)
  cases ha : Lib.atoiAll s with
  | ok v =>
    rw [ha] at h
    cases h
    refine (Tryz.strconv_Atoi_ok ⟨s.toArray⟩ (by rw [str_size]; omega) v (by rw [str_of]; exact ha) w).mono ?_
    rintro e w' ⟨rfl, hw'⟩
    refine ⟨_, rfl, ?_, ?_⟩
    · rcases hw' with rfl | ⟨t, rfl⟩
      · exact Below.refl _ _
      · exact Lib.bytesWorld_below _ _ _
    · simp only [IR, cond_false]
      exact ⟨_, rfl, _, _, rfl, rfl, _, _, rfl, rfl, rfl⟩
  | range =>
    rw [ha] at h
    cases h
    obtain ⟨tp, p, hv⟩ := hw.rng
    refine (Tryz.strconv_Atoi_range_var ⟨s.toArray⟩ (by rw [str_size]; omega) (by rw [str_of]; exact ha) tp p w hv).mono ?_
    rintro e w' ⟨N, rfl, h1, h2, h3⟩
    refine ⟨_, rfl, h3, ?_⟩
    simp only [IR, cond_true, str_of]
    exact ⟨_, rfl, _, _, rfl, rfl, _, _, rfl, ⟨_, _, rfl⟩, rfl⟩
  | _ =>
    rw [ha] at h
    cases h
    obtain ⟨tp, p, hv⟩ := hw.syn
    refine (atoi_bad ⟨s.toArray⟩ (by rw [str_size]; omega) (by rw [str_of, ha]; intro v hv; cases hv) (by rw [str_of, ha]; intro hv; cases hv) tp p w hv).mono ?_
    rintro e w' ⟨_, _, rfl, h3⟩
    refine ⟨_, rfl, h3, ?_⟩
    simp only [IR, cond_true]
    exact ⟨_, rfl, _, _, rfl, rfl, _, _, rfl, ⟨_, _, rfl⟩, rfl⟩
/-! ### Rows that are turned in place -/

theorem heap_mapBlock (w : World) (b : Nat) (f : Array Value → Array Value) (k : Nat) : (Sort.mapBlock w b f).heap[k]? = if b = k then (w.heap[k]?).map (Sort.onCells f) else w.heap[k]? := by
  show (w.heap.modify b (Sort.onCells f))[k]? = _
  rw [Array.getElem?_modify]
theorem putCells_list (d : List Int) (cur : Array Value) (h : d.length ≤ cur.size) : (Sort.putCells (Value.int .i64) 0 d.toArray cur).toList = d.map (Value.int .i64) ++ cur.toList.drop d.length := by
  apply List.ext_getElem?
  intro k
  rw [Array.getElem?_toList]
  simp only [Sort.putCells, Array.getElem?_mapIdx]
  by_cases hk : k < d.length
  · have hc : k < cur.size := by omega
    rw [Array.getElem?_eq_getElem hc, Option.map_some, if_pos ⟨Nat.zero_le _, by simpa using hk⟩, List.getElem?_append_left (by simpa using hk)]
    simp [hk]
  · rw [List.getElem?_append_right (by simp; omega), List.getElem?_drop, List.length_map]
    have e : d.length + (k - d.length) = k := by omega
    rw [e, Array.getElem?_toList]
    cases cur[k]? with
    | none => rfl
    | some y => simp only [Option.map_some]; rw [if_neg (by simp; omega)]
theorem putCells_size (d : List Int) (cur : Array Value) : (Sort.putCells (Value.int .i64) 0 d.toArray cur).size = cur.size := by simp [Sort.putCells]
theorem ints_of {Γ : Gh} {w : World} : ∀ {zs : List Int} {l : List Value}, LR Γ w (zs.flatMap cI) l → l = zs.map (Value.int .i64)
  | [], l, h => by simpa [LR] using h
  | z :: zs, l, h => by
    simp only [List.flatMap_cons, cI, List.cons_append, List.nil_append, LR] at h
    obtain ⟨c, r, rfl, h1, h2⟩ := h
    simp only [VR, IR] at h1
    subst h1
    rw [ints_of h2]; rfl
theorem LR_ints {Γ : Gh} {w : World} : ∀ (zs : List Int), LR Γ w (zs.flatMap cI) (zs.map (Value.int .i64))
  | [] => rfl
  | z :: zs => ⟨_, _, rfl, by simp [VR, IR], LR_ints zs⟩
theorem one_ints (zs : List Int) : ∀ u ∈ zs.map (Value.int .i64), u.oneCell' = true := by
  intro u hu
  obtain ⟨p, _, rfl⟩ := List.mem_map.1 hu
  rfl
theorem map_range_get (zs : List Int) (cur : Array Value) (ht : cur.toList.take zs.length = zs.map (Value.int .i64)) (j : Nat) (hj : j < zs.length) : cur[j]? = some (.int .i64 zs[j]) := by
  have h1 : (cur.toList.take zs.length)[j]? = some (.int .i64 zs[j]) := by rw [ht]; simp [hj]
  rw [List.getElem?_take_of_lt hj, Array.getElem?_toList] at h1
  exact h1

theorem hole0_only {Γ : Gh} {w : World} {b : Buf} (h : HR Γ (bufsH [b]) w) (i : Nm) (hi : i ≠ hole 0) : Γ.K i = none := by
  rw [h.dom]
  simp only [bufsH]
  split
  · rename_i hh
    have he := isHole_eq hh
    have : i.2.2 ≠ 0 := fun h0 => hi (by rw [he, h0])
    cases hq : i.2.2 with
    | zero => exact absurd hq this
    | succ n => simp
  · rfl
/-- One row was turned in its place. -/
theorem HR_turn {Γ : Gh} {w w' : World} {b b' : Buf} {kr : KR} {g : Nat} (h : HR Γ (bufsH [b]) w) (hk : Γ.K (hole 0) = some kr) (hg : kr.block = some g) (hw : Keep (fun k => k = g) w w') (hr : RR Γ w' b' kr) : HR Γ (bufsH [b']) w' := by
  refine ⟨fun k hk => Nat.lt_of_lt_of_le (h.sok k hk) hw.size, ?_, ?_, ?_, h.apart⟩
  · intro i
    by_cases hi : i = hole 0
    · subst hi; rw [hk]; simp [bufsH_hole]
    · rw [hole0_only h i hi]
      simp only [true_iff, bufsH]
      split
      · rename_i hh
        have he := isHole_eq hh
        cases hq : i.2.2 with
        | zero => rw [hq] at he; exact absurd he hi
        | succ n => simp
      · rfl
  · intro i b2 r2 hb2 hr2
    by_cases hi : i = hole 0
    · subst hi
      rw [hk] at hr2
      cases hr2
      rw [bufsH_hole] at hb2
      cases hb2
      exact hr
    · rw [hole0_only h i hi] at hr2; cases hr2
  · intro i r k h1 h2
    obtain ⟨o1, o2⟩ := h.own i r k h1 h2
    exact ⟨o1, Nat.lt_of_lt_of_le o2 hw.size⟩
/-- One row was taken over: what comes back lies in its block. -/
theorem HR_take {Γ : Gh} {w w' : World} {b b' : Buf} {kr kr' : KR} {m : Nat} (h : HR Γ (bufsH [b]) w) (hk : Γ.K (hole 0) = some kr) (hg : kr'.block = kr.block) (hs : w.heap.size ≤ w'.heap.size) (hr : RR { S := Γ.S, K := fun i => if i = hole 0 then some (.gone m) else if i = hole 1 then some kr' else none } w' b' kr') :
    HR { S := Γ.S, K := fun i => if i = hole 0 then some (.gone m) else if i = hole 1 then some kr' else none } (bufsH [⟨none, m + 1, []⟩, b']) w' := by
  refine ⟨fun k hk => Nat.lt_of_lt_of_le (h.sok k hk) hs, ?_, ?_, ?_, ?_⟩
  · intro i
    by_cases h0 : i = hole 0
    · subst h0; simp [bufsH_hole]
    · by_cases h1 : i = hole 1
      · subst h1; simp [bufsH, isHole, hole]
      · simp only [h0, h1, if_false, true_iff, bufsH]
        split
        · rename_i hh
          have he := isHole_eq hh
          match hq : i.2.2 with
          | 0 => rw [hq] at he; exact absurd he h0
          | 1 => rw [hq] at he; exact absurd he h1
          | n + 2 => simp
        · rfl
  · intro i b2 r2 hb2 hr2
    by_cases h0 : i = hole 0
    · subst h0
      rw [bufsH_hole] at hb2
      cases hb2
      simp only [if_true] at hr2
      cases hr2
      rfl
    · by_cases h1 : i = hole 1
      · subst h1
        rw [bufsH_hole] at hb2
        cases hb2
        simp only [h0, if_false, if_true] at hr2
        cases hr2
        exact hr
      · simp only [h0, h1, if_false] at hr2; cases hr2
  · intro i r k h1 h2
    simp only at h1
    split at h1
    · cases h1; cases h2
    · split at h1
      · cases h1
        rw [hg] at h2
        obtain ⟨o1, o2⟩ := h.own _ kr k hk h2
        exact ⟨o1, Nat.lt_of_lt_of_le o2 hs⟩
      · cases h1
  · intro i j r q k h1 h2 h3 h4
    simp only at h1 h2
    split at h1
    · cases h1; cases h3
    · split at h1
      · split at h2
        · cases h2; cases h4
        · split at h2
          · rename_i e1 _ e2; rw [e1, e2]
          · cases h2
      · cases h1
theorem keep_put (w : World) (g n : Nat) (f : Array Value → Array Value) (os : Array Obj) : Keep (fun k => k = g) w (Sort.grow (Sort.mapBlock (Sort.ahead w n) g f) os) := by
  refine ⟨rfl, rfl, rfl, by simp [Sort.grow, Sort.mapBlock, Sort.ahead], fun k hk hne => ?_⟩
  show ((w.heap.modify g (Sort.onCells f)) ++ os)[k]? = _
  rw [Array.getElem?_append_left (by simpa using hk), Array.getElem?_modify, if_neg (Ne.symm hne)]
theorem at_put (w : World) (g n : Nat) (f : Array Value → Array Value) (os : Array Obj) {cur : Array Value} {t : TypeId} (hb : w.heap[g]? = some (.cells cur t (0, 0))) : (Sort.grow (Sort.mapBlock (Sort.ahead w n) g f) os).heap[g]? = some (.cells (f cur) t (0, 0)) := by
  show ((w.heap.modify g (Sort.onCells f)) ++ os)[g]? = _
  rw [Array.getElem?_append_left (by simpa using lt_of_some hb), Array.getElem?_modify, if_pos rfl, hb]
  rfl
theorem holds_of {w : World} {g : Nat} {cur : Array Value} {t : TypeId} {zs : List Int} (hb : w.heap[g]? = some (.cells cur t (0, 0))) (ht : cur.toList.take zs.length = zs.map (Value.int .i64)) : Sort.Holds (Value.int .i64) w g 0 zs.toArray := by
  intro j hj
  have hj' : j < zs.length := by simpa using hj
  rw [Nat.zero_add]
  refine ⟨?_, by simp [World.frozen?, hb]⟩
  simp only [World.cell?, hb]
  rw [map_range_get zs cur ht j hj']
  simp [hj']

/-- What a function that turns a row of ints is handed. -/
theorem row_in {Γ : Gh} {w : World} {zs : List Int} {cargs : List Value} (hhr : HR Γ (bufsH [⟨some (3, 1), zs.length, zs.flatMap cI⟩]) w) (hl : LR Γ w [.ref (0, 0, 0) zs.length] cargs) :
    ∃ x, cargs = [x] ∧ Γ.K (hole 0) = some (.row zs.length x) ∧ ((x = .slice none 0 0 ∧ zs = []) ∨ ∃ g cap cur, x = .slice (some ⟨g, 0, none⟩) zs.length cap ∧ w.heap[g]? = some (.cells cur 3 (0, 0)) ∧ zs.length ≤ cap ∧ cap ≤ maxLen ∧ cur.size = cap ∧ cur.toList.take zs.length = zs.map (Value.int .i64)) := by
  simp only [LR] at hl
  obtain ⟨c, q, rfl, hv, rfl⟩ := hl
  simp only [VR] at hv
  obtain ⟨kr, hk, hle, ho, hv⟩ := hv
  have hrr := hhr.res (hole 0) _ kr rfl hk
  have hrl2 := RR_len hrr
  obtain ⟨x, rfl, rfl⟩ := hv hrl2
  obtain ⟨_, e, sz, l, he, hpos, hown, hlr, hone⟩ := hrr
  cases he
  have hli := ints_of hlr
  subst hli
  obtain ⟨hol, hoc⟩ := hown
  refine ⟨_, rfl, hk, ?_⟩
  rcases hoc with ⟨rfl, h0⟩ | ⟨g, cap, cur, rfl, hg, hb, hc1, hc2, hc3, hc4⟩
  · exact .inl ⟨rfl, List.eq_nil_of_length_eq_zero h0⟩
  · exact .inr ⟨g, cap, cur, rfl, hb, hc1, hc2, by simpa using hc3, by simpa using hc4⟩
theorem RR_ints {Γ : Gh} {w : World} {g cap : Nat} {cur : Array Value} {zs : List Int} (hb : w.heap[g]? = some (.cells cur 3 (0, 0))) (h1 : zs.length ≤ cap) (h2 : cap ≤ maxLen) (h3 : cur.size = cap) (h4 : cur.toList.take zs.length = zs.map (Value.int .i64)) :
    RR Γ w ⟨some (3, 1), zs.length, zs.flatMap cI⟩ (.row zs.length (.slice (some ⟨g, 0, none⟩) zs.length cap)) :=
  ⟨rfl, 3, 1, zs.map (Value.int .i64), rfl, by decide, ⟨by simp, .inr ⟨g, cap, cur, rfl, Nat.zero_le _, hb, h1, h2, by omega, by simpa using h4⟩⟩, LR_ints zs, one_ints zs⟩

/-- slices.Sort of ints: the row lies there sorted. -/
def slices_Sort_int_int (zs : List Int) : Option (List Int) := if zs.length < 4611686018427387904 then some (zs.mergeSort fun x y => decide (x ≤ y)) else none
theorem slices_Sort_int_int_gc {zs r : List Int} (h : slices_Sort_int_int zs = some r) : GC Tryz.prog 113 [.ref (0, 0, 0) zs.length] [⟨some (3, 1), zs.length, zs.flatMap cI⟩] (.tup []) [⟨some (3, 1), r.length, r.flatMap cI⟩] := by
  unfold slices_Sort_int_int at h
  split at h
  rotate_left
  · cases h
  rename_i hsz
  have hr : (zs.mergeSort fun x y => decide (x ≤ y)) = r := by simpa using h
  have hrl : r.length = zs.length := by rw [← hr, List.length_mergeSort]
  generalize r = rs at hr hrl
  refine ⟨Static.mk' rfl rfl (by simp [holeyL_settled' cI_can]) (by simp) rfl (by simp [holeyL_settled' cI_can]), fun Γ w cargs hG hhr hl => ?_⟩
  obtain ⟨x, rfl, hk, ⟨rfl, rfl⟩ | ⟨g, cap, cur, rfl, hb, hc1, hc2, hc3, ht⟩⟩ := row_in hhr hl
  · have hr0 : rs = [] := List.eq_nil_of_length_eq_zero hrl
    subst hr0
    refine (Tryz.slices_Sort_int_none none 0 w).mono ?_
    rintro en w' ⟨rfl, rfl⟩
    exact ⟨_, Γ, rfl, hhr, ⟨[], rfl, rfl⟩, fun _ h => h, fun _ h => .inl h, fun i q h => ⟨q, h, .inl rfl⟩, fun i q k h1 h2 => .inr ⟨i, q, h1, h2⟩, Keep.refl _ _⟩
  · refine (Tryz.slices_Sort_int g 0 cap zs w (holds_of hb ht) (lt_of_some hb) hsz).mono ?_
    rintro en w' ⟨rfl, n, os, rfl⟩
    rw [hr]
    have hkeep := keep_put w g n (Sort.putCells (Value.int .i64) 0 rs.toArray) os
    have hat := at_put w g n (Sort.putCells (Value.int .i64) 0 rs.toArray) os hb
    have hrow := RR_ints (Γ := Γ) (zs := rs) hat (by omega) hc2 (by rw [putCells_size, hc3]) (by rw [putCells_list _ _ (by omega), List.take_left' (by simp)])
    rw [hrl] at hrow ⊢
    refine ⟨_, Γ, rfl, HR_turn hhr hk rfl hkeep hrow, ⟨[], rfl, rfl⟩, fun _ h => h, fun _ h => .inl h, fun i q h => ⟨q, h, .inl rfl⟩, fun i q k h1 h2 => .inr ⟨i, q, h1, h2⟩, ?_⟩
    exact ⟨hkeep.os, hkeep.tape, hkeep.output, hkeep.size, fun k hlt hnb => hkeep.block k hlt fun he => hnb ⟨hole 0, _, hk, by rw [he]; rfl⟩⟩
def slices_Compact_int_int (zs : List Int) : Option (List Int) := if zs.length < 4611686018427387904 then some (Lib.compact zs) else none
theorem compact_len : ∀ zs : List Int, (Lib.compact zs).length ≤ zs.length := by
  intro zs
  exact Lib.compact_length_le zs
theorem slices_Compact_int_int_gc {zs r : List Int} (h : slices_Compact_int_int zs = some r) : GC Tryz.prog 114 [.ref (0, 0, 0) zs.length] [⟨some (3, 1), zs.length, zs.flatMap cI⟩] (.ref (0, 0, 1) r.length) [⟨none, zs.length + 1, []⟩, ⟨some (3, 1), r.length, r.flatMap cI⟩] := by
  unfold slices_Compact_int_int at h
  split at h
  rotate_left
  · cases h
  rename_i hsz
  have hr : Lib.compact zs = r := by simpa using h
  have hrl : r.length ≤ zs.length := by rw [← hr]; exact compact_len zs
  refine ⟨Static.mk' rfl rfl (by simp [holeyL_settled' cI_can]) (by simp) rfl (by simp [holeyL_settled' cI_can, holeyL]), fun Γ w cargs hG hhr hl => ?_⟩
  obtain ⟨x, rfl, hk, ⟨rfl, rfl⟩ | ⟨g, cap, cur, rfl, hb, hc1, hc2, hc3, ht⟩⟩ := row_in hhr hl
  · have hr0 : r = [] := List.eq_nil_of_length_eq_zero (by simpa using hrl)
    subst hr0
    refine (Tryz.slices_Compact_int_empty none 0 w).mono ?_
    rintro en w' ⟨rfl, rfl⟩
    refine ⟨_, _, rfl, HR_take (m := 0) (kr' := .row 0 (.slice none 0 0)) hhr hk rfl (Nat.le_refl _) ⟨rfl, 3, 1, [], rfl, by decide, World.ownsRow_nil w' 0 3 1, rfl, by simp⟩, ?_, fun _ h => h, fun _ h => .inl h, ?_, ?_, Keep.refl _ _⟩
    · simp only [VR]
      exact ⟨.row 0 (.slice none 0 0), by simp [hole], by simp [KR.len], rfl, fun _ => ⟨_, rfl, rfl⟩⟩
    · intro i q hq
      have hi : i = hole 0 := Classical.byContradiction fun hi => by rw [hole0_only hhr i hi] at hq; cases hq
      subst hi
      rw [hk] at hq
      cases hq
      exact ⟨.gone 0, by simp, .inr (by simp [KR.len])⟩
    · intro i q k h1 h2
      simp only at h1
      split at h1
      · cases h1; cases h2
      · split at h1
        · cases h1; cases h2
        · cases h1
  · refine (Tryz.slices_Compact_int g 0 cap zs w (holds_of hb ht) (by omega) hc1).mono ?_
    rintro en w' ⟨rfl, n, rfl⟩
    rw [hr]
    have hkeep := keep_put w g n (Sort.putCells (Value.int .i64) 0 (r ++ List.replicate (zs.length - r.length) 0).toArray) #[]
    have hat := at_put w g n (Sort.putCells (Value.int .i64) 0 (r ++ List.replicate (zs.length - r.length) 0).toArray) #[] hb
    rw [Sort.grow_empty] at hkeep hat
    refine ⟨_, _, rfl, HR_take (m := zs.length) (kr' := .row r.length (.slice (some ⟨g, 0, none⟩) r.length cap)) hhr hk rfl hkeep.size (RR_ints (zs := r) hat (by omega) hc2 (by rw [putCells_size, hc3]) ?_), ?_, fun _ h => h, fun _ h => .inl h, ?_, ?_, ?_⟩
    · rw [putCells_list _ _ (by simp; omega), List.map_append, List.append_assoc, List.take_left' (by simp)]
    · simp only [VR]
      exact ⟨.row r.length (.slice (some ⟨g, 0, none⟩) r.length cap), by simp [hole], by simp [KR.len], rfl, fun _ => ⟨_, rfl, rfl⟩⟩
    · intro i q hq
      have hi : i = hole 0 := Classical.byContradiction fun hi => by rw [hole0_only hhr i hi] at hq; cases hq
      subst hi
      rw [hk] at hq
      cases hq
      exact ⟨.gone zs.length, by simp, .inr (by simp [KR.len])⟩
    · intro i q k h1 h2
      simp only at h1
      split at h1
      · cases h1; cases h2
      · split at h1
        · cases h1
          exact .inr ⟨hole 0, _, hk, h2⟩
        · cases h1
    · exact ⟨hkeep.os, hkeep.tape, hkeep.output, hkeep.size, fun k hlt hnb => hkeep.block k hlt fun he => hnb ⟨hole 0, _, hk, by rw [he]; rfl⟩⟩
end Go.Proofs.YthcmcjkljjfccaaGreatDoor.Abs
set_option linter.unusedVariables false
set_option maxRecDepth 20000
namespace Go.Proofs.YthcmcjkljjfccaaGreatDoor.Abs
open Go Go.Proofs.Tryz

@[go_sem] theorem T2 : TI.of prog 2 = some ⟨(.int .i64), 1, 8, [.int .i64 0]⟩ := by rfl
@[go_sem] theorem T3 : TI.of prog 3 = some ⟨(.int .i64), 1, 8, [.int .i64 0]⟩ := by rfl
@[go_sem] theorem T4 : TI.of prog 4 = some ⟨.bool, 1, 1, [.bool false]⟩ := by rfl
@[go_sem] theorem T5 : TI.of prog 5 = some ⟨(.int .u8), 1, 1, [.int .u8 0]⟩ := by rfl
@[go_sem] theorem T6 : TI.of prog 6 = some ⟨(.int .u8), 1, 1, [.int .u8 0]⟩ := by rfl
@[go_sem] theorem T7 : TI.of prog 7 = some ⟨(.strct [(0, 1), (1, 1), (2, 1), (3, 1)]), 4, 24, [.int .i64 0, .int .i64 0, .bool false, .int .u8 0]⟩ := by rfl
@[go_sem] theorem T8 : TI.of prog 8 = some ⟨(.strct [(0, 1), (1, 1), (2, 1), (3, 1)]), 4, 24, [.int .i64 0, .int .i64 0, .bool false, .int .u8 0]⟩ := by rfl
@[go_sem] theorem T9 : TI.of prog 9 = some ⟨.str, 1, 16, [.str []]⟩ := by rfl
@[go_sem] theorem T10 : TI.of prog 10 = some ⟨.str, 1, 16, [.str []]⟩ := by rfl
@[go_sem] theorem T11 : TI.of prog 11 = some ⟨.str, 1, 16, [.str []]⟩ := by rfl
@[go_sem] theorem T12 : TI.of prog 12 = some ⟨(.int .u64), 1, 8, [.int .u64 0]⟩ := by rfl
@[go_sem] theorem T13 : TI.of prog 13 = some ⟨(.strct [(0, 1), (1, 1)]), 2, 24, [.str [], .int .u64 0]⟩ := by rfl
@[go_sem] theorem T14 : TI.of prog 14 = some ⟨(.strct [(0, 1), (1, 1)]), 2, 24, [.str [], .int .u64 0]⟩ := by rfl
@[go_sem] theorem T20 : TI.of prog 20 = some ⟨.iface, 1, 16, [.nerr]⟩ := by rfl
@[go_sem] theorem T21 : TI.of prog 21 = some ⟨(.int .i32), 1, 4, [.int .i32 0]⟩ := by rfl
@[go_sem] theorem T22 : TI.of prog 22 = some ⟨(.slice 80), 1, 24, [.nils]⟩ := by rfl
@[go_sem] theorem T23 : TI.of prog 23 = some ⟨(.strct [(0, 1), (1, 1)]), 2, 40, [.str [], .nils]⟩ := by rfl
@[go_sem] theorem T24 : TI.of prog 24 = some ⟨(.strct [(0, 1), (1, 1)]), 2, 40, [.str [], .nils]⟩ := by rfl
@[go_sem] theorem T25 : TI.of prog 25 = some ⟨(.slice 83), 1, 24, [.nils]⟩ := by rfl
@[go_sem] theorem T26 : TI.of prog 26 = some ⟨(.strct [(0, 1), (1, 1), (2, 1)]), 3, 40, [.int .i64 0, .int .i64 0, .nils]⟩ := by rfl
@[go_sem] theorem T27 : TI.of prog 27 = some ⟨(.strct [(0, 1), (1, 1), (2, 1)]), 3, 40, [.int .i64 0, .int .i64 0, .nils]⟩ := by rfl
@[go_sem] theorem T30 : TI.of prog 30 = some ⟨(.slice 3), 1, 24, [.nils]⟩ := by rfl
@[go_sem] theorem T33 : TI.of prog 33 = some ⟨(.slice 70), 1, 24, [.nils]⟩ := by rfl
@[go_sem] theorem T34 : TI.of prog 34 = some ⟨(.strct [(0, 1), (1, 1)]), 2, 40, [.str [], .nils]⟩ := by rfl
@[go_sem] theorem T35 : TI.of prog 35 = some ⟨(.strct [(0, 1), (1, 1)]), 2, 40, [.str [], .nils]⟩ := by rfl
@[go_sem] theorem T37 : TI.of prog 37 = some ⟨(.slice 89), 1, 24, [.nils]⟩ := by rfl
@[go_sem] theorem T38 : TI.of prog 38 = some ⟨(.strct [(0, 1), (1, 1), (2, 1)]), 3, 40, [.int .i64 0, .int .i64 0, .nils]⟩ := by rfl
@[go_sem] theorem T39 : TI.of prog 39 = some ⟨(.strct [(0, 1), (1, 1), (2, 1)]), 3, 40, [.int .i64 0, .int .i64 0, .nils]⟩ := by rfl
@[go_sem] theorem T53 : TI.of prog 53 = some ⟨(.strct [(0, 1), (1, 1), (2, 1), (3, 1)]), 4, 48, [.str [], .int .i64 0, .int .i64 0, .str []]⟩ := by rfl
@[go_sem] theorem T54 : TI.of prog 54 = some ⟨(.strct [(0, 1), (1, 1), (2, 1), (3, 1)]), 4, 48, [.str [], .int .i64 0, .int .i64 0, .str []]⟩ := by rfl
@[go_sem] theorem T69 : TI.of prog 69 = some ⟨(.strct [(0, 1), (1, 1), (2, 1), (3, 1)]), 4, 48, [.str [], .str [], .int .i64 0, .int .i64 0]⟩ := by rfl
@[go_sem] theorem T70 : TI.of prog 70 = some ⟨(.strct [(0, 1), (1, 1), (2, 1), (3, 1)]), 4, 48, [.str [], .str [], .int .i64 0, .int .i64 0]⟩ := by rfl
@[go_sem] theorem T73 : TI.of prog 73 = some ⟨(.slice 108), 1, 24, [.nils]⟩ := by rfl
@[go_sem] theorem T80 : TI.of prog 80 = some ⟨(.strct [(0, 1), (1, 1), (2, 1), (3, 1)]), 4, 48, [.str [], .str [], .int .i64 0, .int .i64 0]⟩ := by rfl
@[go_sem] theorem T82 : TI.of prog 82 = some ⟨(.strct [(0, 1), (1, 1), (2, 1)]), 3, 32, [.str [], .bool false, .int .i64 0]⟩ := by rfl
@[go_sem] theorem T83 : TI.of prog 83 = some ⟨(.strct [(0, 1), (1, 1), (2, 1)]), 3, 32, [.str [], .bool false, .int .i64 0]⟩ := by rfl
@[go_sem] theorem T88 : TI.of prog 88 = some ⟨(.slice 9), 1, 24, [.nils]⟩ := by rfl
@[go_sem] theorem T89 : TI.of prog 89 = some ⟨(.strct [(0, 1), (1, 1), (2, 1)]), 3, 32, [.str [], .bool false, .int .i64 0]⟩ := by rfl
@[go_sem] theorem T106 : TI.of prog 106 = some ⟨(.slice 4), 1, 24, [.nils]⟩ := by rfl
@[go_sem] theorem T107 : TI.of prog 107 = some ⟨(.strct [(0, 1), (1, 1)]), 2, 16, [.int .i64 0, .int .i64 0]⟩ := by rfl
@[go_sem] theorem T108 : TI.of prog 108 = some ⟨(.strct [(0, 1), (1, 1)]), 2, 16, [.int .i64 0, .int .i64 0]⟩ := by rfl
@[go_sem] theorem T115 : TI.of prog 115 = some ⟨(.slice 5), 1, 24, [.nils]⟩ := by rfl
@[go_sem] theorem T132 : TI.of prog 132 = some ⟨(.int .u64), 1, 8, [.int .u64 0]⟩ := by rfl
@[go_sem] theorem T137 : TI.of prog 137 = some ⟨.iface, 1, 16, [.nerr]⟩ := by rfl
@[go_sem] theorem T138 : TI.of prog 138 = some ⟨.iface, 1, 16, [.nerr]⟩ := by rfl
@[go_sem] theorem T161 : TI.of prog 161 = some ⟨(.int .i64), 1, 8, [.int .i64 0]⟩ := by rfl
@[go_sem] theorem T170 : TI.of prog 170 = some ⟨(.int .i64), 1, 8, [.int .i64 0]⟩ := by rfl
@[go_sem] theorem T178 : TI.of prog 178 = some ⟨(.int .u32), 1, 4, [.int .u32 0]⟩ := by rfl
@[go_sem] theorem T180 : TI.of prog 180 = some ⟨(.int .u64), 1, 8, [.int .u64 0]⟩ := by rfl
@[go_sem] theorem T184 : TI.of prog 184 = some ⟨(.strct [(0, 1), (1, 1), (2, 1)]), 3, 48, [.str [], .str [], .nerr]⟩ := by rfl
@[go_sem] theorem T185 : TI.of prog 185 = some ⟨(.strct [(0, 1), (1, 1), (2, 1)]), 3, 48, [.str [], .str [], .nerr]⟩ := by rfl
@[go_sem] theorem T193 : TI.of prog 193 = some ⟨(.int .u64), 1, 8, [.int .u64 0]⟩ := by rfl
@[go_sem] theorem T200 : TI.of prog 200 = some ⟨(.strct [(0, 1), (1, 1)]), 2, 2, [.int .u8 0, .int .u8 0]⟩ := by rfl
@[go_sem] theorem T201 : TI.of prog 201 = some ⟨(.strct [(0, 1), (1, 1)]), 2, 2, [.int .u8 0, .int .u8 0]⟩ := by rfl
@[go_sem] theorem T207 : TI.of prog 207 = some ⟨(.strct [(0, 1)]), 1, 16, [.str []]⟩ := by rfl
@[go_sem] theorem T208 : TI.of prog 208 = some ⟨(.strct [(0, 1)]), 1, 16, [.str []]⟩ := by rfl
@[go_sem] theorem T221 : TI.of prog 221 = some ⟨(.strct [(0, 0)]), 0, 0, []⟩ := by rfl
@[go_sem] theorem T222 : TI.of prog 222 = some ⟨(.strct [(0, 0)]), 0, 0, []⟩ := by rfl
@[go_sem] theorem T224 : TI.of prog 224 = some ⟨(.int .u8), 1, 1, [.int .u8 0]⟩ := by rfl
@[go_sem] theorem T225 : TI.of prog 225 = some ⟨(.int .u8), 1, 1, [.int .u8 0]⟩ := by rfl
@[go_sem] theorem T227 : TI.of prog 227 = some ⟨(.int .i32), 1, 4, [.int .i32 0]⟩ := by rfl
@[go_sem] theorem T228 : TI.of prog 228 = some ⟨(.int .i32), 1, 4, [.int .i32 0]⟩ := by rfl
structure TTarget where
  fHost : Str
  fData : Str
  fGroup : Int
  fWeight : Int
structure TPolicy where
  fName : Str
  fTargets : (List TTarget)
structure THost where
  fName : Str
  fUp : Bool
  fRow : Int
structure THealth where
  fRise : Int
  fFall : Int
  fHosts : (List THost)
structure TColumn where
  fKeep : Int
  fOther : Int
structure TRecord where
  fName : Str
  fType : Int
  fTtl : Int
  fData : Str
def cTarget (x : TTarget) : List PV := [.str x.fHost, .str x.fData, .int .i64 x.fGroup, .int .i64 x.fWeight]
theorem cTarget_len (x : TTarget) : (cTarget x).length = 4 := rfl
theorem cTarget_can (x : TTarget) : canonL (cTarget x) = true := rfl
def cHost (x : THost) : List PV := [.str x.fName, .bool x.fUp, .int .i64 x.fRow]
theorem cHost_len (x : THost) : (cHost x).length = 3 := rfl
theorem cHost_can (x : THost) : canonL (cHost x) = true := rfl
def cColumn (x : TColumn) : List PV := [.int .i64 x.fKeep, .int .i64 x.fOther]
theorem cColumn_len (x : TColumn) : (cColumn x).length = 2 := rfl
theorem cColumn_can (x : TColumn) : canonL (cColumn x) = true := rfl
attribute [go_sem] cB
@[go_sem] theorem cB_rlen (l) : (List.flatMap cB l).length = l.length * 1 := row_len cB_len l
@[go_sem] theorem cB_rcan (l) : canonL (List.flatMap cB l) = true := pk_can cB_can l
@[go_sem] theorem cB_hol (m) (l) : holeyL m (List.flatMap cB l) = true := pk_hol cB_can m l
@[go_sem] theorem cB_ren (ν) (l) : renL ν (List.flatMap cB l) = List.flatMap cB l := pk_ren cB_can ν l
@[go_sem] theorem cB_seen (H) (k) (l) : seenL H k (List.flatMap cB l) = some (List.flatMap cB l) := pk_seen cB_can H k l
@[go_sem] theorem cB_set (l) : settledL (List.flatMap cB l) = true := pk_set cB_can l
@[go_sem] theorem cB_in (ns) (l) : inNL ns (List.flatMap cB l) = true := pk_in cB_can ns l
@[go_sem] theorem cB_nz (l) : nzL (List.flatMap cB l) = List.flatMap cB l := pk_nz cB_can l
@[go_sem] theorem cB_conv (ss) (l) : convL ss (List.flatMap cB l) = List.flatMap cB l := pk_conv cB_can ss l
@[go_sem] theorem cB_flat (l) : flatL (List.flatMap cB l) = true := row_flat (fun _ => rfl) l
@[go_sem] theorem cB_flatH (l) : flatHL (List.flatMap cB l) = true := pk_flatH (fun _ => rfl) l
@[go_sem] theorem cB_cell (l) : (List.flatMap cB l).all isCell = true := row_all (fun _ => rfl) l
attribute [go_sem] cColumn
@[go_sem] theorem cColumn_rlen (l) : (List.flatMap cColumn l).length = l.length * 2 := row_len cColumn_len l
@[go_sem] theorem cColumn_rcan (l) : canonL (List.flatMap cColumn l) = true := pk_can cColumn_can l
@[go_sem] theorem cColumn_hol (m) (l) : holeyL m (List.flatMap cColumn l) = true := pk_hol cColumn_can m l
@[go_sem] theorem cColumn_ren (ν) (l) : renL ν (List.flatMap cColumn l) = List.flatMap cColumn l := pk_ren cColumn_can ν l
@[go_sem] theorem cColumn_seen (H) (k) (l) : seenL H k (List.flatMap cColumn l) = some (List.flatMap cColumn l) := pk_seen cColumn_can H k l
@[go_sem] theorem cColumn_set (l) : settledL (List.flatMap cColumn l) = true := pk_set cColumn_can l
@[go_sem] theorem cColumn_in (ns) (l) : inNL ns (List.flatMap cColumn l) = true := pk_in cColumn_can ns l
@[go_sem] theorem cColumn_nz (l) : nzL (List.flatMap cColumn l) = List.flatMap cColumn l := pk_nz cColumn_can l
@[go_sem] theorem cColumn_conv (ss) (l) : convL ss (List.flatMap cColumn l) = List.flatMap cColumn l := pk_conv cColumn_can ss l
@[go_sem] theorem cColumn_flat (l) : flatL (List.flatMap cColumn l) = true := row_flat (fun _ => rfl) l
@[go_sem] theorem cColumn_flatH (l) : flatHL (List.flatMap cColumn l) = true := pk_flatH (fun _ => rfl) l
@[go_sem] theorem cColumn_cell (l) : (List.flatMap cColumn l).all isCell = true := row_all (fun _ => rfl) l
attribute [go_sem] cHost
@[go_sem] theorem cHost_rlen (l) : (List.flatMap cHost l).length = l.length * 3 := row_len cHost_len l
@[go_sem] theorem cHost_rcan (l) : canonL (List.flatMap cHost l) = true := pk_can cHost_can l
@[go_sem] theorem cHost_hol (m) (l) : holeyL m (List.flatMap cHost l) = true := pk_hol cHost_can m l
@[go_sem] theorem cHost_ren (ν) (l) : renL ν (List.flatMap cHost l) = List.flatMap cHost l := pk_ren cHost_can ν l
@[go_sem] theorem cHost_seen (H) (k) (l) : seenL H k (List.flatMap cHost l) = some (List.flatMap cHost l) := pk_seen cHost_can H k l
@[go_sem] theorem cHost_set (l) : settledL (List.flatMap cHost l) = true := pk_set cHost_can l
@[go_sem] theorem cHost_in (ns) (l) : inNL ns (List.flatMap cHost l) = true := pk_in cHost_can ns l
@[go_sem] theorem cHost_nz (l) : nzL (List.flatMap cHost l) = List.flatMap cHost l := pk_nz cHost_can l
@[go_sem] theorem cHost_conv (ss) (l) : convL ss (List.flatMap cHost l) = List.flatMap cHost l := pk_conv cHost_can ss l
@[go_sem] theorem cHost_flat (l) : flatL (List.flatMap cHost l) = true := row_flat (fun _ => rfl) l
@[go_sem] theorem cHost_flatH (l) : flatHL (List.flatMap cHost l) = true := pk_flatH (fun _ => rfl) l
@[go_sem] theorem cHost_cell (l) : (List.flatMap cHost l).all isCell = true := row_all (fun _ => rfl) l
attribute [go_sem] cI
@[go_sem] theorem cI_rlen (l) : (List.flatMap cI l).length = l.length * 1 := row_len cI_len l
@[go_sem] theorem cI_rcan (l) : canonL (List.flatMap cI l) = true := pk_can cI_can l
@[go_sem] theorem cI_hol (m) (l) : holeyL m (List.flatMap cI l) = true := pk_hol cI_can m l
@[go_sem] theorem cI_ren (ν) (l) : renL ν (List.flatMap cI l) = List.flatMap cI l := pk_ren cI_can ν l
@[go_sem] theorem cI_seen (H) (k) (l) : seenL H k (List.flatMap cI l) = some (List.flatMap cI l) := pk_seen cI_can H k l
@[go_sem] theorem cI_set (l) : settledL (List.flatMap cI l) = true := pk_set cI_can l
@[go_sem] theorem cI_in (ns) (l) : inNL ns (List.flatMap cI l) = true := pk_in cI_can ns l
@[go_sem] theorem cI_nz (l) : nzL (List.flatMap cI l) = List.flatMap cI l := pk_nz cI_can l
@[go_sem] theorem cI_conv (ss) (l) : convL ss (List.flatMap cI l) = List.flatMap cI l := pk_conv cI_can ss l
@[go_sem] theorem cI_flat (l) : flatL (List.flatMap cI l) = true := row_flat (fun _ => rfl) l
@[go_sem] theorem cI_flatH (l) : flatHL (List.flatMap cI l) = true := pk_flatH (fun _ => rfl) l
@[go_sem] theorem cI_cell (l) : (List.flatMap cI l).all isCell = true := row_all (fun _ => rfl) l
attribute [go_sem] cS
@[go_sem] theorem cS_rlen (l) : (List.flatMap cS l).length = l.length * 1 := row_len cS_len l
@[go_sem] theorem cS_rcan (l) : canonL (List.flatMap cS l) = true := pk_can cS_can l
@[go_sem] theorem cS_hol (m) (l) : holeyL m (List.flatMap cS l) = true := pk_hol cS_can m l
@[go_sem] theorem cS_ren (ν) (l) : renL ν (List.flatMap cS l) = List.flatMap cS l := pk_ren cS_can ν l
@[go_sem] theorem cS_seen (H) (k) (l) : seenL H k (List.flatMap cS l) = some (List.flatMap cS l) := pk_seen cS_can H k l
@[go_sem] theorem cS_set (l) : settledL (List.flatMap cS l) = true := pk_set cS_can l
@[go_sem] theorem cS_in (ns) (l) : inNL ns (List.flatMap cS l) = true := pk_in cS_can ns l
@[go_sem] theorem cS_nz (l) : nzL (List.flatMap cS l) = List.flatMap cS l := pk_nz cS_can l
@[go_sem] theorem cS_conv (ss) (l) : convL ss (List.flatMap cS l) = List.flatMap cS l := pk_conv cS_can ss l
@[go_sem] theorem cS_flat (l) : flatL (List.flatMap cS l) = true := row_flat (fun _ => rfl) l
@[go_sem] theorem cS_flatH (l) : flatHL (List.flatMap cS l) = true := pk_flatH (fun _ => rfl) l
@[go_sem] theorem cS_cell (l) : (List.flatMap cS l).all isCell = true := row_all (fun _ => rfl) l
attribute [go_sem] cTarget
@[go_sem] theorem cTarget_rlen (l) : (List.flatMap cTarget l).length = l.length * 4 := row_len cTarget_len l
@[go_sem] theorem cTarget_rcan (l) : canonL (List.flatMap cTarget l) = true := pk_can cTarget_can l
@[go_sem] theorem cTarget_hol (m) (l) : holeyL m (List.flatMap cTarget l) = true := pk_hol cTarget_can m l
@[go_sem] theorem cTarget_ren (ν) (l) : renL ν (List.flatMap cTarget l) = List.flatMap cTarget l := pk_ren cTarget_can ν l
@[go_sem] theorem cTarget_seen (H) (k) (l) : seenL H k (List.flatMap cTarget l) = some (List.flatMap cTarget l) := pk_seen cTarget_can H k l
@[go_sem] theorem cTarget_set (l) : settledL (List.flatMap cTarget l) = true := pk_set cTarget_can l
@[go_sem] theorem cTarget_in (ns) (l) : inNL ns (List.flatMap cTarget l) = true := pk_in cTarget_can ns l
@[go_sem] theorem cTarget_nz (l) : nzL (List.flatMap cTarget l) = List.flatMap cTarget l := pk_nz cTarget_can l
@[go_sem] theorem cTarget_conv (ss) (l) : convL ss (List.flatMap cTarget l) = List.flatMap cTarget l := pk_conv cTarget_can ss l
@[go_sem] theorem cTarget_flat (l) : flatL (List.flatMap cTarget l) = true := row_flat (fun _ => rfl) l
@[go_sem] theorem cTarget_flatH (l) : flatHL (List.flatMap cTarget l) = true := pk_flatH (fun _ => rfl) l
@[go_sem] theorem cTarget_cell (l) : (List.flatMap cTarget l).all isCell = true := row_all (fun _ => rfl) l
attribute [go_sem] cU
@[go_sem] theorem cU_rlen (l) : (List.flatMap cU l).length = l.length * 1 := row_len cU_len l
@[go_sem] theorem cU_rcan (l) : canonL (List.flatMap cU l) = true := pk_can cU_can l
@[go_sem] theorem cU_hol (m) (l) : holeyL m (List.flatMap cU l) = true := pk_hol cU_can m l
@[go_sem] theorem cU_ren (ν) (l) : renL ν (List.flatMap cU l) = List.flatMap cU l := pk_ren cU_can ν l
@[go_sem] theorem cU_seen (H) (k) (l) : seenL H k (List.flatMap cU l) = some (List.flatMap cU l) := pk_seen cU_can H k l
@[go_sem] theorem cU_set (l) : settledL (List.flatMap cU l) = true := pk_set cU_can l
@[go_sem] theorem cU_in (ns) (l) : inNL ns (List.flatMap cU l) = true := pk_in cU_can ns l
@[go_sem] theorem cU_nz (l) : nzL (List.flatMap cU l) = List.flatMap cU l := pk_nz cU_can l
@[go_sem] theorem cU_conv (ss) (l) : convL ss (List.flatMap cU l) = List.flatMap cU l := pk_conv cU_can ss l
@[go_sem] theorem cU_flat (l) : flatL (List.flatMap cU l) = true := row_flat (fun _ => rfl) l
@[go_sem] theorem cU_flatH (l) : flatHL (List.flatMap cU l) = true := pk_flatH (fun _ => rfl) l
@[go_sem] theorem cU_cell (l) : (List.flatMap cU l).all isCell = true := row_all (fun _ => rfl) l
end Go.Proofs.YthcmcjkljjfccaaGreatDoor.Abs
set_option linter.unusedVariables false
set_option linter.unusedSimpArgs false
set_option maxRecDepth 20000
set_option maxHeartbeats 1600000
namespace Go.Proofs.YthcmcjkljjfccaaGreatDoor.Abs
open Go Go.Proofs.Tryz
/-! loop.example/g00300/laws.szTarget -/
def laws_szTarget (a_0 : TTarget) (left_1 : Int) : Option Int :=
  if (decide ((IntKind.i64.wrap (left_1 - (a_0.fHost.length : Int))) < 0)) then
    some (-1)
  else
  if (decide ((IntKind.i64.wrap ((IntKind.i64.wrap (left_1 - (a_0.fHost.length : Int))) - (a_0.fData.length : Int))) < 0)) then
    some (-1)
  else
  some (IntKind.i64.wrap ((IntKind.i64.wrap (left_1 - (a_0.fHost.length : Int))) - (a_0.fData.length : Int)))

/-! loop.example/g00300/laws.szTargetS -/
def laws_szTargetS_L1 (a_0 : (List TTarget)) (left_1 : Int) : Nat → Int → Int → Option Int
  | 0, _, _ =>
    none
  | fu1 + 1, left_1', i_5 =>
    if (decide (i_5 < (a_0.length : Int))) then
      (at? a_0 i_5).bind fun e3 =>
      (laws_szTarget e3 left_1').bind fun y4 =>
      if (decide (y4 < 0)) then
        some (-1)
      else
      (laws_szTargetS_L1 a_0 left_1 fu1) y4 (IntKind.i64.wrap (i_5 + 1))
    else
    some left_1'
def laws_szTargetS (a_0 : (List TTarget)) (left_1 : Int) : Option Int :=
  if (decide ((IntKind.i64.wrap (left_1 - (a_0.length : Int))) < 0)) then
    some (-1)
  else
  laws_szTargetS_L1 a_0 left_1 FU (IntKind.i64.wrap (left_1 - (a_0.length : Int))) 0

/-! loop.example/g00300/laws.szPolicy -/
def laws_szPolicy (a_0 : TPolicy) (left_1 : Int) : Option Int :=
  if (decide ((IntKind.i64.wrap (left_1 - (a_0.fName.length : Int))) < 0)) then
    some (-1)
  else
  (laws_szTargetS a_0.fTargets (IntKind.i64.wrap (left_1 - (a_0.fName.length : Int)))).bind fun y2 =>
  if (decide (y2 < 0)) then
    some (-1)
  else
  some y2

/-! loop.example/g00300/laws.szHost -/
def laws_szHost (a_0 : THost) (left_1 : Int) : Option Int :=
  if (decide ((IntKind.i64.wrap (left_1 - (a_0.fName.length : Int))) < 0)) then
    some (-1)
  else
  some (IntKind.i64.wrap (left_1 - (a_0.fName.length : Int)))

/-! loop.example/g00300/laws.szHostS -/
def laws_szHostS_L1 (a_0 : (List THost)) (left_1 : Int) : Nat → Int → Int → Option Int
  | 0, _, _ =>
    none
  | fu1 + 1, left_1', i_5 =>
    if (decide (i_5 < (a_0.length : Int))) then
      (at? a_0 i_5).bind fun e3 =>
      (laws_szHost e3 left_1').bind fun y4 =>
      if (decide (y4 < 0)) then
        some (-1)
      else
      (laws_szHostS_L1 a_0 left_1 fu1) y4 (IntKind.i64.wrap (i_5 + 1))
    else
    some left_1'
def laws_szHostS (a_0 : (List THost)) (left_1 : Int) : Option Int :=
  if (decide ((IntKind.i64.wrap (left_1 - (a_0.length : Int))) < 0)) then
    some (-1)
  else
  laws_szHostS_L1 a_0 left_1 FU (IntKind.i64.wrap (left_1 - (a_0.length : Int))) 0

/-! loop.example/g00300/laws.szHealth -/
def laws_szHealth (a_0 : THealth) (left_1 : Int) : Option Int :=
  (laws_szHostS a_0.fHosts left_1).bind fun y1 =>
  if (decide (y1 < 0)) then
    some (-1)
  else
  some y1

/-! loop.example/g00300/laws.toTarget -/
def laws_toTarget (a_0 : TTarget) : Option TTarget :=
  some a_0

/-! loop.example/g00300/laws.toTargetS -/
def laws_toTargetS_L1 (a_0 : (List TTarget)) : Nat → Int → List TTarget → Option (List TTarget)
  | 0, _, _ =>
    none
  | fu1 + 1, i_4, out_7 =>
    if (decide (i_4 < (a_0.length : Int))) then
      (at? a_0 i_4).bind fun e3 =>
      (laws_toTarget e3).bind fun y4 =>
      (at? out_7 i_4).bind fun e5 =>
      (put? out_7 i_4 y4).bind fun x6 =>
      (laws_toTargetS_L1 a_0 fu1) (IntKind.i64.wrap (i_4 + 1)) x6
    else
    some out_7
def laws_toTargetS (a_0 : (List TTarget)) : Option (List TTarget) :=
  (make? 48 (a_0.length : Int) ((⟨[], [], 0, 0⟩ : TTarget) : TTarget)).bind fun x1 =>
  laws_toTargetS_L1 a_0 FU 0 x1

/-! loop.example/g00300/laws.toPolicy -/
def laws_toPolicy (a_0 : TPolicy) : Option TPolicy :=
  (laws_toTargetS a_0.fTargets).bind fun y1 =>
  some (⟨a_0.fName, y1⟩ : TPolicy)

/-! loop.example/g00300/laws.toHost -/
def laws_toHost (a_0 : THost) : Option THost :=
  some a_0

/-! loop.example/g00300/laws.toHostS -/
def laws_toHostS_L1 (a_0 : (List THost)) : Nat → Int → List THost → Option (List THost)
  | 0, _, _ =>
    none
  | fu1 + 1, i_4, out_7 =>
    if (decide (i_4 < (a_0.length : Int))) then
      (at? a_0 i_4).bind fun e3 =>
      (laws_toHost e3).bind fun y4 =>
      (at? out_7 i_4).bind fun e5 =>
      (put? out_7 i_4 y4).bind fun x6 =>
      (laws_toHostS_L1 a_0 fu1) (IntKind.i64.wrap (i_4 + 1)) x6
    else
    some out_7
def laws_toHostS (a_0 : (List THost)) : Option (List THost) :=
  (make? 32 (a_0.length : Int) ((⟨[], false, 0⟩ : THost) : THost)).bind fun x1 =>
  laws_toHostS_L1 a_0 FU 0 x1

/-! loop.example/g00300/laws.toHealth -/
def laws_toHealth (a_0 : THealth) : Option THealth :=
  (laws_toHostS a_0.fHosts).bind fun y1 =>
  some (⟨a_0.fRise, a_0.fFall, y1⟩ : THealth)

/-! loop.example/g00300/spec.l1Split -/
def spec_l1Split_K1 (s_0 : Str) (out_5 : List Str) (from_6 : Int) : Option (List Str) :=
  (cut? s_0 from_6 (s_0.length : Int)).bind fun x1 =>
  (app? 16 out_5 [x1]).bind fun x2 =>
  some x2
def spec_l1Split_L1 (s_0 : Str) (b_1 : Int) : Nat → Int → Int → List Str → Option (List Str)
  | 0, _, _, _ =>
    none
  | fu1 + 1, from_6, i_7, out_5 =>
    if (decide (i_7 < (s_0.length : Int))) then
      (at? s_0 i_7).bind fun b4 =>
      if ((b4.toNat : Int) == b_1) then
        (cut? s_0 from_6 i_7).bind fun x6 =>
        (app? 16 out_5 [x6]).bind fun x7 =>
        (spec_l1Split_L1 s_0 b_1 fu1) (IntKind.i64.wrap (i_7 + 1)) (IntKind.i64.wrap (i_7 + 1)) x7
      else
      (spec_l1Split_L1 s_0 b_1 fu1) from_6 (IntKind.i64.wrap (i_7 + 1)) out_5
    else
    spec_l1Split_K1 s_0 out_5 from_6
def spec_l1Split (s_0 : Str) (b_1 : Int) : Option (List Str) :=
  spec_l1Split_L1 s_0 b_1 FU 0 0 ([] : List Str)

/-! loop.example/g00300/spec.l1In -/
def spec_l1In (n_0 : Int) (lo_1 : Int) (hi_2 : Int) : Option Bool :=
  if (decide (lo_1 ≤ n_0)) then
    some (decide (n_0 ≤ hi_2))
  else
  some false

/-! loop.example/g00300/spec.l1Int -/
def spec_l1Int_L1 (s_0 : Str) : Nat → Int → Int → Option Int
  | 0, _, _ =>
    none
  | fu1 + 1, n_3, i_4 =>
    if (decide (i_4 < (s_0.length : Int))) then
      (at? s_0 i_4).bind fun b2 =>
      if (decide ((b2.toNat : Int) < 48)) then
        some (-1)
      else
      (at? s_0 i_4).bind fun b4 =>
      if (decide (57 < (b4.toNat : Int))) then
        some (-1)
      else
      (at? s_0 i_4).bind fun b6 =>
      (spec_l1Int_L1 s_0 fu1) (IntKind.i64.wrap ((IntKind.i64.wrap (10 * n_3)) + (IntKind.i64.wrap (IntKind.u8.wrap ((b6.toNat : Int) - 48))))) (IntKind.i64.wrap (i_4 + 1))
    else
    some n_3
def spec_l1Int_K1 (s_0 : Str) : Option Int :=
  spec_l1Int_L1 s_0 FU 0 0
def spec_l1Int (s_0 : Str) : Option Int :=
  (spec_l1In (s_0.length : Int) 1 10).bind fun y7 =>
  if (!y7) then
    some (-1)
  else
  (at? s_0 0).bind fun b9 =>
  if ((b9.toNat : Int) == 48) then
    if (decide (1 < (s_0.length : Int))) then
      some (-1)
    else
    spec_l1Int_K1 s_0
  else
  spec_l1Int_K1 s_0

/-! loop.example/g00300/spec.l3Number -/
def spec_l3Number_K1 (b_5 : List Int) : Option Str :=
  (text? b_5).bind fun x2 =>
  some x2
def spec_l3Number_L1 (n_0 : Int) : Nat → Int → Int → List Int → Option Str
  | 0, _, _, _ =>
    none
  | fu1 + 1, n_0', i_6, b_8 =>
    if (decide (0 ≤ i_6)) then
      (at? b_8 i_6).bind fun e4 =>
      (put? b_8 i_6 (IntKind.u8.wrap n_0')).bind fun x5 =>
      (spec_l3Number_L1 n_0 fu1) (n_0'.fdiv 256) (IntKind.i64.wrap (i_6 - 1)) x5
    else
    spec_l3Number_K1 b_8
def spec_l3Number (n_0 : Int) (bytes_1 : Int) : Option Str :=
  (make? 1 bytes_1 (0 : Int)).bind fun x1 =>
  spec_l3Number_L1 n_0 FU n_0 (IntKind.i64.wrap (bytes_1 - 1)) x1

/-! loop.example/g00300/spec.l1Label -/
def spec_l1Label_K1 (s_0 : Str) : Option Bool :=
  (spec_l1In (s_0.length : Int) 1 20).bind fun y2 =>
  some y2
def spec_l1Label_L1 (s_0 : Str) : Nat → Int → Option Bool
  | 0, _ =>
    none
  | fu1 + 1, i_3 =>
    if (decide (i_3 < (s_0.length : Int))) then
      (at? s_0 i_3).bind fun b4 =>
      if (decide (97 ≤ (b4.toNat : Int))) then
        if (decide ((b4.toNat : Int) ≤ 122)) then
          (spec_l1Label_L1 s_0 fu1) (IntKind.i64.wrap (i_3 + 1))
        else
        if (decide (48 ≤ (b4.toNat : Int))) then
          if (decide ((b4.toNat : Int) ≤ 57)) then
            (spec_l1Label_L1 s_0 fu1) (IntKind.i64.wrap (i_3 + 1))
          else
          if ((b4.toNat : Int) == 45) then
            (spec_l1Label_L1 s_0 fu1) (IntKind.i64.wrap (i_3 + 1))
          else
          if (!((b4.toNat : Int) == 95)) then
            some false
          else
          (spec_l1Label_L1 s_0 fu1) (IntKind.i64.wrap (i_3 + 1))
        else
        if ((b4.toNat : Int) == 45) then
          (spec_l1Label_L1 s_0 fu1) (IntKind.i64.wrap (i_3 + 1))
        else
        if (!((b4.toNat : Int) == 95)) then
          some false
        else
        (spec_l1Label_L1 s_0 fu1) (IntKind.i64.wrap (i_3 + 1))
      else
      if (decide (48 ≤ (b4.toNat : Int))) then
        if (decide ((b4.toNat : Int) ≤ 57)) then
          (spec_l1Label_L1 s_0 fu1) (IntKind.i64.wrap (i_3 + 1))
        else
        if ((b4.toNat : Int) == 45) then
          (spec_l1Label_L1 s_0 fu1) (IntKind.i64.wrap (i_3 + 1))
        else
        if (!((b4.toNat : Int) == 95)) then
          some false
        else
        (spec_l1Label_L1 s_0 fu1) (IntKind.i64.wrap (i_3 + 1))
      else
      if ((b4.toNat : Int) == 45) then
        (spec_l1Label_L1 s_0 fu1) (IntKind.i64.wrap (i_3 + 1))
      else
      if (!((b4.toNat : Int) == 95)) then
        some false
      else
      (spec_l1Label_L1 s_0 fu1) (IntKind.i64.wrap (i_3 + 1))
    else
    spec_l1Label_K1 s_0
def spec_l1Label (s_0 : Str) : Option Bool :=
  if (s_0 == [42]) then
    some true
  else
  spec_l1Label_L1 s_0 FU 0

/-! loop.example/g00300/spec.l1Labels -/
def spec_l1Labels_K1 (s_0 : Str) (y2 : (List Str)) : Option ((List Str) × Bool) :=
  if (decide ((s_0.length : Int) ≤ 60)) then
    some (y2, (decide ((y2.length : Int) ≤ 8)))
  else
  some (y2, false)
def spec_l1Labels_L1 (s_0 : Str) (y2 : (List Str)) : List Str → Nat → Option ((List Str) × Bool)
  | [], i13 =>
    spec_l1Labels_K1 s_0 y2
  | e13 :: post13, i13 =>
    (spec_l1Label e13).bind fun y4 =>
    if (!y4) then
      some ([], false)
    else
    (spec_l1Labels_L1 s_0 y2 post13) (i13 + 1)
def spec_l1Labels (s_0 : Str) : Option ((List Str) × Bool) :=
  if (s_0 == ([] : Str)) then
    some ([], true)
  else
  (spec_l1Split s_0 46).bind fun y2 =>
  spec_l1Labels_L1 s_0 y2 y2 0

/-! loop.example/g00300/spec.l3Target -/
def spec_l3Target_K1 (s_0 : Str) (ok_4 : Bool) : Option Bool :=
  if ok_4 then
    some (!(s_0 == ([] : Str)))
  else
  some false
def spec_l3Target_L1 (s_0 : Str) : List Str → Nat → Bool → Option Bool
  | [], i14, ok_4 =>
    spec_l3Target_K1 s_0 ok_4
  | e14 :: post14, i14, ok_4 =>
    if ok_4 then
      (spec_l3Target_L1 s_0 post14) (i14 + 1) (!(e14 == [42]))
    else
    (spec_l3Target_L1 s_0 post14) (i14 + 1) false
def spec_l3Target (s_0 : Str) : Option Bool :=
  (spec_l1Labels s_0).bind fun y1 =>
  spec_l3Target_L1 s_0 y1.1 0 y1.2

/-! loop.example/g00300/spec.l2Bytes -/
def spec_l2Bytes_K1 (out_5 : Str) : Option Str :=
  (cat? out_5 [0]).bind fun x2 =>
  some x2
def spec_l2Bytes_L1 : List Str → Nat → Str → Option Str
  | [], i15, out_5 =>
    spec_l2Bytes_K1 out_5
  | e15 :: post15, i15, out_5 =>
    (text? [(IntKind.u8.wrap (e15.length : Int))]).bind fun x3 =>
    (cat? x3 e15).bind fun x4 =>
    (cat? out_5 x4).bind fun x5 =>
    (spec_l2Bytes_L1 post15) (i15 + 1) x5
def spec_l2Bytes (s_0 : Str) : Option Str :=
  (spec_l1Labels s_0).bind fun y1 =>
  spec_l2Bytes_L1 y1.1 0 ([] : Str)

/-! loop.example/g00300/spec.l3Bytes -/
def spec_l3Bytes_L1 (y2 : (List Str)) : List Str → Nat → Str → Option (Str × Bool)
  | [], i21, out_6 =>
    some (out_6, ((y2.length : Int) == 4))
  | e21 :: post21, i21, out_6 =>
    (spec_l1Int e21).bind fun y3 =>
    (spec_l1In y3 0 255).bind fun y4 =>
    if (!y4) then
      some ([], false)
    else
    (spec_l3Number y3 1).bind fun y6 =>
    (cat? out_6 y6).bind fun x7 =>
    (spec_l3Bytes_L1 y2 post21) (i21 + 1) x7
def spec_l3Bytes_K2 (data_1 : Str) : Option (Str × Bool) :=
  (text? [(IntKind.u8.wrap (data_1.length : Int))]).bind fun x33 =>
  (cat? x33 data_1).bind fun x34 =>
  some (x34, (decide ((data_1.length : Int) ≤ 30)))
def spec_l3Bytes_L2 (data_1 : Str) : Nat → Int → Option (Str × Bool)
  | 0, _ =>
    none
  | fu2 + 1, i_13 =>
    if (decide (i_13 < (data_1.length : Int))) then
      (at? data_1 i_13).bind fun b36 =>
      if (decide ((b36.toNat : Int) < 32)) then
        some ([], false)
      else
      (at? data_1 i_13).bind fun b38 =>
      if (decide (126 < (b38.toNat : Int))) then
        some ([], false)
      else
      (spec_l3Bytes_L2 data_1 fu2) (IntKind.i64.wrap (i_13 + 1))
    else
    spec_l3Bytes_K2 data_1
def spec_l3Bytes_K1 (kind_0 : Int) (data_1 : Str) (v_39 : Bool) : Option (Str × Bool) :=
  if v_39 then
    (spec_l3Target data_1).bind fun y9 =>
    if (!y9) then
      some ([], false)
    else
    (spec_l2Bytes data_1).bind fun y11 =>
    some (y11, true)
  else
  if (kind_0 == 6) then
    (spec_l1Int data_1).bind fun y13 =>
    (spec_l3Number y13 4).bind fun y14 =>
    (spec_l1In y13 0 4294967295).bind fun y15 =>
    some (y14, y15)
  else
  if (kind_0 == 15) then
    (spec_l1Split data_1 32).bind fun y17 =>
    if ((y17.length : Int) != 2) then
      some ([], false)
    else
    (at? y17 0).bind fun e19 =>
    (spec_l1Int e19).bind fun y20 =>
    (spec_l1In y20 0 65535).bind fun y21 =>
    if (!y21) then
      some ([], false)
    else
    (at? y17 1).bind fun e23 =>
    (spec_l3Target e23).bind fun y24 =>
    if (!y24) then
      some ([], false)
    else
    (at? y17 0).bind fun e26 =>
    (spec_l1Int e26).bind fun y27 =>
    (spec_l3Number y27 2).bind fun y28 =>
    (at? y17 1).bind fun e29 =>
    (spec_l2Bytes e29).bind fun y30 =>
    (cat? y28 y30).bind fun x31 =>
    some (x31, true)
  else
  if (kind_0 == 16) then
    spec_l3Bytes_L2 data_1 FU 0
  else
  some ([], false)
def spec_l3Bytes (kind_0 : Int) (data_1 : Str) : Option (Str × Bool) :=
  if (kind_0 == 1) then
    (spec_l1Split data_1 46).bind fun y2 =>
    spec_l3Bytes_L1 y2 y2 0 ([] : Str)
  else
  if (kind_0 == 2) then
    spec_l3Bytes_K1 kind_0 data_1 true
  else
  spec_l3Bytes_K1 kind_0 data_1 (kind_0 == 5)

/-! loop.example/g00300/spec.GoodName -/
def spec_GoodName (s_0 : Str) : Option Bool :=
  (spec_l1Labels s_0).bind fun y1 =>
  some y1.2

/-! loop.example/g00300/spec.GoodPolicy -/
def spec_GoodPolicy_K1 (p_0 : TPolicy) : Option Bool :=
  (spec_GoodName p_0.fName).bind fun y1 =>
  if y1 then
    (spec_l1In (p_0.fTargets.length : Int) 1 12).bind fun y3 =>
    some y3
  else
  some false
def spec_GoodPolicy_L1 (p_0 : TPolicy) : List TTarget → Nat → Option Bool
  | [], i10 =>
    spec_GoodPolicy_K1 p_0
  | e10 :: post10, i10 =>
    (spec_l3Bytes 1 e10.fData).bind fun y4 =>
    if (!y4.2) then
      some false
    else
    (spec_GoodName e10.fHost).bind fun y6 =>
    if (!y6) then
      some false
    else
    (spec_l1In e10.fGroup 0 9).bind fun y8 =>
    if (!y8) then
      some false
    else
    (spec_l1In e10.fWeight 1 50).bind fun y10 =>
    if (!y10) then
      some false
    else
    (spec_GoodPolicy_L1 p_0 post10) (i10 + 1)
def spec_GoodPolicy (p_0 : TPolicy) : Option Bool :=
  spec_GoodPolicy_L1 p_0 p_0.fTargets 0

/-! loop.example/g00300/spec.l13Most -/
def spec_l13Most (h_0 : THealth) (x_1 : THost) : Option Int :=
  if x_1.fUp then
    some h_0.fFall
  else
  some h_0.fRise

/-! loop.example/g00300/spec.l13Names -/
def spec_l13Names_K1 (l_0 : (List Str)) : Option Bool :=
  (spec_l1In (l_0.length : Int) 1 12).bind fun y1 =>
  some y1
def spec_l13Names_L2 (i9 : Nat) (e9 : Str) (rc1 : Nat → Option Bool) : List Str → Nat → Option Bool
  | [], i25 =>
    rc1 (i9 + 1)
  | e25 :: post25, i25 =>
    if (e25 == e9) then
      some false
    else
    (spec_l13Names_L2 i9 e9 rc1 post25) (i25 + 1)
def spec_l13Names_L1 (l_0 : (List Str)) : List Str → Nat → Option Bool
  | [], i9 =>
    spec_l13Names_K1 l_0
  | e9 :: post9, i9 =>
    (spec_GoodName e9).bind fun y2 =>
    if (!y2) then
      some false
    else
    if (e9 == ([] : Str)) then
      some false
    else
    (cut? l_0 0 (i9 : Int)).bind fun x5 =>
    spec_l13Names_L2 i9 e9 (spec_l13Names_L1 l_0 post9) x5 0
def spec_l13Names (l_0 : (List Str)) : Option Bool :=
  spec_l13Names_L1 l_0 l_0 0

/-! loop.example/g00300/spec.GoodHealth -/
def spec_GoodHealth_K1 (h_0 : THealth) (names_3 : List Str) : Option Bool :=
  (spec_l1In h_0.fRise 1 10).bind fun y1 =>
  if y1 then
    (spec_l1In h_0.fFall 1 10).bind fun y3 =>
    if y3 then
      (spec_l13Names names_3).bind fun y5 =>
      some y5
    else
    some false
  else
  some false
def spec_GoodHealth_L1 (h_0 : THealth) : List THost → Nat → List Str → Option Bool
  | [], i9, names_3 =>
    spec_GoodHealth_K1 h_0 names_3
  | e9 :: post9, i9, names_3 =>
    (spec_l13Most h_0 e9).bind fun y6 =>
    (spec_l1In e9.fRow 0 (IntKind.i64.wrap (y6 - 1))).bind fun y7 =>
    if (!y7) then
      some false
    else
    (app? 16 names_3 [e9.fName]).bind fun x9 =>
    (spec_GoodHealth_L1 h_0 post9) (i9 + 1) x9
def spec_GoodHealth (h_0 : THealth) : Option Bool :=
  spec_GoodHealth_L1 h_0 h_0.fHosts 0 ([] : List Str)

/-! loop.example/g00300/spec.l1Has -/
def spec_l1Has_L1 (n_1 : Int) : List Int → Nat → Option Bool
  | [], i9 =>
    some false
  | e9 :: post9, i9 =>
    if (e9 == n_1) then
      some true
    else
    (spec_l1Has_L1 n_1 post9) (i9 + 1)
def spec_l1Has (l_0 : (List Int)) (n_1 : Int) : Option Bool :=
  spec_l1Has_L1 n_1 l_0 0

/-! loop.example/g00300/spec.l14Groups -/
def spec_l14Groups_L2 (g_4 : Int) (out_3 : List Int) (rc1 : Int → (List Int) → Option (List Int)) : List TTarget → Nat → List Int → Option (List Int)
  | [], i14, out_3' =>
    rc1 (IntKind.i64.wrap (g_4 + 1)) out_3'
  | e14 :: post14, i14, out_3' =>
    if (e14.fGroup == g_4) then
      (spec_l1Has out_3' g_4).bind fun y3 =>
      if (!y3) then
        (app? 8 out_3' [g_4]).bind fun x5 =>
        (spec_l14Groups_L2 g_4 out_3 rc1 post14) (i14 + 1) x5
      else
      (spec_l14Groups_L2 g_4 out_3 rc1 post14) (i14 + 1) out_3'
    else
    (spec_l14Groups_L2 g_4 out_3 rc1 post14) (i14 + 1) out_3'
def spec_l14Groups_L1 (p_0 : TPolicy) : Nat → Int → List Int → Option (List Int)
  | 0, _, _ =>
    none
  | fu1 + 1, g_4, out_3 =>
    if (decide (g_4 < 10)) then
      spec_l14Groups_L2 g_4 out_3 (spec_l14Groups_L1 p_0 fu1) p_0.fTargets 0 out_3
    else
    some out_3
def spec_l14Groups (p_0 : TPolicy) : Option (List Int) :=
  spec_l14Groups_L1 p_0 FU 0 ([] : List Int)

/-! loop.example/g00300/spec.IsUp -/
def spec_IsUp_L1 (name_1 : Str) : List THost → Nat → Option (Bool × Bool)
  | [], i14 =>
    some (false, false)
  | e14 :: post14, i14 =>
    if (e14.fName == name_1) then
      some (e14.fUp, true)
    else
    (spec_IsUp_L1 name_1 post14) (i14 + 1)
def spec_IsUp (h_0 : THealth) (name_1 : Str) : Option (Bool × Bool) :=
  (spec_GoodHealth h_0).bind fun y1 =>
  if (!y1) then
    some (false, false)
  else
  spec_IsUp_L1 name_1 h_0.fHosts 0

/-! loop.example/g00300/spec.l14Well -/
def spec_l14Well (h_0 : THealth) (host_1 : Str) : Option Bool :=
  (spec_IsUp h_0 host_1).bind fun y1 =>
  if y1.1 then
    some true
  else
  some (!y1.2)

/-! loop.example/g00300/spec.l14Group -/
def spec_l14Group_K1 (p_0 : TPolicy) : Option Int :=
  (spec_l14Groups p_0).bind fun y1 =>
  (at? y1 0).bind fun e2 =>
  some e2
def spec_l14Group_L2 (h_1 : THealth) (i12 : Nat) (e12 : Int) (rc1 : Nat → Option Int) : List TTarget → Nat → Option Int
  | [], i19 =>
    rc1 (i12 + 1)
  | e19 :: post19, i19 =>
    if (e19.fGroup == e12) then
      (spec_l14Well h_1 e19.fHost).bind fun y5 =>
      if y5 then
        some e12
      else
      (spec_l14Group_L2 h_1 i12 e12 rc1 post19) (i19 + 1)
    else
    (spec_l14Group_L2 h_1 i12 e12 rc1 post19) (i19 + 1)
def spec_l14Group_L1 (p_0 : TPolicy) (h_1 : THealth) : List Int → Nat → Option Int
  | [], i12 =>
    spec_l14Group_K1 p_0
  | e12 :: post12, i12 =>
    spec_l14Group_L2 h_1 i12 e12 (spec_l14Group_L1 p_0 h_1 post12) p_0.fTargets 0
def spec_l14Group (p_0 : TPolicy) (h_1 : THealth) : Option Int :=
  (spec_l14Groups p_0).bind fun y3 =>
  spec_l14Group_L1 p_0 h_1 y3 0

/-! loop.example/g00300/spec.l14Candidates -/
def spec_l14Candidates_K1 (well_6 : List Int) (all_7 : List Int) : Option (List Int) :=
  if ((well_6.length : Int) == 0) then
    some all_7
  else
  some well_6
def spec_l14Candidates_L1 (h_1 : THealth) (y1 : Int) : List TTarget → Nat → List Int → List Int → Option (List Int)
  | [], i16, well_6, all_7 =>
    spec_l14Candidates_K1 well_6 all_7
  | e16 :: post16, i16, well_6, all_7 =>
    if (e16.fGroup != y1) then
      (spec_l14Candidates_L1 h_1 y1 post16) (i16 + 1) well_6 all_7
    else
    (app? 8 all_7 [(i16 : Int)]).bind fun x4 =>
    (spec_l14Well h_1 e16.fHost).bind fun y5 =>
    if y5 then
      (app? 8 well_6 [(i16 : Int)]).bind fun x7 =>
      (spec_l14Candidates_L1 h_1 y1 post16) (i16 + 1) x7 x4
    else
    (spec_l14Candidates_L1 h_1 y1 post16) (i16 + 1) well_6 x4
def spec_l14Candidates (p_0 : TPolicy) (h_1 : THealth) : Option (List Int) :=
  (spec_l14Group p_0 h_1).bind fun y1 =>
  spec_l14Candidates_L1 h_1 y1 p_0.fTargets 0 ([] : List Int) ([] : List Int)

/-! loop.example/g00300/spec.CandidatesOf -/
def spec_CandidatesOf (p_0 : TPolicy) (h_1 : THealth) : Option ((List Int) × Bool) :=
  (spec_GoodPolicy p_0).bind fun y1 =>
  if (!y1) then
    some ([], false)
  else
  (spec_GoodHealth h_1).bind fun y3 =>
  if (!y3) then
    some ([], false)
  else
  (spec_l14Candidates p_0 h_1).bind fun y5 =>
  some (y5, true)

/-! loop.example/g00300/impl.labelsOf -/
def impl_labelsOf (s_0 : Str) : Option (List Str) :=
  if (s_0 == ([] : Str)) then
    some []
  else
  (strings_Split s_0 [46]).bind fun y2 =>
  some y2

/-! slices.IndexFunc[[]string,string] -/
def slices_IndexFunc_string_string_L1 (s_0 : (List Str)) (f_1 : Str → Option Bool) : Nat → Int → Option Int
  | 0, _ =>
    none
  | fu1 + 1, v_8 =>
    if (decide (v_8 < (s_0.length : Int))) then
      (at? s_0 v_8).bind fun e2 =>
      (f_1 e2).bind fun y3 =>
      if y3 then
        some v_8
      else
      (slices_IndexFunc_string_string_L1 s_0 f_1 fu1) (IntKind.i64.wrap (v_8 + 1))
    else
    some (-1)
def slices_IndexFunc_string_string (s_0 : (List Str)) (f_1 : Str → Option Bool) : Option Int :=
  slices_IndexFunc_string_string_L1 s_0 f_1 FU 0

/-! slices.ContainsFunc[[]string,string] -/
def slices_ContainsFunc_string_string (s_0 : (List Str)) (f_1 : Str → Option Bool) : Option Bool :=
  (slices_IndexFunc_string_string s_0 f_1).bind fun y1 =>
  some (decide (0 ≤ y1))

/-! loop.example/g00300/impl.within -/
def impl_within (n_0 : Int) (low_1 : Int) (high_2 : Int) : Option Bool :=
  if (decide (low_1 ≤ n_0)) then
    some (decide (n_0 ≤ high_2))
  else
  some false

/-! loop.example/g00300/impl.isLabel -/
def impl_isLabel (s_0 : Str) : Option Bool :=
  if (s_0 == [42]) then
    some true
  else
  (impl_within (s_0.length : Int) 1 20).bind fun y2 =>
  if y2 then
    (strings_Trim s_0 [97, 98, 99, 100, 101, 102, 103, 104, 105, 106, 107, 108, 109, 110, 111, 112, 113, 114, 115, 116, 117, 118, 119, 120, 121, 122, 48, 49, 50, 51, 52, 53, 54, 55, 56, 57, 45, 95]).bind fun y4 =>
    some (y4 == ([] : Str))
  else
  some false

/-! loop.example/g00300/impl.GoodName$1 -/
def impl_GoodName_1 (label_0 : Str) : Option Bool :=
  (impl_isLabel label_0).bind fun y1 =>
  some (!y1)

/-! loop.example/g00300/impl.GoodName -/
def impl_GoodName (s_0 : Str) : Option Bool :=
  if (decide (60 < (s_0.length : Int))) then
    some false
  else
  (impl_labelsOf s_0).bind fun y2 =>
  if (decide ((y2.length : Int) ≤ 8)) then
    (slices_ContainsFunc_string_string y2 (fun q0 => impl_GoodName_1 q0)).bind fun y4 =>
    some (!y4)
  else
  some false

/-! slices.IndexFunc[[]loop.example/g00300/impl.Target,loop.example/g00300/impl.Target] -/
def slices_IndexFunc_impl_Target_impl_Target_L1 (s_0 : (List TTarget)) (f_1 : TTarget → Option Bool) : Nat → Int → Option Int
  | 0, _ =>
    none
  | fu1 + 1, v_8 =>
    if (decide (v_8 < (s_0.length : Int))) then
      (at? s_0 v_8).bind fun e2 =>
      (f_1 e2).bind fun y3 =>
      if y3 then
        some v_8
      else
      (slices_IndexFunc_impl_Target_impl_Target_L1 s_0 f_1 fu1) (IntKind.i64.wrap (v_8 + 1))
    else
    some (-1)
def slices_IndexFunc_impl_Target_impl_Target (s_0 : (List TTarget)) (f_1 : TTarget → Option Bool) : Option Int :=
  slices_IndexFunc_impl_Target_impl_Target_L1 s_0 f_1 FU 0

/-! slices.ContainsFunc[[]loop.example/g00300/impl.Target,loop.example/g00300/impl.Target] -/
def slices_ContainsFunc_impl_Target_impl_Target (s_0 : (List TTarget)) (f_1 : TTarget → Option Bool) : Option Bool :=
  (slices_IndexFunc_impl_Target_impl_Target s_0 f_1).bind fun y1 =>
  some (decide (0 ≤ y1))

/-! loop.example/g00300/impl.numberIn -/
def impl_numberIn (s_0 : Str) (most_1 : Int) : Option (Int × Bool) :=
  (strconv_Atoi s_0).bind fun y1 =>
  if y1.2 then
    some (y1.1, false)
  else
  (impl_within y1.1 0 most_1).bind fun y3 =>
  if y3 then
    (strconv_Itoa y1.1).bind fun y5 =>
    some (y1.1, (y5 == s_0))
  else
  some (y1.1, false)

/-! loop.example/g00300/impl.big -/
def impl_big_K1 (out_5 : List Int) : Option Str :=
  (text? out_5).bind fun x1 =>
  some x1
def impl_big_L1 (n_0 : Int) : Nat → Int → List Int → Option Str
  | 0, _, _ =>
    none
  | fu1 + 1, i_6, out_7 =>
    if (decide (0 ≤ i_6)) then
      (ge0? (IntKind.i64.wrap (8 * i_6))).bind fun u3 =>
      (app? 1 out_7 [(IntKind.u8.wrap (n_0.fdiv (2 ^ min (IntKind.i64.wrap (8 * i_6)).toNat 64)))]).bind fun x4 =>
      (impl_big_L1 n_0 fu1) (IntKind.i64.wrap (i_6 - 1)) x4
    else
    impl_big_K1 out_7
def impl_big (n_0 : Int) (count_1 : Int) : Option Str :=
  impl_big_L1 n_0 FU (IntKind.i64.wrap (count_1 - 1)) ([] : List Int)

/-! loop.example/g00300/impl.isTarget -/
def impl_isTarget (s_0 : Str) : Option Bool :=
  if (!(s_0 == ([] : Str))) then
    (impl_GoodName s_0).bind fun y2 =>
    if y2 then
      (strings_Contains s_0 [42]).bind fun y4 =>
      some (!y4)
    else
    some false
  else
  some false

/-! loop.example/g00300/impl.labelBytes -/
def impl_labelBytes_L1 : List Str → Nat → Str → Option Str
  | [], i9, out_3 =>
    some out_3
  | e9 :: post9, i9, out_3 =>
    (text? [(IntKind.u8.wrap (e9.length : Int))]).bind fun x2 =>
    (cat? x2 e9).bind fun x3 =>
    (cat? out_3 x3).bind fun x4 =>
    (impl_labelBytes_L1 post9) (i9 + 1) x4
def impl_labelBytes (s_0 : Str) : Option Str :=
  (impl_labelsOf s_0).bind fun y1 =>
  impl_labelBytes_L1 y1 0 ([] : Str)

/-! slices.IndexFunc[[]byte,byte] -/
def slices_IndexFunc_byte_byte_L1 (s_0 : (List Int)) (f_1 : Int → Option Bool) : Nat → Int → Option Int
  | 0, _ =>
    none
  | fu1 + 1, v_8 =>
    if (decide (v_8 < (s_0.length : Int))) then
      (at? s_0 v_8).bind fun e2 =>
      (f_1 e2).bind fun y3 =>
      if y3 then
        some v_8
      else
      (slices_IndexFunc_byte_byte_L1 s_0 f_1 fu1) (IntKind.i64.wrap (v_8 + 1))
    else
    some (-1)
def slices_IndexFunc_byte_byte (s_0 : (List Int)) (f_1 : Int → Option Bool) : Option Int :=
  slices_IndexFunc_byte_byte_L1 s_0 f_1 FU 0

/-! slices.ContainsFunc[[]byte,byte] -/
def slices_ContainsFunc_byte_byte (s_0 : (List Int)) (f_1 : Int → Option Bool) : Option Bool :=
  (slices_IndexFunc_byte_byte s_0 f_1).bind fun y1 =>
  some (decide (0 ≤ y1))

/-! loop.example/g00300/impl.DataBytes$1 -/
def impl_DataBytes_1 (c_0 : Int) : Option Bool :=
  if (decide (c_0 < 32)) then
    some true
  else
  some (decide (126 < c_0))

/-! loop.example/g00300/impl.DataBytes -/
def impl_DataBytes_L1 (y2 : (List Str)) : List Str → Nat → Str → Option (Str × Bool)
  | [], i26, out_6 =>
    some (out_6, true)
  | e26 :: post26, i26, out_6 =>
    (impl_numberIn e26 255).bind fun y3 =>
    if (!y3.2) then
      some ([], false)
    else
    if ((y2.length : Int) != 4) then
      some ([], false)
    else
    (impl_big y3.1 1).bind fun y6 =>
    (cat? out_6 y6).bind fun x7 =>
    (impl_DataBytes_L1 y2 post26) (i26 + 1) x7
def impl_DataBytes_K1 (kind_0 : Int) (data_1 : Str) (v_48 : Bool) : Option (Str × Bool) :=
  if v_48 then
    (impl_isTarget data_1).bind fun y9 =>
    if (!y9) then
      some ([], false)
    else
    (impl_labelBytes data_1).bind fun y11 =>
    (cat? y11 [0]).bind fun x12 =>
    some (x12, true)
  else
  if (kind_0 == 6) then
    (impl_numberIn data_1 4294967295).bind fun y14 =>
    if (!y14.2) then
      some ([], false)
    else
    (impl_big y14.1 4).bind fun y16 =>
    some (y16, true)
  else
  if (kind_0 == 15) then
    (strings_Cut data_1 [32]).bind fun y18 =>
    (impl_numberIn y18.1 65535).bind fun y19 =>
    if (!y19.2) then
      some ([], false)
    else
    (impl_isTarget y18.2.1).bind fun y21 =>
    if (!y21) then
      some ([], false)
    else
    (impl_big y19.1 2).bind fun y23 =>
    (impl_labelBytes y18.2.1).bind fun y24 =>
    (cat? y23 y24).bind fun x25 =>
    (cat? x25 [0]).bind fun x26 =>
    some (x26, true)
  else
  if (kind_0 == 16) then
    if (decide (30 < (data_1.length : Int))) then
      some ([], false)
    else
    (bytes? data_1).bind fun x29 =>
    (slices_ContainsFunc_byte_byte x29 (fun q0 => impl_DataBytes_1 q0)).bind fun y30 =>
    if y30 then
      some ([], false)
    else
    (impl_big (data_1.length : Int) 1).bind fun y32 =>
    (cat? y32 data_1).bind fun x33 =>
    some (x33, true)
  else
  some ([], false)
def impl_DataBytes (kind_0 : Int) (data_1 : Str) : Option (Str × Bool) :=
  if (kind_0 == 1) then
    (strings_Split data_1 [46]).bind fun y2 =>
    impl_DataBytes_L1 y2 y2 0 ([] : Str)
  else
  if (kind_0 == 2) then
    impl_DataBytes_K1 kind_0 data_1 true
  else
  impl_DataBytes_K1 kind_0 data_1 (kind_0 == 5)

/-! loop.example/g00300/impl.GoodPolicy$1 -/
def impl_GoodPolicy_1 (t_0 : TTarget) : Option Bool :=
  (impl_DataBytes 1 t_0.fData).bind fun y1 =>
  if (!y1.2) then
    some true
  else
  if (decide (100 < (t_0.fData.length : Int))) then
    some true
  else
  (impl_GoodName t_0.fHost).bind fun y4 =>
  if (!y4) then
    some true
  else
  (impl_within t_0.fGroup 0 9).bind fun y6 =>
  if (!y6) then
    some true
  else
  (impl_within t_0.fWeight 1 50).bind fun y8 =>
  some (!y8)

/-! loop.example/g00300/impl.GoodPolicy -/
def impl_GoodPolicy (p_0 : TPolicy) : Option Bool :=
  (impl_GoodName p_0.fName).bind fun y1 =>
  if y1 then
    (impl_within (p_0.fTargets.length : Int) 1 12).bind fun y3 =>
    if y3 then
      (slices_ContainsFunc_impl_Target_impl_Target p_0.fTargets (fun q0 => impl_GoodPolicy_1 q0)).bind fun y5 =>
      some (!y5)
    else
    some false
  else
  some false

/-! (loop.example/g00300/impl.Health).mostRow -/
def impl_Health_mostRow (h_0 : THealth) (x_1 : THost) : Option Int :=
  if x_1.fUp then
    some h_0.fFall
  else
  some h_0.fRise

/-! loop.example/g00300/impl.GoodHealth$1 -/
def impl_GoodHealth_1 (y_0 : THost) (c_0 : THost) : Option Bool :=
  some (y_0.fName == c_0.fName)

/-! slices.IndexFunc[[]loop.example/g00300/impl.Host,loop.example/g00300/impl.Host] -/
def slices_IndexFunc_impl_Host_impl_Host_L1 (s_0 : (List THost)) (f_1 : THost → Option Bool) : Nat → Int → Option Int
  | 0, _ =>
    none
  | fu1 + 1, v_8 =>
    if (decide (v_8 < (s_0.length : Int))) then
      (at? s_0 v_8).bind fun e2 =>
      (f_1 e2).bind fun y3 =>
      if y3 then
        some v_8
      else
      (slices_IndexFunc_impl_Host_impl_Host_L1 s_0 f_1 fu1) (IntKind.i64.wrap (v_8 + 1))
    else
    some (-1)
def slices_IndexFunc_impl_Host_impl_Host (s_0 : (List THost)) (f_1 : THost → Option Bool) : Option Int :=
  slices_IndexFunc_impl_Host_impl_Host_L1 s_0 f_1 FU 0

/-! slices.ContainsFunc[[]loop.example/g00300/impl.Host,loop.example/g00300/impl.Host] -/
def slices_ContainsFunc_impl_Host_impl_Host (s_0 : (List THost)) (f_1 : THost → Option Bool) : Option Bool :=
  (slices_IndexFunc_impl_Host_impl_Host s_0 f_1).bind fun y1 =>
  some (decide (0 ≤ y1))

/-! loop.example/g00300/impl.GoodHealth -/
def impl_GoodHealth_L1 (h_0 : THealth) : List THost → Nat → Option Bool
  | [], i25 =>
    some true
  | e25 :: post25, i25 =>
    if (e25.fName == ([] : Str)) then
      some false
    else
    (impl_GoodName e25.fName).bind fun y8 =>
    if (!y8) then
      some false
    else
    (impl_Health_mostRow h_0 e25).bind fun y10 =>
    (impl_within e25.fRow 0 (IntKind.i64.wrap (y10 - 1))).bind fun y11 =>
    if (!y11) then
      some false
    else
    (cut? h_0.fHosts 0 (i25 : Int)).bind fun x13 =>
    (slices_ContainsFunc_impl_Host_impl_Host x13 (fun q0 => impl_GoodHealth_1 q0 e25)).bind fun y14 =>
    if y14 then
      some false
    else
    (impl_GoodHealth_L1 h_0 post25) (i25 + 1)
def impl_GoodHealth (h_0 : THealth) : Option Bool :=
  (impl_within h_0.fRise 1 10).bind fun y1 =>
  if (!y1) then
    some false
  else
  (impl_within h_0.fFall 1 10).bind fun y3 =>
  if (!y3) then
    some false
  else
  (impl_within (h_0.fHosts.length : Int) 1 12).bind fun y5 =>
  if (!y5) then
    some false
  else
  impl_GoodHealth_L1 h_0 h_0.fHosts 0

/-! loop.example/g00300/impl.groupsIn -/
def impl_groupsIn_K1 (out_3 : List Int) : Option (List Int) :=
  (slices_Sort_int_int out_3).bind fun y1 =>
  (same? out_3 y1).bind fun u2 =>
  (slices_Compact_int_int y1).bind fun y3 =>
  some y3
def impl_groupsIn_L1 : List TTarget → Nat → List Int → Option (List Int)
  | [], i10, out_6 =>
    impl_groupsIn_K1 out_6
  | e10 :: post10, i10, out_6 =>
    (app? 8 out_6 [e10.fGroup]).bind fun x4 =>
    (impl_groupsIn_L1 post10) (i10 + 1) x4
def impl_groupsIn (p_0 : TPolicy) : Option (List Int) :=
  impl_groupsIn_L1 p_0.fTargets 0 ([] : List Int)

/-! (loop.example/g00300/impl.Health).findHost$1 -/
def impl_Health_findHost_1 (x_0 : THost) (c_0 : Str) : Option Bool :=
  some (x_0.fName == c_0)

/-! (loop.example/g00300/impl.Health).findHost -/
def impl_Health_findHost (h_0 : THealth) (name_1 : Str) : Option Int :=
  (slices_IndexFunc_impl_Host_impl_Host h_0.fHosts (fun q0 => impl_Health_findHost_1 q0 name_1)).bind fun y1 =>
  some y1

/-! loop.example/g00300/impl.isWell -/
def impl_isWell (h_0 : THealth) (t_1 : TTarget) : Option Bool :=
  (impl_Health_findHost h_0 t_1.fHost).bind fun y1 =>
  if (decide (y1 < 0)) then
    some true
  else
  (at? h_0.fHosts y1).bind fun e3 =>
  some e3.fUp

/-! loop.example/g00300/impl.groupOf$1 -/
def impl_groupOf_1 (t_0 : TTarget) (c_0 : Int) (c_1 : THealth) : Option Bool :=
  if (t_0.fGroup == c_0) then
    (impl_isWell c_1 t_0).bind fun y2 =>
    some y2
  else
  some false

/-! loop.example/g00300/impl.groupOf -/
def impl_groupOf_K1 (y1 : (List Int)) : Option Int :=
  (at? y1 0).bind fun e2 =>
  some e2
def impl_groupOf_L1 (p_0 : TPolicy) (h_1 : THealth) (y1 : (List Int)) : List Int → Nat → Option Int
  | [], i12 =>
    impl_groupOf_K1 y1
  | e12 :: post12, i12 =>
    (slices_ContainsFunc_impl_Target_impl_Target p_0.fTargets (fun q0 => impl_groupOf_1 q0 e12 h_1)).bind fun y3 =>
    if y3 then
      some e12
    else
    (impl_groupOf_L1 p_0 h_1 y1 post12) (i12 + 1)
def impl_groupOf (p_0 : TPolicy) (h_1 : THealth) : Option Int :=
  (impl_groupsIn p_0).bind fun y1 =>
  impl_groupOf_L1 p_0 h_1 y1 y1 0

/-! loop.example/g00300/impl.candidatesOf -/
def impl_candidatesOf_K1 (well_6 : List Int) (all_7 : List Int) : Option (List Int) :=
  if (decide (0 < (well_6.length : Int))) then
    some well_6
  else
  some all_7
def impl_candidatesOf_L1 (h_1 : THealth) (y1 : Int) : List TTarget → Nat → List Int → List Int → Option (List Int)
  | [], i18, well_13, all_14 =>
    impl_candidatesOf_K1 well_13 all_14
  | e18 :: post18, i18, well_13, all_14 =>
    if (e18.fGroup != y1) then
      (impl_candidatesOf_L1 h_1 y1 post18) (i18 + 1) well_13 all_14
    else
    (app? 8 all_14 [(i18 : Int)]).bind fun x4 =>
    (impl_isWell h_1 e18).bind fun y5 =>
    if y5 then
      (app? 8 well_13 [(i18 : Int)]).bind fun x7 =>
      (impl_candidatesOf_L1 h_1 y1 post18) (i18 + 1) x7 x4
    else
    (impl_candidatesOf_L1 h_1 y1 post18) (i18 + 1) well_13 x4
def impl_candidatesOf (p_0 : TPolicy) (h_1 : THealth) : Option (List Int) :=
  (impl_groupOf p_0 h_1).bind fun y1 =>
  impl_candidatesOf_L1 h_1 y1 p_0.fTargets 0 ([] : List Int) ([] : List Int)

/-! loop.example/g00300/impl.CandidatesOf -/
def impl_CandidatesOf (p_0 : TPolicy) (h_1 : THealth) : Option ((List Int) × Bool) :=
  (impl_GoodPolicy p_0).bind fun y1 =>
  if (!y1) then
    some ([], false)
  else
  (impl_GoodHealth h_1).bind fun y3 =>
  if (!y3) then
    some ([], false)
  else
  (impl_candidatesOf p_0 h_1).bind fun y5 =>
  some (y5, true)

/-! loop.example/g00300/laws.eqIntS -/
def laws_eqIntS_L1 (a_0 : (List Int)) (b_1 : (List Int)) : Nat → Int → Option Bool
  | 0, _ =>
    none
  | fu1 + 1, i_5 =>
    if (decide (i_5 < (a_0.length : Int))) then
      (at? a_0 i_5).bind fun e3 =>
      (at? b_1 i_5).bind fun e4 =>
      if (e3 != e4) then
        some false
      else
      (laws_eqIntS_L1 a_0 b_1 fu1) (IntKind.i64.wrap (i_5 + 1))
    else
    some true
def laws_eqIntS (a_0 : (List Int)) (b_1 : (List Int)) : Option Bool :=
  if ((a_0.length : Int) != (b_1.length : Int)) then
    some false
  else
  laws_eqIntS_L1 a_0 b_1 FU 0

/-! loop.example/g00300/laws.eqTarget -/
def laws_eqTarget (a_0 : TTarget) (b_1 : TTarget) : Option Bool :=
  if (!(a_0.fHost == b_1.fHost)) then
    some false
  else
  if (!(a_0.fData == b_1.fData)) then
    some false
  else
  if (a_0.fGroup != b_1.fGroup) then
    some false
  else
  if (a_0.fWeight != b_1.fWeight) then
    some false
  else
  some true

/-! loop.example/g00300/laws.eqTargetS -/
def laws_eqTargetS_L1 (a_0 : (List TTarget)) (b_1 : (List TTarget)) : Nat → Int → Option Bool
  | 0, _ =>
    none
  | fu1 + 1, i_5 =>
    if (decide (i_5 < (a_0.length : Int))) then
      (at? a_0 i_5).bind fun e3 =>
      (at? b_1 i_5).bind fun e4 =>
      (laws_eqTarget e3 e4).bind fun y5 =>
      if (!y5) then
        some false
      else
      (laws_eqTargetS_L1 a_0 b_1 fu1) (IntKind.i64.wrap (i_5 + 1))
    else
    some true
def laws_eqTargetS (a_0 : (List TTarget)) (b_1 : (List TTarget)) : Option Bool :=
  if ((a_0.length : Int) != (b_1.length : Int)) then
    some false
  else
  laws_eqTargetS_L1 a_0 b_1 FU 0

/-! loop.example/g00300/laws.eqPolicy -/
def laws_eqPolicy (a_0 : TPolicy) (b_1 : TPolicy) : Option Bool :=
  if (!(a_0.fName == b_1.fName)) then
    some false
  else
  (laws_eqTargetS a_0.fTargets b_1.fTargets).bind fun y2 =>
  if (!y2) then
    some false
  else
  some true

/-! loop.example/g00300/laws.eqHost -/
def laws_eqHost (a_0 : THost) (b_1 : THost) : Option Bool :=
  if (!(a_0.fName == b_1.fName)) then
    some false
  else
  if (!(a_0.fUp == b_1.fUp)) then
    some false
  else
  if (a_0.fRow != b_1.fRow) then
    some false
  else
  some true

/-! loop.example/g00300/laws.eqHostS -/
def laws_eqHostS_L1 (a_0 : (List THost)) (b_1 : (List THost)) : Nat → Int → Option Bool
  | 0, _ =>
    none
  | fu1 + 1, i_5 =>
    if (decide (i_5 < (a_0.length : Int))) then
      (at? a_0 i_5).bind fun e3 =>
      (at? b_1 i_5).bind fun e4 =>
      (laws_eqHost e3 e4).bind fun y5 =>
      if (!y5) then
        some false
      else
      (laws_eqHostS_L1 a_0 b_1 fu1) (IntKind.i64.wrap (i_5 + 1))
    else
    some true
def laws_eqHostS (a_0 : (List THost)) (b_1 : (List THost)) : Option Bool :=
  if ((a_0.length : Int) != (b_1.length : Int)) then
    some false
  else
  laws_eqHostS_L1 a_0 b_1 FU 0

/-! loop.example/g00300/laws.eqHealth -/
def laws_eqHealth (a_0 : THealth) (b_1 : THealth) : Option Bool :=
  if (a_0.fRise != b_1.fRise) then
    some false
  else
  if (a_0.fFall != b_1.fFall) then
    some false
  else
  (laws_eqHostS a_0.fHosts b_1.fHosts).bind fun y3 =>
  if (!y3) then
    some false
  else
  some true

/-! loop.example/g00300/laws.markText -/
def laws_markText_K1 (out_3 : Str) : Option Str :=
  (cat? [109] out_3).bind fun x2 =>
  some x2
def laws_markText_L1 (k_0 : Int) : Nat → Int → Str → Option Str
  | 0, _, _ =>
    none
  | fu1 + 1, k_0', out_3 =>
    if (decide (0 < k_0')) then
      (text? [(IntKind.u8.wrap (IntKind.i64.wrap (48 + (k_0'.tmod 10))))]).bind fun x4 =>
      (cat? x4 out_3).bind fun x5 =>
      (laws_markText_L1 k_0 fu1) (IntKind.i64.wrap (k_0'.tdiv 10)) x5
    else
    laws_markText_K1 out_3
def laws_markText (k_0 : Int) : Option Str :=
  if (decide (k_0 ≤ 0)) then
    some [109, 48]
  else
  laws_markText_L1 k_0 FU k_0 ([] : Str)

/-! loop.example/g00300/laws.markTargetS -/
def laws_markTargetS_L1 (a_0 : (List TTarget)) (k_1 : Int) : Nat → Int → Int → List TTarget → Option (Int × (List TTarget))
  | 0, _, _, _ =>
    none
  | fu1 + 1, k_1', i_5, a_0' =>
    if (decide (i_5 < (a_0'.length : Int))) then
      (laws_markText k_1').bind fun y2 =>
      (at? a_0' i_5).bind fun e3 =>
      (put? a_0' i_5 (⟨y2, e3.fData, e3.fGroup, e3.fWeight⟩ : TTarget)).bind fun x4 =>
      (laws_markText (IntKind.i64.wrap (k_1' + 1))).bind fun y5 =>
      (at? x4 i_5).bind fun e6 =>
      (put? x4 i_5 (⟨e6.fHost, y5, e6.fGroup, e6.fWeight⟩ : TTarget)).bind fun x7 =>
      (at? x7 i_5).bind fun e8 =>
      (put? x7 i_5 (⟨e8.fHost, e8.fData, (IntKind.i64.wrap ((IntKind.i64.wrap (k_1' + 1)) + 1)), e8.fWeight⟩ : TTarget)).bind fun x9 =>
      (at? x9 i_5).bind fun e10 =>
      (put? x9 i_5 (⟨e10.fHost, e10.fData, e10.fGroup, (IntKind.i64.wrap ((IntKind.i64.wrap ((IntKind.i64.wrap (k_1' + 1)) + 1)) + 1))⟩ : TTarget)).bind fun x11 =>
      (laws_markTargetS_L1 a_0 k_1 fu1) (IntKind.i64.wrap ((IntKind.i64.wrap ((IntKind.i64.wrap ((IntKind.i64.wrap (k_1' + 1)) + 1)) + 1)) + 1)) (IntKind.i64.wrap (i_5 + 1)) x11
    else
    some (k_1', a_0')
def laws_markTargetS (a_0 : (List TTarget)) (k_1 : Int) : Option (Int × (List TTarget)) :=
  laws_markTargetS_L1 a_0 k_1 FU k_1 0 a_0

/-! loop.example/g00300/laws.markPolicy -/
def laws_markPolicy (a_0 : TPolicy) (k_1 : Int) : Option (Int × (List TTarget)) :=
  (laws_markTargetS a_0.fTargets k_1).bind fun y1 =>
  (same? a_0.fTargets y1.2).bind fun u2 =>
  some (y1.1, y1.2)

/-! loop.example/g00300/laws.markHostS -/
def laws_markHostS_L1 (a_0 : (List THost)) (k_1 : Int) : Nat → Int → Int → List THost → Option (Int × (List THost))
  | 0, _, _, _ =>
    none
  | fu1 + 1, k_1', i_5, a_0' =>
    if (decide (i_5 < (a_0'.length : Int))) then
      (laws_markText k_1').bind fun y2 =>
      (at? a_0' i_5).bind fun e3 =>
      (put? a_0' i_5 (⟨y2, e3.fUp, e3.fRow⟩ : THost)).bind fun x4 =>
      (at? x4 i_5).bind fun e5 =>
      (put? x4 i_5 (⟨e5.fName, (((IntKind.i64.wrap (k_1' + 1)).tmod 3) == 0), e5.fRow⟩ : THost)).bind fun x6 =>
      (at? x6 i_5).bind fun e7 =>
      (put? x6 i_5 (⟨e7.fName, e7.fUp, (IntKind.i64.wrap ((IntKind.i64.wrap (k_1' + 1)) + 1))⟩ : THost)).bind fun x8 =>
      (laws_markHostS_L1 a_0 k_1 fu1) (IntKind.i64.wrap ((IntKind.i64.wrap ((IntKind.i64.wrap (k_1' + 1)) + 1)) + 1)) (IntKind.i64.wrap (i_5 + 1)) x8
    else
    some (k_1', a_0')
def laws_markHostS (a_0 : (List THost)) (k_1 : Int) : Option (Int × (List THost)) :=
  laws_markHostS_L1 a_0 k_1 FU k_1 0 a_0

/-! loop.example/g00300/laws.markHealth -/
def laws_markHealth (a_0 : THealth) (k_1 : Int) : Option (Int × (List THost)) :=
  (laws_markHostS a_0.fHosts k_1).bind fun y1 =>
  (same? a_0.fHosts y1.2).bind fun u2 =>
  some (y1.1, y1.2)

/-! loop.example/g00300/laws.markIntS -/
def laws_markIntS_L1 (a_0 : (List Int)) (k_1 : Int) : Nat → Int → Int → List Int → Option (Int × (List Int))
  | 0, _, _, _ =>
    none
  | fu1 + 1, k_1', i_5, a_0' =>
    if (decide (i_5 < (a_0'.length : Int))) then
      (at? a_0' i_5).bind fun e2 =>
      (put? a_0' i_5 k_1').bind fun x3 =>
      (laws_markIntS_L1 a_0 k_1 fu1) (IntKind.i64.wrap (k_1' + 1)) (IntKind.i64.wrap (i_5 + 1)) x3
    else
    some (k_1', a_0')
def laws_markIntS (a_0 : (List Int)) (k_1 : Int) : Option (Int × (List Int)) :=
  laws_markIntS_L1 a_0 k_1 FU k_1 0 a_0

/-! loop.example/g00300/laws.heldIntS -/
def laws_heldIntS_L1 (a_0 : (List Int)) (k_1 : Int) : Nat → Int → Int → Option Int
  | 0, _, _ =>
    none
  | fu1 + 1, k_1', i_5 =>
    if (decide (i_5 < (a_0.length : Int))) then
      (at? a_0 i_5).bind fun e2 =>
      if (e2 != k_1') then
        some (-1)
      else
      (laws_heldIntS_L1 a_0 k_1 fu1) (IntKind.i64.wrap (k_1' + 1)) (IntKind.i64.wrap (i_5 + 1))
    else
    some k_1'
def laws_heldIntS (a_0 : (List Int)) (k_1 : Int) : Option Int :=
  laws_heldIntS_L1 a_0 k_1 FU k_1 0

/-! loop.example/g00300/laws.FnExactCandidatesOf -/
def laws_FnExactCandidatesOf (aP_0 : TPolicy) (aH_1 : THealth) : Option Bool :=
  (laws_szPolicy aP_0 1048576).bind fun y1 =>
  if (decide (y1 < 0)) then
    some true
  else
  (laws_szHealth aH_1 y1).bind fun y3 =>
  if (decide (y3 < 0)) then
    some true
  else
  (laws_toPolicy aP_0).bind fun y5 =>
  (laws_toHealth aH_1).bind fun y6 =>
  (spec_CandidatesOf y5 y6).bind fun y7 =>
  (laws_toPolicy aP_0).bind fun y8 =>
  (laws_toHealth aH_1).bind fun y9 =>
  (impl_CandidatesOf y8 y9).bind fun y10 =>
  (laws_eqIntS y10.1 y7.1).bind fun y11 =>
  if (!y11) then
    some false
  else
  if (!(y10.2 == y7.2)) then
    some false
  else
  (laws_toPolicy aP_0).bind fun y14 =>
  (laws_eqPolicy y8 y14).bind fun y15 =>
  if (!y15) then
    some false
  else
  (laws_toHealth aH_1).bind fun y17 =>
  (laws_eqHealth y9 y17).bind fun y18 =>
  if (!y18) then
    some false
  else
  (laws_markPolicy y8 1).bind fun y20 =>
  (same? y8.fTargets y20.2).bind fun u21 =>
  (laws_markHealth y9 y20.1).bind fun y22 =>
  (same? y9.fHosts y22.2).bind fun u23 =>
  if (decide (y22.1 < 0)) then
    some false
  else
  (laws_eqIntS y10.1 y7.1).bind fun y25 =>
  if (!y25) then
    some false
  else
  if (!(y10.2 == y7.2)) then
    some false
  else
  (laws_markIntS y10.1 1).bind fun y28 =>
  (same? y10.1 y28.2).bind fun u29 =>
  (laws_heldIntS y28.2 1).bind fun y30 =>
  if (decide (y30 < 0)) then
    some false
  else
  if (y30 != y28.1) then
    some false
  else
  (laws_toPolicy aP_0).bind fun y33 =>
  (laws_toHealth aH_1).bind fun y34 =>
  (impl_CandidatesOf y33 y34).bind fun y35 =>
  (laws_eqIntS y35.1 y7.1).bind fun y36 =>
  if (!y36) then
    some false
  else
  if (!(y35.2 == y7.2)) then
    some false
  else
  (laws_heldIntS y28.2 1).bind fun y39 =>
  if (decide (y39 < 0)) then
    some false
  else
  if (y39 != y28.1) then
    some false
  else
  some true

/-! loop.example/g00300/spec.l12Total -/
def spec_l12Total_L1 : List Int → Nat → Int → Option Int
  | [], i8, n_3 =>
    some n_3
  | e8 :: post8, i8, n_3 =>
    (spec_l12Total_L1 post8) (i8 + 1) (IntKind.i64.wrap (n_3 + e8))
def spec_l12Total (l_0 : (List Int)) : Option Int :=
  spec_l12Total_L1 l_0 0 0

/-! loop.example/g00300/spec.SharesOf -/
def spec_SharesOf_K1 (out_7 : List Int) : Option ((List Int) × Int × Bool) :=
  (spec_l12Total out_7).bind fun y6 =>
  some (out_7, y6, true)
def spec_SharesOf_L1 (p_0 : TPolicy) : List Int → Nat → List Int → Option ((List Int) × Int × Bool)
  | [], i26, out_21 =>
    spec_SharesOf_K1 out_21
  | e26 :: post26, i26, out_21 =>
    (at? p_0.fTargets e26).bind fun e8 =>
    (at? out_21 e26).bind fun e9 =>
    (put? out_21 e26 e8.fWeight).bind fun x10 =>
    (spec_SharesOf_L1 p_0 post26) (i26 + 1) x10
def spec_SharesOf (p_0 : TPolicy) (h_1 : THealth) : Option ((List Int) × Int × Bool) :=
  (spec_GoodPolicy p_0).bind fun y1 =>
  if (!y1) then
    some ([], 0, false)
  else
  (spec_GoodHealth h_1).bind fun y3 =>
  if (!y3) then
    some ([], 0, false)
  else
  (make? 8 (p_0.fTargets.length : Int) (0 : Int)).bind fun x5 =>
  (spec_l14Candidates p_0 h_1).bind fun y7 =>
  spec_SharesOf_L1 p_0 y7 0 x5

/-! loop.example/g00300/impl.totalOf -/
def impl_totalOf_L1 : List Int → Nat → Int → Option Int
  | [], i8, sum_3 =>
    some sum_3
  | e8 :: post8, i8, sum_3 =>
    (impl_totalOf_L1 post8) (i8 + 1) (IntKind.i64.wrap (sum_3 + e8))
def impl_totalOf (l_0 : (List Int)) : Option Int :=
  impl_totalOf_L1 l_0 0 0

/-! loop.example/g00300/impl.SharesOf -/
def impl_SharesOf_K1 (out_7 : List Int) : Option ((List Int) × Int × Bool) :=
  (impl_totalOf out_7).bind fun y6 =>
  some (out_7, y6, true)
def impl_SharesOf_L1 (p_0 : TPolicy) : List Int → Nat → List Int → Option ((List Int) × Int × Bool)
  | [], i26, out_21 =>
    impl_SharesOf_K1 out_21
  | e26 :: post26, i26, out_21 =>
    (at? p_0.fTargets e26).bind fun e8 =>
    (at? out_21 e26).bind fun e9 =>
    (put? out_21 e26 e8.fWeight).bind fun x10 =>
    (impl_SharesOf_L1 p_0 post26) (i26 + 1) x10
def impl_SharesOf (p_0 : TPolicy) (h_1 : THealth) : Option ((List Int) × Int × Bool) :=
  (impl_GoodPolicy p_0).bind fun y1 =>
  if (!y1) then
    some ([], 0, false)
  else
  (impl_GoodHealth h_1).bind fun y3 =>
  if (!y3) then
    some ([], 0, false)
  else
  (make? 8 (p_0.fTargets.length : Int) (0 : Int)).bind fun x5 =>
  (impl_candidatesOf p_0 h_1).bind fun y7 =>
  impl_SharesOf_L1 p_0 y7 0 x5

/-! loop.example/g00300/laws.FnExactSharesOf -/
def laws_FnExactSharesOf (aP_0 : TPolicy) (aH_1 : THealth) : Option Bool :=
  (laws_szPolicy aP_0 1048576).bind fun y1 =>
  if (decide (y1 < 0)) then
    some true
  else
  (laws_szHealth aH_1 y1).bind fun y3 =>
  if (decide (y3 < 0)) then
    some true
  else
  (laws_toPolicy aP_0).bind fun y5 =>
  (laws_toHealth aH_1).bind fun y6 =>
  (spec_SharesOf y5 y6).bind fun y7 =>
  (laws_toPolicy aP_0).bind fun y8 =>
  (laws_toHealth aH_1).bind fun y9 =>
  (impl_SharesOf y8 y9).bind fun y10 =>
  (laws_eqIntS y10.1 y7.1).bind fun y11 =>
  if (!y11) then
    some false
  else
  if (y10.2.1 != y7.2.1) then
    some false
  else
  if (!(y10.2.2 == y7.2.2)) then
    some false
  else
  (laws_toPolicy aP_0).bind fun y15 =>
  (laws_eqPolicy y8 y15).bind fun y16 =>
  if (!y16) then
    some false
  else
  (laws_toHealth aH_1).bind fun y18 =>
  (laws_eqHealth y9 y18).bind fun y19 =>
  if (!y19) then
    some false
  else
  (laws_markPolicy y8 1).bind fun y21 =>
  (same? y8.fTargets y21.2).bind fun u22 =>
  (laws_markHealth y9 y21.1).bind fun y23 =>
  (same? y9.fHosts y23.2).bind fun u24 =>
  if (decide (y23.1 < 0)) then
    some false
  else
  (laws_eqIntS y10.1 y7.1).bind fun y26 =>
  if (!y26) then
    some false
  else
  if (y10.2.1 != y7.2.1) then
    some false
  else
  if (!(y10.2.2 == y7.2.2)) then
    some false
  else
  (laws_markIntS y10.1 1).bind fun y30 =>
  (same? y10.1 y30.2).bind fun u31 =>
  (laws_heldIntS y30.2 1).bind fun y32 =>
  if (decide (y32 < 0)) then
    some false
  else
  if (y32 != y30.1) then
    some false
  else
  (laws_toPolicy aP_0).bind fun y35 =>
  (laws_toHealth aH_1).bind fun y36 =>
  (impl_SharesOf y35 y36).bind fun y37 =>
  (laws_eqIntS y37.1 y7.1).bind fun y38 =>
  if (!y38) then
    some false
  else
  if (y37.2.1 != y7.2.1) then
    some false
  else
  if (!(y37.2.2 == y7.2.2)) then
    some false
  else
  (laws_heldIntS y30.2 1).bind fun y42 =>
  if (decide (y42 < 0)) then
    some false
  else
  if (y42 != y30.1) then
    some false
  else
  some true

/-! loop.example/g00300/spec.l9Counter -/
def spec_l9Counter (n_0 : Int) : Option Bool :=
  (spec_l1In n_0 0 1152921504606846976).bind fun y1 =>
  some y1

/-! loop.example/g00300/spec.GoodWeights -/
def spec_GoodWeights_K1 (l_0 : (List Int)) (sum_3 : Int) : Option Bool :=
  (spec_l1In (l_0.length : Int) 1 12).bind fun y1 =>
  if y1 then
    some (decide (0 < sum_3))
  else
  some false
def spec_GoodWeights_L1 (l_0 : (List Int)) : List Int → Nat → Int → Option Bool
  | [], i8, sum_3 =>
    spec_GoodWeights_K1 l_0 sum_3
  | e8 :: post8, i8, sum_3 =>
    (spec_l1In e8 0 50).bind fun y3 =>
    if (!y3) then
      some false
    else
    (spec_GoodWeights_L1 l_0 post8) (i8 + 1) (IntKind.i64.wrap (sum_3 + e8))
def spec_GoodWeights (l_0 : (List Int)) : Option Bool :=
  spec_GoodWeights_L1 l_0 l_0 0 0

/-! loop.example/g00300/spec.AliasOf -/
def spec_AliasOf_K2 (y3 : Int) (left_22 : List Int) (done_24 : List Bool) (out_26 : List TColumn) (rc1 : (List Int) → (List Bool) → (List TColumn) → Option ((List TColumn) × Bool)) (small_11 : Int) (great_12 : Int) : Option ((List TColumn) × Bool) :=
  if (decide (small_11 < 0)) then
    some (out_26, true)
  else
  if (decide (great_12 < 0)) then
    some (out_26, true)
  else
  (at? left_22 small_11).bind fun e9 =>
  (at? out_26 small_11).bind fun e10 =>
  (put? out_26 small_11 (⟨e9, great_12⟩ : TColumn)).bind fun x11 =>
  (at? left_22 great_12).bind fun e12 =>
  (at? left_22 small_11).bind fun e13 =>
  (at? left_22 great_12).bind fun e14 =>
  (put? left_22 great_12 (IntKind.i64.wrap (e12 - (IntKind.i64.wrap (y3 - e13))))).bind fun x15 =>
  (at? done_24 small_11).bind fun e16 =>
  (put? done_24 small_11 true).bind fun x17 =>
  rc1 x15 x17 x11
def spec_AliasOf_K3 (y3 : Int) (left_22 : List Int) (small_11 : Int) (great_12 : Int) (v_49 : Int) (rc2 : Int → Int → Int → Option ((List TColumn) × Bool)) (small_11' : Int) : Option ((List TColumn) × Bool) :=
  (at? left_22 v_49).bind fun e21 =>
  if (decide (y3 < e21)) then
    if (decide (great_12 < 0)) then
      rc2 small_11' v_49 (IntKind.i64.wrap (v_49 + 1))
    else
    rc2 small_11' great_12 (IntKind.i64.wrap (v_49 + 1))
  else
  rc2 small_11' great_12 (IntKind.i64.wrap (v_49 + 1))
def spec_AliasOf_L2 (y3 : Int) (left_22 : List Int) (done_24 : List Bool) (out_26 : List TColumn) (rc1 : (List Int) → (List Bool) → (List TColumn) → Option ((List TColumn) × Bool)) : Nat → Int → Int → Int → Option ((List TColumn) × Bool)
  | 0, _, _, _ =>
    none
  | fu2 + 1, small_11, great_12, v_49 =>
    if (decide (v_49 < (left_22.length : Int))) then
      (at? done_24 v_49).bind fun e19 =>
      if e19 then
        (spec_AliasOf_L2 y3 left_22 done_24 out_26 rc1 fu2) small_11 great_12 (IntKind.i64.wrap (v_49 + 1))
      else
      (at? left_22 v_49).bind fun e24 =>
      if (decide (e24 < y3)) then
        if (decide (small_11 < 0)) then
          spec_AliasOf_K3 y3 left_22 small_11 great_12 v_49 (spec_AliasOf_L2 y3 left_22 done_24 out_26 rc1 fu2) v_49
        else
        spec_AliasOf_K3 y3 left_22 small_11 great_12 v_49 (spec_AliasOf_L2 y3 left_22 done_24 out_26 rc1 fu2) small_11
      else
      spec_AliasOf_K3 y3 left_22 small_11 great_12 v_49 (spec_AliasOf_L2 y3 left_22 done_24 out_26 rc1 fu2) small_11
    else
    spec_AliasOf_K2 y3 left_22 done_24 out_26 rc1 small_11 great_12
def spec_AliasOf_L1 (y3 : Int) : Nat → List Int → List Bool → List TColumn → Option ((List TColumn) × Bool)
  | 0, _, _, _ =>
    none
  | fu1 + 1, left_22, done_24, out_26 =>
    spec_AliasOf_L2 y3 left_22 done_24 out_26 (spec_AliasOf_L1 y3 fu1) FU (-1) (-1) 0
def spec_AliasOf_K1 (y3 : Int) (x5 : List Bool) (left_6 : List Int) (out_8 : List TColumn) : Option ((List TColumn) × Bool) :=
  spec_AliasOf_L1 y3 FU left_6 x5 out_8
def spec_AliasOf_L3 (l_0 : (List Int)) (y3 : Int) (x5 : List Bool) : List Int → Nat → List Int → List TColumn → Option ((List TColumn) × Bool)
  | [], i29, left_22, out_26 =>
    spec_AliasOf_K1 y3 x5 left_22 out_26
  | e29 :: post29, i29, left_22, out_26 =>
    (at? left_22 (i29 : Int)).bind fun e27 =>
    (put? left_22 (i29 : Int) (IntKind.i64.wrap (e29 * (l_0.length : Int)))).bind fun x28 =>
    (at? out_26 (i29 : Int)).bind fun e29 =>
    (put? out_26 (i29 : Int) (⟨y3, (i29 : Int)⟩ : TColumn)).bind fun x30 =>
    (spec_AliasOf_L3 l_0 y3 x5 post29) (i29 + 1) x28 x30
def spec_AliasOf (l_0 : (List Int)) : Option ((List TColumn) × Bool) :=
  (spec_GoodWeights l_0).bind fun y1 =>
  if (!y1) then
    some ([], false)
  else
  (spec_l12Total l_0).bind fun y3 =>
  (make? 8 (l_0.length : Int) (0 : Int)).bind fun x4 =>
  (make? 1 (l_0.length : Int) (false : Bool)).bind fun x5 =>
  (make? 16 (l_0.length : Int) ((⟨0, 0⟩ : TColumn) : TColumn)).bind fun x6 =>
  spec_AliasOf_L3 l_0 y3 x5 l_0 0 x4 x6

/-! loop.example/g00300/spec.GoodAlias -/
def spec_GoodAlias_K1 (l_0 : (List TColumn)) : Option Bool :=
  (spec_l1In (l_0.length : Int) 1 12).bind fun y1 =>
  some y1
def spec_GoodAlias_L1 (l_0 : (List TColumn)) : List TColumn → Nat → Option Bool
  | [], i7 =>
    spec_GoodAlias_K1 l_0
  | e7 :: post7, i7 =>
    if (decide (e7.fKeep < 0)) then
      some false
    else
    (spec_l1In e7.fOther 0 (IntKind.i64.wrap ((l_0.length : Int) - 1))).bind fun y3 =>
    if (!y3) then
      some false
    else
    (spec_GoodAlias_L1 l_0 post7) (i7 + 1)
def spec_GoodAlias (l_0 : (List TColumn)) : Option Bool :=
  spec_GoodAlias_L1 l_0 l_0 0

/-! loop.example/g00300/spec.l12Fits -/
def spec_l12Fits_K1 (l_0 : (List TColumn)) (total_1 : Int) : Option Bool :=
  (spec_GoodAlias l_0).bind fun y1 =>
  if y1 then
    (spec_l1In total_1 1 600).bind fun y3 =>
    some y3
  else
  some false
def spec_l12Fits_L1 (l_0 : (List TColumn)) (total_1 : Int) : List TColumn → Nat → Option Bool
  | [], i9 =>
    spec_l12Fits_K1 l_0 total_1
  | e9 :: post9, i9 =>
    if (decide (total_1 < e9.fKeep)) then
      some false
    else
    (spec_l12Fits_L1 l_0 total_1 post9) (i9 + 1)
def spec_l12Fits (l_0 : (List TColumn)) (total_1 : Int) : Option Bool :=
  spec_l12Fits_L1 l_0 total_1 l_0 0

/-! loop.example/g00300/spec.PickBy -/
def spec_PickBy (l_0 : (List TColumn)) (total_1 : Int) (draw_2 : Int) : Option (Int × Bool) :=
  (spec_l12Fits l_0 total_1).bind fun y1 =>
  if (!y1) then
    some (0, false)
  else
  (spec_l1In draw_2 0 (IntKind.i64.wrap ((IntKind.i64.wrap ((l_0.length : Int) * total_1)) - 1))).bind fun y3 =>
  if (!y3) then
    some (0, false)
  else
  (nz? total_1).bind fun u5 =>
  (nz? total_1).bind fun u6 =>
  (at? l_0 (IntKind.i64.wrap (draw_2.tdiv total_1))).bind fun e7 =>
  if (decide ((draw_2.tmod total_1) < e7.fKeep)) then
    some ((IntKind.i64.wrap (draw_2.tdiv total_1)), true)
  else
  (at? l_0 (IntKind.i64.wrap (draw_2.tdiv total_1))).bind fun e9 =>
  some (e9.fOther, true)

/-! loop.example/g00300/spec.ChooseTarget -/
def spec_ChooseTarget_K1 (draw_2 : Int) (y7 : (List Int)) (weights_9 : List Int) : Option (Int × Bool) :=
  (spec_AliasOf weights_9).bind fun y8 =>
  (spec_l12Total weights_9).bind fun y9 =>
  (nz? (IntKind.i64.wrap ((y7.length : Int) * y9))).bind fun u10 =>
  (spec_PickBy y8.1 y9 (draw_2.tmod (IntKind.i64.wrap ((y7.length : Int) * y9)))).bind fun y11 =>
  if (!y11.2) then
    some (0, false)
  else
  (at? y7 y11.1).bind fun e13 =>
  some (e13, true)
def spec_ChooseTarget_L1 (p_0 : TPolicy) (draw_2 : Int) (y7 : (List Int)) : List Int → Nat → List Int → Option (Int × Bool)
  | [], i35, weights_9 =>
    spec_ChooseTarget_K1 draw_2 y7 weights_9
  | e35 :: post35, i35, weights_9 =>
    (at? p_0.fTargets e35).bind fun e14 =>
    (app? 8 weights_9 [e14.fWeight]).bind fun x15 =>
    (spec_ChooseTarget_L1 p_0 draw_2 y7 post35) (i35 + 1) x15
def spec_ChooseTarget (p_0 : TPolicy) (h_1 : THealth) (draw_2 : Int) : Option (Int × Bool) :=
  (spec_GoodPolicy p_0).bind fun y1 =>
  if (!y1) then
    some (0, false)
  else
  (spec_GoodHealth h_1).bind fun y3 =>
  if (!y3) then
    some (0, false)
  else
  (spec_l9Counter draw_2).bind fun y5 =>
  if (!y5) then
    some (0, false)
  else
  (spec_l14Candidates p_0 h_1).bind fun y7 =>
  spec_ChooseTarget_L1 p_0 draw_2 y7 y7 0 ([] : List Int)

/-! loop.example/g00300/impl.isCounter -/
def impl_isCounter (n_0 : Int) : Option Bool :=
  (impl_within n_0 0 1152921504606846976).bind fun y1 =>
  some y1

/-! loop.example/g00300/impl.aliasOf$1 -/
def impl_aliasOf_1 (n_0 : Int) (c_0 : Int) : Option Bool :=
  some (decide (c_0 < n_0))

/-! slices.IndexFunc[[]int,int] -/
def slices_IndexFunc_int_int_L1 (s_0 : (List Int)) (f_1 : Int → Option Bool) : Nat → Int → Option Int
  | 0, _ =>
    none
  | fu1 + 1, v_8 =>
    if (decide (v_8 < (s_0.length : Int))) then
      (at? s_0 v_8).bind fun e2 =>
      (f_1 e2).bind fun y3 =>
      if y3 then
        some v_8
      else
      (slices_IndexFunc_int_int_L1 s_0 f_1 fu1) (IntKind.i64.wrap (v_8 + 1))
    else
    some (-1)
def slices_IndexFunc_int_int (s_0 : (List Int)) (f_1 : Int → Option Bool) : Option Int :=
  slices_IndexFunc_int_int_L1 s_0 f_1 FU 0

/-! loop.example/g00300/impl.aliasOf -/
def impl_aliasOf_K2 (y1 : Int) (left_15 : List Int) (out_16 : List TColumn) (done_40 : List Bool) (rc1 : (List Int) → (List TColumn) → (List Bool) → Option (List TColumn)) (low_9 : Int) : Option (List TColumn) :=
  if (decide (low_9 < 0)) then
    some out_16
  else
  (slices_IndexFunc_int_int left_15 (fun q0 => impl_aliasOf_1 q0 y1)).bind fun y4 =>
  (at? left_15 low_9).bind fun e5 =>
  (at? out_16 low_9).bind fun e6 =>
  (put? out_16 low_9 (⟨e5, y4⟩ : TColumn)).bind fun x7 =>
  (at? left_15 y4).bind fun e8 =>
  (at? left_15 low_9).bind fun e9 =>
  (at? left_15 y4).bind fun e10 =>
  (put? left_15 y4 (IntKind.i64.wrap (e8 - (IntKind.i64.wrap (y1 - e9))))).bind fun x11 =>
  (at? done_40 low_9).bind fun e12 =>
  (put? done_40 low_9 true).bind fun x13 =>
  rc1 x11 x7 x13
def impl_aliasOf_L2 (y1 : Int) (left_15 : List Int) (out_16 : List TColumn) (done_40 : List Bool) (rc1 : (List Int) → (List TColumn) → (List Bool) → Option (List TColumn)) : Nat → Int → Option (List TColumn)
  | 0, _ =>
    none
  | fu2 + 1, v_43 =>
    if (decide (v_43 < (left_15.length : Int))) then
      (at? left_15 v_43).bind fun e15 =>
      (at? done_40 v_43).bind fun e16 =>
      if (!e16) then
        if (decide (e15 < y1)) then
          impl_aliasOf_K2 y1 left_15 out_16 done_40 rc1 v_43
        else
        (impl_aliasOf_L2 y1 left_15 out_16 done_40 rc1 fu2) (IntKind.i64.wrap (v_43 + 1))
      else
      (impl_aliasOf_L2 y1 left_15 out_16 done_40 rc1 fu2) (IntKind.i64.wrap (v_43 + 1))
    else
    impl_aliasOf_K2 y1 left_15 out_16 done_40 rc1 (-1)
def impl_aliasOf_L1 (y1 : Int) : Nat → List Int → List TColumn → List Bool → Option (List TColumn)
  | 0, _, _, _ =>
    none
  | fu1 + 1, left_15, out_16, done_40 =>
    impl_aliasOf_L2 y1 left_15 out_16 done_40 (impl_aliasOf_L1 y1 fu1) FU 0
def impl_aliasOf_K1 (l_0 : (List Int)) (y1 : Int) (left_4 : List Int) (out_5 : List TColumn) : Option (List TColumn) :=
  (make? 1 (l_0.length : Int) (false : Bool)).bind fun x2 =>
  impl_aliasOf_L1 y1 FU left_4 out_5 x2
def impl_aliasOf_L3 (l_0 : (List Int)) (y1 : Int) : List Int → Nat → List Int → List TColumn → Option (List TColumn)
  | [], i19, left_15, out_16 =>
    impl_aliasOf_K1 l_0 y1 left_15 out_16
  | e19 :: post19, i19, left_15, out_16 =>
    (app? 8 left_15 [(IntKind.i64.wrap (e19 * (l_0.length : Int)))]).bind fun x19 =>
    (app? 16 out_16 [(⟨y1, (i19 : Int)⟩ : TColumn)]).bind fun x20 =>
    (impl_aliasOf_L3 l_0 y1 post19) (i19 + 1) x19 x20
def impl_aliasOf (l_0 : (List Int)) : Option (List TColumn) :=
  (impl_totalOf l_0).bind fun y1 =>
  impl_aliasOf_L3 l_0 y1 l_0 0 ([] : List Int) ([] : List TColumn)

/-! loop.example/g00300/impl.pickBy -/
def impl_pickBy (l_0 : (List TColumn)) (total_1 : Int) (draw_2 : Int) : Option Int :=
  (nz? total_1).bind fun u1 =>
  (nz? total_1).bind fun u2 =>
  (at? l_0 (IntKind.i64.wrap (draw_2.tdiv total_1))).bind fun e3 =>
  if (decide ((draw_2.tmod total_1) < e3.fKeep)) then
    some (IntKind.i64.wrap (draw_2.tdiv total_1))
  else
  (at? l_0 (IntKind.i64.wrap (draw_2.tdiv total_1))).bind fun e5 =>
  some e5.fOther

/-! loop.example/g00300/impl.ChooseTarget -/
def impl_ChooseTarget_K1 (draw_2 : Int) (y7 : (List Int)) (weights_9 : List Int) : Option (Int × Bool) :=
  (impl_totalOf weights_9).bind fun y8 =>
  (impl_aliasOf weights_9).bind fun y9 =>
  (nz? (IntKind.i64.wrap ((y7.length : Int) * y8))).bind fun u10 =>
  (impl_pickBy y9 y8 (draw_2.tmod (IntKind.i64.wrap ((y7.length : Int) * y8)))).bind fun y11 =>
  (at? y7 y11).bind fun e12 =>
  some (e12, true)
def impl_ChooseTarget_L1 (p_0 : TPolicy) (draw_2 : Int) (y7 : (List Int)) : List Int → Nat → List Int → Option (Int × Bool)
  | [], i32, weights_29 =>
    impl_ChooseTarget_K1 draw_2 y7 weights_29
  | e32 :: post32, i32, weights_29 =>
    (at? p_0.fTargets e32).bind fun e13 =>
    (app? 8 weights_29 [e13.fWeight]).bind fun x14 =>
    (impl_ChooseTarget_L1 p_0 draw_2 y7 post32) (i32 + 1) x14
def impl_ChooseTarget (p_0 : TPolicy) (h_1 : THealth) (draw_2 : Int) : Option (Int × Bool) :=
  (impl_GoodPolicy p_0).bind fun y1 =>
  if (!y1) then
    some (0, false)
  else
  (impl_GoodHealth h_1).bind fun y3 =>
  if (!y3) then
    some (0, false)
  else
  (impl_isCounter draw_2).bind fun y5 =>
  if (!y5) then
    some (0, false)
  else
  (impl_candidatesOf p_0 h_1).bind fun y7 =>
  impl_ChooseTarget_L1 p_0 draw_2 y7 y7 0 ([] : List Int)

/-! loop.example/g00300/laws.FnExactChooseTarget -/
def laws_FnExactChooseTarget (aP_0 : TPolicy) (aH_1 : THealth) (aDraw_2 : Int) : Option Bool :=
  (laws_szPolicy aP_0 1048576).bind fun y1 =>
  if (decide (y1 < 0)) then
    some true
  else
  (laws_szHealth aH_1 y1).bind fun y3 =>
  if (decide (y3 < 0)) then
    some true
  else
  (laws_toPolicy aP_0).bind fun y5 =>
  (laws_toHealth aH_1).bind fun y6 =>
  (spec_ChooseTarget y5 y6 aDraw_2).bind fun y7 =>
  (laws_toPolicy aP_0).bind fun y8 =>
  (laws_toHealth aH_1).bind fun y9 =>
  (impl_ChooseTarget y8 y9 aDraw_2).bind fun y10 =>
  if (y10.1 != y7.1) then
    some false
  else
  if (!(y10.2 == y7.2)) then
    some false
  else
  (laws_toPolicy aP_0).bind fun y13 =>
  (laws_eqPolicy y8 y13).bind fun y14 =>
  if (!y14) then
    some false
  else
  (laws_toHealth aH_1).bind fun y16 =>
  (laws_eqHealth y9 y16).bind fun y17 =>
  if (!y17) then
    some false
  else
  some true

/-! loop.example/g00300/spec.AnswerOf -/
def spec_AnswerOf (p_0 : TPolicy) (h_1 : THealth) (draw_2 : Int) : Option (TRecord × Bool) :=
  (spec_ChooseTarget p_0 h_1 draw_2).bind fun y1 =>
  if (!y1.2) then
    some ((⟨[], 0, 0, []⟩ : TRecord), false)
  else
  (at? p_0.fTargets y1.1).bind fun e3 =>
  some ((⟨p_0.fName, 1, 5, e3.fData⟩ : TRecord), true)

/-! loop.example/g00300/impl.AnswerOf -/
def impl_AnswerOf (p_0 : TPolicy) (h_1 : THealth) (draw_2 : Int) : Option (TRecord × Bool) :=
  (impl_ChooseTarget p_0 h_1 draw_2).bind fun y1 =>
  if (!y1.2) then
    some ((⟨[], 0, 0, []⟩ : TRecord), false)
  else
  (at? p_0.fTargets y1.1).bind fun e3 =>
  some ((⟨p_0.fName, 1, 5, e3.fData⟩ : TRecord), true)

/-! loop.example/g00300/laws.eqRecord -/
def laws_eqRecord (a_0 : TRecord) (b_1 : TRecord) : Option Bool :=
  if (!(a_0.fName == b_1.fName)) then
    some false
  else
  if (a_0.fType != b_1.fType) then
    some false
  else
  if (a_0.fTtl != b_1.fTtl) then
    some false
  else
  if (!(a_0.fData == b_1.fData)) then
    some false
  else
  some true

/-! loop.example/g00300/laws.FnExactAnswerOf -/
def laws_FnExactAnswerOf (aP_0 : TPolicy) (aH_1 : THealth) (aDraw_2 : Int) : Option Bool :=
  (laws_szPolicy aP_0 1048576).bind fun y1 =>
  if (decide (y1 < 0)) then
    some true
  else
  (laws_szHealth aH_1 y1).bind fun y3 =>
  if (decide (y3 < 0)) then
    some true
  else
  (laws_toPolicy aP_0).bind fun y5 =>
  (laws_toHealth aH_1).bind fun y6 =>
  (spec_AnswerOf y5 y6 aDraw_2).bind fun y7 =>
  (laws_toPolicy aP_0).bind fun y8 =>
  (laws_toHealth aH_1).bind fun y9 =>
  (impl_AnswerOf y8 y9 aDraw_2).bind fun y10 =>
  (laws_eqRecord y10.1 y7.1).bind fun y11 =>
  if (!y11) then
    some false
  else
  if (!(y10.2 == y7.2)) then
    some false
  else
  (laws_toPolicy aP_0).bind fun y14 =>
  (laws_eqPolicy y8 y14).bind fun y15 =>
  if (!y15) then
    some false
  else
  (laws_toHealth aH_1).bind fun y17 =>
  (laws_eqHealth y9 y17).bind fun y18 =>
  if (!y18) then
    some false
  else
  some true
end Go.Proofs.YthcmcjkljjfccaaGreatDoor.Abs
