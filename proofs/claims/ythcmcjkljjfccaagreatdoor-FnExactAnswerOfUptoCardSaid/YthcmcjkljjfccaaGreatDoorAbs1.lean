/-
  A law of calls, told over values without addresses: part 1. It holds of every program; it asks nothing of this one.
-/
import Derived.Below
import Derived.Laws.AppendOwn
import Derived.Maps.AppendAt
import Derived.Deep.LoopGhost
import Derived.Laws.CopyRow
import Derived.Laws.Cells
import Derived.Laws.Tables
import Derived.Laws.StructEq
import Derived.Laws.IdiomStrings
import Derived.Tactics
import Derived.Laws.Slices
import Derived.Laws.Strings
import Derived.Calls
import Derived.Laws.OwnMore
import Derived.Great.BuildSlice
import Derived.Lib.ConvBytes
import Derived.Orders
set_option linter.unusedVariables false
set_option linter.unusedSimpArgs false
set_option linter.unusedVariables false
namespace Go.Proofs.YthcmcjkljjfccaaGreatDoor.Abs
open Go Go.RowKit

/-! ## Values as the program's text sees them -/

abbrev Nm := Nat × Nat × Nat

inductive PV where
  | bool (b : Bool)
  | int (k : IntKind) (n : Int)
  | str (s : List UInt8)
  | nils
  | sl (n : Nat) (cells : List PV)
  | ref (i : Nm) (n : Nat)
  | ptr (cells : List PV)
  | loc (i : Nm) (len off : Nat)
  | agg (cells : List PV)
  | tup (vs : List PV)
  | fn (g : Nat) (caps : List PV)
  | nerr
  | err
  | undef
  | junk
  deriving Inhabited

/-- A resource: a variable (row = none, n = 0), or a row of n elements of a type, so many cells each. -/
structure Buf where
  row : Option (TypeId × Nat)
  n : Nat
  cells : List PV
  deriving Inhabited

structure St where
  fr : Nat → PV
  H : Nm → Option Buf
  t : Nat

/-- What lies in a resource of the activation: a variable's block, or a row's handle. -/
inductive KR where
  | box (k : Nat)
  | row (n : Nat) (v : Value)
  | gone (n : Nat)

def KR.block : KR → Option Nat
  | .box k => some k
  | .row _ v => v.ownBlock
  | .gone _ => none

structure Gh where
  S : Nat → Prop
  K : Nm → Option KR

mutual
/-- A settled value: what it leads to lies in blocks that nobody writes any more. -/
def IR (S : Nat → Prop) (w : World) : PV → Value → Prop
  | .bool b, v => v = .bool b
  | .int k n, v => v = .int k n
  | .str s, v => v = .string ⟨s.toArray⟩
  | .nils, v => v = .slice none 0 0
  | .sl n cs, v => ∃ A c, v = .slice A n c ∧ n ≤ c ∧ c ≤ maxLen ∧ (cs = [] ∨ ∃ ad, A = some ad ∧ CR S w cs ad)
  | .ptr cs, v => ∃ ad, v = .pointer (some ad) ∧ CR S w cs ad
  | .agg cs, v => ∃ l : List Value, v = .agg l.toArray ∧ ILR S w cs l
  | .tup vs, v => ∃ l : List Value, v = .tuple l.toArray ∧ ILR S w vs l
  | .fn g caps, v => ∃ l : List Value, v = .func (.func g) #[] l.toArray ∧ ILR S w caps l
  | .nerr, v => v = .nilIface
  | .err, v => ∃ t x, v = .iface t x
  | .undef, v => v = Go.undef
  | .ref _ _, _ => False
  | .loc _ _ _, _ => False
  | .junk, _ => False
def CR (S : Nat → Prop) (w : World) : List PV → Addr → Prop
  | [], _ => True
  | u :: us, ad => (S ad.block ∧ ∃ cv, w.cell? ad = some cv ∧ cv.oneCell' = true ∧ IR S w u cv) ∧ CR S w us (ad.add 1)
def ILR (S : Nat → Prop) (w : World) : List PV → List Value → Prop
  | [], l => l = []
  | u :: us, l => ∃ c r, l = c :: r ∧ IR S w u c ∧ ILR S w us r
end

def KR.len : KR → Nat
  | .box _ => 0
  | .row n _ => n
  | .gone n => n + 1

mutual
/-- A value of the activation: settled, or a handle to what it has itself. -/
def VR (Γ : Gh) (w : World) : PV → Value → Prop
  | .ref i n, v => ∃ r, Γ.K i = some r ∧ n ≤ r.len ∧ v.oneCell' = true ∧ (r.len = n → ∃ x, r = .row n x ∧ v = x)
  | .loc i len off, v => ∃ r, Γ.K i = some r ∧ len ≤ r.len ∧ (r.len = len → ∃ k, r.block = some k ∧ v = .pointer (some ⟨k, off, none⟩))
  | .agg cs, v => ∃ l : List Value, v = .agg l.toArray ∧ LR Γ w cs l
  | .tup vs, v => ∃ l : List Value, v = .tuple l.toArray ∧ LR Γ w vs l
  | .fn g caps, v => ∃ l : List Value, v = .func (.func g) #[] l.toArray ∧ LR Γ w caps l
  | .junk, _ => True
  | x, v => IR Γ.S w x v
def LR (Γ : Gh) (w : World) : List PV → List Value → Prop
  | [], l => l = []
  | u :: us, l => ∃ c r, l = c :: r ∧ VR Γ w u c ∧ LR Γ w us r
end


/-- All blocks that lay there stand, but for some. -/
structure Keep (M : Nat → Prop) (w w' : World) : Prop where
  os : w'.os = w.os
  tape : w'.tape = w.tape
  output : w'.output = w.output
  size : w.heap.size ≤ w'.heap.size
  block : ∀ k, k < w.heap.size → ¬ M k → w'.heap[k]? = w.heap[k]?

/-- What lies in a resource. -/
def RR (Γ : Gh) (w : World) (b : Buf) : KR → Prop
  | .box k => b.row = none ∧ b.n = 0 ∧ ∃ (l : List Value) (t : TypeId) (cur : Array Value), w.heap[k]? = some (.cells cur t (0, 0)) ∧ cur.toList.take l.length = l ∧ l.length ≤ cur.size ∧ LR Γ w b.cells l ∧ ∀ u ∈ l, u.oneCell' = true
  | .row n v => b.n = n ∧ ∃ e sz l, b.row = some (e, sz) ∧ 0 < sz ∧ w.ownsRow 0 e sz v n l ∧ LR Γ w b.cells l ∧ ∀ u ∈ l, u.oneCell' = true
  | .gone n => b = ⟨none, n + 1, []⟩

/-- Where the activation began: its slots, the blocks it may turn, the world then, what was settled then, what it was handed. -/
structure Base where
  N : Nat
  M : Nat → Prop
  w0 : World
  S0 : Nat → Prop
  K0 : Nm → Option KR

/-- The state that the text sees, and the machine's. -/
structure SR (B : Base) (Γ : Gh) (st : St) (a : Act) (w : World) : Prop where
  keep : Keep B.M B.w0 w
  defers : a.defers = []
  size : a.tmps.size = B.N
  s0 : ∀ k, B.S0 k → Γ.S k
  sin : ∀ k, Γ.S k → B.S0 k ∨ B.w0.heap.size ≤ k
  slots : ∀ s, VR Γ w (st.fr s) (a.tmps.getD s Go.undef)
  sok : ∀ k, Γ.S k → k < w.heap.size
  dom : ∀ i, Γ.K i = none ↔ st.H i = none
  res : ∀ i b r, st.H i = some b → Γ.K i = some r → RR Γ w b r
  own : ∀ i r k, Γ.K i = some r → r.block = some k → ¬ Γ.S k ∧ k < w.heap.size ∧ (B.w0.heap.size ≤ k ∨ B.M k)
  apart : ∀ i j r q k, Γ.K i = some r → Γ.K j = some q → r.block = some k → q.block = some k → i = j
  fresh : ∀ i, st.t ≤ i.1 → st.H i = none
  evo : ∀ i r, B.K0 i = some r → ∃ r', Γ.K i = some r' ∧ (r' = r ∨ r.len < r'.len)

end Go.Proofs.YthcmcjkljjfccaaGreatDoor.Abs
set_option linter.unusedVariables false
namespace Go.Proofs.YthcmcjkljjfccaaGreatDoor.Abs
open Go Go.RowKit

section
variable {S S' : Nat → Prop} {w w' : World}

mutual
theorem IR_mono (hS : ∀ k, S k → S' k) (hw : ∀ k, S k → w'.heap[k]? = w.heap[k]?) : ∀ (x : PV) (v : Value), IR S w x v → IR S' w' x v
  | .bool b, v, h => h
  | .int k n, v, h => h
  | .str s, v, h => h
  | .nils, v, h => h
  | .sl n cs, v, h => by
    simp only [IR] at h ⊢
    obtain ⟨A, c, rfl, hn, hm, hc⟩ := h
    refine ⟨A, c, rfl, hn, hm, hc.imp id ?_⟩
    rintro ⟨ad, rfl, h⟩
    exact ⟨ad, rfl, CR_mono hS hw cs ad h⟩
  | .ptr cs, v, h => by
    simp only [IR] at h ⊢
    obtain ⟨ad, rfl, h⟩ := h
    exact ⟨ad, rfl, CR_mono hS hw cs ad h⟩
  | .agg cs, v, h => by
    simp only [IR] at h ⊢
    obtain ⟨l, rfl, h⟩ := h
    exact ⟨l, rfl, ILR_mono hS hw cs l h⟩
  | .tup cs, v, h => by
    simp only [IR] at h ⊢
    obtain ⟨l, rfl, h⟩ := h
    exact ⟨l, rfl, ILR_mono hS hw cs l h⟩
  | .fn g cs, v, h => by
    simp only [IR] at h ⊢
    obtain ⟨l, rfl, h⟩ := h
    exact ⟨l, rfl, ILR_mono hS hw cs l h⟩
  | .nerr, v, h => h
  | .err, v, h => h
  | .undef, v, h => h
  | .ref _ _, v, h => h.elim
  | .loc _ _ _, v, h => h.elim
  | .junk, v, h => h.elim
theorem CR_mono (hS : ∀ k, S k → S' k) (hw : ∀ k, S k → w'.heap[k]? = w.heap[k]?) : ∀ (cs : List PV) (ad : Addr), CR S w cs ad → CR S' w' cs ad
  | [], _, _ => trivial
  | u :: us, ad, h => by
    simp only [CR] at h ⊢
    obtain ⟨⟨h1, cv, hc, ho, h2⟩, h3⟩ := h
    refine ⟨⟨hS _ h1, cv, ?_, ho, IR_mono hS hw u cv h2⟩, CR_mono hS hw us _ h3⟩
    rw [World.cell?_of_block (hw _ h1), hc]
theorem ILR_mono (hS : ∀ k, S k → S' k) (hw : ∀ k, S k → w'.heap[k]? = w.heap[k]?) : ∀ (cs : List PV) (l : List Value), ILR S w cs l → ILR S' w' cs l
  | [], _, h => h
  | u :: us, l, h => by
    simp only [ILR] at h ⊢
    obtain ⟨c, r, rfl, h1, h2⟩ := h
    exact ⟨c, r, rfl, IR_mono hS hw u c h1, ILR_mono hS hw us r h2⟩
end

variable {Γ Γ' : Gh}
mutual
theorem VR_mono (hS : ∀ k, Γ.S k → Γ'.S k) (hw : ∀ k, Γ.S k → w'.heap[k]? = w.heap[k]?) (hK : ∀ i r, Γ.K i = some r → ∃ r', Γ'.K i = some r' ∧ (r' = r ∨ r.len < r'.len)) :
    ∀ (x : PV) (v : Value), VR Γ w x v → VR Γ' w' x v
  | .bool b, v, h => h
  | .int k n, v, h => h
  | .str s, v, h => h
  | .nils, v, h => h
  | .sl n cs, v, h => by
    simp only [VR] at h ⊢
    exact IR_mono hS hw _ _ h
  | .ptr cs, v, h => by
    simp only [VR] at h ⊢
    exact IR_mono hS hw _ _ h
  | .agg cs, v, h => by
    simp only [VR] at h ⊢
    obtain ⟨l, rfl, h⟩ := h
    exact ⟨l, rfl, LR_mono hS hw hK cs l h⟩
  | .tup cs, v, h => by
    simp only [VR] at h ⊢
    obtain ⟨l, rfl, h⟩ := h
    exact ⟨l, rfl, LR_mono hS hw hK cs l h⟩
  | .fn g cs, v, h => by
    simp only [VR] at h ⊢
    obtain ⟨l, rfl, h⟩ := h
    exact ⟨l, rfl, LR_mono hS hw hK cs l h⟩
  | .nerr, v, h => h
  | .err, v, h => h
  | .undef, v, h => h
  | .ref i n, v, h => by
    simp only [VR] at h ⊢
    obtain ⟨r, hr, hn, ho, h⟩ := h
    obtain ⟨r', hr', rfl | hlt⟩ := hK i r hr
    · exact ⟨_, hr', hn, ho, h⟩
    · exact ⟨r', hr', by omega, ho, fun he => by omega⟩
  | .loc i len off, v, h => by
    simp only [VR] at h ⊢
    obtain ⟨r, hr, hn, h⟩ := h
    obtain ⟨r', hr', rfl | hlt⟩ := hK i r hr
    · exact ⟨_, hr', hn, h⟩
    · exact ⟨r', hr', by omega, fun he => by omega⟩
  | .junk, v, h => trivial
theorem LR_mono (hS : ∀ k, Γ.S k → Γ'.S k) (hw : ∀ k, Γ.S k → w'.heap[k]? = w.heap[k]?) (hK : ∀ i r, Γ.K i = some r → ∃ r', Γ'.K i = some r' ∧ (r' = r ∨ r.len < r'.len)) : ∀ (cs : List PV) (l : List Value), LR Γ w cs l → LR Γ' w' cs l
  | [], _, h => h
  | u :: us, l, h => by
    simp only [LR] at h ⊢
    obtain ⟨c, r, rfl, h1, h2⟩ := h
    exact ⟨c, r, rfl, VR_mono hS hw hK u c h1, LR_mono hS hw hK us r h2⟩
end
end

theorem Keep.refl (M : Nat → Prop) (w : World) : Keep M w w := ⟨rfl, rfl, rfl, Nat.le_refl _, fun _ _ _ => rfl⟩
theorem Keep.step {M M' : Nat → Prop} {w0 w w' : World} (h : Keep M w0 w) (k : Keep M' w w') (hM : ∀ i, M' i → i < w0.heap.size → M i) : Keep M w0 w' :=
  ⟨k.os.trans h.os, k.tape.trans h.tape, k.output.trans h.output, Nat.le_trans h.size k.size,
   fun i hi hn => (k.block i (Nat.lt_of_lt_of_le hi h.size) (fun hm => hn (hM i hm hi))).trans (h.block i hi hn)⟩
theorem Keep.of_below {w w' : World} (h : Below w.heap.size w w') (M : Nat → Prop) : Keep M w w' := ⟨h.os, h.tape, h.output, h.size, fun k hk _ => h.block k hk⟩
theorem Keep.below {w w' : World} (h : Keep (fun _ => False) w w') : Below w.heap.size w w' := ⟨h.os, h.tape, h.output, h.size, fun k hk => h.block k hk id⟩
theorem Keep.drawn (M : Nat → Prop) (w : World) (n : Nat) : Keep M w { w with drawn := n } := ⟨rfl, rfl, rfl, Nat.le_refl _, fun _ _ _ => rfl⟩

theorem LR_length {Γ : Gh} {w : World} : ∀ {cs : List PV} {l : List Value}, LR Γ w cs l → l.length = cs.length
  | [], l, h => by simp only [LR] at h; simp [h]
  | u :: us, l, h => by
    simp only [LR] at h
    obtain ⟨c, r, rfl, _, h⟩ := h
    simp [LR_length h]
theorem ILR_length {S : Nat → Prop} {w : World} : ∀ {cs : List PV} {l : List Value}, ILR S w cs l → l.length = cs.length
  | [], l, h => by simp only [ILR] at h; simp [h]
  | u :: us, l, h => by
    simp only [ILR] at h
    obtain ⟨c, r, rfl, _, h⟩ := h
    simp [ILR_length h]
theorem LR_append {Γ : Gh} {w : World} : ∀ {cs ds : List PV} {l m : List Value}, LR Γ w cs l → LR Γ w ds m → LR Γ w (cs ++ ds) (l ++ m)
  | [], ds, l, m, h, k => by simp only [LR] at h; simpa [h] using k
  | u :: us, ds, l, m, h, k => by
    simp only [LR] at h
    obtain ⟨c, r, rfl, h1, h⟩ := h
    exact ⟨c, r ++ m, rfl, h1, LR_append h k⟩
theorem LR_take {Γ : Gh} {w : World} : ∀ (n : Nat) {cs : List PV} {l : List Value}, LR Γ w cs l → LR Γ w (cs.take n) (l.take n)
  | 0, cs, l, h => by simp [LR]
  | n + 1, [], l, h => by simp only [LR] at h; simp [h, LR]
  | n + 1, u :: us, l, h => by
    simp only [LR] at h
    obtain ⟨c, r, rfl, h1, h⟩ := h
    exact ⟨c, r.take n, rfl, h1, LR_take n h⟩
theorem LR_drop {Γ : Gh} {w : World} : ∀ (n : Nat) {cs : List PV} {l : List Value}, LR Γ w cs l → LR Γ w (cs.drop n) (l.drop n)
  | 0, cs, l, h => by simpa using h
  | n + 1, [], l, h => by simp only [LR] at h; simp [h, LR]
  | n + 1, u :: us, l, h => by
    simp only [LR] at h
    obtain ⟨c, r, rfl, h1, h⟩ := h
    simpa using LR_drop n h
theorem LR_get {Γ : Gh} {w : World} : ∀ {cs : List PV} {l : List Value} (_ : LR Γ w cs l) (j : Nat) (u : PV) (_ : cs[j]? = some u), ∃ c, l[j]? = some c ∧ VR Γ w u c
  | u :: us, l, h, 0, x, hx => by
    simp only [LR] at h
    obtain ⟨c, r, rfl, h1, h⟩ := h
    simp at hx
    exact ⟨c, rfl, hx ▸ h1⟩
  | u :: us, l, h, j + 1, x, hx => by
    simp only [LR] at h
    obtain ⟨c, r, rfl, h1, h⟩ := h
    exact LR_get h j x (by simpa using hx)
  | [], l, h, j, x, hx => by simp at hx
theorem LR_replicate {Γ : Gh} {w : World} {cs : List PV} {l : List Value} (h : LR Γ w cs l) : ∀ n, LR Γ w (List.replicate n cs).flatten (List.replicate n l).flatten
  | 0 => by simp [LR]
  | n + 1 => by simpa [List.replicate_succ] using LR_append h (LR_replicate h n)

mutual
/-- A settled value is a value. -/
theorem VR_of_IR {Γ : Gh} {w : World} : ∀ (x : PV) (v : Value), IR Γ.S w x v → VR Γ w x v
  | .bool b, v, h => h
  | .int k n, v, h => h
  | .str s, v, h => h
  | .nils, v, h => h
  | .sl n cs, v, h => by simp only [VR]; exact h
  | .ptr cs, v, h => by simp only [VR]; exact h
  | .agg cs, v, h => by simp only [IR] at h; obtain ⟨l, rfl, h⟩ := h; simp only [VR]; exact ⟨l, rfl, LR_of_ILR cs l h⟩
  | .tup cs, v, h => by simp only [IR] at h; obtain ⟨l, rfl, h⟩ := h; simp only [VR]; exact ⟨l, rfl, LR_of_ILR cs l h⟩
  | .fn g cs, v, h => by simp only [IR] at h; obtain ⟨l, rfl, h⟩ := h; simp only [VR]; exact ⟨l, rfl, LR_of_ILR cs l h⟩
  | .nerr, v, h => h
  | .err, v, h => h
  | .undef, v, h => h
  | .ref _ _, v, h => h.elim
  | .loc _ _ _, v, h => h.elim
  | .junk, v, h => h.elim
theorem LR_of_ILR {Γ : Gh} {w : World} : ∀ (cs : List PV) (l : List Value), ILR Γ.S w cs l → LR Γ w cs l
  | [], l, h => by simpa only [ILR, LR] using h
  | u :: us, l, h => by
    simp only [ILR] at h
    obtain ⟨c, r, rfl, ha, hb⟩ := h
    exact ⟨c, r, rfl, VR_of_IR u c ha, LR_of_ILR us r hb⟩
end
end Go.Proofs.YthcmcjkljjfccaaGreatDoor.Abs
set_option linter.unusedVariables false
namespace Go.Proofs.YthcmcjkljjfccaaGreatDoor.Abs
open Go Go.RowKit

/-! ## What an operation comes to -/

structure Eff where
  v : PV
  rd : List Nm
  wr : List (Nm × Buf)

def upd (H : Nm → Option Buf) (i : Nm) (b : Buf) : Nm → Option Buf := fun j => if j = i then some b else H j
def setSlot (fr : Nat → PV) (d : Option Nat) (v : PV) : Nat → PV := match d with
  | some d => fun s => if s = d then v else fr s
  | none => fr
def St.app (st : St) (d : Option Nat) (e : Eff) : St :=
  { fr := setSlot st.fr d e.v, H := e.wr.foldl (fun H x => upd H x.1 x.2) st.H, t := st.t }

def litCell : Value → PV
  | .bool b => .bool b
  | .int k n => .int k n
  | .string s => .str s.data.toList
  | .slice none 0 0 => .nils
  | .nilIface => .nerr
  | _ => .junk
def litPV : Value → PV
  | .agg cs => .agg (cs.toList.map litCell)
  | v => litCell v

def St.op (st : St) : Operand → PV
  | .tmp t => st.fr t
  | .const v => litPV v
  | .func f => .fn f []
  | .global _ => .junk

inductive TK where
  | bool | int (k : IntKind) | str | slice (e : TypeId) | strct (fs : List (Nat × Nat)) | iface | other

/-- What is told of a type: its kind, its cells, its bytes, its zero value. -/
structure TI where
  k : TK
  size : Nat
  bytes : Nat
  zero : List PV

def TI.of (P : Program) (t : TypeId) : Option TI :=
  match P.info? t, P.underlying t with
  | some i, some d =>
    match i.zero with
    | some z => some { size := i.size, bytes := i.bytes, zero := z.cells.toList.map litCell
                       k := match d with
                         | .bool => .bool
                         | .int k => .int k
                         | .string => .str
                         | .slice e => .slice e
                         | .struct fs => if fs.toList.all (fun f => (P.info? f.type).isSome) = true then .strct (fs.toList.map fun f => (f.offset, P.cellsOf f.type)) else .other
                         | .interface _ => .iface
                         | _ => .other }
    | none => none
  | _, _ => none

def PV.cells : PV → List PV
  | .agg cs => cs
  | x => [x]
def isConst : Operand → Bool
  | .const _ => true
  | _ => false
def isCell : PV → Bool
  | .agg _ | .tup _ | .undef | .junk | .loc _ _ _ | .ptr _ | .fn _ _ => false
  | _ => true

def mkV (i : TI) (cs : List PV) : Option PV :=
  match i.k with
  | .strct _ => some (.agg cs)
  | .other => none
  | _ => match cs with
    | [x] => some x
    | _ => none

def evLoad (i : TI) (H : Nm → Option Buf) : PV → Option Eff
  | .loc nm len off => match H nm with
    | some b => if b.n = len ∧ ((b.cells.drop off).take i.size).length = i.size then (mkV i ((b.cells.drop off).take i.size)).map fun v => ⟨v, [nm], []⟩ else none
    | none => none
  | .ptr cs => if (cs.take i.size).length = i.size then (mkV i (cs.take i.size)).map fun v => ⟨v, [], []⟩ else none
  | _ => none

def evStore (i : TI) (H : Nm → Option Buf) (x : PV) : PV → Option Eff
  | .loc nm len off => match H nm with
    | some b => if b.n = len ∧ off + i.size ≤ b.cells.length ∧ x.cells.length = i.size ∧ x.cells.all isCell = true then
        some ⟨.undef, [nm], [(nm, { b with cells := b.cells.take off ++ x.cells ++ b.cells.drop (off + i.size) })]⟩ else none
    | none => none
  | _ => none

def live (H : Nm → Option Buf) (nm : Nm) (len : Nat) : Bool := match H nm with
  | some b => b.n == len
  | none => false

def evField (i : TI) (f : Nat) (H : Nm → Option Buf) : PV → Option Eff
  | .loc nm len off => match i.k with
    | .strct fs => match fs[f]? with
      | some (o, s) => if 0 < s ∧ live H nm len = true then some ⟨.loc nm len (off + o), [nm], []⟩ else none
      | none => none
    | _ => none
  | .ptr cs => match i.k with
    | .strct fs => match fs[f]? with
      | some (o, s) => if 0 < s then some ⟨.ptr (cs.drop o), [], []⟩ else none
      | none => none
    | _ => none
  | _ => none

def evIndexAddr (sz : Nat) (H : Nm → Option Buf) : PV → PV → Option Eff
  | .sl n cs, .int _ i => if 0 ≤ i ∧ i < n ∧ cs ≠ [] then some ⟨.ptr (cs.drop (i.toNat * sz)), [], []⟩ else none
  | .ref nm n, .int _ i => if 0 ≤ i ∧ i < n ∧ live H nm n = true then some ⟨.loc nm n (i.toNat * sz), [nm], []⟩ else none
  | _, _ => none

def evIndex : PV → PV → Option PV
  | .str s, .int _ i => if 0 ≤ i then (s[i.toNat]?).map fun b => .int .u8 b.toNat else none
  | _, _ => none

def evCmp (op : BinOp) (lt eq : Bool) : Option Bool :=
  match op with
  | .eql => some eq
  | .neq => some !eq
  | .lss => some lt
  | .leq => some (lt || eq)
  | .gtr => some !(lt || eq)
  | .geq => some !lt
  | _ => none

def evInt (op : BinOp) (k : IntKind) (x y : Int) : Option PV :=
  match op with
  | .add => some (.int k (k.wrap (x + y)))
  | .sub => some (.int k (k.wrap (x - y)))
  | .mul => some (.int k (k.wrap (x * y)))
  | .quo => if y = 0 then none else some (.int k (k.wrap (x.tdiv y)))
  | .rem => if y = 0 then none else some (.int k (x.tmod y))
  | .and => some (.int k (k.wrap ((BitVec.ofInt k.bits x &&& BitVec.ofInt k.bits y).toNat)))
  | .or => some (.int k (k.wrap ((BitVec.ofInt k.bits x ||| BitVec.ofInt k.bits y).toNat)))
  | .xor => some (.int k (k.wrap ((BitVec.ofInt k.bits x ^^^ BitVec.ofInt k.bits y).toNat)))
  | .andNot => some (.int k (k.wrap ((BitVec.ofInt k.bits x &&& ~~~ BitVec.ofInt k.bits y).toNat)))
  | .eql => some (.bool (x == y))
  | .neq => some (.bool (x != y))
  | .lss => some (.bool (x < y))
  | .leq => some (.bool (x ≤ y))
  | .gtr => some (.bool (x > y))
  | .geq => some (.bool (x ≥ y))
  | _ => none

def evNil (op : BinOp) (b : Bool) : Option PV :=
  match op with
  | .eql => some (.bool b)
  | .neq => some (.bool (!b))
  | _ => none

/-- Two values that one operator joins; 'c' says whether one of the two is a literal. -/
def evBin (k : TK) (c : Bool) (op : BinOp) : PV → PV → Option PV
  | .int k x, .int k' y => match op with
    | .shl => if y < 0 then none else some (.int k (k.wrap (x * 2 ^ min y.toNat k.bits)))
    | .shr => if y < 0 then none else some (.int k (x.fdiv (2 ^ min y.toNat k.bits)))
    | _ => if k = k' then evInt op k x y else none
  | .str s, .str t => match op with
    | .add => if s.length + t.length ≤ 9223372036854775807 then some (.str (s ++ t)) else none
    | .eql => some (.bool (s == t))
    | .neq => some (.bool (!(s == t)))
    | .lss => some (.bool (Op.bytesLess s t))
    | .leq => some (.bool (Op.bytesLess s t || s == t))
    | .gtr => some (.bool (!(Op.bytesLess s t || s == t)))
    | .geq => some (.bool (!Op.bytesLess s t))
    | _ => none
  | .bool x, .bool y => match k with
    | .bool => evNil op (x == y)
    | _ => none
  | .nerr, .nerr => match k, c with
    | .iface, true => evNil op true
    | _, _ => none
  | .err, .nerr => match k with
    | .iface => evNil op false
    | _ => none
  | _, _ => none

def bytesOf : List PV → Option (List UInt8)
  | [] => some []
  | .int .u8 n :: cs => if 0 ≤ n ∧ n < 256 then (bytesOf cs).map (UInt8.ofNat n.toNat :: ·) else none
  | _ => none

def evUn (op : UnOp) : PV → Option PV
  | .bool b => match op with
    | .not => some (.bool !b)
    | _ => none
  | .int k n => match op with
    | .neg => some (.int k (k.wrap (0 - n)))
    | _ => none
  | _ => none

/-- Bounds that stand. -/
def cutLo : Option PV → Option Nat
  | none => some 0
  | some (.int _ l) => if 0 ≤ l then some l.toNat else none
  | _ => none
def cutHi (n : Nat) : Option PV → Option Nat
  | none => some n
  | some (.int _ h) => if 0 ≤ h then some h.toNat else none
  | _ => none

def evSlice (sz : Nat) (lo hi : Option PV) : PV → Option PV
  | .str s => match cutLo lo, cutHi s.length hi with
    | some l, some h => if l ≤ h ∧ h ≤ s.length then some (.str ((s.take h).drop l)) else none
    | _, _ => none
  | .sl n cs => match cutLo lo, cutHi n hi with
    | some l, some h => if l ≤ h ∧ h ≤ n ∧ cs.length = n * sz then some (.sl (h - l) ((cs.take (h * sz)).drop (l * sz))) else none
    | _, _ => none
  | .nils => match cutLo lo, cutHi 0 hi with
    | some l, some h => if l = 0 ∧ h = 0 then some .nils else none
    | _, _ => none
  | _ => none
def isStr : PV → Bool
  | .str _ => true
  | _ => false

def splice (cs ds : List PV) (o : Nat) : List PV := cs.take o ++ ds ++ cs.drop (o + ds.length)
def fillL (place : Nat → Option (Nat × Nat)) (cs : List PV) : List (Nat × PV) → Option (List PV)
  | [] => some cs
  | (i, v) :: rest => match place i with
    | none => none
    | some (o, s) => if v.cells.length = s ∧ o + s ≤ cs.length ∧ v.cells.all isCell = true then fillL place (splice cs v.cells o) rest else none

def rowOf (H : Nm → Option Buf) (sz : Nat) : PV → Option (Nat × List PV × List Nm)
  | .ref nm n => match H nm with
    | some b => if b.n = n ∧ b.row.map (·.2) = some sz then some (n, b.cells, [nm]) else none
    | none => none
  | .sl n cs => if cs.length = n * sz then some (n, cs, []) else none
  | .nils => some (0, [], [])
  | _ => none

/-- A text made a row of bytes. -/
def evConvS (P : Program) (i : TI) (s : TypeId) (y : PV) : Option Eff :=
  match y with
  | .str str => match i.k, TI.of P s with
    | .slice e, some j => match j.k, TI.of P e with
      | .str, some q => match q.k with
        | .int .u8 => if str.length ≤ 9223372036854775807 then some ⟨.sl str.length (str.map fun b => .int .u8 b.toNat), [], []⟩ else none
        | _ => none
      | _, _ => none
    | _, _ => none
  | _ => none
def ev (P : Program) (τ : Nat) (o : Oper) (st : St) : Option Eff :=
  let pure (v : Option PV) : Option Eff := v.map fun v => ⟨v, [], []⟩
  match o.op with
  | .move x | .assign x => some ⟨st.op x, [], []⟩
  | .pick c a b => match st.op c with
    | .bool q => some ⟨bif q then st.op a else st.op b, [], []⟩
    | _ => none
  | .alloc t => match TI.of P t, o.dst with
    | some i, some d => if i.zero.all isCell = true then some ⟨.loc (τ, d, 0) 0 0, [], [((τ, d, 0), ⟨none, 0, i.zero⟩)]⟩ else none
    | _, _ => none
  | .box t x => match o.dst with
    | some d => if (st.op x).cells.all isCell = true then some ⟨.loc (τ, d, 0) 0 0, [], [((τ, d, 0), ⟨none, 0, (st.op x).cells⟩)]⟩ else none
    | _ => none
  | .build t parts => match TI.of P t with
    | some i => match i.k with
      | .strct fs => if i.zero.all isCell = true then pure ((fillL (fs[·]?) i.zero (parts.toList.map fun p => (p.1, st.op p.2))).map .agg) else none
      | _ => none
    | none => none
  | .buildSlice t len parts => match TI.of P t, o.dst with
    | some i, some d => match i.k with
      | .slice e => match TI.of P e with
        | some j => if 0 < j.size ∧ j.zero.length = j.size ∧ j.zero.all isCell = true ∧ len * j.size ≤ 16777216 then
            (fillL (fun q => some (q * j.size, j.size)) (List.replicate len j.zero).flatten (parts.toList.map fun p => (p.1, st.op p.2))).map fun cs =>
              ⟨.ref (τ, d, 0) len, [], [((τ, d, 0), ⟨some (e, j.size), len, cs⟩)]⟩ else none
        | none => none
      | _ => none
    | _, _ => none
  | .load t a => match TI.of P t with
    | some i => evLoad i st.H (st.op a)
    | none => none
  | .store t a x => match TI.of P t with
    | some i => evStore i st.H (st.op x) (st.op a)
    | none => none
  | .nilCheck x => match st.op x with
    | .loc nm len off => if live st.H nm len = true then some ⟨.loc nm len off, [nm], []⟩ else none
    | .ptr cs => some ⟨.ptr cs, [], []⟩
    | _ => none
  | .binOp op t x y _ => match TI.of P t with
    | some i => pure (evBin i.k (isConst x || isConst y) op (st.op x) (st.op y))
    | none => none
  | .unOp op _ x => pure (evUn op (st.op x))
  | .convert s t x => match TI.of P t, st.op x with
    | some i, .int _ n => match i.k, TI.of P s with
      | .int k, some _ => pure (some (.int k (k.wrap n)))
      | _, _ => none
    | some i, y => if isStr y = true then evConvS P i s y else match i.k, TI.of P s with
      | .str, some j => match j.k with
        | .slice e => match TI.of P e with
          | some q => match q.k with
            | .int .u8 => match rowOf st.H 1 y with
              | some (n, cs, rd) => (bytesOf cs).map fun l => ⟨.str l, rd, []⟩
              | none => none
            | _ => none
          | none => none
        | _ => none
      | _, _ => none
    | _, _ => none
  | .makeFunc fn first captured => match fn with
    | .func g => if first.size = 0 then pure (some (.fn g (captured.toList.map st.op))) else none
    | _ => none
  | .makeSlice t l c => match TI.of P t, o.dst, st.op l, st.op c with
    | some i, some d, .int _ n, .int _ m => match i.k with
      | .slice e => match TI.of P e with
        | some j => if (n = m ∨ n = 0) ∧ 0 ≤ n ∧ 0 ≤ m ∧ m * j.bytes ≤ 140737488355328 ∧ 0 < j.bytes ∧ 0 < j.size ∧ j.zero.length = j.size ∧ j.zero.all isCell = true then
            some ⟨.ref (τ, d, 0) n.toNat, [], [((τ, d, 0), ⟨some (e, j.size), n.toNat, (List.replicate n.toNat j.zero).flatten⟩)]⟩ else none
        | none => none
      | _ => none
    | _, _, _, _ => none
  | .slice t x lo hi mx => match TI.of P t, mx with
    | some i, none => match i.k with
      | .slice e => match TI.of P e with
        | some j => if isStr (st.op x) = true then none else pure (evSlice j.size (lo.map st.op) (hi.map st.op) (st.op x))
        | none => none
      | .str => if isStr (st.op x) = true then pure (evSlice 0 (lo.map st.op) (hi.map st.op) (st.op x)) else none
      | _ => none
    | _, _ => none
  | .fieldAddr t x f => match TI.of P t with
    | some i => evField i f st.H (st.op x)
    | none => none
  | .indexAddr t x ix => match TI.of P t with
    | some i => match i.k with
      | .slice e => match TI.of P e with
        | some j => evIndexAddr j.size st.H (st.op x) (st.op ix)
        | none => none
      | _ => none
    | none => none
  | .index t x ix => match TI.of P t with
    | some i => match i.k with
      | .str => pure (evIndex (st.op x) (st.op ix))
      | _ => none
    | none => none
  | .extract x j => match st.op x with
    | .tup vs => pure (vs[j]?)
    | _ => none
  | .call c => match c.callee with
    | .builtin .len => match c.args.toList with
      | [x] => match (c.argTypes[0]?).bind (TI.of P), st.op x with
        | some i, .str s => match i.k with | .str => pure (some (.int .i64 s.length)) | _ => none
        | some i, .sl n cs => match i.k with | .slice _ => pure (some (.int .i64 n)) | _ => none
        | some i, .nils => match i.k with | .slice _ => pure (some (.int .i64 0)) | _ => none
        | some i, .ref nm n => match i.k, st.H nm with
          | .slice _, some b => if b.n = n then some ⟨.int .i64 n, [nm], []⟩ else none
          | _, _ => none
        | _, _ => none
      | _ => none
    | .builtin .append => match c.args.toList, c.argTypes.toList, o.dst with
      | [s, x], [t, t'], some d => match TI.of P t with
        | some i => match i.k with
          | .slice e => match TI.of P e with
            | some j => if t = t' ∧ 0 < j.size ∧ 0 < j.bytes ∧ j.zero.length = j.size ∧ j.zero.all isCell = true then
                match st.op s with
                | .ref nm n => match st.H nm, rowOf st.H j.size (st.op x) with
                  | some b, some (m, cs, rd) => if b.n = n ∧ b.row = some (e, j.size) ∧ b.cells.length = n * j.size ∧ (n + m) * j.bytes ≤ 140737488355328 then
                      some ⟨.ref nm (n + m), nm :: rd, [(nm, ⟨some (e, j.size), n + m, b.cells ++ cs⟩)]⟩ else none
                  | _, _ => none
                | .nils => match rowOf st.H j.size (st.op x) with
                  | some (m, cs, rd) => if m * j.bytes ≤ 140737488355328 then some ⟨.ref (τ, d, 0) m, rd, [((τ, d, 0), ⟨some (e, j.size), m, cs⟩)]⟩ else none
                  | none => none
                | _ => none
              else none
            | none => none
          | _ => none
        | none => none
      | _, _, _ => none
    | _ => none
  | _ => none

end Go.Proofs.YthcmcjkljjfccaaGreatDoor.Abs
set_option linter.unusedVariables false
namespace Go.Proofs.YthcmcjkljjfccaaGreatDoor.Abs
open Go Go.RowKit

section
variable {P : Program} {B : Base} {w w' : World} {Γ Γ' : Gh} {st : St} {a : Act}

theorem str_eta (s : ByteArray) : (⟨s.data.toList.toArray⟩ : ByteArray) = s := by cases s; simp

theorem VR_litCell (v : Value) : VR Γ w (litCell v) v := by
  unfold litCell
  split
  · simp [VR, IR]
  · simp [VR, IR]
  · simp only [VR, IR, str_eta]
  · simp [VR, IR]
  · simp [VR, IR]
  · simp [VR]
theorem LR_litCell : ∀ l : List Value, LR Γ w (l.map litCell) l
  | [] => rfl
  | v :: l => ⟨v, l, rfl, VR_litCell v, LR_litCell l⟩
theorem VR_litPV (v : Value) : VR Γ w (litPV v) v := by
  unfold litPV
  split
  · simp only [VR]
    exact ⟨_, by simp, LR_litCell _⟩
  · exact VR_litCell v

theorem SR.op (h : SR B Γ st a w) (x : Operand) : VR Γ w (st.op x) (a.eval x) := by
  cases x with
  | tmp t => exact h.slots t
  | const v => exact VR_litPV v
  | func f => simp only [St.op, Act.eval, VR]; exact ⟨[], rfl, rfl⟩
  | global g => trivial

theorem put_size (a : Act) (d : Option Nat) (v : Value) : (a.put d v).tmps.size = a.tmps.size := by
  cases d <;> simp [Act.put]
theorem put_defers (a : Act) (d : Option Nat) (v : Value) : (a.put d v).defers = a.defers := by
  cases d <;> simp [Act.put]

theorem slots_put {fr : Nat → PV} (h : ∀ s, VR Γ w (fr s) (a.tmps.getD s Go.undef)) (d : Option Nat) (hd : ∀ k, d = some k → k < a.tmps.size) (x : PV) (v : Value) (hv : VR Γ w x v) :
    ∀ s, VR Γ w (setSlot fr d x s) ((a.put d v).tmps.getD s Go.undef) := by
  intro s
  cases d with
  | none => exact h s
  | some d =>
    have hd := hd d rfl
    simp only [setSlot, Act.put]
    by_cases hs : s = d
    · subst hs
      simp only [if_true]
      rw [Array.getD_eq_getD_getElem?, Array.getElem?_setIfInBounds_self_of_lt hd]
      exact hv
    · simp only [hs, if_false]
      rw [Array.getD_eq_getD_getElem?, Array.getElem?_setIfInBounds_ne (fun e => hs e.symm), ← Array.getD_eq_getD_getElem?]
      exact h s

/-- A value is put; nothing else turns. -/
theorem SR.put (h : SR B Γ st a w) (d : Option Nat) (hd : ∀ k, d = some k → k < B.N) (x : PV) (rd : List Nm) (v : Value) (hv : VR Γ w x v) :
    SR B Γ (st.app d ⟨x, rd, []⟩) (a.put d v) w where
  keep := h.keep
  defers := by rw [put_defers]; exact h.defers
  size := by rw [put_size]; exact h.size
  s0 := h.s0
  sin := h.sin
  slots := slots_put h.slots d (fun k hk => by rw [h.size]; exact hd k hk) x v hv
  sok := h.sok
  dom := h.dom
  res := h.res
  own := h.own
  apart := h.apart
  fresh := h.fresh
  evo := h.evo

theorem RR_mono (hS : ∀ k, Γ.S k → Γ'.S k) (hw : ∀ k, Γ.S k → w'.heap[k]? = w.heap[k]?) (hK : ∀ i r, Γ.K i = some r → ∃ r', Γ'.K i = some r' ∧ (r' = r ∨ r.len < r'.len))
    (b : Buf) (r : KR) (hb : ∀ k, r.block = some k → w'.heap[k]? = w.heap[k]?) (h : RR Γ w b r) : RR Γ' w' b r := by
  cases r with
  | box k =>
    obtain ⟨h1, h2, l, t, cur, h3, h6, h7, h4, h5⟩ := h
    exact ⟨h1, h2, l, t, cur, (hb k rfl).trans h3, h6, h7, LR_mono hS hw hK _ _ h4, h5⟩
  | row n v =>
    obtain ⟨h1, e, sz, l, h2, h3, h4, h5, h6⟩ := h
    refine ⟨h1, e, sz, l, h2, h3, ?_, LR_mono hS hw hK _ _ h5, h6⟩
    obtain ⟨o1, o2⟩ := h4
    refine ⟨o1, ?_⟩
    rcases o2 with o2 | ⟨g, cap, cur, rfl, hg, hh, r⟩
    · exact .inl o2
    · exact .inr ⟨g, cap, cur, rfl, hg, (hb g rfl).trans hh, r⟩
  | gone n => exact h

def updK (K : Nm → Option KR) (i : Nm) (r : KR) : Nm → Option KR := fun j => if j = i then some r else K j

/-- One resource is new, or written: all else stands. -/
theorem SR.res_step (h : SR B Γ st a w) (i : Nm) (b' : Buf) (r' : KR) (kk : Nat)
    (hw : Keep (fun k => k = kk) w w')
    (hkk : w.heap.size ≤ kk ∨ ∃ r, Γ.K i = some r ∧ r.block = some kk)
    (hK : Γ.K i = none ∨ ∃ r, Γ.K i = some r ∧ (r' = r ∨ r.len < r'.len))
    (hR : ∀ Γ' : Gh, Γ'.S = Γ.S → Γ'.K = updK Γ.K i r' → RR Γ' w' b' r')
    (hb : ∀ k, r'.block = some k → w.heap.size ≤ k ∧ k < w'.heap.size ∨ ∃ r, Γ.K i = some r ∧ r.block = some k)
    (ht : i.1 < st.t) :
    SR B { S := Γ.S, K := updK Γ.K i r' } { fr := st.fr, H := upd st.H i b', t := st.t } a w' := by
  have hS : ∀ k, Γ.S k → w'.heap[k]? = w.heap[k]? := by
    intro k hk
    refine hw.block k (h.sok k hk) ?_
    rintro rfl
    rcases hkk with h1 | ⟨r, hr, hb⟩
    · exact absurd (h.sok _ hk) (by omega)
    · exact (h.own i r _ hr hb).1 hk
  have hKm : ∀ j r, Γ.K j = some r → ∃ q, (updK Γ.K i r') j = some q ∧ (q = r ∨ r.len < q.len) := by
    intro j r hr
    unfold updK
    by_cases hj : j = i
    · subst hj
      rcases hK with hK | ⟨r2, hr2, hK⟩
      · rw [hK] at hr; cases hr
      · rw [hr2] at hr; cases hr
        exact ⟨r', by simp, hK⟩
    · exact ⟨r, by simp [hj, hr], .inl rfl⟩
  have hkeep : Keep B.M B.w0 w' := by
    refine h.keep.step hw ?_
    rintro k rfl hk
    rcases hkk with h1 | ⟨r, hr, hb⟩
    · exact absurd (Nat.lt_of_lt_of_le hk h.keep.size) (by omega)
    · rcases (h.own i r k hr hb).2.2 with h2 | h2
      · exact absurd hk (by omega)
      · exact h2
  refine ⟨hkeep, h.defers, h.size, h.s0, h.sin, ?_, ?_, ?_, ?_, ?_, ?_, ?_, ?_⟩
  · intro s
    exact VR_mono (Γ := Γ) (Γ' := { S := Γ.S, K := updK Γ.K i r' }) (fun _ h => h) hS hKm _ _ (h.slots s)
  · intro k hk
    exact Nat.lt_of_lt_of_le (h.sok k hk) hw.size
  · intro j
    simp only [updK, upd]
    by_cases hj : j = i
    · simp [hj]
    · simp [hj, h.dom j]
  · intro j b r hb' hr
    simp only [updK, upd] at hb' hr
    by_cases hj : j = i
    · subst hj
      simp at hb' hr
      subst hb' hr
      exact hR _ rfl rfl
    · simp only [hj, if_false] at hb' hr
      refine RR_mono (Γ := Γ) (Γ' := { S := Γ.S, K := updK Γ.K i r' }) (fun _ h => h) hS hKm b r ?_ (h.res j b r hb' hr)
      intro k hk
      refine hw.block k (h.own j r k hr hk).2.1 ?_
      rintro rfl
      rcases hkk with h1 | ⟨q, hq, hb2⟩
      · exact absurd (h.own j r k hr hk).2.1 (by omega)
      · exact hj (h.apart j i r q k hr hq hk hb2)
  · intro j r k hr hk
    simp only [updK] at hr
    by_cases hj : j = i
    · subst hj
      simp at hr
      subst hr
      rcases hb k hk with ⟨h1, h2⟩ | ⟨q, hq, hb2⟩
      · refine ⟨fun hs => ?_, h2, .inl (Nat.le_trans h.keep.size h1)⟩
        exact absurd (h.sok k hs) (by omega)
      · obtain ⟨o1, o2, o3⟩ := h.own j q k hq hb2
        exact ⟨o1, Nat.lt_of_lt_of_le o2 hw.size, o3⟩
    · simp only [hj, if_false] at hr
      obtain ⟨o1, o2, o3⟩ := h.own j r k hr hk
      exact ⟨o1, Nat.lt_of_lt_of_le o2 hw.size, o3⟩
  · have key : ∀ j q k, j ≠ i → Γ.K j = some q → q.block = some k → r'.block = some k → False := by
      intro j q k hj hq hk hk'
      rcases hb k hk' with ⟨h1, _⟩ | ⟨r, hr, hb2⟩
      · exact absurd (h.own j q k hq hk).2.1 (by omega)
      · exact hj (h.apart j i q r k hq hr hk hb2)
    intro j j' r q k hr hq hk hk'
    simp only [updK] at hr hq
    by_cases hj : j = i <;> by_cases hj' : j' = i
    · rw [hj, hj']
    · simp only [hj, hj', if_true, if_false] at hr hq
      cases hr
      exact (key j' q k hj' hq hk' hk).elim
    · simp only [hj, hj', if_true, if_false] at hr hq
      cases hq
      exact (key j r k hj hr hk hk').elim
    · simp only [hj, hj', if_false] at hr hq
      exact h.apart j j' r q k hr hq hk hk'
  · intro j hj
    simp only [upd]
    have : j ≠ i := by rintro rfl; exact absurd hj (by simpa using ht)
    simp [this, h.fresh j hj]
  · intro j r hr
    obtain ⟨r1, h1, h2⟩ := h.evo j r hr
    obtain ⟨r2, h3, h4⟩ := hKm j r1 h1
    refine ⟨r2, h3, ?_⟩
    rcases h2 with rfl | h2 <;> rcases h4 with rfl | h4
    · exact .inl rfl
    · exact .inr h4
    · exact .inr h2
    · exact .inr (Nat.lt_trans h2 h4)

end
end Go.Proofs.YthcmcjkljjfccaaGreatDoor.Abs
set_option linter.unusedVariables false
namespace Go.Proofs.YthcmcjkljjfccaaGreatDoor.Abs
open Go Go.RowKit

theorem add_add' (ad : Addr) (i j : Nat) : (ad.add i).add j = ad.add (i + j) := by
  unfold Addr.add
  by_cases h1 : i = 0 <;> by_cases h2 : j = 0 <;> simp [h1, h2, Nat.add_assoc]
theorem add_zero'' (ad : Addr) : ad.add 0 = ad := by simp [Addr.add]
theorem add_blk (ad : Addr) (i : Nat) : (ad.add i).block = ad.block := by unfold Addr.add; split <;> rfl
theorem add_pl (g o j : Nat) : (⟨g, o, none⟩ : Addr).add j = ⟨g, o + j, none⟩ := by unfold Addr.add; split <;> simp_all

section
variable {P : Program} {B : Base} {w w' : World} {Γ Γ' : Gh} {st : St} {a : Act} {S : Nat → Prop}

theorem CR_drop : ∀ (o : Nat) {cs : List PV} {ad : Addr}, CR S w cs ad → CR S w (cs.drop o) (ad.add o)
  | 0, cs, ad, h => by simpa [add_zero''] using h
  | o + 1, [], ad, h => by simp [CR]
  | o + 1, u :: us, ad, h => by
    simp only [CR] at h
    have := CR_drop o h.2
    rw [add_add', Nat.add_comm] at this
    simpa using this
theorem CR_cells : ∀ (n : Nat) {cs : List PV} {ad : Addr}, CR S w cs ad → n ≤ cs.length →
    ∃ l : List Value, l.length = n ∧ ILR S w (cs.take n) l ∧ (∀ u ∈ l, u.oneCell' = true) ∧ ∀ j v, l[j]? = some v → w.cell? (ad.add j) = some v
  | 0, cs, ad, h, hn => ⟨[], rfl, by simp [ILR], by simp, by simp⟩
  | n + 1, [], ad, h, hn => by simp at hn
  | n + 1, u :: us, ad, h, hn => by
    simp only [CR] at h
    obtain ⟨⟨h1, cv, hc, ho, h2⟩, h3⟩ := h
    obtain ⟨l, hl, hi, h1', hcs⟩ := CR_cells n h3 (by simpa using hn)
    refine ⟨cv :: l, by simp [hl], ⟨cv, l, rfl, h2, hi⟩, ?_, ?_⟩
    · intro x hx
      rcases List.mem_cons.1 hx with rfl | hx
      · exact ho
      · exact h1' x hx
    · intro j v hj
      cases j with
      | zero => simp at hj; subst hj; simpa [add_zero''] using hc
      | succ j =>
        have := hcs j v (by simpa using hj)
        rwa [add_add', Nat.add_comm] at this

theorem TI.of_some {t : TypeId} {i : TI} (h : TI.of P t = some i) : ∃ info d z, P.info? t = some info ∧ P.underlying t = some d ∧ info.zero = some z ∧ i.size = info.size ∧ i.bytes = info.bytes ∧ i.zero = z.cells.toList.map litCell ∧
    i.k = (match d with
                         | .bool => TK.bool
                         | .int k => .int k
                         | .string => .str
                         | .slice e => .slice e
                         | .struct fs => if fs.toList.all (fun f => (P.info? f.type).isSome) = true then .strct (fs.toList.map fun f => (f.offset, P.cellsOf f.type)) else .other
                         | .interface _ => .iface
                         | _ => .other) := by
  unfold TI.of at h
  split at h
  · rename_i info d hi hd
    split at h
    · rename_i z hz
      cases h
      exact ⟨info, d, z, hi, hd, hz, rfl, rfl, rfl, rfl⟩
    · cases h
  · cases h

theorem run_underlying_of {t : TypeId} {d : TypeDesc} (h : P.underlying t = some d) (w : World) : (underlying t).run P w = .ok d w := by
  simp [underlying, h]
theorem run_typeInfo_of {t : TypeId} {i : TypeInfo} (h : P.info? t = some i) (w : World) : (typeInfo t).run P w = .ok i w := by
  simp [typeInfo, h]
theorem run_sizeOf_of {t : TypeId} {i : TypeInfo} (h : P.info? t = some i) (w : World) : (sizeOf t).run P w = .ok i.size w := by
  simp [sizeOf, run_typeInfo_of h]

/-- A load out of cells that are known. -/
theorem run_loadVar_of {t : TypeId} {i : TI} (hi : TI.of P t = some i) (ad : Addr) (l : List Value) (cs : List PV) (x : PV) (hl : l.length = i.size) (hc : ∀ j v, l[j]? = some v → w.cell? (ad.add j) = some v)
    (hv : mkV i cs = some x) (hlr : LR Γ w cs l) : ∃ v, (loadVar t ad).run P w = .ok v w ∧ VR Γ w x v := by
  obtain ⟨info, d, z, hinfo, hd, hz, hs, hb, hzz, hk⟩ := TI.of_some hi
  unfold mkV at hv
  have hload : ∀ v, w.cell? ad = some v → (load ad).run P w = .ok v w := by intro v h; simp [h]
  have hcell : ∀ y, cs = [y] → ∃ v, w.cell? ad = some v ∧ VR Γ w y v := by
    rintro y rfl
    simp only [LR] at hlr
    obtain ⟨c, r, rfl, h1, rfl⟩ := hlr
    exact ⟨c, by simpa [add_zero''] using hc 0 c rfl, h1⟩
  cases d with
  | struct fs =>
    simp only at hk
    split at hk
    case isFalse => simp [hk] at hv
    simp only [hk] at hv
    cases hv
    refine ⟨.agg l.toArray, ?_, ?_⟩
    · have := run_loadCells_list (P := P) w ad l hc
      rw [hl, hs] at this
      simp [loadVar, isAgg, run_underlying_of hd, run_sizeOf_of hinfo, this]
    · simp only [VR]
      exact ⟨l, rfl, hlr⟩
  | bool | int k | string | slice e | interface ms =>
    simp only [hk] at hv
    split at hv
    · cases hv
      obtain ⟨v, h1, h2⟩ := hcell _ rfl
      exact ⟨v, by simp [loadVar, isAgg, run_underlying_of hd, h1], h2⟩
    · cases hv
  | _ => simp [hk] at hv

end
end Go.Proofs.YthcmcjkljjfccaaGreatDoor.Abs
set_option linter.unusedVariables false
namespace Go.Proofs.YthcmcjkljjfccaaGreatDoor.Abs
open Go Go.RowKit

section
variable {P : Program} {B : Base} {w w' : World} {Γ Γ' : Gh} {st : St} {a : Act} {S : Nat → Prop}

theorem RR_len {b : Buf} {r : KR} (h : RR Γ w b r) : r.len = b.n := by
  cases r with
  | box k => obtain ⟨h1, h2, _⟩ := h; simp [KR.len, h2]
  | row n v => obtain ⟨h1, _⟩ := h; simp [KR.len, h1]
  | gone n => simp only [RR] at h; simp [KR.len, h]

theorem RR_cells {b : Buf} {r : KR} (h : RR Γ w b r) : ∃ l : List Value, LR Γ w b.cells l ∧ (∀ u ∈ l, u.oneCell' = true) ∧
    ∀ k, r.block = some k → ∃ cur t, w.heap[k]? = some (.cells cur t (0, 0)) ∧ cur.toList.take l.length = l ∧ l.length ≤ cur.size := by
  cases r with
  | box k =>
    obtain ⟨h1, h2, l, t, cur, h3, h6, h7, h4, h5⟩ := h
    refine ⟨l, h4, h5, ?_⟩
    intro k' hk
    cases hk
    exact ⟨cur, t, h3, h6, h7⟩
  | row n v =>
    obtain ⟨h1, e, sz, l, h2, h3, h4, h5, h6⟩ := h
    refine ⟨l, h5, h6, ?_⟩
    intro k' hk
    obtain ⟨o1, o2⟩ := h4
    rcases o2 with ⟨rfl, _⟩ | ⟨g, cap, cur, rfl, hg, hh, hc1, hc2, hc3, hc4⟩
    · simp [KR.block, Value.ownBlock] at hk
    · simp [KR.block, Value.ownBlock] at hk
      subst hk
      refine ⟨cur, e, hh, ?_, ?_⟩
      · rw [o1]; exact hc4
      · rw [o1, hc3]; exact Nat.mul_le_mul_right _ hc1
  | gone n =>
    simp only [RR] at h
    subst h
    exact ⟨[], rfl, by simp, by intro k hk; cases hk⟩

/-- What stands at a place in a resource. -/
theorem SR.at_loc (h : SR B Γ st a w) {nm : Nm} {len off : Nat} {v : Value} (hv : VR Γ w (.loc nm len off) v) {b : Buf} (hb : st.H nm = some b) (hn : b.n = len) :
    ∃ r k l cur t, Γ.K nm = some r ∧ r.block = some k ∧ v = .pointer (some ⟨k, off, none⟩) ∧ RR Γ w b r ∧ LR Γ w b.cells l ∧ (∀ u ∈ l, u.oneCell' = true) ∧
      w.heap[k]? = some (.cells cur t (0, 0)) ∧ cur.toList.take l.length = l ∧ l.length ≤ cur.size := by
  simp only [VR] at hv
  obtain ⟨r, hr, hle, hv⟩ := hv
  have hrr := h.res nm b r hb hr
  obtain ⟨k, hk, rfl⟩ := hv (by rw [RR_len hrr, hn])
  obtain ⟨l, h1, h2, h3⟩ := RR_cells hrr
  obtain ⟨cur, t, h4, h5, h6⟩ := h3 k hk
  exact ⟨r, k, l, cur, t, hr, hk, rfl, hrr, h1, h2, h4, h5, h6⟩

theorem take_get {cur : Array Value} {l : List Value} (h : cur.toList.take l.length = l) (j : Nat) (v : Value) (hj : l[j]? = some v) : cur[j]? = some v := by
  have hlt : j < l.length := (List.getElem?_eq_some_iff.1 hj).1
  rw [← h] at hj
  rw [List.getElem?_take] at hj
  simpa [hlt] using hj

theorem load_sound (h : SR B Γ st a w) {t : TypeId} {i : TI} (hi : TI.of P t = some i) {x : PV} {v : Value} (hv : VR Γ w x v) {e : Eff} (he : evLoad i st.H x = some e) :
    ∃ u, (Instr.loadAt t v).run P w = .ok u w ∧ VR Γ w e.v u ∧ e.wr = [] := by
  unfold evLoad at he
  split at he
  · rename_i nm len off
    split at he
    · rename_i b hb
      split at he
      · rename_i hc
        obtain ⟨hn, hle⟩ := hc
        rw [List.length_take, List.length_drop] at hle
        obtain ⟨r, k, l, cur, ty, hr, hk, rfl, hrr, hl, h1, hh, ht, hcur⟩ := h.at_loc hv hb hn
        rw [Option.map_eq_some_iff] at he
        obtain ⟨y, hy, rfl⟩ := he
        have hlen := LR_length hl
        obtain ⟨u, hu, hvu⟩ := run_loadVar_of (Γ := Γ) (w := w) hi ⟨k, off, none⟩ ((l.drop off).take i.size) _ y (by rw [List.length_take, List.length_drop, hlen]; exact hle) (by
          intro j v hj
          rw [add_pl]
          have : l[off + j]? = some v := by
            rw [List.getElem?_take] at hj
            split at hj
            · simpa using hj
            · cases hj
          simp [World.cell?, hh, take_get ht _ _ this]) hy (LR_take _ (LR_drop _ hl))
        exact ⟨u, by simp [Instr.loadAt, Instr.sureAddr, hu], hvu, rfl⟩
      · cases he
    · cases he
  · rename_i cs
    split at he
    · rename_i hle
      rw [List.length_take] at hle
      have hle : i.size ≤ cs.length := by omega
      simp only [VR, IR] at hv
      obtain ⟨ad, rfl, hcr⟩ := hv
      rw [Option.map_eq_some_iff] at he
      obtain ⟨y, hy, rfl⟩ := he
      obtain ⟨l, hl, hilr, h1, hc⟩ := CR_cells i.size hcr hle
      obtain ⟨u, hu, hvu⟩ := run_loadVar_of (Γ := Γ) (w := w) hi ad l _ y hl hc hy (LR_of_ILR _ _ hilr)
      exact ⟨u, by simp [Instr.loadAt, Instr.sureAddr, hu], hvu, rfl⟩
    · cases he
  · cases he

theorem isCell_one {u : PV} {c : Value} (h : isCell u = true) (hv : VR Γ w u c) : c.oneCell' = true := by
  cases u <;> simp only [isCell] at h <;> simp only [VR, IR] at hv <;> first | cases h | skip
  all_goals first
    | (subst hv; rfl)
    | (obtain ⟨A, c, rfl, _⟩ := hv; rfl)
    | (obtain ⟨t, x, rfl⟩ := hv; rfl)
    | skip
  rename_i i n
  obtain ⟨r, hr, hle, ho, hv⟩ := hv
  exact ho

theorem all_isCell {cs : List PV} (h : cs.all isCell = true) : ∀ {l : List Value}, LR Γ w cs l → ∀ u ∈ l, u.oneCell' = true := by
  induction cs with
  | nil => intro l hl; simp only [LR] at hl; simp [hl]
  | cons c cs ih =>
    intro l hl
    simp only [LR] at hl
    obtain ⟨x, r, rfl, h1, h2⟩ := hl
    simp only [List.all_cons, Bool.and_eq_true] at h
    intro u hu
    rcases List.mem_cons.1 hu with rfl | hu
    · exact isCell_one h.1 h1
    · exact ih h.2 h2 u hu

/-- A value's cells. -/
theorem VR_cells {x : PV} {v : Value} (hv : VR Γ w x v) (hx : x.cells.all isCell = true) : ∃ l : List Value, v.cells = l.toArray ∧ LR Γ w x.cells l := by
  have key : ∀ y : PV, y = x → x.cells = [x] → isCell x = true → ∃ l : List Value, v.cells = l.toArray ∧ LR Γ w x.cells l := by
    rintro y rfl hc h1
    have := isCell_one h1 hv
    refine ⟨[v], ?_, ?_⟩
    · cases v <;> first | rfl | simp [Value.oneCell'] at this
    · rw [hc]; exact ⟨v, [], rfl, hv, rfl⟩
  cases x with
  | agg cs =>
    simp only [VR] at hv
    obtain ⟨l, rfl, hl⟩ := hv
    exact ⟨l, rfl, hl⟩
  | _ => exact key _ rfl rfl (by simpa [PV.cells] using hx)


theorem LR_splice {cs ds : List PV} {l m : List Value} (h : LR Γ w cs l) (hm : LR Γ w ds m) (o n : Nat) : LR Γ w (cs.take o ++ ds ++ cs.drop n) (l.take o ++ m ++ l.drop n) :=
  LR_append (LR_append (LR_take _ h) hm) (LR_drop _ h)

theorem setRow_keep (w : World) (k : Nat) (cur cs : Array Value) (t : TypeId) (h : w.heap[k]? = some (.cells cur t (0, 0))) : Keep (fun i => i = k) w (w.setRow k cs) ∧ (w.setRow k cs).heap[k]? = some (.cells cs t (0, 0)) := by
  have hlt : k < w.heap.size := (Array.getElem?_eq_some_iff.1 h).1
  have hv : w.heap[k] = .cells cur t (0, 0) := (Array.getElem?_eq_some_iff.1 h).2
  refine ⟨⟨rfl, rfl, rfl, ?_, ?_⟩, ?_⟩
  · simp [World.setRow]
  · intro i hi hne
    simp only [World.setRow]
    rw [Array.getElem?_modify, if_neg (fun e => hne (Eq.symm e))]
  · simp only [World.setRow]
    rw [Array.getElem?_modify]
    simp [h]

theorem splice_pre {cl l m : List Value} {o s : Nat} (h : cl.take l.length = l) (hm : m.length = s) (ho : o + s ≤ l.length) :
    (cl.take o ++ m ++ cl.drop (o + s)).take l.length = l.take o ++ m ++ l.drop (o + s) ∧ (cl.take o ++ m ++ cl.drop (o + s)).length = cl.length := by
  obtain ⟨r, rfl⟩ : ∃ r, cl = l ++ r := ⟨cl.drop l.length, by rw [← List.take_append_drop l.length cl, h]; simp⟩
  have hlen : (l.take o ++ m ++ l.drop (o + s)).length = l.length := by simp [hm]; omega
  have e : (l ++ r).take o ++ m ++ (l ++ r).drop (o + s) = (l.take o ++ m ++ l.drop (o + s)) ++ r := by
    rw [List.take_append_of_le_length (by omega), List.drop_append_of_le_length ho]
    simp
  rw [e]
  refine ⟨?_, by rw [List.length_append, hlen, List.length_append]⟩
  exact List.take_left' hlen

theorem store_sound (h : SR B Γ st a w) (hf : ∀ i, st.H i ≠ none → i.1 < st.t) {t : TypeId} {i : TI} (hi : TI.of P t = some i) {x y : PV} {v u : Value} (hv : VR Γ w x v) (hu : VR Γ w y u) {e : Eff} (he : evStore i st.H y x = some e) :
    ∃ w' Γ', (Instr.storeAt t v u).run P w = .ok () w' ∧ SR B Γ' { fr := st.fr, H := e.wr.foldl (fun H x => upd H x.1 x.2) st.H, t := st.t } a w' ∧ e.v = .undef := by
  unfold evStore at he
  split at he
  · rename_i nm len off
    split at he
    · rename_i b hb
      split at he
      · rename_i hc
        obtain ⟨hn, hle, hcl, hall⟩ := hc
        cases he
        obtain ⟨r, k, l, cur, ty, hr, hk, rfl, hrr, hl, h1, hh, ht, hcur⟩ := h.at_loc hv hb hn
        obtain ⟨m, hm, hml⟩ := VR_cells hu hall
        have h1m := all_isCell hall hml
        have hlen := LR_length hl
        have hmlen := LR_length hml
        obtain ⟨info, d, z, hinfo, hd, hz, hs, hbb, hzz, hkk⟩ := TI.of_some hi
        have hrun := run_storeCells_at (P := P) k off ty m 0 cur w hh (by omega) h1m
        simp only [Nat.add_zero, hmlen, hcl] at hrun
        obtain ⟨hpre, hplen⟩ := splice_pre (o := off) ht (show m.length = i.size by omega) (by omega)
        obtain ⟨hkeep, hnew⟩ := setRow_keep w k cur (cur.toList.take off ++ m ++ cur.toList.drop (off + i.size)).toArray ty hh
        have hrun2 : (Instr.storeAt t (.pointer (some ⟨k, off, none⟩)) u).run P w = .ok () (w.setRow k (cur.toList.take off ++ m ++ cur.toList.drop (off + i.size)).toArray) := by
          have hsz : u.cells.size = info.size := by rw [hm]; simp; omega
          simp only [Instr.storeAt, Instr.sureAddr, storeVar, Sem.run_bind, Sem.run_pure, Result.andThen_ok, run_sizeOf_of hinfo, hsz]
          rw [hm]
          simpa using hrun
        generalize w.setRow k (cur.toList.take off ++ m ++ cur.toList.drop (off + i.size)).toArray = w' at *
        generalize cur.toList.take off ++ m ++ cur.toList.drop (off + i.size) = cur' at *
        refine ⟨w', _, hrun2, h.res_step nm _ r k hkeep (.inr ⟨r, hr, hk⟩) (.inr ⟨r, hr, .inl rfl⟩) ?_ (fun k' hk' => .inr ⟨r, hr, hk'⟩) (hf nm (by simp [hb])), rfl⟩
        intro Γ' hS hK
        have hSS : ∀ k', Γ.S k' → w'.heap[k']? = w.heap[k']? := by
          intro k' hk'
          refine hkeep.block k' (h.sok k' hk') ?_
          rintro rfl
          exact (h.own nm r _ hr hk).1 hk'
        have hKm : ∀ j r2, Γ.K j = some r2 → ∃ q, Γ'.K j = some q ∧ (q = r2 ∨ r2.len < q.len) := by
          intro j r2 hr2
          rw [hK]
          unfold updK
          by_cases hj : j = nm
          · subst hj
            rw [hr] at hr2
            cases hr2
            exact ⟨r, by simp, .inl rfl⟩
          · exact ⟨r2, by simp [hj, hr2], .inl rfl⟩
        have hl' := LR_mono (Γ' := Γ') (fun k h => hS ▸ h) hSS hKm _ _ (LR_splice hl hml off (off + i.size))
        have h1' : ∀ u ∈ l.take off ++ m ++ l.drop (off + i.size), u.oneCell' = true := by
          intro u hu
          simp only [List.mem_append] at hu
          rcases hu with (hu | hu) | hu
          · exact h1 u (List.mem_of_mem_take hu)
          · exact h1m u hu
          · exact h1 u (List.mem_of_mem_drop hu)
        have hll : (l.take off ++ m ++ l.drop (off + i.size)).length = l.length := by simp; omega
        cases r with
        | box k2 =>
          cases hk
          obtain ⟨q1, q2, _⟩ := hrr
          exact ⟨q1, q2, _, ty, cur'.toArray, hnew, by rw [hll]; exact hpre, by rw [hll]; simp; rw [hplen]; simpa using hcur, hl', h1'⟩
        | row n v =>
          obtain ⟨q1, e, sz, l2, q2, q3, q4, q5, q6⟩ := hrr
          refine ⟨q1, e, sz, _, q2, q3, ?_, hl', h1'⟩
          obtain ⟨o1, o2⟩ := q4
          have : l2.length = l.length := by rw [LR_length q5, hlen]
          refine ⟨by rw [hll, ← this, o1], ?_⟩
          rcases o2 with ⟨rfl, _⟩ | ⟨g, cap, cur2, rfl, hg, hh2, hc1, hc2, hc3, hc4⟩
          · simp [KR.block, Value.ownBlock] at hk
          · simp [KR.block, Value.ownBlock] at hk
            subst hk
            rw [hh] at hh2
            cases hh2
            refine .inr ⟨_, cap, cur'.toArray, rfl, hg, hnew, hc1, hc2, ?_, ?_⟩
            · simp [hplen, hc3]
            · rw [← o1, this]; exact hpre
        | gone n => cases hk
      · cases he
    · cases he
  · cases he

end
end Go.Proofs.YthcmcjkljjfccaaGreatDoor.Abs
set_option linter.unusedVariables false
namespace Go.Proofs.YthcmcjkljjfccaaGreatDoor.Abs
open Go Go.RowKit

section
variable {P : Program} {B : Base} {w w' : World} {Γ Γ' : Gh} {st : St} {a : Act} {S : Nat → Prop}

theorem size_of_list (s : List UInt8) : (⟨s.toArray⟩ : ByteArray).size = s.length := by simp [ByteArray.size]
theorem toList_of_list (s : List UInt8) : (⟨s.toArray⟩ : ByteArray).toList = s := by rw [ByteArray.toList_eq]
theorem append_of_list (s t : List UInt8) : (⟨s.toArray⟩ ++ ⟨t.toArray⟩ : ByteArray) = ⟨(s ++ t).toArray⟩ := by
  apply ByteArray.ext; simp

theorem equal_deep (t : TypeId) (x y : Value) : Op.equal t x y = Op.equalIn (9999 + 1) t x y := rfl
theorem run_eq_nil {t : TypeId} {ms : Array (String × TypeId)} (h : P.underlying t = some (.interface ms)) (d : Nat) : (Op.equalIn (d + 1) t .nilIface .nilIface).run P w = .ok true w := by
  simp [Op.equalIn, run_underlying_of h]
theorem run_eq_err {t : TypeId} {ms : Array (String × TypeId)} (h : P.underlying t = some (.interface ms)) (d : Nat) (ty : TypeId) (q : Value) : (Op.equalIn (d + 1) t (.iface ty q) .nilIface).run P w = .ok false w := by
  simp [Op.equalIn, run_underlying_of h]

theorem evInt_sound (op : BinOp) (k : IntKind) (x y : Int) (t : TypeId) (X Y : Operand) {r : PV} (h : evInt op k x y = some r) :
    ∃ v, (do eqGuard op t X Y (.int k x) (.int k y); binOp op t (.int k x) (.int k y) : Sem Value).run P w = .ok v w ∧ VR Γ w r v := by
  cases op <;> simp only [evInt] at h <;> try (cases h; done)
  all_goals first
    | (cases h; refine ⟨_, by simp [eqGuard, binOp, Op.intArith, Op.intBits, Op.intCmp] <;> rfl, ?_⟩; first | (simp only [VR, IR]; done) | simp [VR, IR])
    | (split at h <;> cases h; rename_i hy; refine ⟨_, by simp [eqGuard, binOp, Op.intDiv, hy] <;> rfl, ?_⟩; simp only [VR, IR])

theorem evBin_sound {i : TI} (t : TypeId) (hi : TI.of P t = some i) (X Y : Operand) (op : BinOp) {x y : PV} {u v : Value} (hu : VR Γ w x u) (hv : VR Γ w y v) {r : PV} (h : evBin i.k (isConst X || isConst Y) op x y = some r) :
    ∃ q, (do eqGuard op t X Y u v; binOp op t u v : Sem Value).run P w = .ok q w ∧ VR Γ w r q := by
  obtain ⟨info, d, z, hinfo, hd, hz, hs, hbb, hzz, hkk⟩ := TI.of_some hi
  unfold evBin at h
  split at h
  · rename_i k x' k' y'
    simp only [VR, IR] at hu hv
    subst hu hv
    split at h
    · split at h
      · cases h
      · cases h; rename_i hy; refine ⟨_, by simp [eqGuard, binOp, Op.shift, hy] <;> rfl, ?_⟩; simp only [VR, IR]
    · split at h
      · cases h
      · cases h; rename_i hy; refine ⟨_, by simp [eqGuard, binOp, Op.shift, hy] <;> rfl, ?_⟩; simp only [VR, IR]
    · split at h
      · rename_i hk; subst hk
        exact evInt_sound op _ _ _ t X Y h
      · cases h
  · rename_i s t'
    simp only [VR, IR] at hu hv
    subst hu hv
    have e1 := toList_of_list s
    have e2 := toList_of_list t'
    have e3 := append_of_list s t'
    have e4 := size_of_list s
    have e5 := size_of_list t'
    generalize hS : (⟨s.toArray⟩ : ByteArray) = S at *
    generalize hT : (⟨t'.toArray⟩ : ByteArray) = T at *
    split at h
    · split at h
      · rename_i hle
        cases h
        refine ⟨.string ⟨(s ++ t').toArray⟩, ?_, by simp only [VR, IR]⟩
        have : ¬ ((S.size + T.size : Nat) : Int) > IntKind.i64.max := by rw [e4, e5]; have : IntKind.i64.max = 9223372036854775807 := rfl; omega
        simp [eqGuard, binOp, Op.stringOp, e3]
        simpa using this
      · cases h
    all_goals first
      | (cases h; refine ⟨_, by simp [eqGuard, binOp, Op.stringOp]; rfl, ?_⟩; simp [VR, IR, e1, e2])
      | cases h
  · rename_i x y
    simp only [VR, IR] at hu hv
    subst hu hv
    split at h
    · rename_i hk
      have hd1 : d = .bool := by cases d <;> first | rfl | (rw [hk] at hkk; first | (cases hkk; done) | (simp only at hkk; split at hkk <;> cases hkk))
      subst hd1
      have hd' := hd
      unfold evNil at h
      split at h
      · cases h; exact ⟨_, by simp [eqGuard, binOp, equal_deep, run_equalIn_bool w 9999 t _ _ hd']; rfl, by simp [VR, IR]⟩
      · cases h; exact ⟨_, by simp [eqGuard, binOp, equal_deep, run_equalIn_bool w 9999 t _ _ hd']; rfl, by simp [VR, IR]⟩
      · cases h
    · cases h
  · simp only [VR, IR] at hu hv
    subst hu hv
    split at h
    · rename_i hk hc
      have hd1 : ∃ ms, d = .interface ms := by cases d <;> first | exact ⟨_, rfl⟩ | (rw [hk] at hkk; first | (cases hkk; done) | (simp only at hkk; split at hkk <;> cases hkk))
      obtain ⟨ms, rfl⟩ := hd1
      have hd' := hd
      unfold evNil at h
      split at h
      · cases h; exact ⟨.bool true, by cases X <;> cases Y <;> simp [isConst] at hc <;> simp [eqGuard, binOp, equal_deep, run_eq_nil hd'], by simp [VR, IR]⟩
      · cases h; exact ⟨.bool false, by cases X <;> cases Y <;> simp [isConst] at hc <;> simp [eqGuard, binOp, equal_deep, run_eq_nil hd'], by simp [VR, IR]⟩
      · cases h
    · cases h
  · simp only [VR, IR] at hu hv
    obtain ⟨ty, q, rfl⟩ := hu
    subst hv
    split at h
    · rename_i hk
      have hd1 : ∃ ms, d = .interface ms := by cases d <;> first | exact ⟨_, rfl⟩ | (rw [hk] at hkk; first | (cases hkk; done) | (simp only at hkk; split at hkk <;> cases hkk))
      obtain ⟨ms, rfl⟩ := hd1
      have hd' := hd
      unfold evNil at h
      split at h
      · cases h; exact ⟨.bool false, by simp [eqGuard, binOp, equal_deep, run_eq_err hd'], by simp [VR, IR]⟩
      · cases h; exact ⟨.bool true, by simp [eqGuard, binOp, equal_deep, run_eq_err hd'], by simp [VR, IR]⟩
      · cases h
    · cases h
  · cases h

theorem evUn_sound (op : UnOp) {x : PV} {u : Value} (hu : VR Γ w x u) {r : PV} (h : evUn op x = some r) : ∃ q, (Op.unary op u).run P w = .ok q w ∧ VR Γ w r q := by
  unfold evUn at h
  split at h
  · simp only [VR, IR] at hu
    subst hu
    split at h
    · cases h; refine ⟨_, by simp [Op.unary] <;> rfl, ?_⟩; simp only [VR, IR]
    · cases h
  · simp only [VR, IR] at hu
    subst hu
    split at h
    · cases h; refine ⟨_, by simp [Op.unary, Op.intArith] <;> rfl, ?_⟩; simp [VR, IR]
    · cases h
  · cases h

end
end Go.Proofs.YthcmcjkljjfccaaGreatDoor.Abs
set_option linter.unusedVariables false
namespace Go.Proofs.YthcmcjkljjfccaaGreatDoor.Abs
open Go Go.RowKit

section
variable {P : Program} {B : Base} {w w' : World} {Γ Γ' : Gh} {st : St} {a : Act} {S : Nat → Prop}

theorem TI.strct {t : TypeId} {i : TI} (hi : TI.of P t = some i) {fs : List (Nat × Nat)} (hk : i.k = .strct fs) : ∃ ff, P.underlying t = some (.struct ff) ∧ (fs = ff.toList.map fun f => (f.offset, P.cellsOf f.type)) ∧ ff.toList.all (fun f => (P.info? f.type).isSome) = true := by
  obtain ⟨info, d, z, hinfo, hd, hz, hs, hbb, hzz, hkk⟩ := TI.of_some hi
  rw [hk] at hkk
  cases d <;> first | cases hkk | skip
  simp only at hkk
  split at hkk
  · rename_i hall
    cases hkk
    exact ⟨_, hd, rfl, hall⟩
  · cases hkk
theorem TI.slice {t : TypeId} {i : TI} (hi : TI.of P t = some i) {e : TypeId} (hk : i.k = .slice e) : P.underlying t = some (.slice e) := by
  obtain ⟨info, d, z, hinfo, hd, hz, hs, hbb, hzz, hkk⟩ := TI.of_some hi
  rw [hk] at hkk
  cases d <;> first | (cases hkk; done) | (simp only at hkk; split at hkk <;> cases hkk; done) | skip
  all_goals (cases hkk; exact hd)
theorem TI.str {t : TypeId} {i : TI} (hi : TI.of P t = some i) (hk : i.k = .str) : P.underlying t = some .string := by
  obtain ⟨info, d, z, hinfo, hd, hz, hs, hbb, hzz, hkk⟩ := TI.of_some hi
  rw [hk] at hkk
  cases d <;> first | (cases hkk; done) | (simp only at hkk; split at hkk <;> cases hkk; done) | skip
  all_goals (cases hkk; exact hd)
theorem TI.int {t : TypeId} {i : TI} (hi : TI.of P t = some i) {k : IntKind} (hk : i.k = .int k) : P.underlying t = some (.int k) := by
  obtain ⟨info, d, z, hinfo, hd, hz, hs, hbb, hzz, hkk⟩ := TI.of_some hi
  rw [hk] at hkk
  cases d <;> first | (cases hkk; done) | (simp only at hkk; split at hkk <;> cases hkk; done) | skip
  all_goals (cases hkk; exact hd)

theorem cellsOf_info {t : TypeId} (h : 0 < P.cellsOf t) : ∃ q, P.info? t = some q ∧ q.size = P.cellsOf t := by
  unfold Program.cellsOf at h ⊢
  cases hq : P.info? t with
  | none => simp [hq] at h
  | some q => exact ⟨q, rfl, rfl⟩

theorem live_loc (h : SR B Γ st a w) {nm : Nm} {len off : Nat} {v : Value} (hv : VR Γ w (.loc nm len off) v) (hl : live st.H nm len = true) :
    ∃ r k, Γ.K nm = some r ∧ r.len = len ∧ r.block = some k ∧ v = .pointer (some ⟨k, off, none⟩) := by
  unfold live at hl
  split at hl
  · rename_i b hb
    simp only [VR] at hv
    obtain ⟨r, hr, hle, hv⟩ := hv
    have hrr := h.res nm b r hb hr
    have : r.len = len := by rw [RR_len hrr]; simpa using hl
    obtain ⟨k, hk, rfl⟩ := hv this
    exact ⟨r, k, hr, this, hk, rfl⟩
  · cases hl

theorem field_sound (h : SR B Γ st a w) {t : TypeId} {i : TI} (hi : TI.of P t = some i) {x : PV} {v : Value} (hv : VR Γ w x v) (f : Nat) {e : Eff} (he : evField i f st.H x = some e) :
    ∃ u, (Instr.fieldAt t v f).run P w = .ok u w ∧ VR Γ w e.v u ∧ e.wr = [] := by
  unfold evField at he
  split at he
  · rename_i nm len off
    split at he
    · rename_i fs hk
      split at he
      · rename_i o s hf
        split at he
        · rename_i hc
          obtain ⟨hs, hl⟩ := hc
          cases he
          obtain ⟨r, k, hr, hlen, hb, rfl⟩ := live_loc h hv hl
          obtain ⟨ff, hu, rfl, hall⟩ := TI.strct hi hk
          rw [List.getElem?_map, Option.map_eq_some_iff] at hf
          obtain ⟨fl, hfl, hq⟩ := hf
          cases hq
          obtain ⟨q, hq1, hq2⟩ := cellsOf_info hs
          have hfl' : ff[f]? = some fl := by simpa using hfl
          refine ⟨.pointer (some ⟨k, off + fl.offset, none⟩), ?_, ?_, rfl⟩
          · simp [Instr.fieldAt, Instr.sureAddr, run_underlying_of hu, hfl', fieldPlace, run_sizeOf_of hq1, add_pl]
            intro h0; omega
          · simp only [VR]
            exact ⟨r, hr, by omega, fun _ => ⟨k, hb, rfl⟩⟩
        · cases he
      · cases he
    · cases he
  · rename_i cs
    split at he
    · rename_i fs hk
      split at he
      · rename_i o s hf
        split at he
        · rename_i hs
          cases he
          simp only [VR, IR] at hv
          obtain ⟨ad, rfl, hcr⟩ := hv
          obtain ⟨ff, hu, rfl, hall⟩ := TI.strct hi hk
          rw [List.getElem?_map, Option.map_eq_some_iff] at hf
          obtain ⟨fl, hfl, hq⟩ := hf
          cases hq
          obtain ⟨q, hq1, hq2⟩ := cellsOf_info hs
          have hfl' : ff[f]? = some fl := by simpa using hfl
          refine ⟨.pointer (some (ad.add fl.offset)), ?_, ?_, rfl⟩
          · simp [Instr.fieldAt, Instr.sureAddr, run_underlying_of hu, hfl', fieldPlace, run_sizeOf_of hq1]
            intro h0; omega
          · simp only [VR, IR]
            exact ⟨_, rfl, CR_drop _ hcr⟩
        · cases he
      · cases he
    · cases he
  · cases he

theorem indexAddr_sound (h : SR B Γ st a w) {t e : TypeId} {i j : TI} (hi : TI.of P t = some i) (hk : i.k = .slice e) (hj : TI.of P e = some j) {x y : PV} {v u : Value} (hv : VR Γ w x v) (hu : VR Γ w y u) {ef : Eff} (he : evIndexAddr j.size st.H x y = some ef) :
    ∃ q, (Instr.indexAt t v u).run P w = .ok q w ∧ VR Γ w ef.v q ∧ ef.wr = [] := by
  have ht := TI.slice hi hk
  obtain ⟨info, d, z, hinfo, hd, hz, hs, hbb, hzz, hkk⟩ := TI.of_some hj
  unfold evIndexAddr at he
  split at he
  · rename_i n cs kk ix
    split at he
    · rename_i hc
      obtain ⟨h0, h1, h2⟩ := hc
      cases he
      simp only [VR, IR] at hv hu
      subst hu
      obtain ⟨A, c, rfl, hn, hm, hcs⟩ := hv
      rcases hcs with hcs | ⟨ad, rfl, hcr⟩
      · exact absurd hcs h2
      · refine ⟨.pointer (some (ad.add (ix.toNat * info.size))), ?_, ?_, rfl⟩
        · simp [Instr.indexAt, asIntOf, run_underlying_of ht, h0, h1, run_sizeOf_of hinfo]
        · simp only [VR, IR]
          rw [hs]
          exact ⟨_, rfl, CR_drop _ hcr⟩
    · cases he
  · rename_i nm n kk ix
    split at he
    · rename_i hc
      obtain ⟨h0, h1, h2⟩ := hc
      cases he
      simp only [VR, IR] at hu
      subst hu
      unfold live at h2
      split at h2
      · rename_i b hb
        simp only [VR] at hv
        obtain ⟨r, hr, hle, ho, hv⟩ := hv
        have hrr := h.res nm b r hb hr
        have hlen : r.len = n := by rw [RR_len hrr]; simpa using h2
        obtain ⟨v', rfl, rfl⟩ := hv hlen
        obtain ⟨q1, ee, sz, l, q2, q3, q4, q5, q6⟩ := hrr
        obtain ⟨o1, o2⟩ := q4
        rcases o2 with ⟨rfl, hn0⟩ | ⟨g, cap, cur, rfl, hg, hh, hc1, hc2, hc3, hc4⟩
        · omega
        · refine ⟨.pointer (some ⟨g, ix.toNat * info.size, none⟩), ?_, ?_, rfl⟩
          · simp [Instr.indexAt, asIntOf, run_underlying_of ht, h0, h1, run_sizeOf_of hinfo, add_pl]
          · simp only [VR]
            rw [hs]
            exact ⟨_, hr, hle, fun _ => ⟨g, rfl, rfl⟩⟩
      · cases h2
    · cases he
  · cases he

theorem bytes_get (s : List UInt8) (n : Nat) : (⟨s.toArray⟩ : ByteArray)[n]? = s[n]? := by
  by_cases h : n < s.length
  · rw [getElem?_pos (⟨s.toArray⟩ : ByteArray) n (by rw [size_of_list]; exact h), getElem?_pos s n h]
    rfl
  · rw [getElem?_neg (⟨s.toArray⟩ : ByteArray) n (by rw [size_of_list]; exact h), getElem?_neg s n h]

theorem index_sound {t : TypeId} {i : TI} (hi : TI.of P t = some i) (hk : i.k = .str) {x y : PV} {v u : Value} (hv : VR Γ w x v) (hu : VR Γ w y u) {r : PV} (he : evIndex x y = some r) :
    ∃ q, (Instr.index t v u).run P w = .ok q w ∧ VR Γ w r q := by
  have ht := TI.str hi hk
  unfold evIndex at he
  split at he
  · rename_i s kk ix
    simp only [VR, IR] at hv hu
    subst hv hu
    split at he
    · rename_i h0
      rw [Option.map_eq_some_iff] at he
      obtain ⟨b, hb, rfl⟩ := he
      have hb' : (⟨s.toArray⟩ : ByteArray)[ix.toNat]? = some b := by
        rw [← hb]
        exact bytes_get s _
      exact ⟨.int .u8 b.toNat, by simp [Instr.index, asIntOf, run_underlying_of ht, h0, hb'], by simp [VR, IR]⟩
    · cases he
  · cases he

theorem extract_sound {vs : List PV} {v : Value} (hv : VR Γ w (.tup vs) v) {j : Nat} {r : PV} (he : vs[j]? = some r) : ∃ q, (Instr.extract v j).run P w = .ok q w ∧ VR Γ w r q := by
  simp only [VR] at hv
  obtain ⟨l, rfl, hl⟩ := hv
  obtain ⟨c, hc, hv⟩ := LR_get hl j r he
  exact ⟨c, by simp [Instr.extract, hc], hv⟩

end
end Go.Proofs.YthcmcjkljjfccaaGreatDoor.Abs
set_option linter.unusedVariables false
namespace Go.Proofs.YthcmcjkljjfccaaGreatDoor.Abs
open Go Go.RowKit

section
variable {P : Program} {B : Base} {w w' : World} {Γ Γ' : Gh} {st : St} {a : Act} {S : Nat → Prop}

theorem CR_take : ∀ (o : Nat) {cs : List PV} {ad : Addr}, CR S w cs ad → CR S w (cs.take o) ad
  | 0, cs, ad, h => by simp [CR]
  | o + 1, [], ad, h => by simp [CR]
  | o + 1, u :: us, ad, h => by
    simp only [CR] at h
    simp only [List.take_succ_cons, CR]
    exact ⟨h.1, CR_take o h.2⟩

theorem extract_of_list (s : List UInt8) (l h : Nat) : (⟨s.toArray⟩ : ByteArray).extract l h = ⟨((s.take h).drop l).toArray⟩ := by
  apply ByteArray.ext
  simp [List.drop_take]

theorem run_sliceAt_of {t e : TypeId} {info : TypeInfo} (ht : P.underlying t = some (.slice e)) (he : P.info? e = some info) (A : Option Addr) (n c : Nat) (lo hi : Option Value) (l h : Nat) (hb : (Instr.sliceBounds true n c lo hi none).run P w = .ok (l, h, c) w) :
    (Instr.sliceAt t (.slice A n c) lo hi none).run P w = .ok (.slice (if c = l then A else A.map (·.add (l * info.size))) (h - l) (c - l)) w := by
  simp [Instr.sliceAt, run_underlying_of ht, Instr.slice, hb, run_sizeOf_of he]

theorem bounds_of (b : Bool) (n c : Nat) {lo hi : Option PV} {lo' hi' : Option Value} (hlo : ∀ x, lo = some x → ∃ v, lo' = some v ∧ VR Γ w x v) (hln : lo = none → lo' = none) (hhi : ∀ x, hi = some x → ∃ v, hi' = some v ∧ VR Γ w x v) (hhn : hi = none → hi' = none)
    {l h : Nat} (hl : cutLo lo = some l) (hh : cutHi n hi = some h) (h1 : l ≤ h) (h2 : h ≤ n) (h3 : n ≤ c) : (Instr.sliceBounds b n c lo' hi' none).run P w = .ok (l, h, c) w := by
  have hh' : ∃ k : IntKind, hi' = none ∧ h = n ∨ hi' = some (.int k h) := by
    unfold cutHi at hh
    split at hh
    · cases hh; exact ⟨.i64, .inl ⟨hhn rfl, rfl⟩⟩
    · rename_i k q
      split at hh
      · cases hh
        obtain ⟨v, hv, hr⟩ := hhi _ rfl
        simp only [VR, IR] at hr
        subst hr
        refine ⟨k, .inr ?_⟩
        rw [hv]
        congr
        omega
      · cases hh
    · cases hh
  have hl' : ∃ k : IntKind, lo' = none ∧ l = 0 ∨ lo' = some (.int k l) := by
    unfold cutLo at hl
    split at hl
    · cases hl; exact ⟨.i64, .inl ⟨hln rfl, rfl⟩⟩
    · rename_i k q
      split at hl
      · cases hl
        obtain ⟨v, hv, hr⟩ := hlo _ rfl
        simp only [VR, IR] at hr
        subst hr
        refine ⟨k, .inr ?_⟩
        rw [hv]
        congr
        omega
      · cases hl
    · cases hl
  obtain ⟨k1, hh'⟩ := hh'
  obtain ⟨k2, hl'⟩ := hl'
  rcases hh' with ⟨rfl, rfl⟩ | rfl <;> rcases hl' with ⟨rfl, rfl⟩ | rfl
  · simp [Instr.sliceBounds]
  · have : (0:Int) ≤ l ∧ (l : Int) ≤ h := by omega
    simp [Instr.sliceBounds, Instr.sliceBound, asIntOf, this]; omega
  · have : (0:Int) ≤ h ∧ (h : Int) ≤ c := by omega
    simp [Instr.sliceBounds, Instr.sliceBound, asIntOf, this]; omega
  · have : (0:Int) ≤ h ∧ (h : Int) ≤ c := by omega
    have h' : (0:Int) ≤ l ∧ (l : Int) ≤ h := by omega
    have e1 : (Instr.sliceBound (.int k1 h) c (if b then .sliceAcap else .sliceAlen)).run P w = .ok h w := by
      simp only [Instr.sliceBound, asIntOf, Sem.run_bind, Sem.run_pure, Result.andThen_ok, if_pos this]; simp
    have e2 : (Instr.sliceBound (.int k2 l) h (if (none : Option Value).isSome then .slice3C else .sliceB)).run P w = .ok l w := by
      simp only [Instr.sliceBound, asIntOf, Sem.run_bind, Sem.run_pure, Result.andThen_ok, if_pos h']; simp
    simp only [Instr.sliceBounds, Sem.run_bind, Sem.run_pure, Result.andThen_ok, e1, e2]

theorem slice_sound_str {t : TypeId} {i : TI} (hi : TI.of P t = some i) (hk : i.k = .str) {lo hi' : Option PV} {lo1 hi1 : Option Value} (hlo : ∀ x, lo = some x → ∃ v, lo1 = some v ∧ VR Γ w x v) (hln : lo = none → lo1 = none) (hhi : ∀ x, hi' = some x → ∃ v, hi1 = some v ∧ VR Γ w x v) (hhn : hi' = none → hi1 = none)
    {x : PV} {v : Value} (hv : VR Γ w x v) (hx : isStr x = true) {r : PV} {sz : Nat} (he : evSlice sz lo hi' x = some r) : ∃ q, (Instr.sliceAt t v lo1 hi1 none).run P w = .ok q w ∧ VR Γ w r q := by
  have ht := TI.str hi hk
  obtain ⟨s, rfl⟩ : ∃ s, x = .str s := by cases x <;> first | exact ⟨_, rfl⟩ | cases hx
  simp only [VR, IR] at hv
  subst hv
  simp only [evSlice] at he
  split at he
  · rename_i l h hl hh
    split at he
    · rename_i hc
      cases he
      have hb := bounds_of (P := P) false s.length s.length hlo hln hhi hhn hl hh hc.1 hc.2 (Nat.le_refl _)
      rw [← size_of_list s] at hb
      refine ⟨.string ⟨((s.take h).drop l).toArray⟩, ?_, by simp only [VR, IR]⟩
      simp only [Instr.sliceAt, Sem.run_bind, run_underlying_of ht, Result.andThen_ok, Instr.slice]
      simp [hb, extract_of_list]
    · cases he
  · cases he

theorem slice_sound_sl {t e : TypeId} {i j : TI} (hi : TI.of P t = some i) (hk : i.k = .slice e) (hj : TI.of P e = some j) {lo hi' : Option PV} {lo1 hi1 : Option Value} (hlo : ∀ x, lo = some x → ∃ v, lo1 = some v ∧ VR Γ w x v) (hln : lo = none → lo1 = none) (hhi : ∀ x, hi' = some x → ∃ v, hi1 = some v ∧ VR Γ w x v) (hhn : hi' = none → hi1 = none)
    {x : PV} {v : Value} (hv : VR Γ w x v) (hx : isStr x = false) {r : PV} (he : evSlice j.size lo hi' x = some r) : ∃ q, (Instr.sliceAt t v lo1 hi1 none).run P w = .ok q w ∧ VR Γ w r q := by
  have ht := TI.slice hi hk
  obtain ⟨info, d, z, hinfo, hd, hz, hs, hbb, hzz, hkk⟩ := TI.of_some hj
  cases x <;> simp only [evSlice] at he <;> try (cases he; done)
  · cases hx
  · simp only [VR, IR] at hv
    subst hv
    split at he
    · rename_i l h hl hh
      split at he
      case isFalse => cases he
      rename_i hc
      obtain ⟨rfl, rfl⟩ := hc
      cases he
      have hb := bounds_of (P := P) true 0 0 hlo hln hhi hhn hl hh (Nat.le_refl _) (Nat.le_refl _) (Nat.le_refl _)
      refine ⟨_, run_sliceAt_of ht hinfo none 0 0 lo1 hi1 0 0 hb, by simp [VR, IR]⟩
    · cases he
  · rename_i n cs
    simp only [VR, IR] at hv
    obtain ⟨A, c, rfl, hn, hm, hcs⟩ := hv
    split at he
    · rename_i l h hl hh
      split at he
      · rename_i hc
        obtain ⟨c1, c2, c3⟩ := hc
        cases he
        have hb := bounds_of (P := P) true n c hlo hln hhi hhn hl hh c1 c2 hn
        refine ⟨_, run_sliceAt_of ht hinfo A n c lo1 hi1 l h hb, ?_⟩
        simp only [VR, IR]
        refine ⟨_, _, rfl, by omega, by omega, ?_⟩
        rcases hcs with rfl | ⟨ad, rfl, hcr⟩
        · left; simp
        · by_cases hcl : c = l
          · left
            have : h = l := by omega
            subst this
            simp
          · right
            simp only [hcl, if_false]
            refine ⟨_, rfl, ?_⟩
            rw [hs]
            exact CR_drop _ (CR_take _ hcr)
      · cases he
    · cases he

end
end Go.Proofs.YthcmcjkljjfccaaGreatDoor.Abs
set_option linter.unusedVariables false
namespace Go.Proofs.YthcmcjkljjfccaaGreatDoor.Abs
open Go Go.RowKit

section
variable {P : Program} {B : Base} {w w' : World} {Γ Γ' : Gh} {st : St} {a : Act} {S : Nat → Prop}

theorem Keep.grown {w w' : World} (h : w.grownBy w' none) : Keep (fun _ => False) w w' := ⟨h.os, h.tape, h.output, h.size, fun k hk _ => h.block k hk (by simp)⟩
theorem Keep.alloc (w : World) (o : Obj) : Keep (fun _ => False) w (w.alloc o) := Keep.grown (World.grownBy_alloc w o none)

theorem SR.lt (h : SR B Γ st a w) {i : Nm} (hi : st.H i ≠ none) : i.1 < st.t := by
  rcases Nat.lt_or_ge i.1 st.t with h' | h'
  · exact h'
  · exact absurd (h.fresh i h') hi

/-- A new resource. -/
theorem SR.create (h : SR B Γ st a w) (nm : Nm) (hnm : st.H nm = none) (ht : nm.1 < st.t) (b' : Buf) (r' : KR) (hw : Keep (fun _ => False) w w')
    (hR : ∀ Γ' : Gh, (∀ cs l, LR Γ w cs l → LR Γ' w' cs l) → RR Γ' w' b' r') (hb : ∀ k, r'.block = some k → w.heap.size ≤ k ∧ k < w'.heap.size) :
    SR B { S := Γ.S, K := updK Γ.K nm r' } { fr := st.fr, H := upd st.H nm b', t := st.t } a w' := by
  have hKn : Γ.K nm = none := (h.dom nm).2 hnm
  refine h.res_step nm b' r' w.heap.size ⟨hw.os, hw.tape, hw.output, hw.size, fun k hk _ => hw.block k hk id⟩ (.inl (Nat.le_refl _)) (.inl hKn) ?_ (fun k hk => .inl (hb k hk)) ht
  intro Γ' hS hK
  refine hR Γ' fun cs l hl => LR_mono (fun k hk => hS ▸ hk) (fun k hk => hw.block k (h.sok k hk) id) ?_ cs l hl
  intro i r hr
  refine ⟨r, ?_, .inl rfl⟩
  rw [hK]
  unfold updK
  have : i ≠ nm := by rintro rfl; rw [hKn] at hr; cases hr
  simp [this, hr]

/-- A variable is made. -/
theorem SR.box (h : SR B Γ st a w) (d : Nat) (hd : d < B.N) (τ : Nat) (hτ : τ < st.t) (hnm : st.H (τ, d, 0) = none) (cs : List PV) (l : List Value) (hl : LR Γ w cs l) (h1 : ∀ u ∈ l, u.oneCell' = true) (e : TypeId) (rd : List Nm) :
    ∃ Γ', SR B Γ' (st.app (some d) ⟨.loc (τ, d, 0) 0 0, rd, [((τ, d, 0), ⟨none, 0, cs⟩)]⟩) (a.put (some d) (.pointer (some ⟨w.heap.size, 0, none⟩))) (w.alloc (.cells l.toArray e)) := by
  have hnew := heap_alloc_new w (.cells l.toArray e)
  have hsz : (w.alloc (.cells l.toArray e)).heap.size = w.heap.size + 1 := by simp
  have hc := h.create (τ, d, 0) hnm hτ ⟨none, 0, cs⟩ (.box w.heap.size) (Keep.alloc w (.cells l.toArray e)) (by
    intro Γ' hm
    exact ⟨rfl, rfl, l, e, l.toArray, hnew, by simp, by simp, hm _ _ hl, h1⟩) (by
    intro k hk
    cases hk
    exact ⟨Nat.le_refl _, by omega⟩)
  refine ⟨_, hc.put (some d) (fun k hk => by cases hk; exact hd) (.loc (τ, d, 0) 0 0) rd _ ?_⟩
  simp only [VR]
  exact ⟨.box w.heap.size, by simp [updK], Nat.le_refl _, fun _ => ⟨_, rfl, rfl⟩⟩

/-- A row is made. -/
theorem SR.row (h : SR B Γ st a w) (d : Nat) (hd : d < B.N) (τ : Nat) (hτ : τ < st.t) (hnm : st.H (τ, d, 0) = none) (cs : List PV) (l : List Value) (hl : LR Γ w cs l) (h1 : ∀ u ∈ l, u.oneCell' = true) (e : TypeId) (sz : Nat) (hsz : 0 < sz) (n : Nat) (v : Value)
    (hw : Keep (fun _ => False) w w') (hown : w'.ownsRow w.heap.size e sz v n l) (rd : List Nm) :
    ∃ Γ', SR B Γ' (st.app (some d) ⟨.ref (τ, d, 0) n, rd, [((τ, d, 0), ⟨some (e, sz), n, cs⟩)]⟩) (a.put (some d) v) w' := by
  have hown0 : w'.ownsRow 0 e sz v n l := by
    obtain ⟨o1, o2⟩ := hown
    refine ⟨o1, o2.imp id ?_⟩
    rintro ⟨g, cap, cur, q1, q2, q3⟩
    exact ⟨g, cap, cur, q1, Nat.zero_le _, q3⟩
  have hc := h.create (τ, d, 0) hnm hτ ⟨some (e, sz), n, cs⟩ (.row n v) hw (by
    intro Γ' hm
    exact ⟨rfl, e, sz, l, rfl, hsz, hown0, hm _ _ hl, h1⟩) (by
    intro k hk
    exact hown.lt k hk)
  refine ⟨_, hc.put (some d) (fun k hk => by cases hk; exact hd) (.ref (τ, d, 0) n) rd v ?_⟩
  simp only [VR]
  refine ⟨.row n v, by simp [updK], Nat.le_refl _, ?_, fun _ => ⟨v, rfl, rfl⟩⟩
  rcases hown0.2 with ⟨rfl, _⟩ | ⟨g, cap, cur, rfl, _⟩ <;> rfl

theorem made_list (l : List Value) (s : Nat) (hs : l.length = s) : ∀ n, ((List.range (n * s)).map fun i => l.toArray[i % l.toArray.size]!) = (List.replicate n l).flatten
  | 0 => by simp
  | n + 1 => by
    rw [Nat.add_mul, Nat.one_mul, List.range_add, List.map_append, made_list l s hs n]
    have e1 : (List.replicate (n + 1) l).flatten = (List.replicate n l).flatten ++ l := by
      rw [List.replicate_succ', List.flatten_append]; simp
    rw [e1, List.map_map]
    congr 1
    apply List.ext_getElem
    · simp [hs]
    · intro i h1 h2
      have hi : i < s := by omega
      simp only [List.getElem_map, List.getElem_range, Function.comp_apply]
      have hm : (n * s + i) % l.toArray.size = i := by
        rw [List.size_toArray, hs, Nat.mul_comm, Nat.mul_add_mod]
        exact Nat.mod_eq_of_lt hi
      rw [hm]
      simp [getElem!_pos, h2]

theorem madeCells_list (z : Value) (s : Nat) (hs : z.cells.toList.length = s) (n : Nat) : (madeCells z.cells (n * s)).toList = (List.replicate n z.cells.toList).flatten := by
  rw [← made_list z.cells.toList s hs n]
  simp [madeCells]

theorem all_rep {cs : List PV} (h : cs.all isCell = true) (n : Nat) : (List.replicate n cs).flatten.all isCell = true := by
  induction n with
  | zero => simp
  | succ n ih => simp only [List.replicate_succ, List.flatten_cons, List.all_append, ih, h, Bool.and_self]

theorem foldl_set (cs : List Value) : ∀ (ds : List Value) (o k : Nat) (pre mid post : List Value), cs = pre ++ mid ++ post → pre.length = o + k → mid.length = ds.length →
    ((ds.zipIdx k).foldl (fun (cs : Array Value) (c, j) => cs.setIfInBounds (o + j) c) cs.toArray) = (pre ++ ds ++ post).toArray
  | [], o, k, pre, mid, post, hcs, hp, hm => by
    have : mid = [] := List.eq_nil_of_length_eq_zero (by simpa using hm)
    subst this hcs; simp
  | d :: ds, o, k, pre, m :: mid, post, hcs, hp, hm => by
    simp only [List.zipIdx_cons, List.foldl_cons]
    have e : (cs.toArray.setIfInBounds (o + k) d) = (pre ++ [d] ++ mid ++ post).toArray := by
      subst hcs
      rw [← hp]
      simp
    rw [e]
    have := foldl_set (pre ++ [d] ++ mid ++ post) ds o (k + 1) (pre ++ [d]) mid post (by simp) (by simp; omega) (by simpa using hm)
    rw [this]
    simp
  | d :: ds, o, k, pre, [], post, hcs, hp, hm => by simp at hm

theorem splice_length {cs ds : List PV} {o : Nat} (h : o + ds.length ≤ cs.length) : (splice cs ds o).length = cs.length := by
  unfold splice; simp; omega

/-- A literal's parts are put into their places. -/
theorem fill_sound (place : Nat → Option (Nat × Nat)) : ∀ (parts : List (Nat × PV)) (parts' : List (Nat × Value)) (cs : List PV) (l : List Value) (r : List PV), LR Γ w cs l → (∀ u ∈ l, u.oneCell' = true) →
    parts.length = parts'.length → (∀ (j : Nat) (p : Nat × PV) (p' : Nat × Value), parts[j]? = some p → parts'[j]? = some p' → p.1 = p'.1 ∧ VR Γ w p.2 p'.2) → fillL place cs parts = some r →
    ∃ l', Instr.fill place l.toArray parts' = some l'.toArray ∧ LR Γ w r l' ∧ ∀ u ∈ l', u.oneCell' = true
  | [], [], cs, l, r, hl, h1, _, _, hf => by
    simp only [fillL] at hf
    cases hf
    exact ⟨l, rfl, hl, h1⟩
  | (i, x) :: parts, (i', v) :: parts', cs, l, r, hl, h1, hlen, hp, hf => by
    obtain ⟨e1, hv⟩ := hp 0 _ _ rfl rfl
    simp only at e1 hv
    subst e1
    simp only [fillL] at hf
    split at hf
    · cases hf
    · rename_i o s hpl
      split at hf
      · rename_i hc
        obtain ⟨c1, c2, c3⟩ := hc
        obtain ⟨m, hm, hml⟩ := VR_cells hv c3
        have h1m := all_isCell c3 hml
        have hmlen := LR_length hml
        have hllen := LR_length hl
        have hsp : LR Γ w (splice cs x.cells o) (l.take o ++ m ++ l.drop (o + x.cells.length)) := LR_splice hl hml o _
        obtain ⟨l', hl1, hl2, hl3⟩ := fill_sound place parts parts' _ _ r hsp (by
          intro u hu
          simp only [List.mem_append] at hu
          rcases hu with (hu | hu) | hu
          · exact h1 u (List.mem_of_mem_take hu)
          · exact h1m u hu
          · exact h1 u (List.mem_of_mem_drop hu)) (by simpa using hlen) (fun j p p' h2 h3 => hp (j + 1) p p' (by simpa using h2) (by simpa using h3)) hf
        refine ⟨l', ?_, hl2, hl3⟩
        simp only [Instr.fill, hpl]
        have hsz : v.cells.size = s := by rw [hm]; simp; omega
        rw [if_neg (by simp [hsz]; omega)]
        rw [← hl1]
        congr 1
        rw [hm]
        have := foldl_set l m o 0 (l.take o) ((l.drop o).take m.length) (l.drop (o + m.length)) (by
          rw [List.append_assoc, ← List.drop_drop, List.take_append_drop, List.take_append_drop]) (by simp; omega) (by simp; omega)
        rw [← hmlen, ← this]
        simp
      · cases hf
  | [], _ :: _, _, _, _, _, _, h, _, _ => by simp at h
  | _ :: _, [], _, _, _, _, _, h, _, _ => by simp at h

end
end Go.Proofs.YthcmcjkljjfccaaGreatDoor.Abs
set_option linter.unusedVariables false
namespace Go.Proofs.YthcmcjkljjfccaaGreatDoor.Abs
open Go Go.RowKit

section
variable {P : Program} {B : Base} {w w' : World} {Γ Γ' : Gh} {st : St} {a : Act} {S : Nat → Prop}

theorem rowOf_sound (h : SR B Γ st a w) {sz : Nat} (hsz : 0 < sz) {x : PV} {v : Value} (hv : VR Γ w x v) {m : Nat} {cs : List PV} {rd : List Nm} (he : rowOf st.H sz x = some (m, cs, rd)) :
    ∃ A c l, v = .slice A m c ∧ LR Γ w cs l ∧ l.length = m * sz ∧ (∀ u ∈ l, u.oneCell' = true) ∧ (A = none → m = 0) ∧ ∀ ad, A = some ad → ∀ (j : Nat) u, l[j]? = some u → w.cell? (ad.add j) = some u := by
  unfold rowOf at he
  split at he
  · rename_i nm n
    split at he
    · rename_i b hb
      split at he
      · rename_i hc
        obtain ⟨c1, c2⟩ := hc
        cases he
        simp only [VR] at hv
        obtain ⟨r, hr, hle, ho, hv⟩ := hv
        have hrr := h.res nm b r hb hr
        obtain ⟨v', rfl, rfl⟩ := hv (by rw [RR_len hrr, c1])
        obtain ⟨q1, e, sz', l, q2, q3, q4, q5, q6⟩ := hrr
        rw [q2] at c2
        cases c2
        have hl := q4.1
        rcases q4.2 with ⟨rfl, hm⟩ | ⟨g, cap, cur, rfl, hg, hh, hc1, hc2, hc3, hc4⟩
        · exact ⟨none, 0, l, by rw [hm], q5, hl, q6, fun _ => hm, by simp⟩
        · refine ⟨some ⟨g, 0, none⟩, cap, l, rfl, q5, hl, q6, by simp, ?_⟩
          intro ad had j u hu
          cases had
          exact q4.cells (g := g) rfl j u hu
      · cases he
    · cases he
  · rename_i n cs'
    split at he
    · rename_i hc
      cases he
      simp only [VR, IR] at hv
      obtain ⟨A, c, rfl, hn, hm, hcs⟩ := hv
      rcases hcs with rfl | ⟨ad, rfl, hcr⟩
      · have : m = 0 := by
          simp only [List.length_nil] at hc
          rcases Nat.eq_zero_or_pos m with h0 | h0
          · exact h0
          · exact absurd hc.symm (Nat.ne_of_gt (Nat.mul_pos h0 hsz))
        subst this
        exact ⟨A, c, [], rfl, rfl, by simp, by simp, by simp, by simp⟩
      · obtain ⟨l, hl, hi, h1, hcell⟩ := CR_cells cs.length hcr (Nat.le_refl _)
        rw [List.take_length] at hi
        refine ⟨some ad, c, l, rfl, LR_of_ILR _ _ hi, by rw [hl, hc], h1, by simp, ?_⟩
        intro ad' had j u hu
        cases had
        exact hcell j u hu
    · cases he
  · cases he
    simp only [VR, IR] at hv
    subst hv
    exact ⟨none, 0, [], rfl, rfl, by simp, by simp, fun _ => rfl, by simp⟩
  · cases he

theorem append_none {t t' ty e : TypeId} {info : TypeInfo} {te' : TypeDesc} (ht : P.underlying t = some (.slice e)) (hi : P.info? e = some info) (A A' : Option Addr) (n c c' : Nat) (hnc : n ≤ c) :
    (Builtin.append_ #[t, t] ty #[.slice A n c, .slice A' 0 c']).run P w = .ok (.slice A n c) w := by
  cases A <;> cases A' <;> simp [Builtin.append_, run_underlying_of ht, run_sizeOf_of hi, Builtin.lenOf, Builtin.firstCells, hnc, loadCells, loadCellsFrom, storeCells]

theorem own_zero {base : Nat} {e : TypeId} {sz n : Nat} {v : Value} {l : List Value} (h : w.ownsRow base e sz v n l) : w.ownsRow 0 e sz v n l := by
  obtain ⟨o1, o2⟩ := h
  refine ⟨o1, o2.imp id ?_⟩
  rintro ⟨g, cap, cur, q1, q2, q3⟩
  exact ⟨g, cap, cur, q1, Nat.zero_le _, q3⟩

/-- A row is appended to. -/
theorem append_sound (h : SR B Γ st a w) {t e ty : TypeId} {i j : TI} (hi : TI.of P t = some i) (hk : i.k = .slice e) (hj : TI.of P e = some j) (hsz : 0 < j.size) (hby : 0 < j.bytes) (hzl : j.zero.length = j.size)
    {nm : Nm} {n : Nat} {v : Value} (hv : VR Γ w (.ref nm n) v) {b : Buf} (hb : st.H nm = some b) (hbn : b.n = n) (hbr : b.row = some (e, j.size)) {x : PV} {u : Value} (hu : VR Γ w x u) {m : Nat} {cs : List PV} {rd : List Nm} (hr : rowOf st.H j.size x = some (m, cs, rd))
    (hbytes : (n + m) * j.bytes ≤ 140737488355328) (d : Nat) (hd : d < B.N) :
    ∃ v' w' Γ', (Builtin.append_ #[t, t] ty #[v, u]).run P w = .ok v' w' ∧ SR B Γ' (st.app (some d) ⟨.ref nm (n + m), nm :: rd, [(nm, ⟨some (e, j.size), n + m, b.cells ++ cs⟩)]⟩) (a.put (some d) v') w' := by
  have ht := TI.slice hi hk
  obtain ⟨info, dd, z, hinfo, hdd, hz, hs, hbb, hzz, hkk⟩ := TI.of_some hj
  obtain ⟨A, c, l, rfl, hl, hll, h1, hA, hcell⟩ := rowOf_sound h hsz hu hr
  simp only [VR] at hv
  obtain ⟨r, hK, hle, ho, hv⟩ := hv
  have hrr := h.res nm b r hb hK
  obtain ⟨v', rfl, rfl⟩ := hv (by rw [RR_len hrr, hbn])
  obtain ⟨q1, e', sz', xs, q2, q3, q4, q5, q6⟩ := hrr
  rw [hbr] at q2
  cases q2
  have hnm : nm.1 < st.t := h.lt (by simp [hb])
  have hmax : n + m ≤ maxLen := by
    have : (n + m) * 1 ≤ (n + m) * j.bytes := Nat.mul_le_mul_left _ hby
    simp only [maxLen]; omega
  -- the machine's part
  have step : ∃ v' w', (Builtin.append_ #[t, t] ty #[v, .slice A m c]).run P w = .ok v' w' ∧ w'.ownsRow 0 e j.size v' (n + m) (xs ++ l) ∧ w.grownBy w' v.ownBlock ∧ (v'.ownBlock = v.ownBlock ∨ v'.ownBlock = some w.heap.size) ∧ (m = 0 → v' = v) := by
    rcases Nat.eq_zero_or_pos m with hm | hm
    · subst hm
      have : l = [] := List.eq_nil_of_length_eq_zero (by simpa using hll)
      subst this
      have hvs : ∃ A' c', v = .slice A' n c' ∧ n ≤ c' := by
        rcases q4.2 with ⟨rfl, hm⟩ | ⟨g, cap, cur, rfl, hg, hh, hc1, hc2, hc3, hc4⟩
        · exact ⟨none, 0, by rw [hm], by omega⟩
        · exact ⟨_, cap, rfl, hc1⟩
      obtain ⟨A', c', rfl, hnc⟩ := hvs
      exact ⟨_, w, append_none (te' := dd) (t' := t) ht hinfo A' A n c' c hnc, by simpa using q4, ⟨rfl, rfl, rfl, Nat.le_refl _, fun _ _ _ => rfl⟩, .inl rfl, fun _ => rfl⟩
    · cases A with
      | none => exact absurd (hA rfl) (by omega)
      | some ad =>
        obtain ⟨v', w', r1, r2, r3, r4, r5⟩ := run_append_own_at (P := P) w 0 t ty e info z j.size j.bytes ht hinfo hz hs.symm hbb.symm (by rw [← hzl, hzz]; simp) hsz v n xs q4 ad m c l hll (hcell ad rfl) h1 hmax hbytes (Nat.zero_le _)
        exact ⟨v', w', r1, r2, r3, r5, fun h0 => absurd h0 (by omega)⟩
  obtain ⟨v', w', hrun, hown, hg, hblk, hm0⟩ := step
  refine ⟨v', w', ?_⟩
  have hSb : ∀ k, Γ.S k → w'.heap[k]? = w.heap[k]? := by
    intro k hk
    refine hg.block k (h.sok k hk) ?_
    intro hb2
    exact (h.own nm _ k hK hb2.symm).1 hk
  have hlen2 : ∀ (r' : KR), r' = .row (n + m) v' → r' = .row n v ∨ (KR.row n v).len < r'.len := by
    rintro r' rfl
    rcases Nat.eq_zero_or_pos m with hm | hm
    · left; subst hm; rw [hm0 rfl]; rfl
    · right; simp [KR.len]; omega
  have key := h.res_step (w' := w') nm ⟨some (e, j.size), n + m, b.cells ++ cs⟩ (.row (n + m) v') ((v.ownBlock).getD w.heap.size)
    ⟨hg.os, hg.tape, hg.output, hg.size, fun k hk hne => hg.block k hk (by intro hb2; rw [← hb2] at hne; exact hne rfl)⟩
    (by
      cases hob : v.ownBlock with
      | none => exact .inl (Nat.le_refl _)
      | some g => exact .inr ⟨_, hK, hob⟩)
    (.inr ⟨_, hK, hlen2 _ rfl⟩)
    (by
      intro Γ' hS' hK'
      refine ⟨rfl, e, j.size, xs ++ l, rfl, hsz, hown, ?_, ?_⟩
      · refine LR_mono (Γ := Γ) (fun k hk => hS' ▸ hk) hSb ?_ _ _ (LR_append q5 hl)
        intro i' r2 hr2
        rw [hK']
        unfold updK
        by_cases hi' : i' = nm
        · subst hi'
          rw [hK] at hr2
          cases hr2
          exact ⟨_, by simp, hlen2 _ rfl⟩
        · exact ⟨r2, by simp [hi', hr2], .inl rfl⟩
      · intro u hu
        rcases List.mem_append.1 hu with hu | hu
        · exact q6 u hu
        · exact h1 u hu)
    (by
      intro k hk
      rcases hblk with hblk | hblk
      · exact .inr ⟨_, hK, by simp only [KR.block] at hk ⊢; rw [← hblk]; exact hk⟩
      · have : k = w.heap.size := by
          simp only [KR.block, hblk] at hk
          cases hk; rfl
        subst this
        exact .inl ⟨Nat.le_refl _, (hown.lt _ hk).2⟩)
    hnm
  refine ⟨_, hrun, key.put (some d) (fun k hk => by cases hk; exact hd) (.ref nm (n + m)) (nm :: rd) v' ?_⟩
  simp only [VR]
  refine ⟨.row (n + m) v', by simp [updK], Nat.le_refl _, ?_, fun _ => ⟨v', rfl, rfl⟩⟩
  rcases hown.2 with ⟨rfl, _⟩ | ⟨g, cap, cur, rfl, _⟩ <;> rfl

/-- Nil is appended to. -/
theorem append_nil_sound (h : SR B Γ st a w) {t e ty : TypeId} {i j : TI} (hi : TI.of P t = some i) (hk : i.k = .slice e) (hj : TI.of P e = some j) (hsz : 0 < j.size) (hby : 0 < j.bytes) (hzl : j.zero.length = j.size)
    {x : PV} {u : Value} (hu : VR Γ w x u) {m : Nat} {cs : List PV} {rd : List Nm} (hr : rowOf st.H j.size x = some (m, cs, rd))
    (hbytes : m * j.bytes ≤ 140737488355328) (d : Nat) (hd : d < B.N) (τ : Nat) (hτ : τ < st.t) (hnm : st.H (τ, d, 0) = none) :
    ∃ v' w' Γ', (Builtin.append_ #[t, t] ty #[.slice none 0 0, u]).run P w = .ok v' w' ∧ SR B Γ' (st.app (some d) ⟨.ref (τ, d, 0) m, rd, [((τ, d, 0), ⟨some (e, j.size), m, cs⟩)]⟩) (a.put (some d) v') w' := by
  have ht := TI.slice hi hk
  obtain ⟨info, dd, z, hinfo, hdd, hz, hs, hbb, hzz, hkk⟩ := TI.of_some hj
  obtain ⟨A, c, l, rfl, hl, hll, h1, hA, hcell⟩ := rowOf_sound h hsz hu hr
  have hmax : 0 + m ≤ maxLen := by
    have : m * 1 ≤ m * j.bytes := Nat.mul_le_mul_left _ hby
    simp only [maxLen]; omega
  have step : ∃ v' w', (Builtin.append_ #[t, t] ty #[.slice none 0 0, .slice A m c]).run P w = .ok v' w' ∧ w'.ownsRow w.heap.size e j.size v' m l ∧ w.grownBy w' none := by
    rcases Nat.eq_zero_or_pos m with hm | hm
    · subst hm
      have : l = [] := List.eq_nil_of_length_eq_zero (by simpa using hll)
      subst this
      exact ⟨_, w, append_none (te' := dd) (t' := t) ht hinfo none A 0 0 c (Nat.le_refl _), World.ownsRow_nil w _ e _, ⟨rfl, rfl, rfl, Nat.le_refl _, fun _ _ _ => rfl⟩⟩
    · cases A with
      | none => exact absurd (hA rfl) (by omega)
      | some ad =>
        obtain ⟨v', w', r1, r2, r3, r4, r5⟩ := run_append_own_at (P := P) w w.heap.size t ty e info z j.size j.bytes ht hinfo hz hs.symm hbb.symm (by rw [← hzl, hzz]; simp) hsz (.slice none 0 0) 0 [] (World.ownsRow_nil w _ e _) ad m c l hll (hcell ad rfl) h1 hmax (by simpa using hbytes) (Nat.le_refl _)
        exact ⟨v', w', r1, by simpa using r2, r3⟩
  obtain ⟨v', w', hrun, hown, hg⟩ := step
  obtain ⟨Γ', hsr⟩ := h.row d hd τ hτ hnm cs l hl h1 e j.size hsz m v' (Keep.grown hg) hown rd
  exact ⟨v', w', Γ', hrun, hsr⟩

end
end Go.Proofs.YthcmcjkljjfccaaGreatDoor.Abs
set_option linter.unusedVariables false
namespace Go.Proofs.YthcmcjkljjfccaaGreatDoor.Abs
open Go Go.RowKit

section
variable {P : Program} {B : Base} {w w' : World} {Γ Γ' : Gh} {st : St} {a : Act} {S S' : Nat → Prop}

theorem bytesOf_sound : ∀ {cs : List PV} {l : List UInt8} (_ : bytesOf cs = some l) {m : List Value} (_ : LR Γ w cs m), m = l.map fun b => Value.int .u8 b.toNat
  | [], l, h, m, hm => by
    simp only [bytesOf] at h
    cases h
    simp only [LR] at hm
    simp [hm]
  | c :: cs, l, h, m, hm => by
    unfold bytesOf at h
    split at h
    · rename_i h1; cases h1
    · rename_i n cs' he
      cases he
      split at h
      · rename_i hn
        rw [Option.map_eq_some_iff] at h
        obtain ⟨l', hl', rfl⟩ := h
        simp only [LR] at hm
        obtain ⟨c, r, rfl, h1, h2⟩ := hm
        have := bytesOf_sound hl' h2
        simp only [VR, IR] at h1
        subst h1 this
        have : ((UInt8.ofNat n.toNat).toNat : Int) = n := by
          have : (UInt8.ofNat n.toNat).toNat = n.toNat := by
            simp [UInt8.toNat_ofNat']; omega
          omega
        simp only [List.map_cons, this]
      · cases h
    · cases h

theorem bytes_sound (h : SR B Γ st a w) {s t e : TypeId} {i j q : TI} (hi : TI.of P t = some i) (hk : i.k = .str) (hj : TI.of P s = some j) (hjk : j.k = .slice e) (hq : TI.of P e = some q) (hqk : q.k = .int .u8)
    {x : PV} {u : Value} (hu : VR Γ w x u) {n : Nat} {cs : List PV} {rd : List Nm} (hr : rowOf st.H 1 x = some (n, cs, rd)) {l : List UInt8} (hl : bytesOf cs = some l) :
    (convert s t u).run P w = .ok (.string ⟨l.toArray⟩) w := by
  obtain ⟨A, c, m, rfl, hm, hlen, h1, hA, hcell⟩ := rowOf_sound h Nat.one_pos hu hr
  have hms := bytesOf_sound hl hm
  have hml : m.length = l.length := by rw [hms]; simp
  cases A with
  | none =>
    have : n = 0 := hA rfl
    subst this
    have : l = [] := List.eq_nil_of_length_eq_zero (by omega)
    subst this
    rw [run_convert_bytes_string w s t e none 0 c (TI.slice hj hjk) (TI.int hq hqk) (TI.str hi hk)]
    simp [Conv.bytesToString]
    rfl
  | some ad =>
    have hn : n = l.length := by omega
    subst hn
    exact run_convert_bytes_back w s t e ad c l (TI.slice hj hjk) (TI.int hq hqk) (TI.str hi hk) (fun j hj => hcell ad rfl j _ (by rw [hms]; simp [hj]))

theorem ops_eval (h : SR B Γ st a w) (lo : Option Operand) : (∀ x, lo.map st.op = some x → ∃ v, lo.map a.eval = some v ∧ VR Γ w x v) ∧ (lo.map st.op = none → lo.map a.eval = none) := by
  cases lo with
  | none => simp
  | some q =>
    constructor
    · intro x hx
      simp only [Option.map_some, Option.some.injEq] at hx
      exact ⟨_, rfl, hx ▸ h.op q⟩
    · intro hx; simp at hx

theorem run_places_of : ∀ (fs : List Field), fs.all (fun f => (P.info? f.type).isSome) = true → fs.mapM (fun f => (P.info? f.type).map fun i => (f.offset, i.size)) = some (fs.map fun f => (f.offset, P.cellsOf f.type))
  | [], _ => rfl
  | f :: fs, h => by
    simp only [List.all_cons, Bool.and_eq_true] at h
    obtain ⟨q, hq⟩ := Option.isSome_iff_exists.1 h.1
    rw [List.mapM_cons, run_places_of fs h.2]
    simp [hq, Program.cellsOf]

theorem parts_ok (h : SR B Γ st a w) (parts : Array (Nat × Operand)) (j : Nat) (p : Nat × PV) (p' : Nat × Value) (hp : (parts.toList.map fun q => (q.1, st.op q.2))[j]? = some p) (hp' : (parts.map fun (i, x) => (i, a.eval x)).toList[j]? = some p') : p.1 = p'.1 ∧ VR Γ w p.2 p'.2 := by
  rw [Array.toList_map, List.getElem?_map, Option.map_eq_some_iff] at hp'
  rw [List.getElem?_map, Option.map_eq_some_iff] at hp
  obtain ⟨q, hq, rfl⟩ := hp
  obtain ⟨q', hq', rfl⟩ := hp'
  rw [hq] at hq'
  cases hq'
  exact ⟨rfl, h.op _⟩

theorem build_sound (h : SR B Γ st a w) {t : TypeId} {i : TI} (hi : TI.of P t = some i) {fs : List (Nat × Nat)} (hk : i.k = .strct fs) (parts : Array (Nat × Operand)) {cs : List PV}
    (hcs : fillL (fs[·]?) i.zero (parts.toList.map fun p => (p.1, st.op p.2)) = some cs) (hall : i.zero.all isCell = true) :
    ∃ v, (Instr.build t (parts.map fun (i, x) => (i, a.eval x))).run P w = .ok v w ∧ VR Γ w (.agg cs) v := by
  obtain ⟨ff, hu, rfl, hff⟩ := TI.strct hi hk
  obtain ⟨info, dd, z, hinfo, hdd, hz, hs, hbb, hzz, hkk⟩ := TI.of_some hi
  have hl : LR Γ w i.zero z.cells.toList := hzz ▸ LR_litCell _
  obtain ⟨l', h1, h2, h3⟩ := fill_sound _ _ (parts.map fun (i, x) => (i, a.eval x)).toList _ _ cs hl (all_isCell hall hl) (by simp) (fun j p p' => parts_ok h parts j p p') hcs
  refine ⟨.agg l'.toArray, ?_, by simp only [VR]; exact ⟨l', rfl, h2⟩⟩
  refine run_build w t _ _ ?_
  unfold Program.built
  simp only [hinfo, hu, hz, run_places_of _ hff]
  simpa using h1

theorem range_made (z : Value) (s : Nat) (hs : z.cells.toList.length = s) (n : Nat) : ((Array.range (n * s)).map (z.cells[· % z.cells.size]!)) = (List.replicate n z.cells.toList).flatten.toArray := by
  have := madeCells_list z s hs n
  rw [← this, Array.toArray_toList]
  rfl

theorem buildSlice_sound (h : SR B Γ st a w) {t e : TypeId} {i j : TI} (hi : TI.of P t = some i) (hk : i.k = .slice e) (hj : TI.of P e = some j) (hsz : 0 < j.size) (hzl : j.zero.length = j.size) (hall : j.zero.all isCell = true) {len : Nat} (hlen : len * j.size ≤ 16777216) (parts : Array (Nat × Operand)) {cs : List PV}
    (hcs : fillL (fun q => some (q * j.size, j.size)) (List.replicate len j.zero).flatten (parts.toList.map fun p => (p.1, st.op p.2)) = some cs) (d : Nat) (hd : d < B.N) (τ : Nat) (hτ : τ < st.t) (hnm : st.H (τ, d, 0) = none) :
    ∃ v w' Γ', (Instr.buildSlice t len (parts.map fun (i, x) => (i, a.eval x))).run P w = .ok v w' ∧ SR B Γ' (st.app (some d) ⟨.ref (τ, d, 0) len, [], [((τ, d, 0), ⟨some (e, j.size), len, cs⟩)]⟩) (a.put (some d) v) w' := by
  have ht := TI.slice hi hk
  obtain ⟨info, dd, z, hinfo, hdd, hz, hs, hbb, hzz, hkk⟩ := TI.of_some hj
  have hl0 : LR Γ w j.zero z.cells.toList := hzz ▸ LR_litCell _
  have hl := LR_replicate hl0 len
  obtain ⟨l', h1, h2, h3⟩ := fill_sound _ _ (parts.map fun (i, x) => (i, a.eval x)).toList _ _ cs hl (all_isCell (all_rep hall len) hl) (by simp) (fun j p p' => parts_ok h parts j p p') hcs
  have hzlen : z.cells.toList.length = info.size := by rw [← hs, ← hzl, hzz]; simp
  have hrun : (Instr.buildSlice t len (parts.map fun (i, x) => (i, a.eval x))).run P w = .ok (.slice (some ⟨w.heap.size, 0, none⟩) len len) (w.alloc (.cells l'.toArray e)) := by
    have hm := range_made z info.size hzlen len
    rw [hs] at hlen h1 hsz
    have n1 : ¬ len * info.size > 2 ^ 24 := by omega
    rcases Nat.eq_zero_or_pos (len * info.size) with h0 | h0
    · have hl0 : len = 0 := by
        rcases Nat.eq_zero_or_pos len with h' | h'
        · exact h'
        · exact absurd h0 (Nat.ne_of_gt (Nat.mul_pos h' hsz))
      subst hl0
      simp only [List.replicate_zero, List.flatten_nil] at h1
      have r0 : Array.range 0 = #[] := rfl
      simp at h1
      simp [Instr.buildSlice, run_underlying_of ht, run_sizeOf_of hinfo, newRow, r0, h1]
    · refine run_buildSlice w t e len _ l'.toArray info z ht hinfo hz n1 (by omega) ?_
      rw [hm]
      exact h1
  have hl'len : l'.length = len * j.size := by
    have e1 := LR_length h2
    have e2 : ∀ (parts : List (Nat × PV)) (c r : List PV), fillL (fun q => some (q * j.size, j.size)) c parts = some r → r.length = c.length := by
      intro parts
      induction parts with
      | nil => intro c r hr; simp only [fillL] at hr; cases hr; rfl
      | cons p ps ih =>
        intro c r hr
        obtain ⟨p1, p2⟩ := p
        simp only [fillL] at hr
        split at hr
        · rename_i hc
          rw [ih _ _ hr]
          exact splice_length (by omega)
        · cases hr
    rw [e1, e2 _ _ _ hcs]
    simp [hzl]
  obtain ⟨Γ', hsr⟩ := h.row (w' := w.alloc (.cells l'.toArray e)) d hd τ hτ hnm cs l' h2 h3 e j.size hsz len (.slice (some ⟨w.heap.size, 0, none⟩) len len) (Keep.alloc w _) (by
    refine ⟨hl'len, .inr ⟨w.heap.size, len, l'.toArray, rfl, Nat.le_refl _, heap_alloc_new w _, Nat.le_refl _, ?_, by simpa using hl'len, ?_⟩⟩
    · have : len * 1 ≤ len * j.size := Nat.mul_le_mul_left _ hsz
      simp only [maxLen]; omega
    · rw [← hl'len]; simp) []
  exact ⟨_, _, Γ', hrun, hsr⟩

theorem makeSlice_sound (h : SR B Γ st a w) {t e : TypeId} {i j : TI} (hi : TI.of P t = some i) (hk : i.k = .slice e) (hj : TI.of P e = some j) (kl kc : IntKind) (n m : Int) (hnm' : n = m ∨ n = 0) (hn : 0 ≤ n) (hm : 0 ≤ m) (hbytes : m * j.bytes ≤ 140737488355328) (hby : 0 < j.bytes) (hsz : 0 < j.size) (hzl : j.zero.length = j.size) (hall : j.zero.all isCell = true)
    (d : Nat) (hd : d < B.N) (τ : Nat) (hτ : τ < st.t) (hnm : st.H (τ, d, 0) = none) :
    ∃ v w' Γ', (Instr.makeSlice t (.int kl n) (.int kc m)).run P w = .ok v w' ∧ SR B Γ' (st.app (some d) ⟨.ref (τ, d, 0) n.toNat, [], [((τ, d, 0), ⟨some (e, j.size), n.toNat, (List.replicate n.toNat j.zero).flatten⟩)]⟩) (a.put (some d) v) w' := by
  have ht := TI.slice hi hk
  obtain ⟨info, dd, z, hinfo, hdd, hz, hs, hbb, hzz, hkk⟩ := TI.of_some hj
  have hl0 : LR Γ w j.zero z.cells.toList := hzz ▸ LR_litCell _
  have hzlen : z.cells.toList.length = j.size := by rw [← hzl, hzz]; simp
  obtain ⟨c, rfl⟩ : ∃ c : Nat, m = c := ⟨m.toNat, by omega⟩
  have hb1 : info.bytes * c ≤ 140737488355328 := by
    rw [← hbb, Nat.mul_comm]
    have : ((c * j.bytes : Nat) : Int) ≤ 140737488355328 := by rw [Int.natCast_mul]; exact hbytes
    omega
  have hc : c ≤ 140737488355328 := by
    have : 1 * c ≤ info.bytes * c := Nat.mul_le_mul_right _ (by omega)
    omega
  have h63 : c ≤ maxLen := by simp only [maxLen]; omega
  rcases hnm' with rfl | rfl
  · obtain ⟨w', h1, h2, h3⟩ := run_make_full (P := P) w w.heap.size t e info z j.size ht hinfo hz hs.symm kl kc c (by omega) h63 (Nat.le_refl _)
    rw [madeCells_list z j.size hzlen c] at h2
    have hl := LR_replicate hl0 c
    obtain ⟨Γ', hsr⟩ := h.row d hd τ hτ hnm _ _ hl (all_isCell (all_rep hall c) hl) e j.size hsz c _ (Keep.grown h3) h2 []
    exact ⟨_, w', Γ', h1, by simpa using hsr⟩
  · obtain ⟨w', h1, h2, h3⟩ := run_make_own (P := P) w w.heap.size t e info z j.size ht hinfo hz hs.symm kl kc c (by omega) h63 (Nat.le_refl _)
    obtain ⟨Γ', hsr⟩ := h.row d hd τ hτ hnm [] [] rfl (by simp) e j.size hsz 0 _ (Keep.grown h3) h2 []
    exact ⟨_, w', Γ', h1, by simpa using hsr⟩

/-- The world grew; nothing of the activation's turned. -/
theorem SR.grow (h : SR B Γ st a w) (hb : Below w.heap.size w w') (hS : ∀ k, Γ.S k → S' k) (hn : ∀ k, S' k → Γ.S k ∨ (w.heap.size ≤ k ∧ k < w'.heap.size)) : SR B { S := S', K := Γ.K } st a w' := by
  have hw : ∀ k, Γ.S k → w'.heap[k]? = w.heap[k]? := fun k hk => hb.block k (h.sok k hk)
  have hK : ∀ i r, Γ.K i = some r → ∃ r', Γ.K i = some r' ∧ (r' = r ∨ r.len < r'.len) := fun i r hr => ⟨r, hr, .inl rfl⟩
  refine ⟨h.keep.step (Keep.of_below hb (fun _ => False)) (fun _ hf => hf.elim), h.defers, h.size, fun k hk => hS k (h.s0 k hk), ?_, ?_, ?_, h.dom, ?_, ?_, h.apart, h.fresh, h.evo⟩
  · intro k hk
    rcases hn k hk with h1 | h1
    · exact h.sin k h1
    · exact .inr (Nat.le_trans h.keep.size h1.1)
  · intro s
    exact VR_mono (Γ := Γ) (Γ' := { S := S', K := Γ.K }) hS hw hK _ _ (h.slots s)
  · intro k hk
    rcases hn k hk with h1 | h1
    · exact Nat.lt_of_lt_of_le (h.sok k h1) hb.size
    · exact h1.2
  · intro i b r hb' hr
    exact RR_mono (Γ := Γ) (Γ' := { S := S', K := Γ.K }) hS hw hK b r (fun k hk => hb.block k (h.own i r k hr hk).2.1) (h.res i b r hb' hr)
  · intro i r k hr hk
    obtain ⟨o1, o2, o3⟩ := h.own i r k hr hk
    refine ⟨fun hs => ?_, Nat.lt_of_lt_of_le o2 hb.size, o3⟩
    rcases hn k hs with h1 | h1
    · exact o1 h1
    · omega

/-- One operation. -/
theorem ev_sound (h : SR B Γ st a w) (τ : Nat) (hτ : τ < st.t) (o : Oper) (hd : ∀ d, o.dst = some d → d < B.N ∧ ∀ j, st.H (τ, d, j) = none) {e : Eff} (he : ev P τ o st = some e) :
    ∃ v w' Γ', ((execOp a.eval o).run P w = .ok (.value v) w' ∨ ((execOp a.eval o).run P w = .ok .skip w' ∧ v = undef)) ∧ SR B Γ' (st.app o.dst e) (a.put o.dst v) w' := by
  have hdN : ∀ k, o.dst = some k → k < B.N := fun k hk => (hd k hk).1
  have pure_case : ∀ (v : Value) (x : PV) (rd : List Nm), (execOp a.eval o).run P w = .ok (.value v) w → VR Γ w x v →
      ∃ v w' Γ', ((execOp a.eval o).run P w = .ok (.value v) w' ∨ ((execOp a.eval o).run P w = .ok .skip w' ∧ v = undef)) ∧ SR B Γ' (st.app o.dst ⟨x, rd, []⟩) (a.put o.dst v) w' :=
    fun v x rd hr hv => ⟨v, w, Γ, .inl hr, h.put o.dst hdN x rd v hv⟩
  have pure_map : ∀ (q : Option PV), q.map (fun v => (⟨v, [], []⟩ : Eff)) = some e → (∀ x, q = some x → ∃ v, (execOp a.eval o).run P w = .ok (.value v) w ∧ VR Γ w x v) →
      ∃ v w' Γ', ((execOp a.eval o).run P w = .ok (.value v) w' ∨ ((execOp a.eval o).run P w = .ok .skip w' ∧ v = undef)) ∧ SR B Γ' (st.app o.dst e) (a.put o.dst v) w' := by
    intro q hq hx
    rw [Option.map_eq_some_iff] at hq
    obtain ⟨x, hq, rfl⟩ := hq
    obtain ⟨v, hr, hv⟩ := hx x hq
    exact pure_case v x [] hr hv
  have pure_eff : (∃ v, (execOp a.eval o).run P w = .ok (.value v) w ∧ VR Γ w e.v v ∧ e.wr = []) →
      ∃ v w' Γ', ((execOp a.eval o).run P w = .ok (.value v) w' ∨ ((execOp a.eval o).run P w = .ok .skip w' ∧ v = undef)) ∧ SR B Γ' (st.app o.dst e) (a.put o.dst v) w' := by
    rintro ⟨v, hr, hv, hw⟩
    obtain ⟨x, rd, wr⟩ := e
    simp only at hv hw
    subst hw
    exact pure_case v x rd hr hv
  unfold ev at he
  simp only at he
  split at he
  -- move
  · rename_i x ho
    cases he
    exact pure_case (a.eval x) _ _ (by simp [execOp, ho]) (h.op x)
  · rename_i x ho
    cases he
    exact pure_case (a.eval x) _ _ (by simp [execOp, ho]) (h.op x)
  -- pick
  · rename_i c x y ho
    split at he
    · rename_i q hc
      cases he
      have := h.op c; rw [hc] at this; simp only [VR, IR] at this
      cases q
      · exact pure_case (a.eval y) _ _ (by simp [execOp, ho, this, asBool]) (h.op y)
      · exact pure_case (a.eval x) _ _ (by simp [execOp, ho, this, asBool]) (h.op x)
    · cases he
  -- alloc
  · rename_i t ho
    split at he
    · rename_i i d hi hdst
      split at he
      · rename_i hall
        cases he
        obtain ⟨info, dd, z, hinfo, hdd, hz, hs, hbb, hzz, hkk⟩ := TI.of_some hi
        obtain ⟨hdl, hdn'⟩ := hd d hdst
        have hdn := hdn' 0
        have hl : LR Γ w i.zero z.cells.toList := hzz ▸ LR_litCell _
        obtain ⟨Γ', hsr⟩ := h.box d hdl τ hτ hdn i.zero z.cells.toList hl (all_isCell hall hl) t []
        refine ⟨_, _, Γ', .inl ?_, by rw [hdst]; exact hsr⟩
        simp [execOp, ho, Instr.alloc, zeroValue, run_typeInfo_of hinfo, hz, newVar, newRow]
      · cases he
    · cases he
  -- box
  · rename_i t x ho
    split at he
    · rename_i d hdst
      split at he
      · rename_i hall
        cases he
        obtain ⟨hdl, hdn'⟩ := hd d hdst
        have hdn := hdn' 0
        obtain ⟨l, hl, hlr⟩ := VR_cells (h.op x) hall
        obtain ⟨Γ', hsr⟩ := h.box d hdl τ hτ hdn _ l hlr (all_isCell hall hlr) t []
        refine ⟨_, _, Γ', .inl ?_, by rw [hdst]; exact hsr⟩
        simp [execOp, ho, Instr.box, newVar, newRow, hl]
      · cases he
    · cases he
  -- build
  · rename_i t parts ho
    split at he
    · rename_i i hi
      split at he
      · rename_i fs hk
        split at he
        case isFalse => cases he
        rename_i hall
        refine pure_map _ he fun x hx => ?_
        rw [Option.map_eq_some_iff] at hx
        obtain ⟨cs, hcs, rfl⟩ := hx
        obtain ⟨q, hq, hv⟩ := build_sound (P := P) h hi hk parts hcs hall
        exact ⟨q, by simp only [execOp, ho, Sem.run_bind, hq, Result.andThen_ok]; rfl, hv⟩
      · cases he
    · cases he
  -- buildSlice
  · rename_i t len parts ho
    split at he
    · rename_i i d hi hdst
      split at he
      · rename_i e' hk
        split at he
        · rename_i j hj
          split at he
          · rename_i hc
            obtain ⟨c1, c2, c3, c4⟩ := hc
            rw [Option.map_eq_some_iff] at he
            obtain ⟨cs, hcs, rfl⟩ := he
            obtain ⟨hdl, hdn'⟩ := hd d hdst
            have hdn := hdn' 0
            obtain ⟨v, w', Γ', hr, hsr⟩ := buildSlice_sound (P := P) h hi hk hj c1 c2 c3 c4 parts hcs d hdl τ hτ hdn
            exact ⟨v, w', Γ', .inl (by simp only [execOp, ho, Sem.run_bind, hr, Result.andThen_ok]; rfl), by rw [hdst]; exact hsr⟩
          · cases he
        · cases he
      · cases he
    · cases he
  -- load
  · rename_i t x ho
    split at he
    · rename_i i hi
      obtain ⟨u, hr, hv, hw⟩ := load_sound (P := P) h hi (h.op x) he
      exact pure_eff ⟨u, by simp [execOp, ho, hr], hv, hw⟩
    · cases he
  -- store
  · rename_i t x y ho
    split at he
    · rename_i i hi
      obtain ⟨w', Γ', hr, hsr, hv⟩ := store_sound (P := P) h (fun i hi => h.lt hi) hi (h.op x) (h.op y) he
      obtain ⟨x', rd, wr⟩ := e
      simp only at hv
      subst hv
      refine ⟨undef, w', Γ', .inr ⟨by simp [execOp, ho, hr], rfl⟩, ?_⟩
      exact hsr.put o.dst hdN .undef rd undef (by simp [VR, IR])
    · cases he
  -- nilCheck
  · rename_i x ho
    have hx := h.op x
    split at he
    · rename_i nm len off hop
      split at he
      · rename_i hl
        cases he
        rw [hop] at hx
        obtain ⟨r, k, hr, hlen, hb, hv⟩ := live_loc h hx hl
        exact pure_case (a.eval x) _ _ (by simp [execOp, ho, hv]) hx
      · cases he
    · rename_i cs hop
      cases he
      rw [hop] at hx
      have hx' := hx
      simp only [VR, IR] at hx
      obtain ⟨ad, hv, hcr⟩ := hx
      exact pure_case (a.eval x) _ _ (by simp [execOp, ho, hv]) hx'
    · cases he
  -- binOp
  · rename_i op t x y pos ho
    split at he
    · rename_i i hi
      refine pure_map _ he fun r hr => ?_
      obtain ⟨q, hq, hv⟩ := evBin_sound (P := P) t hi x y op (h.op x) (h.op y) hr
      refine ⟨q, ?_, hv⟩
      simp only [Sem.run_bind] at hq
      simp only [execOp, ho, Sem.run_bind]
      generalize (eqGuard op t x y (a.eval x) (a.eval y)).run P w = r1 at hq ⊢
      cases r1 with
      | ok u w1 => simp only [Result.andThen_ok] at hq ⊢; rw [hq]; rfl
      | halt u w1 => simp [Result.andThen] at hq
    · cases he
  -- unOp
  · rename_i op t x ho
    refine pure_map _ he fun r hr => ?_
    obtain ⟨q, hq, hv⟩ := evUn_sound (P := P) op (h.op x) hr
    exact ⟨q, by simp [execOp, ho, hq], hv⟩
  -- convert
  · rename_i s t x ho
    split at he
    · rename_i i k n hi hx
      split at he
      · rename_i k' j hk hj
        cases he
        have hv := h.op x
        rw [hx] at hv
        simp only [VR, IR] at hv
        obtain ⟨info, d, z, hinfo, hs, hz, _⟩ := TI.of_some hj
        refine pure_case (.int k' (k'.wrap n)) _ _ ?_ (by simp only [VR, IR])
        simp only [execOp, ho, Sem.run_bind, convert, run_underlying_of hs, run_underlying_of (TI.int hi hk), hv, Result.andThen_ok]
        simp [Conv.intToInt]
      · cases he
    · rename_i i y hi hnot
      split at he
      · rename_i hstr
        unfold evConvS at he
        split at he
        rotate_left
        · cases he
        rename_i str hx
        split at he
        · rename_i e' j hk hj
          split at he
          · rename_i q hjk hq
            split at he
            · rename_i hqk
              split at he
              · rename_i hlen
                cases he
                have hv := h.op x
                rw [hx] at hv
                simp only [VR, IR] at hv
                have hrun := Lib.run_convert_string_bytes (P := P) w s t e' ⟨str.toArray⟩ (TI.str hj hjk) (TI.slice hi hk) (TI.int hq hqk)
                have hsz : (⟨str.toArray⟩ : ByteArray).size = str.length := size_of_list str
                have hb : Below w.heap.size w (Lib.bytesWorld w e' ⟨str.toArray⟩) := ⟨rfl, rfl, rfl, by rw [Lib.bytesWorld_size]; omega, fun k hk => Lib.bytesWorld_at_old w e' _ k hk⟩
                have hg := h.grow (S' := fun k => Γ.S k ∨ k = w.heap.size) hb (fun k hk => .inl hk) (by
                  rintro k (hk | rfl)
                  · exact .inl hk
                  · exact .inr ⟨Nat.le_refl _, by rw [Lib.bytesWorld_size]; omega⟩)
                refine ⟨_, _, _, .inl ?_, hg.put o.dst hdN (.sl str.length (str.map fun b => .int .u8 b.toNat)) [] (.slice (some ⟨w.heap.size, 0, none⟩) (⟨str.toArray⟩ : ByteArray).size (grownCap w (⟨str.toArray⟩ : ByteArray).size 0 e')) ?_⟩
                · simp only [execOp, ho, Sem.run_bind, hv, hrun, Result.andThen_ok, Sem.run_pure]
                · simp only [VR, IR]
                  refine ⟨_, _, by rw [hsz], by rw [← hsz]; exact grownCap_ge _ _ _ _, grownCap_le_maxLen _ _ _ _ (by first | (rw [hsz]; simpa [maxLen] using hlen) | simpa [maxLen] using hlen), .inr ⟨_, rfl, ?_⟩⟩
                  have key : ∀ (l : List UInt8) (off : Nat), (∀ j b, l[j]? = some b → (Lib.bytesWorld w e' ⟨str.toArray⟩).cell? ⟨w.heap.size, off + j, none⟩ = some (.int .u8 b.toNat)) → CR (fun k => Γ.S k ∨ k = w.heap.size) (Lib.bytesWorld w e' ⟨str.toArray⟩) (l.map fun b => PV.int .u8 b.toNat) ⟨w.heap.size, off, none⟩ := by
                    intro l
                    induction l with
                    | nil => intro off _; simp [CR]
                    | cons b l ih =>
                      intro off hc
                      simp only [List.map_cons, CR]
                      refine ⟨⟨by simp, _, by simpa using hc 0 b rfl, rfl, by simp only [IR]⟩, ?_⟩
                      rw [add_pl]
                      refine ih (off + 1) fun j b' hj => ?_
                      have := hc (j + 1) b' (by simpa using hj)
                      rwa [show off + 1 + j = off + (j + 1) by omega]
                  refine key str 0 fun j b hj => ?_
                  have hjl := (List.getElem?_eq_some_iff.1 hj).1
                  rw [Nat.zero_add, Lib.bytesWorld_cell w e' _ j (by rw [hsz]; exact hjl)]
                  simp [List.getD_eq_getElem?_getD, hj]
              · cases he
            · cases he
          · cases he
        · cases he
      split at he
      · rename_i j hk hj
        split at he
        · rename_i e' hjk
          split at he
          · rename_i q hq
            split at he
            · rename_i hqk
              split at he
              · rename_i n cs rd hr
                rw [Option.map_eq_some_iff] at he
                obtain ⟨l, hl, rfl⟩ := he
                have := bytes_sound (P := P) h hi hk hj hjk hq hqk (h.op x) hr hl
                exact pure_case _ _ _ (by simp [execOp, ho, this]; rfl) (by simp only [VR, IR])
              · cases he
            · cases he
          · cases he
        · cases he
      · cases he
    · cases he
  -- makeFunc
  · rename_i fn first captured ho
    split at he
    · rename_i g
      split at he
      · rename_i hf
        refine pure_map _ he fun r hr => ?_
        cases hr
        have hf' : first = #[] := by simpa using hf
        subst hf'
        refine ⟨_, by simp [execOp, ho, Instr.makeFunc]; rfl, ?_⟩
        simp only [VR]
        refine ⟨captured.toList.map a.eval, ?_, ?_⟩
        · congr 1
          rw [← Array.toList_map]
        · generalize captured.toList = l
          induction l with
          | nil => rfl
          | cons q l ih => exact ⟨_, _, rfl, h.op q, ih⟩
      · cases he
    · cases he
  -- makeSlice
  · rename_i t l c ho
    split at he
    · rename_i i d kl n kc m hi hdst hl hc
      split at he
      · rename_i e' hk
        split at he
        · rename_i j hj
          split at he
          · rename_i hcc
            obtain ⟨c1, c2, c3, c4, c5, c6, c7, c8⟩ := hcc
            cases he
            obtain ⟨hdl, hdn'⟩ := hd d hdst
            have hdn := hdn' 0
            have hvl := h.op l
            rw [hl] at hvl
            simp only [VR, IR] at hvl
            have hvc := h.op c
            rw [hc] at hvc
            simp only [VR, IR] at hvc
            obtain ⟨v, w', Γ', hr, hsr⟩ := makeSlice_sound (P := P) h hi hk hj kl kc n m c1 c2 c3 c4 c5 c6 c7 c8 d hdl τ hτ hdn
            exact ⟨v, w', Γ', .inl (by simp only [execOp, ho, hvl, hvc, Sem.run_bind, hr, Result.andThen_ok]; rfl), by rw [hdst]; exact hsr⟩
          · cases he
        · cases he
      · cases he
    · cases he
  -- slice
  · rename_i t x lo hi' mx ho
    obtain ⟨l1, l2⟩ := ops_eval h lo
    obtain ⟨h1, h2⟩ := ops_eval h hi'
    split at he
    · rename_i i hi
      split at he
      · rename_i e' hk
        split at he
        · rename_i j hj
          split at he
          · cases he
          · rename_i hs
            refine pure_map _ he fun r hr => ?_
            obtain ⟨q, hq, hv⟩ := slice_sound_sl (P := P) hi hk hj l1 l2 h1 h2 (h.op x) (by simpa using hs) hr
            exact ⟨q, by simp [execOp, ho, hq], hv⟩
        · cases he
      · rename_i hk
        split at he
        · rename_i hs
          refine pure_map _ he fun r hr => ?_
          obtain ⟨q, hq, hv⟩ := slice_sound_str (P := P) hi hk l1 l2 h1 h2 (h.op x) hs hr
          exact ⟨q, by simp [execOp, ho, hq], hv⟩
        · cases he
      · cases he
    · cases he
  -- fieldAddr
  · rename_i t x f ho
    split at he
    · rename_i i hi
      obtain ⟨u, hr, hv, hw⟩ := field_sound (P := P) h hi (h.op x) f he
      exact pure_eff ⟨u, by simp [execOp, ho, hr], hv, hw⟩
    · cases he
  -- indexAddr
  · rename_i t x ix ho
    split at he
    · rename_i i hi
      split at he
      · rename_i e' hk
        split at he
        · rename_i j hj
          obtain ⟨u, hr, hv, hw⟩ := indexAddr_sound (P := P) h hi hk hj (h.op x) (h.op ix) he
          exact pure_eff ⟨u, by simp [execOp, ho, hr], hv, hw⟩
        · cases he
      · cases he
    · cases he
  -- index
  · rename_i t x ix ho
    split at he
    · rename_i i hi
      split at he
      · rename_i hk
        refine pure_map _ he fun r hr => ?_
        obtain ⟨q, hq, hv⟩ := index_sound (P := P) hi hk (h.op x) (h.op ix) hr
        exact ⟨q, by simp [execOp, ho, hq], hv⟩
      · cases he
    · cases he
  -- extract
  · rename_i x j ho
    split at he
    · rename_i vs hvs
      refine pure_map _ he fun r hr => ?_
      have hx := h.op x
      rw [hvs] at hx
      obtain ⟨q, hq, hv⟩ := extract_sound (P := P) hx hr
      exact ⟨q, by simp [execOp, ho, hq], hv⟩
    · cases he
  -- call
  · rename_i c ho
    split at he
    -- len
    · rename_i hcal
      split at he
      · rename_i x hargs
        have hargs' : c.args = #[x] := by
          rw [← Array.toArray_toList (xs := c.args), hargs]
        have hop := h.op x
        have lenrun : ∀ (i : TI), (c.argTypes[0]?).bind (TI.of P) = some i → ∀ (v : Value) (n : Nat), a.eval x = v → (∀ t, TI.of P t = some i → c.argTypes[0]? = some t → (Builtin.len_ c.argTypes o.type #[v]).run P w = .ok (.int .i64 n) w) → (execOp a.eval o).run P w = .ok (.value (.int .i64 n)) w := by
          intro i hi v n hv hr
          rw [Option.bind_eq_some_iff] at hi
          obtain ⟨t, ht, hi⟩ := hi
          have := hr t hi ht
          simp [execOp, ho, resolve, hcal, hargs', invoke, builtin, hv, this]
        split at he
        · rename_i i s hi hx
          split at he
          · rename_i hk
            refine pure_map _ he fun r hr => ?_
            cases hr
            rw [hx] at hop
            simp only [VR, IR] at hop
            refine ⟨_, lenrun i hi _ s.length hop fun t ht hat => ?_, by simp only [VR, IR]⟩
            simp [Builtin.len_, hat, run_underlying_of (TI.str ht hk), goInt, size_of_list]
          · cases he
        · rename_i i n cs hi hx
          split at he
          · rename_i e' hk
            refine pure_map _ he fun r hr => ?_
            cases hr
            rw [hx] at hop
            simp only [VR, IR] at hop
            obtain ⟨A, cc, hop, _⟩ := hop
            refine ⟨_, lenrun i hi _ n hop fun t ht hat => ?_, by simp only [VR, IR]⟩
            simp [Builtin.len_, hat, run_underlying_of (TI.slice ht hk), goInt]
          · cases he
        · rename_i i hi hx
          split at he
          · rename_i e' hk
            refine pure_map _ he fun r hr => ?_
            cases hr
            rw [hx] at hop
            simp only [VR, IR] at hop
            refine ⟨_, lenrun i hi _ 0 hop fun t ht hat => ?_, by simp only [VR, IR]; rfl⟩
            simp [Builtin.len_, hat, run_underlying_of (TI.slice ht hk), goInt]
          · cases he
        · rename_i i nm n hi hx
          split at he
          · rename_i e' b hk hb
            split at he
            · rename_i hbn
              cases he
              rw [hx] at hop
              simp only [VR] at hop
              obtain ⟨r, hr, hle, ho', hv⟩ := hop
              have hrr := h.res nm b r hb hr
              obtain ⟨v', rfl, hv2⟩ := hv (by rw [RR_len hrr, hbn])
              obtain ⟨q1, e2, sz, l, q2, q3, q4, q5, q6⟩ := hrr
              refine pure_case _ _ _ (lenrun i hi _ n hv2 fun t ht hat => ?_) (by simp only [VR, IR])
              rcases q4.2 with ⟨rfl, hm⟩ | ⟨g, cap, cur, rfl, hg⟩
              · simp [Builtin.len_, hat, run_underlying_of (TI.slice ht hk), goInt, hm]
              · simp [Builtin.len_, hat, run_underlying_of (TI.slice ht hk), goInt]
            · cases he
          · cases he
        · cases he
      · cases he
    -- append
    · rename_i hcal
      split at he
      · rename_i s x t t' d hargs htys hdst
        have hargs' : c.args = #[s, x] := by
          rw [← Array.toArray_toList (xs := c.args), hargs]
        have htys' : c.argTypes = #[t, t'] := by
          rw [← Array.toArray_toList (xs := c.argTypes), htys]
        obtain ⟨hdl, hdn'⟩ := hd d hdst
        have hdn := hdn' 0
        split at he
        · rename_i i hi
          split at he
          · rename_i e' hk
            split at he
            · rename_i j hj
              split at he
              · rename_i hc
                obtain ⟨rfl, c1, c2, c3, c4⟩ := hc
                have hex : ∀ v' w', (Builtin.append_ #[t, t] o.type #[a.eval s, a.eval x]).run P w = .ok v' w' → (execOp a.eval o).run P w = .ok (.value v') w' := by
                  intro v' w' hr
                  simp [execOp, ho, resolve, hcal, hargs', htys', invoke, builtin, hr]
                have hops := h.op s
                split at he
                · rename_i nm n hs
                  split at he
                  · rename_i b m cs rd hb hr
                    split at he
                    · rename_i hcc
                      obtain ⟨d1, d2, d3, d4⟩ := hcc
                      cases he
                      rw [hs] at hops
                      obtain ⟨v', w', Γ', hrun, hsr⟩ := append_sound (P := P) (ty := o.type) h hi hk hj c1 c2 c3 hops hb d1 d2 (h.op x) hr d4 d hdl
                      exact ⟨v', w', Γ', .inl (hex _ _ hrun), by rw [hdst]; exact hsr⟩
                    · cases he
                  · cases he
                · rename_i hs
                  split at he
                  · rename_i m cs rd hr
                    split at he
                    · rename_i hb
                      cases he
                      rw [hs] at hops
                      simp only [VR, IR] at hops
                      obtain ⟨v', w', Γ', hrun, hsr⟩ := append_nil_sound (P := P) (ty := o.type) h hi hk hj c1 c2 c3 (h.op x) hr hb d hdl τ hτ hdn
                      exact ⟨v', w', Γ', .inl (hex _ _ (by rw [hops]; exact hrun)), by rw [hdst]; exact hsr⟩
                    · cases he
                  · cases he
                · cases he
              · cases he
            · cases he
          · cases he
        · cases he
      · cases he
    · cases he
  · cases he

end
end Go.Proofs.YthcmcjkljjfccaaGreatDoor.Abs
set_option linter.unusedVariables false
namespace Go.Proofs.YthcmcjkljjfccaaGreatDoor.Abs
open Go Go.RowKit

/-- What is known of the world when all begins. -/
class Begin (P : Program) where
  ok : World → Prop

/-! ## What a call sees of the caller's own resources, and what it answers -/

mutual
def settled : PV → Bool
  | .ref _ _ => false
  | .loc _ _ _ => false
  | .junk => false
  | .agg cs => settledL cs
  | .tup cs => settledL cs
  | .fn _ cs => settledL cs
  | .bool _ => true
  | .int _ _ => true
  | .str _ => true
  | .nils => true
  | .sl _ _ => true
  | .ptr _ => true
  | .nerr => true
  | .err => true
  | .undef => true
def settledL : List PV → Bool
  | [] => true
  | c :: cs => settled c && settledL cs
end

mutual
/-- Settled, and no nil in it. -/
def canon : PV → Bool
  | .ref _ _ => false
  | .loc _ _ _ => false
  | .junk => false
  | .nils => false
  | .agg cs => canonL cs
  | .tup cs => canonL cs
  | .fn _ cs => canonL cs
  | .bool _ => true
  | .int _ _ => true
  | .str _ => true
  | .sl _ _ => true
  | .ptr _ => true
  | .nerr => true
  | .err => true
  | .undef => true
def canonL : List PV → Bool
  | [] => true
  | c :: cs => canon c && canonL cs
end
mutual
theorem canon_settled : ∀ (x : PV), canon x = true → settled x = true
  | .ref _ _, h => by simp [canon] at h
  | .loc _ _ _, h => by simp [canon] at h
  | .junk, h => by simp [canon] at h
  | .nils, h => by simp [canon] at h
  | .agg cs, h => by rw [canon] at h; rw [settled]; exact canonL_settled cs h
  | .tup cs, h => by rw [canon] at h; rw [settled]; exact canonL_settled cs h
  | .fn _ cs, h => by rw [canon] at h; rw [settled]; exact canonL_settled cs h
  | .bool _, _ => rfl
  | .int _ _, _ => rfl
  | .str _, _ => rfl
  | .sl _ _, _ => rfl
  | .ptr _, _ => rfl
  | .nerr, _ => rfl
  | .err, _ => rfl
  | .undef, _ => rfl
theorem canonL_settled : ∀ (cs : List PV), canonL cs = true → settledL cs = true
  | [], _ => rfl
  | c :: cs, h => by
    rw [canonL, Bool.and_eq_true] at h
    rw [settledL, canon_settled c h.1, canonL_settled cs h.2]; rfl
end

mutual
/-- No pointer is in it. -/
def flat : PV → Bool
  | .bool _ => true
  | .int _ _ => true
  | .str _ => true
  | .nils => true
  | .sl _ cs => cs.isEmpty
  | .nerr => true
  | .err => true
  | .undef => true
  | .agg cs => flatL cs
  | .tup cs => flatL cs
  | .ref _ _ => false
  | .loc _ _ _ => false
  | .ptr _ => false
  | .fn _ _ => false
  | .junk => false
def flatL : List PV → Bool
  | [] => true
  | c :: cs => flat c && flatL cs
end

mutual
def seen (H : Nm → Option Buf) : Nat → PV → Option PV
  | 0, x => if canon x = true then some x else none
  | k + 1, x => if canon x = true then some x else
    match x with
    | .nils => some (.sl 0 [])
    | .ref nm n => match H nm with
      | some b => if b.n = n ∧ b.row.isSome = true then (seenL H k b.cells).map (.sl n ·) else none
      | none => none
    | .loc nm len off => match H nm with
      | some b => if b.n = len then (seenL H k b.cells).map fun cs => .ptr (cs.drop off) else none
      | none => none
    | .agg cs => (seenL H k cs).map .agg
    | .tup cs => (seenL H k cs).map .tup
    | .fn g cs => (seenL H k cs).map (.fn g ·)
    | _ => none
def seenL (H : Nm → Option Buf) : Nat → List PV → Option (List PV)
  | _, [] => some []
  | k, c :: cs => match seen H k c, seenL H k cs with
    | some y, some ys => some (y :: ys)
    | _, _ => none
end

mutual
def names (H : Nm → Option Buf) : Nat → PV → List Nm
  | 0, x => []
  | k + 1, x => if canon x = true then [] else
    match x with
    | .ref nm n => match H nm with
      | some b => nm :: namesL H k b.cells
      | none => []
    | .loc nm len off => match H nm with
      | some b => nm :: namesL H k b.cells
      | none => []
    | .agg cs => namesL H k cs
    | .tup cs => namesL H k cs
    | .fn g cs => namesL H k cs
    | _ => []
def namesL (H : Nm → Option Buf) : Nat → List PV → List Nm
  | _, [] => []
  | k, c :: cs => names H k c ++ namesL H k cs
end

section
variable {P : Program} [Begin P] {B : Base} {w w' : World} {Γ Γ' : Gh} {st : St} {a : Act} {S S' : Nat → Prop}

mutual
theorem IR_of_settled : ∀ (x : PV) (v : Value), VR Γ w x v → settled x = true → IR Γ.S w x v
  | .bool b, v, h, _ => h
  | .int k n, v, h, _ => h
  | .str s, v, h, _ => h
  | .nils, v, h, _ => h
  | .sl n cs, v, h, _ => by simpa only [VR] using h
  | .ptr cs, v, h, _ => by simpa only [VR] using h
  | .agg cs, v, h, hs => by
    simp only [VR] at h
    obtain ⟨l, rfl, h⟩ := h
    simp only [IR]
    exact ⟨l, rfl, ILR_of_settled cs l h (by rwa [settled] at hs)⟩
  | .tup cs, v, h, hs => by
    simp only [VR] at h
    obtain ⟨l, rfl, h⟩ := h
    simp only [IR]
    exact ⟨l, rfl, ILR_of_settled cs l h (by rwa [settled] at hs)⟩
  | .fn g cs, v, h, hs => by
    simp only [VR] at h
    obtain ⟨l, rfl, h⟩ := h
    simp only [IR]
    exact ⟨l, rfl, ILR_of_settled cs l h (by rwa [settled] at hs)⟩
  | .nerr, v, h, _ => h
  | .err, v, h, _ => h
  | .undef, v, h, _ => h
  | .ref _ _, v, h, hs => by simp [settled] at hs
  | .loc _ _ _, v, h, hs => by simp [settled] at hs
  | .junk, v, h, hs => by simp [settled] at hs
theorem ILR_of_settled : ∀ (cs : List PV) (l : List Value), LR Γ w cs l → settledL cs = true → ILR Γ.S w cs l
  | [], l, h, _ => by simpa only [ILR, LR] using h
  | u :: us, l, h, hs => by
    simp only [LR] at h
    obtain ⟨c, r, rfl, h1, h2⟩ := h
    rw [settledL, Bool.and_eq_true] at hs
    exact ⟨c, r, rfl, IR_of_settled u c h1 hs.1, ILR_of_settled us r h2 hs.2⟩
end

mutual
theorem IR_flat : ∀ (x : PV) (v : Value), IR S w x v → flat x = true → IR S' w' x v
  | .bool b, v, h, _ => h
  | .int k n, v, h, _ => h
  | .str s, v, h, _ => h
  | .nils, v, h, _ => h
  | .sl n cs, v, h, hs => by
    simp only [flat, List.isEmpty_iff] at hs
    subst hs
    simp only [IR] at h ⊢
    obtain ⟨A, c, h1, h2, h3, _⟩ := h
    exact ⟨A, c, h1, h2, h3, by simp⟩
  | .ptr cs, v, h, hs => by simp [flat] at hs
  | .agg cs, v, h, hs => by
    simp only [IR] at h ⊢
    obtain ⟨l, rfl, h⟩ := h
    exact ⟨l, rfl, ILR_flat cs l h (by rwa [flat] at hs)⟩
  | .tup cs, v, h, hs => by
    simp only [IR] at h ⊢
    obtain ⟨l, rfl, h⟩ := h
    exact ⟨l, rfl, ILR_flat cs l h (by rwa [flat] at hs)⟩
  | .fn g cs, v, h, hs => by simp [flat] at hs
  | .nerr, v, h, _ => h
  | .err, v, h, _ => h
  | .undef, v, h, _ => h
  | .ref _ _, v, h, hs => by simp [flat] at hs
  | .loc _ _ _, v, h, hs => by simp [flat] at hs
  | .junk, v, h, hs => by simp [flat] at hs
theorem ILR_flat : ∀ (cs : List PV) (l : List Value), ILR S w cs l → flatL cs = true → ILR S' w' cs l
  | [], l, h, _ => by simpa only [ILR] using h
  | u :: us, l, h, hs => by
    simp only [ILR] at h
    obtain ⟨c, r, rfl, h1, h2⟩ := h
    rw [flatL, Bool.and_eq_true] at hs
    exact ⟨c, r, rfl, IR_flat u c h1 hs.1, ILR_flat us r h2 hs.2⟩
end

theorem CR_of_cells : ∀ {cs : List PV} {l : List Value} {ad : Addr}, ILR S w cs l → S ad.block → (∀ (j : Nat) u, l[j]? = some u → w.cell? (ad.add j) = some u) → (∀ u ∈ l, u.oneCell' = true) → CR S w cs ad
  | [], _, _, _, _, _, _ => by simp [CR]
  | c :: cs, l, ad, hl, hb, hc, h1 => by
    simp only [ILR] at hl
    obtain ⟨v, r, rfl, hv, hr⟩ := hl
    simp only [CR]
    refine ⟨⟨hb, v, by simpa [add_zero''] using hc 0 v rfl, h1 v (by simp), hv⟩, CR_of_cells hr (by rw [add_blk]; exact hb) ?_ fun u hu => h1 u (by simp [hu])⟩
    intro j u hu
    have := hc (j + 1) u (by simpa using hu)
    rwa [add_add', Nat.add_comm]

/-- All that the activation has, settled. -/
def Gh.all (Γ : Gh) : Nat → Prop := fun k => Γ.S k ∨ ∃ i r, Γ.K i = some r ∧ r.block = some k

theorem IR_all {x : PV} {v : Value} (h : IR Γ.S w x v) : IR Γ.all w x v := IR_mono (fun k hk => .inl hk) (fun k hk => rfl) x v h
mutual
theorem seen_sound (h : SR B Γ st a w) : ∀ (k : Nat) (x y : PV) (v : Value), VR Γ w x v → seen st.H k x = some y → IR Γ.all w y v
  | 0, x, y, v, hv, hs => by
    simp only [seen] at hs
    split at hs
    · rename_i hx
      cases hs
      exact IR_all (IR_of_settled x v hv (canon_settled x hx))
    · cases hs
  | k + 1, x, y, v, hv, hs => by
    have easy : canon x = true → seen st.H (k + 1) x = some x → IR Γ.all w y v := by
      intro h1 h2
      rw [h2] at hs
      cases hs
      exact IR_all (IR_of_settled x v hv (canon_settled x h1))
    cases x with
    | bool b => exact easy rfl (by simp [seen, canon])
    | int q n => exact easy rfl (by simp [seen, canon])
    | str q => exact easy rfl (by simp [seen, canon])
    | nils =>
      simp only [seen, canon, Bool.false_eq_true, if_false] at hs
      cases hs
      simp only [VR, IR] at hv
      subst hv
      simp only [IR]
      exact ⟨none, 0, rfl, Nat.le_refl _, by simp [maxLen], .inl trivial⟩
    | sl n cs => exact easy rfl (by simp [seen, canon])
    | ptr cs => exact easy rfl (by simp [seen, canon])
    | nerr => exact easy rfl (by simp [seen, canon])
    | err => exact easy rfl (by simp [seen, canon])
    | undef => exact easy rfl (by simp [seen, canon])
    | junk => simp [seen, canon] at hs
    | ref nm n =>
      simp only [seen, canon, Bool.false_eq_true, if_false] at hs
      split at hs
      · rename_i b hb
        split at hs
        · rename_i hc
          rw [Option.map_eq_some_iff] at hs
          obtain ⟨ys, hys, rfl⟩ := hs
          simp only [VR] at hv
          obtain ⟨r, hr, hle, ho, hv⟩ := hv
          have hrr := h.res nm b r hb hr
          obtain ⟨v', rfl, rfl⟩ := hv (by rw [RR_len hrr, hc.1])
          obtain ⟨q1, e, sz, l, q2, q3, q4, q5, q6⟩ := hrr
          have hl := seenL_sound h k b.cells ys l q5 hys
          simp only [IR]
          rcases q4.2 with ⟨rfl, hm⟩ | ⟨g, cap, cur, rfl, hg, hh, hc1, hc2, hc3, hc4⟩
          · refine ⟨none, 0, by rw [hm], by omega, by simp [maxLen], .inl ?_⟩
            have : l = [] := List.eq_nil_of_length_eq_zero (by rw [q4.1, hm]; simp)
            subst this
            cases ys with
            | nil => rfl
            | cons y ys => simp [ILR] at hl
          · exact ⟨_, cap, rfl, hc1, hc2, .inr ⟨_, rfl, CR_of_cells hl (.inr ⟨nm, _, hr, rfl⟩) (q4.cells (g := g) rfl) q6⟩⟩
        · cases hs
      · cases hs
    | loc nm len off =>
      simp only [seen, canon, Bool.false_eq_true, if_false] at hs
      split at hs
      · rename_i b hb
        split at hs
        · rename_i hc
          rw [Option.map_eq_some_iff] at hs
          obtain ⟨ys, hys, rfl⟩ := hs
          obtain ⟨r, kk, l, cur, t, hr, hk, rfl, hrr, hl, h1, hh, ht, hcur⟩ := h.at_loc hv hb hc
          have hl := seenL_sound h k b.cells ys l hl hys
          simp only [IR]
          refine ⟨_, rfl, ?_⟩
          have := CR_drop off (CR_of_cells (ad := ⟨kk, 0, none⟩) hl (.inr ⟨nm, r, hr, hk⟩) (fun j u hu => by
            rw [add_pl]
            simp [World.cell?, hh, take_get ht j u hu]) h1)
          rw [add_pl, Nat.zero_add] at this
          exact this
        · cases hs
      · cases hs
    | agg cs =>
      simp only [seen] at hs
      split at hs
      · rename_i hx
        cases hs
        exact IR_all (IR_of_settled _ v hv (canon_settled _ hx))
      · rw [Option.map_eq_some_iff] at hs
        obtain ⟨ys, hys, rfl⟩ := hs
        simp only [VR] at hv
        obtain ⟨l, rfl, hl⟩ := hv
        simp only [IR]
        exact ⟨l, rfl, seenL_sound h k cs ys l hl hys⟩
    | tup cs =>
      simp only [seen] at hs
      split at hs
      · rename_i hx
        cases hs
        exact IR_all (IR_of_settled _ v hv (canon_settled _ hx))
      · rw [Option.map_eq_some_iff] at hs
        obtain ⟨ys, hys, rfl⟩ := hs
        simp only [VR] at hv
        obtain ⟨l, rfl, hl⟩ := hv
        simp only [IR]
        exact ⟨l, rfl, seenL_sound h k cs ys l hl hys⟩
    | fn g cs =>
      simp only [seen] at hs
      split at hs
      · rename_i hx
        cases hs
        exact IR_all (IR_of_settled _ v hv (canon_settled _ hx))
      · rw [Option.map_eq_some_iff] at hs
        obtain ⟨ys, hys, rfl⟩ := hs
        simp only [VR] at hv
        obtain ⟨l, rfl, hl⟩ := hv
        simp only [IR]
        exact ⟨l, rfl, seenL_sound h k cs ys l hl hys⟩
theorem seenL_sound (h : SR B Γ st a w) : ∀ (k : Nat) (cs ys : List PV) (l : List Value), LR Γ w cs l → seenL st.H k cs = some ys → ILR Γ.all w ys l
  | k, [], ys, l, hl, hs => by
    simp only [seenL] at hs
    cases hs
    simpa only [LR, ILR] using hl
  | k, c :: cs, ys, l, hl, hs => by
    simp only [seenL] at hs
    split at hs
    · rename_i y ys' h1 h2
      cases hs
      simp only [LR] at hl
      obtain ⟨v, r, rfl, hv, hr⟩ := hl
      exact ⟨v, r, rfl, seen_sound h k c y v hv h1, seenL_sound h k cs ys' r hr h2⟩
    · cases hs
end

/-! ### Contracts -/

def callable (P : Program) [Begin P] (g : Nat) : Bool :=
  match P.funcs[g]? with
  | some fn => fn.name != "runtime.NumGoroutine" && fn.body.isSome
  | none => false

/-- What lay in the world when all began stands, and nobody writes it. -/
def Glob (P : Program) [Begin P] (S : Nat → Prop) (w : World) : Prop := ∃ w0 : World, Begin.ok P w0 ∧ ∀ k, k < w0.heap.size → S k ∧ w.heap[k]? = w0.heap[k]?
theorem Glob.mono (h : Glob P S w) (hS : ∀ k, S k → S' k) (hw : ∀ k, S k → w'.heap[k]? = w.heap[k]?) : Glob P S' w' := by
  obtain ⟨w0, h1, h2⟩ := h
  exact ⟨w0, h1, fun k hk => ⟨hS k (h2 k hk).1, (hw k (h2 k hk).1).trans (h2 k hk).2⟩⟩
/-- What an activation may lean on. -/
structure BaseOK (P : Program) [Begin P] (B : Base) : Prop where
  glob : Glob P B.S0 B.w0
  apart : ∀ k, B.S0 k → ¬ B.M k ∧ k < B.w0.heap.size
  holes : ∀ i, B.K0 i ≠ none → i.1 = 0 ∧ i.2.1 = 0
  mown : ∀ k, B.M k → ∃ i, B.K0 i ≠ none
theorem SR.glob (hB : BaseOK P B) (h : SR B Γ st a w) : Glob P Γ.S w :=
  hB.glob.mono h.s0 fun k hk => h.keep.block k (hB.apart k hk).2 (hB.apart k hk).1

/-- At these arguments the function answers that. -/
def PC (P : Program) [Begin P] (g : Nat) (args : List PV) (r : PV) : Prop :=
  callable P g = true ∧ ∀ (S : Nat → Prop) (w : World) (cargs : List Value), Glob P S w → (∀ k, S k → k < w.heap.size) → ILR S w args cargs →
    Calls P g cargs.toArray w fun e w' => ∃ cr S', e = .returned cr ∧ IR S' w' r cr ∧ (∀ k, S k → S' k) ∧ (∀ k, S' k → S k ∨ (w.heap.size ≤ k ∧ k < w'.heap.size)) ∧ Below w.heap.size w w'

/-- At these arguments the function answers a new row, which nobody else has. -/
def PCF (P : Program) [Begin P] (g : Nat) (args : List PV) (e : TypeId) (sz n : Nat) (cells : List PV) : Prop :=
  callable P g = true ∧ 0 < sz ∧ cells.all isCell = true ∧ ∀ (S : Nat → Prop) (w : World) (cargs : List Value), Glob P S w → (∀ k, S k → k < w.heap.size) → ILR S w args cargs →
    Calls P g cargs.toArray w fun en w' => ∃ cr S' l, en = .returned cr ∧ w'.ownsRow w.heap.size e sz cr n l ∧ ILR S' w' cells l ∧ (∀ k, S k → S' k) ∧ (∀ k, S' k → S k ∨ (w.heap.size ≤ k ∧ k < w'.heap.size)) ∧
      (∀ k, cr.ownBlock = some k → ¬ S' k) ∧ Below w.heap.size w w'

theorem PCF.pc {g : Nat} {args : List PV} {e : TypeId} {sz n : Nat} {cells : List PV} (h : PCF P g args e sz n cells) : PC P g args (.sl n cells) := by
  refine ⟨h.1, fun S w cargs hG hS hl => ?_⟩
  refine (h.2.2.2 S w cargs hG hS hl).mono ?_
  rintro en w' ⟨cr, S', l, rfl, hown, hil, hSS, hS', hnb, hb⟩
  refine ⟨cr, fun k => S' k ∨ cr.ownBlock = some k, rfl, ?_, fun k hk => .inl (hSS k hk), ?_, hb⟩
  · have hil2 : ILR (fun k => S' k ∨ cr.ownBlock = some k) w' cells l := ILR_mono (fun k hk => .inl hk) (fun _ _ => rfl) _ _ hil
    have h1 := all_isCell (Γ := { S := S', K := fun _ => none }) h.2.2.1 (LR_of_ILR _ _ hil)
    simp only [IR]
    rcases hown.2 with ⟨rfl, hm⟩ | ⟨g, cap, cur, rfl, hg, hh, hc1, hc2, hc3, hc4⟩
    · refine ⟨none, 0, by rw [hm], by omega, by simp [maxLen], .inl ?_⟩
      have : l = [] := List.eq_nil_of_length_eq_zero (by rw [hown.1, hm]; simp)
      subst this
      cases cells with
      | nil => rfl
      | cons y ys => simp [ILR] at hil
    · exact ⟨_, cap, rfl, hc1, hc2, .inr ⟨_, rfl, CR_of_cells hil2 (.inr rfl) (hown.cells (g := g) rfl) h1⟩⟩
  · rintro k (hk | hk)
    · exact hS' k hk
    · exact .inr (hown.lt k hk)

end
end Go.Proofs.YthcmcjkljjfccaaGreatDoor.Abs
set_option linter.unusedVariables false
namespace Go.Proofs.YthcmcjkljjfccaaGreatDoor.Abs
open Go Go.RowKit

/-! ## A call that turns what the caller has, or hands it something of its own -/

def hole (j : Nat) : Nm := (0, 0, j)
def isHole (i : Nm) : Bool := i.1 == 0 && i.2.1 == 0
theorem isHole_eq {i : Nm} (h : isHole i = true) : i = hole i.2.2 := by
  obtain ⟨a, b, c⟩ := i
  simp only [isHole, Bool.and_eq_true, beq_iff_eq] at h
  obtain ⟨rfl, rfl⟩ := h
  rfl
theorem isHole_hole (j : Nat) : isHole (hole j) = true := rfl

mutual
def ren (ν : Nat → Nm) : PV → PV
  | .ref i n => .ref (ν i.2.2) n
  | .loc i len off => .loc (ν i.2.2) len off
  | .agg cs => .agg (renL ν cs)
  | .tup cs => .tup (renL ν cs)
  | .fn g cs => .fn g (renL ν cs)
  | .bool b => .bool b
  | .int k n => .int k n
  | .str s => .str s
  | .nils => .nils
  | .sl n cs => .sl n cs
  | .ptr cs => .ptr cs
  | .nerr => .nerr
  | .err => .err
  | .undef => .undef
  | .junk => .junk
def renL (ν : Nat → Nm) : List PV → List PV
  | [] => []
  | c :: cs => ren ν c :: renL ν cs
end
mutual
/-- It names holes alone, below m. -/
def holey (m : Nat) : PV → Bool
  | .ref i _ => isHole i && decide (i.2.2 < m)
  | .loc i _ _ => isHole i && decide (i.2.2 < m)
  | .agg cs => holeyL m cs
  | .tup cs => holeyL m cs
  | .fn _ cs => holeyL m cs
  | .bool _ => true
  | .int _ _ => true
  | .str _ => true
  | .nils => true
  | .sl _ _ => true
  | .ptr _ => true
  | .nerr => true
  | .err => true
  | .undef => true
  | .junk => true
def holeyL (m : Nat) : List PV → Bool
  | [] => true
  | c :: cs => holey m c && holeyL m cs
end
mutual
theorem ren_settled (ν : Nat → Nm) : ∀ (x : PV), settled x = true → ren ν x = x
  | .ref _ _, h => by simp [settled] at h
  | .loc _ _ _, h => by simp [settled] at h
  | .agg cs, h => by rw [settled] at h; rw [ren, renL_settled ν cs h]
  | .tup cs, h => by rw [settled] at h; rw [ren, renL_settled ν cs h]
  | .fn g cs, h => by rw [settled] at h; rw [ren, renL_settled ν cs h]
  | .bool _, _ => rfl
  | .int _ _, _ => rfl
  | .str _, _ => rfl
  | .nils, _ => rfl
  | .sl _ _, _ => rfl
  | .ptr _, _ => rfl
  | .nerr, _ => rfl
  | .err, _ => rfl
  | .undef, _ => rfl
  | .junk, h => by simp [settled] at h
theorem renL_settled (ν : Nat → Nm) : ∀ (cs : List PV), settledL cs = true → renL ν cs = cs
  | [], _ => rfl
  | c :: cs, h => by
    rw [settledL, Bool.and_eq_true] at h
    rw [renL, ren_settled ν c h.1, renL_settled ν cs h.2]
end
mutual
theorem holey_settled (m : Nat) : ∀ (x : PV), settled x = true → holey m x = true
  | .ref _ _, h => by simp [settled] at h
  | .loc _ _ _, h => by simp [settled] at h
  | .agg cs, h => by rw [settled] at h; rw [holey, holeyL_settled m cs h]
  | .tup cs, h => by rw [settled] at h; rw [holey, holeyL_settled m cs h]
  | .fn g cs, h => by rw [settled] at h; rw [holey, holeyL_settled m cs h]
  | .bool _, _ => rfl
  | .int _ _, _ => rfl
  | .str _, _ => rfl
  | .nils, _ => rfl
  | .sl _ _, _ => rfl
  | .ptr _, _ => rfl
  | .nerr, _ => rfl
  | .err, _ => rfl
  | .undef, _ => rfl
  | .junk, h => by simp [settled] at h
theorem holeyL_settled (m : Nat) : ∀ (cs : List PV), settledL cs = true → holeyL m cs = true
  | [], _ => rfl
  | c :: cs, h => by
    rw [settledL, Bool.and_eq_true] at h
    rw [holeyL, holey_settled m c h.1, holeyL_settled m cs h.2]; rfl
end
def Buf.ren (ν : Nat → Nm) (b : Buf) : Buf := { b with cells := renL ν b.cells }
theorem renL_length (ν : Nat → Nm) : ∀ cs : List PV, (renL ν cs).length = cs.length
  | [] => rfl
  | c :: cs => by simp [renL, renL_length ν cs]

section
variable {P : Program} [Begin P] {B : Base} {w w' : World} {Γ Γ' : Gh} {st : St} {a : Act} {S S' : Nat → Prop}

/-- Two ghosts that agree at the holes. -/
structure Fits (m : Nat) (ν : Nat → Nm) (Γ1 Γ2 : Gh) : Prop where
  S : Γ1.S = Γ2.S
  K : ∀ j, j < m → Γ1.K (hole j) = Γ2.K (ν j)

mutual
theorem VR_ren {m : Nat} {ν : Nat → Nm} {Γ1 Γ2 : Gh} (hf : Fits m ν Γ1 Γ2) : ∀ (x : PV) (v : Value), holey m x = true → (VR Γ1 w x v ↔ VR Γ2 w (ren ν x) v)
  | .ref i n, v, h => by
    simp only [holey, Bool.and_eq_true, decide_eq_true_eq] at h
    simp only [ren, VR]
    rw [← hf.K _ h.2, ← isHole_eq h.1]
  | .loc i len off, v, h => by
    simp only [holey, Bool.and_eq_true, decide_eq_true_eq] at h
    simp only [ren, VR]
    rw [← hf.K _ h.2, ← isHole_eq h.1]
  | .agg cs, v, h => by
    simp only [holey] at h
    simp only [ren, VR]
    exact ⟨fun ⟨l, h1, h2⟩ => ⟨l, h1, (LR_ren hf cs l h).1 h2⟩, fun ⟨l, h1, h2⟩ => ⟨l, h1, (LR_ren hf cs l h).2 h2⟩⟩
  | .tup cs, v, h => by
    simp only [holey] at h
    simp only [ren, VR]
    exact ⟨fun ⟨l, h1, h2⟩ => ⟨l, h1, (LR_ren hf cs l h).1 h2⟩, fun ⟨l, h1, h2⟩ => ⟨l, h1, (LR_ren hf cs l h).2 h2⟩⟩
  | .fn g cs, v, h => by
    simp only [holey] at h
    simp only [ren, VR]
    exact ⟨fun ⟨l, h1, h2⟩ => ⟨l, h1, (LR_ren hf cs l h).1 h2⟩, fun ⟨l, h1, h2⟩ => ⟨l, h1, (LR_ren hf cs l h).2 h2⟩⟩
  | .bool _, v, _ => by simp only [ren, VR, hf.S]
  | .int _ _, v, _ => by simp only [ren, VR, hf.S]
  | .str _, v, _ => by simp only [ren, VR, hf.S]
  | .nils, v, _ => by simp only [ren, VR, hf.S]
  | .sl _ _, v, _ => by simp only [ren, VR, hf.S]
  | .ptr _, v, _ => by simp only [ren, VR, hf.S]
  | .nerr, v, _ => by simp only [ren, VR, hf.S]
  | .err, v, _ => by simp only [ren, VR, hf.S]
  | .undef, v, _ => by simp only [ren, VR, hf.S]
  | .junk, v, _ => by simp only [ren, VR]
theorem LR_ren {m : Nat} {ν : Nat → Nm} {Γ1 Γ2 : Gh} (hf : Fits m ν Γ1 Γ2) : ∀ (cs : List PV) (l : List Value), holeyL m cs = true → (LR Γ1 w cs l ↔ LR Γ2 w (renL ν cs) l)
  | [], l, _ => by simp only [renL, LR]
  | c :: cs, l, h => by
    rw [holeyL, Bool.and_eq_true] at h
    simp only [renL, LR]
    exact ⟨fun ⟨v, r, h1, h2, h3⟩ => ⟨v, r, h1, (VR_ren hf c v h.1).1 h2, (LR_ren hf cs r h.2).1 h3⟩, fun ⟨v, r, h1, h2, h3⟩ => ⟨v, r, h1, (VR_ren hf c v h.1).2 h2, (LR_ren hf cs r h.2).2 h3⟩⟩
end
theorem RR_ren {m : Nat} {ν : Nat → Nm} {Γ1 Γ2 : Gh} (hf : Fits m ν Γ1 Γ2) (b : Buf) (r : KR) (h : holeyL m b.cells = true) : RR Γ1 w b r ↔ RR Γ2 w (b.ren ν) r := by
  cases r with
  | box k =>
    simp only [RR, Buf.ren]
    exact ⟨fun ⟨h1, h2, l, t, cur, h3, h4, h5, h6, h7⟩ => ⟨h1, h2, l, t, cur, h3, h4, h5, (LR_ren hf _ _ h).1 h6, h7⟩, fun ⟨h1, h2, l, t, cur, h3, h4, h5, h6, h7⟩ => ⟨h1, h2, l, t, cur, h3, h4, h5, (LR_ren hf _ _ h).2 h6, h7⟩⟩
  | row n v =>
    simp only [RR, Buf.ren]
    exact ⟨fun ⟨h1, e, sz, l, h2, h3, h4, h5, h6⟩ => ⟨h1, e, sz, l, h2, h3, h4, (LR_ren hf _ _ h).1 h5, h6⟩, fun ⟨h1, e, sz, l, h2, h3, h4, h5, h6⟩ => ⟨h1, e, sz, l, h2, h3, h4, (LR_ren hf _ _ h).2 h5, h6⟩⟩
  | gone n =>
    obtain ⟨row, m, cells⟩ := b
    simp only [RR, Buf.ren, Buf.mk.injEq]
    refine ⟨fun ⟨h1, h2, h3⟩ => ⟨h1, h2, by rw [h3]; rfl⟩, fun ⟨h1, h2, h3⟩ => ⟨h1, h2, ?_⟩⟩
    have := renL_length ν cells
    rw [h3] at this
    exact List.eq_nil_of_length_eq_zero (by simpa using this.symm)

/-- What somebody has, and the world. -/
structure HR (Γ : Gh) (H : Nm → Option Buf) (w : World) : Prop where
  sok : ∀ k, Γ.S k → k < w.heap.size
  dom : ∀ i, Γ.K i = none ↔ H i = none
  res : ∀ i b r, H i = some b → Γ.K i = some r → RR Γ w b r
  own : ∀ i r k, Γ.K i = some r → r.block = some k → ¬ Γ.S k ∧ k < w.heap.size
  apart : ∀ i j r q k, Γ.K i = some r → Γ.K j = some q → r.block = some k → q.block = some k → i = j

def bufsH (bs : List Buf) : Nm → Option Buf := fun i => if isHole i then bs[i.2.2]? else none
theorem bufsH_hole (bs : List Buf) (j : Nat) : bufsH bs (hole j) = bs[j]? := rfl
def Gh.blocks (Γ : Gh) : Nat → Prop := fun k => ∃ i q, Γ.K i = some q ∧ q.block = some k
/-- The ghost at the holes. -/
def Gh.holes (Γ : Gh) (m : Nat) (ν : Nat → Nm) : Gh := { S := Γ.S, K := fun i => if isHole i && decide (i.2.2 < m) then Γ.K (ν i.2.2) else none }
theorem Gh.holes_fits (Γ : Gh) (m : Nat) (ν : Nat → Nm) : Fits m ν (Γ.holes m ν) Γ := ⟨rfl, fun j hj => by
  have e : (hole j).2.2 = j := rfl
  simp [Gh.holes, isHole_hole, e, hj]⟩
theorem Gh.holes_some {Γ : Gh} {m : Nat} {ν : Nat → Nm} {i : Nm} {r : KR} (h : (Γ.holes m ν).K i = some r) : isHole i = true ∧ i.2.2 < m ∧ Γ.K (ν i.2.2) = some r := by
  simp only [Gh.holes] at h
  split at h
  · rename_i hc
    simp only [Bool.and_eq_true, decide_eq_true_eq] at hc
    exact ⟨hc.1, hc.2, h⟩
  · cases h

structure Static (P : Program) [Begin P] (g : Nat) (args : List PV) (bin : List Buf) (r : PV) (bout : List Buf) : Prop where
  hcall : callable P g = true
  hargs : holeyL bin.length args = true
  hbin : ∀ b ∈ bin, holeyL bin.length b.cells = true
  hle : bin.length ≤ bout.length
  hr : holey bout.length r = true
  hbout : ∀ b ∈ bout, holeyL bout.length b.cells = true

/-- THE CONTRACT OF A FUNCTION THAT TURNS WHAT IT IS HANDED, and hands back. -/
def GC (P : Program) [Begin P] (g : Nat) (args : List PV) (bin : List Buf) (r : PV) (bout : List Buf) : Prop :=
  Static P g args bin r bout ∧ ∀ (Γ : Gh) (w : World) (cargs : List Value), Glob P Γ.S w → HR Γ (bufsH bin) w → LR Γ w args cargs →
    Calls P g cargs.toArray w fun e w' => ∃ cr Γ', e = .returned cr ∧ HR Γ' (bufsH bout) w' ∧ VR Γ' w' r cr ∧ (∀ k, Γ.S k → Γ'.S k) ∧ (∀ k, Γ'.S k → Γ.S k ∨ (w.heap.size ≤ k ∧ k < w'.heap.size)) ∧
      (∀ i q, Γ.K i = some q → ∃ q', Γ'.K i = some q' ∧ (q' = q ∨ q.len < q'.len)) ∧ (∀ i q k, Γ'.K i = some q → q.block = some k → w.heap.size ≤ k ∨ Γ.blocks k) ∧ Keep Γ.blocks w w'

/-- The names of what is new. -/
def newNames (τ d n : Nat) : List Nm := (List.range n).map fun q => (τ, d, q)
def nameAt (σ : List Nm) (j : Nat) : Nm := σ.getD j (0, 0, 0)

def idx (σ : List Nm) (i : Nm) : Option Nat := σ.idxOf? i

theorem idx_some {σ : List Nm} {i : Nm} {j : Nat} (h : idx σ i = some j) : σ[j]? = some i := by
  induction σ generalizing j with
  | nil => simp [idx] at h
  | cons a σ ih =>
    simp only [idx, List.idxOf?_cons] at h
    split at h
    · rename_i ha
      cases h
      simp only [beq_iff_eq] at ha
      simp [ha]
    · rw [Option.map_eq_some_iff] at h
      obtain ⟨k, hk, rfl⟩ := h
      simpa using ih hk
theorem idx_none {σ : List Nm} {i : Nm} (h : idx σ i = none) : i ∉ σ := by
  induction σ with
  | nil => simp
  | cons a σ ih =>
    simp only [idx, List.idxOf?_cons] at h
    split at h
    · cases h
    · rename_i ha
      rw [Option.map_eq_none_iff] at h
      simp only [List.mem_cons, not_or]
      refine ⟨fun e => ha (by simp [e]), ih h⟩
theorem idx_at {σ : List Nm} (hn : σ.Nodup) {i : Nm} {j : Nat} (h : σ[j]? = some i) : idx σ i = some j := by
  cases hi : idx σ i with
  | none => exact absurd (List.mem_of_getElem? h) (idx_none hi)
  | some k =>
    have hk := idx_some hi
    have : k = j := by
      obtain ⟨h1, h2⟩ := List.getElem?_eq_some_iff.1 h
      obtain ⟨h3, h4⟩ := List.getElem?_eq_some_iff.1 hk
      exact (List.getElem_inj hn).1 (h4.trans h2.symm)
    rw [this]

theorem foldU_idx : ∀ (σ : List Nm) (bs : List Buf) (H : Nm → Option Buf) (i : Nm), σ.Nodup → σ.length = bs.length →
    ((σ.zip bs).foldl (fun H x => upd H x.1 x.2) H) i = match idx σ i with
      | some j => bs[j]?
      | none => H i
  | [], [], H, i, _, _ => by simp [idx]
  | a :: σ, b :: bs, H, i, hn, hl => by
    rw [List.nodup_cons] at hn
    rw [List.zip_cons_cons, List.foldl_cons, foldU_idx σ bs _ i hn.2 (by simpa using hl)]
    simp only [idx, List.idxOf?_cons]
    by_cases ha : (a == i) = true
    · simp only [beq_iff_eq] at ha
      subst ha
      have : List.idxOf? a σ = none := by
        cases h : List.idxOf? a σ with
        | none => rfl
        | some k => exact absurd (List.mem_of_getElem? (idx_some (σ := σ) h)) hn.1
      simp [this, upd]
    · simp only [ha, Bool.false_eq_true, if_false]
      have ha' : i ≠ a := fun e => ha (by simp [e])
      cases List.idxOf? i σ with
      | none => simp [upd, ha']
      | some k => simp
  | [], _ :: _, _, _, _, h => by simp at h
  | _ :: _, [], _, _, _, h => by simp at h

theorem nameAt_get {σ : List Nm} {j : Nat} (hj : j < σ.length) : σ[j]? = some (nameAt σ j) := by
  simp [nameAt, List.getD_eq_getElem?_getD, List.getElem?_eq_getElem hj]

/-- What the caller has behind such a call. -/
theorem SR.handed (h : SR B Γ st a w) {τ : Nat} (hτ : τ < st.t) {dst : Option Nat} (hdN : ∀ k, dst = some k → k < B.N) {d : Nat} {σ : List Nm} {g : Nat} {args : List PV} {bin bout : List Buf} {r : PV} (hs : Static P g args bin r bout)
    (hσ : σ.length = bin.length) (hnew : ∀ q, q < bout.length - bin.length → st.H (τ, d, q) = none) (hnd : σ.Nodup)
    (hH : ∀ (j : Nat) b, bin[j]? = some b → st.H (nameAt σ j) = some (b.ren (nameAt (σ ++ newNames τ d (bout.length - bin.length)))))
    {cr : Value} {Γo : Gh} (ho : HR Γo (bufsH bout) w') (hr : VR Γo w' r cr) (hS : ∀ k, Γ.S k → Γo.S k) (hS' : ∀ k, Γo.S k → Γ.S k ∨ (w.heap.size ≤ k ∧ k < w'.heap.size))
    (hev : ∀ i q, (Γ.holes bin.length (nameAt σ)).K i = some q → ∃ q', Γo.K i = some q' ∧ (q' = q ∨ q.len < q'.len)) (hbl : ∀ i q k, Γo.K i = some q → q.block = some k → w.heap.size ≤ k ∨ (Γ.holes bin.length (nameAt σ)).blocks k) (hk : Keep (Γ.holes bin.length (nameAt σ)).blocks w w') :
    ∃ Γ', SR B Γ' (st.app dst ⟨ren (nameAt (σ ++ newNames τ d (bout.length - bin.length))) r, σ, (σ ++ newNames τ d (bout.length - bin.length)).zip (bout.map (Buf.ren (nameAt (σ ++ newNames τ d (bout.length - bin.length)))))⟩) (a.put dst cr) w' := by
  let ρ := σ ++ newNames τ d (bout.length - bin.length)
  have hρl : ρ.length = bout.length := by simp [ρ, newNames, hσ]; have := hs.hle; omega
  have hσex : ∀ i ∈ σ, st.H i ≠ none := by
    intro i hi
    obtain ⟨j, hj, rfl⟩ := List.getElem_of_mem hi
    have hjb : j < bin.length := by omega
    have := hH j bin[j] (by simp [hjb])
    have e : nameAt σ j = σ[j] := by simp [nameAt, List.getD_eq_getElem?_getD, hj]
    rw [e] at this
    simp [this]
  have hρn : ρ.Nodup := by
    rw [List.nodup_append]
    refine ⟨hnd, ?_, ?_⟩
    · unfold newNames
      rw [List.nodup_iff_pairwise_ne, List.pairwise_map]
      exact List.nodup_range.imp (fun hne heq => hne (by simpa using heq))
    · intro i hi j hj hij
      subst hij
      simp only [newNames, List.mem_map] at hj
      obtain ⟨q, hq, rfl⟩ := hj
      exact hσex _ hi (hnew q (List.mem_range.1 hq))
  have hν : ∀ j, j < bin.length → nameAt ρ j = nameAt σ j := by
    intro j hj
    simp only [nameAt, ρ, List.getD_eq_getElem?_getD]
    rw [List.getElem?_append_left (by omega)]
  have hnews : ∀ j, bin.length ≤ j → j < bout.length → ∃ q, q < bout.length - bin.length ∧ nameAt ρ j = (τ, d, q) := by
    intro j h1 h2
    refine ⟨j - bin.length, by omega, ?_⟩
    simp only [nameAt, ρ, List.getD_eq_getElem?_getD]
    rw [List.getElem?_append_right (by omega), hσ]
    simp only [newNames, List.getElem?_map]
    rw [List.getElem?_range (by omega)]
    rfl
  -- the ghost behind
  let Γ2 : Gh := { S := Γo.S, K := fun i => match idx ρ i with | some j => Γo.K (hole j) | none => Γ.K i }
  have hK2 : ∀ j, j < bout.length → Γ2.K (nameAt ρ j) = Γo.K (hole j) := by
    intro j hj
    have := idx_at hρn (nameAt_get (σ := ρ) (j := j) (by omega))
    simp only [Γ2, this]
  have hfit : Fits bout.length (nameAt ρ) Γo Γ2 := ⟨rfl, fun j hj => (hK2 j hj).symm⟩
  have hidx : ∀ i j, idx ρ i = some j → j < bout.length ∧ i = nameAt ρ j := by
    intro i j hij
    have h1 := idx_some hij
    have hj : j < ρ.length := (List.getElem?_eq_some_iff.1 h1).1
    refine ⟨by omega, ?_⟩
    rw [nameAt_get hj] at h1
    cases h1; rfl
  have hH2 : ∀ i, (st.app dst ⟨ren (nameAt ρ) r, σ, ρ.zip (bout.map (Buf.ren (nameAt ρ)))⟩).H i = match idx ρ i with | some j => (bout[j]?).map (Buf.ren (nameAt ρ)) | none => st.H i := by
    intro i
    have := foldU_idx ρ (bout.map (Buf.ren (nameAt ρ))) st.H i hρn (by simp [hρl])
    simp only [St.app]
    rw [this]
    cases idx ρ i <;> simp
  have hhole : ∀ j q, j < bin.length → Γ.K (nameAt σ j) = some q → (Γ.holes bin.length (nameAt σ)).K (hole j) = some q := by
    intro j q hj hq
    rw [(Γ.holes_fits bin.length (nameAt σ)).K j hj]; exact hq
  have hblk : ∀ k, (Γ.holes bin.length (nameAt σ)).blocks k → ∃ j q, j < bin.length ∧ Γ.K (nameAt σ j) = some q ∧ q.block = some k := by
    rintro k ⟨i, q, h1, h2⟩
    obtain ⟨h3, h4, h5⟩ := Gh.holes_some h1
    exact ⟨i.2.2, q, h4, h5, h2⟩
  have hKm : ∀ i q, Γ.K i = some q → ∃ q', Γ2.K i = some q' ∧ (q' = q ∨ q.len < q'.len) := by
    intro i q hq
    simp only [Γ2]
    cases hij : idx ρ i with
    | none => exact ⟨q, hq, .inl rfl⟩
    | some j =>
      obtain ⟨hj, rfl⟩ := hidx i j hij
      rcases Nat.lt_or_ge j bin.length with h1 | h1
      · rw [hν j h1] at hq
        exact hev (hole j) q (hhole j q h1 hq)
      · obtain ⟨p, hpl, hp⟩ := hnews j h1 hj
        rw [hp] at hq
        rw [(h.dom _).2 (hnew p hpl)] at hq
        cases hq
  have hSw : ∀ k, Γ.S k → w'.heap[k]? = w.heap[k]? := by
    intro k hks
    refine hk.block k (h.sok k hks) fun hb => ?_
    obtain ⟨j, q, h1, h2, h3⟩ := hblk k hb
    exact (h.own _ q k h2 h3).1 hks
  have hout : ∀ i q k, idx ρ i = none → Γ.K i = some q → q.block = some k → ¬ (Γ.holes bin.length (nameAt σ)).blocks k := by
    intro i q k hi hq hqk hb
    obtain ⟨j, q', h1, h2, h3⟩ := hblk k hb
    have := h.apart i (nameAt σ j) q q' k hq h2 hqk h3
    subst this
    rw [← hν j h1] at hi
    rw [idx_at hρn (nameAt_get (σ := ρ) (j := j) (by have := hs.hle; omega))] at hi
    cases hi
  refine ⟨Γ2, ⟨?_, by rw [put_defers]; exact h.defers, by rw [put_size]; exact h.size, fun k hk => hS k (h.s0 k hk), ?_, ?_, ho.sok, ?_, ?_, ?_, ?_, ?_, ?_⟩⟩
  · refine h.keep.step hk ?_
    intro k hb hlt
    obtain ⟨j, q, h1, h2, h3⟩ := hblk k hb
    rcases (h.own _ q k h2 h3).2.2 with h4 | h4
    · omega
    · exact h4
  · intro k hks
    rcases hS' k hks with h1 | h1
    · exact h.sin k h1
    · exact .inr (Nat.le_trans h.keep.size h1.1)
  · refine slots_put (fun s => VR_mono (Γ' := Γ2) hS hSw hKm _ _ (h.slots s)) dst (fun k hk => by rw [h.size]; exact hdN k hk) _ _ ?_
    exact (VR_ren hfit r cr hs.hr).1 hr
  · intro i
    rw [hH2]
    simp only [Γ2]
    cases hij : idx ρ i with
    | none => exact h.dom i
    | some j =>
      obtain ⟨hj, _⟩ := hidx i j hij
      simp only
      rw [ho.dom (hole j)]
      rw [bufsH_hole]
      simp
  · intro i b q hb hq
    rw [hH2] at hb
    simp only [Γ2] at hq
    cases hij : idx ρ i with
    | none =>
      rw [hij] at hb hq
      simp only at hb hq
      exact RR_mono (Γ := Γ) (Γ' := Γ2) hS hSw hKm b q (fun k hqk => hk.block k (h.own i q k hq hqk).2.1 (hout i q k hij hq hqk)) (h.res i b q hb hq)
    | some j =>
      rw [hij] at hb hq
      simp only at hb hq
      rw [Option.map_eq_some_iff] at hb
      obtain ⟨b', hb', rfl⟩ := hb
      exact (RR_ren hfit b' q (hs.hbout b' (List.mem_of_getElem? hb'))).1 (ho.res (hole j) b' q (by rw [bufsH_hole, hb']) hq)
  · intro i q k hq hqk
    simp only [Γ2] at hq
    cases hij : idx ρ i with
    | none =>
      rw [hij] at hq
      simp only at hq
      obtain ⟨o1, o2, o3⟩ := h.own i q k hq hqk
      refine ⟨fun hs' => ?_, Nat.lt_of_lt_of_le o2 hk.size, o3⟩
      rcases hS' k hs' with h1 | h1
      · exact o1 h1
      · omega
    | some j =>
      rw [hij] at hq
      simp only at hq
      obtain ⟨o1, o2⟩ := ho.own (hole j) q k hq hqk
      refine ⟨o1, o2, ?_⟩
      rcases hbl (hole j) q k hq hqk with h1 | h1
      · exact .inl (Nat.le_trans h.keep.size h1)
      · obtain ⟨j', q', h2, h3, h4⟩ := hblk k h1
        exact (h.own _ q' k h3 h4).2.2
  · have cross : ∀ i i' q q' k j, idx ρ i = none → idx ρ i' = some j → Γ.K i = some q → Γo.K (hole j) = some q' → q.block = some k → q'.block = some k → False := by
      intro i i' q q' k j hi hj hq hq' hqk hqk'
      rcases hbl (hole j) q' k hq' hqk' with h1 | h1
      · have := (h.own i q k hq hqk).2.1; omega
      · exact hout i q k hi hq hqk h1
    intro i i' q q' k hq hq' hqk hqk'
    simp only [Γ2] at hq hq'
    cases hij : idx ρ i with
    | none =>
      rw [hij] at hq
      simp only at hq
      cases hij' : idx ρ i' with
      | none =>
        rw [hij'] at hq'
        simp only at hq'
        exact h.apart i i' q q' k hq hq' hqk hqk'
      | some j' =>
        rw [hij'] at hq'
        exact (cross i i' q q' k j' hij hij' hq hq' hqk hqk').elim
    | some j =>
      rw [hij] at hq
      cases hij' : idx ρ i' with
      | none =>
        rw [hij'] at hq'
        exact (cross i' i q' q k j hij' hij hq' hq hqk' hqk).elim
      | some j' =>
        rw [hij'] at hq'
        simp only at hq hq'
        have := ho.apart (hole j) (hole j') q q' k hq hq' hqk hqk'
        have hjj : j = j' := by simpa [hole] using this
        subst hjj
        rw [(hidx i j hij).2, (hidx i' j hij').2]
  · intro i hi
    rw [hH2]
    cases hij : idx ρ i with
    | none => exact h.fresh i hi
    | some j =>
      exfalso
      obtain ⟨hj, rfl⟩ := hidx i j hij
      rcases Nat.lt_or_ge j bin.length with h1 | h1
      · rw [hν j h1] at hi
        have := h.lt (i := nameAt σ j) (hσex _ (List.mem_of_getElem? (nameAt_get (σ := σ) (j := j) (by omega))))
        simp only [St.app] at hi
        omega
      · obtain ⟨p, hpl, hp⟩ := hnews j h1 hj
        rw [hp] at hi
        simp only [St.app] at hi
        omega
  · intro i q hq
    obtain ⟨r1, h1, h2⟩ := h.evo i q hq
    obtain ⟨r2, h3, h4⟩ := hKm i r1 h1
    refine ⟨r2, h3, ?_⟩
    rcases h2 with rfl | h2 <;> rcases h4 with rfl | h4
    · exact .inl rfl
    · exact .inr h4
    · exact .inr h2
    · exact .inr (Nat.lt_trans h2 h4)

/-- What the callee is handed. -/
theorem SR.hand (h : SR B Γ st a w) {σ : List Nm} {ν : Nat → Nm} {g : Nat} {args : List PV} {bin bout : List Buf} {r : PV} (hs : Static P g args bin r bout)
    (hσ : σ.length = bin.length) (hnd : σ.Nodup) (hν : ∀ j, j < bin.length → ν j = nameAt σ j) (hH : ∀ (j : Nat) b, bin[j]? = some b → st.H (nameAt σ j) = some (b.ren ν)) :
    HR (Γ.holes bin.length (nameAt σ)) (bufsH bin) w ∧ Fits bin.length ν (Γ.holes bin.length (nameAt σ)) Γ := by
  have hfit : Fits bin.length ν (Γ.holes bin.length (nameAt σ)) Γ := ⟨rfl, fun j hj => by rw [hν j hj]; exact (Γ.holes_fits bin.length (nameAt σ)).K j hj⟩
  refine ⟨⟨h.sok, ?_, ?_, ?_, ?_⟩, hfit⟩
  · intro i
    simp only [Gh.holes, bufsH]
    by_cases hi : isHole i = true
    · rcases Nat.lt_or_ge i.2.2 bin.length with h1 | h1
      · have := hH i.2.2 bin[i.2.2] (by simp [h1])
        simp only [hi, h1, decide_true, Bool.and_true, if_true]
        rw [h.dom]
        simp [this, h1]
      · have h2 : ¬ i.2.2 < bin.length := by omega
        simp [hi, h2]
    · simp [hi]
  · intro i b q hb hq
    obtain ⟨h1, h2, h3⟩ := Gh.holes_some hq
    simp only [bufsH, h1, if_true] at hb
    refine (RR_ren hfit b q (hs.hbin b (List.mem_of_getElem? hb))).2 ?_
    exact h.res _ _ _ (hH _ b hb) h3
  · intro i q k hq hk
    obtain ⟨h1, h2, h3⟩ := Gh.holes_some hq
    obtain ⟨o1, o2, o3⟩ := h.own _ q k h3 hk
    exact ⟨o1, o2⟩
  · intro i j q q' k hq hq' hk hk'
    obtain ⟨h1, h2, h3⟩ := Gh.holes_some hq
    obtain ⟨h4, h5, h6⟩ := Gh.holes_some hq'
    have he := h.apart _ _ q q' k h3 h6 hk hk'
    have hj : i.2.2 = j.2.2 := by
      have e1 := nameAt_get (σ := σ) (j := i.2.2) (by omega)
      have e2 := nameAt_get (σ := σ) (j := j.2.2) (by omega)
      rw [he] at e1
      obtain ⟨p1, p2⟩ := List.getElem?_eq_some_iff.1 e1
      obtain ⟨p3, p4⟩ := List.getElem?_eq_some_iff.1 e2
      exact (List.getElem_inj hnd).1 (p2.trans p4.symm)
    rw [isHole_eq h1, isHole_eq h4, hj]

end
end Go.Proofs.YthcmcjkljjfccaaGreatDoor.Abs
set_option linter.unusedVariables false
namespace Go.Proofs.YthcmcjkljjfccaaGreatDoor.Abs
open Go Go.RowKit

/-! ## One operation of a region, calls among them -/

def guardA (ops : Array Oper) (o : Oper) (st : St) : Option Bool :=
  match o.guard with
  | none => some true
  | some (j, want) => match (ops[j]?).bind (·.dst) with
    | some d => match st.fr d with
      | .bool b => some (b == want)
      | .undef => some false
      | _ => none
    | none => some false

def calleeOf (st : St) (c : Call) : Option (Nat × List PV) :=
  match c.callee with
  | .value f => match st.op f with
    | .fn g caps => some (g, c.args.toList.map st.op ++ caps)
    | _ => none
  | _ => none

def fuel : Nat := 6

mutual
/-- No pointer is in it but to what is one's own. -/
def flatH : PV → Bool
  | .bool _ => true
  | .int _ _ => true
  | .str _ => true
  | .nils => true
  | .sl _ cs => cs.isEmpty
  | .nerr => true
  | .err => true
  | .undef => true
  | .agg cs => flatHL cs
  | .tup cs => flatHL cs
  | .ref _ _ => true
  | .loc _ _ _ => true
  | .ptr _ => false
  | .fn _ _ => false
  | .junk => true
def flatHL : List PV → Bool
  | [] => true
  | c :: cs => flatH c && flatHL cs
end
mutual
theorem VR_flatH {Γ Γ' : Gh} {w : World} (hK : Γ'.K = Γ.K) : ∀ (x : PV) (v : Value), VR Γ w x v → flatH x = true → VR Γ' w x v
  | .bool b, v, h, _ => h
  | .int k n, v, h, _ => h
  | .str s, v, h, _ => h
  | .nils, v, h, _ => h
  | .sl n cs, v, h, hs => by
    simp only [flatH, List.isEmpty_iff] at hs
    subst hs
    simp only [VR, IR] at h ⊢
    obtain ⟨A, c, h1, h2, h3, _⟩ := h
    exact ⟨A, c, h1, h2, h3, by simp⟩
  | .ptr cs, v, h, hs => by simp [flatH] at hs
  | .agg cs, v, h, hs => by
    simp only [VR] at h ⊢
    obtain ⟨l, rfl, h⟩ := h
    exact ⟨l, rfl, LR_flatH hK cs l h (by rwa [flatH] at hs)⟩
  | .tup cs, v, h, hs => by
    simp only [VR] at h ⊢
    obtain ⟨l, rfl, h⟩ := h
    exact ⟨l, rfl, LR_flatH hK cs l h (by rwa [flatH] at hs)⟩
  | .fn g cs, v, h, hs => by simp [flatH] at hs
  | .nerr, v, h, _ => h
  | .err, v, h, _ => h
  | .undef, v, h, _ => h
  | .ref i n, v, h, hs => by simpa only [VR, hK] using h
  | .loc i len off, v, h, hs => by simpa only [VR, hK] using h
  | .junk, v, h, hs => by simp only [VR]
theorem LR_flatH {Γ Γ' : Gh} {w : World} (hK : Γ'.K = Γ.K) : ∀ (cs : List PV) (l : List Value), LR Γ w cs l → flatHL cs = true → LR Γ' w cs l
  | [], l, h, _ => by simpa only [LR] using h
  | u :: us, l, h, hs => by
    simp only [LR] at h
    obtain ⟨c, r, rfl, h1, h2⟩ := h
    rw [flatHL, Bool.and_eq_true] at hs
    exact ⟨c, r, rfl, VR_flatH hK u c h1 hs.1, LR_flatH hK us r h2 hs.2⟩
end
theorem RR_flatH {Γ Γ' : Gh} {w : World} (hK : Γ'.K = Γ.K) (b : Buf) (r : KR) (h : RR Γ w b r) (hs : flatHL b.cells = true) : RR Γ' w b r := by
  cases r with
  | box k =>
    obtain ⟨h1, h2, l, t, cur, h3, h4, h5, h6, h7⟩ := h
    exact ⟨h1, h2, l, t, cur, h3, h4, h5, LR_flatH hK _ _ h6 hs, h7⟩
  | row n v =>
    obtain ⟨h1, e, sz, l, h2, h3, h4, h5, h6⟩ := h
    exact ⟨h1, e, sz, l, h2, h3, h4, LR_flatH hK _ _ h5 hs, h6⟩
  | gone n => exact h

/-- What a call that turns what it is handed comes to. -/
def gcEff (τ : Nat) (dst : Option Nat) (H : Nm → Option Buf) (acts : List PV) (args : List PV) (bin : List Buf) (r : PV) (bout : List Buf) (e : Eff) : Prop :=
  ∃ (d : Nat) (σ : List Nm), (dst = some d ∨ bout.length = bin.length) ∧ σ.length = bin.length ∧ σ.Nodup ∧ renL (nameAt (σ ++ newNames τ d (bout.length - bin.length))) args = acts ∧
    (∀ (j : Nat) b, bin[j]? = some b → H (nameAt σ j) = some (b.ren (nameAt (σ ++ newNames τ d (bout.length - bin.length))))) ∧
    e = ⟨ren (nameAt (σ ++ newNames τ d (bout.length - bin.length))) r, σ, (σ ++ newNames τ d (bout.length - bin.length)).zip (bout.map (Buf.ren (nameAt (σ ++ newNames τ d (bout.length - bin.length)))))⟩

def callEff (P : Program) [Begin P] (τ : Nat) (o : Oper) (st : St) (e : Eff) : Prop :=
  (∃ c g args ys, o.op = .call c ∧ calleeOf st c = some (g, args) ∧ seenL st.H fuel args = some ys ∧
    ((∃ r, PC P g ys r ∧ (settledL args = true ∨ flat r = true) ∧ e = ⟨r, namesL st.H fuel args, []⟩) ∨
     (∃ d el sz n cells, o.dst = some d ∧ PCF P g ys el sz n cells ∧ (settledL args = true ∨ flatL cells = true) ∧ e = ⟨.ref (τ, d, 0) n, namesL st.H fuel args, [((τ, d, 0), ⟨some (el, sz), n, cells⟩)]⟩) ∨
     (∃ d r bout, o.dst = some d ∧ GC P g ys [] r bout ∧ (settledL args = true ∨ (flatH r = true ∧ bout.all (fun b => flatHL b.cells) = true)) ∧
        e = ⟨ren (nameAt (newNames τ d bout.length)) r, namesL st.H fuel args, (newNames τ d bout.length).zip (bout.map (Buf.ren (nameAt (newNames τ d bout.length))))⟩))) ∨
  (∃ c g acts args bin r bout, o.op = .call c ∧ calleeOf st c = some (g, acts) ∧ GC P g args bin r bout ∧ gcEff τ o.dst st.H acts args bin r bout e)

def EffR (P : Program) [Begin P] (τ : Nat) (ops : Array Oper) (o : Oper) (st : St) (e : Eff) : Prop :=
  (guardA ops o st = some false ∧ e = ⟨.undef, [], []⟩) ∨ (guardA ops o st = some true ∧ (ev P τ o st = some e ∨ callEff P τ o st e))

section
variable {P : Program} [Begin P] {B : Base} {w w' : World} {Γ Γ' : Gh} {st : St} {a : Act} {S S' : Nat → Prop}

theorem guard_sound (h : SR B Γ st a w) {ops : Array Oper} {o : Oper} {b : Bool} (hg : guardA ops o st = some b) : Region.wanted o (yielded ops a.tmps) = b := by
  unfold guardA at hg
  unfold Region.wanted
  split at hg
  · rename_i hn
    cases hg
    rw [hn]
  · rename_i j want hn
    rw [hn]
    simp only
    unfold yielded
    cases hd : (ops[j]?).bind (·.dst) with
    | none =>
      rw [hd] at hg
      simp only at hg
      cases hg
      rfl
    | some d =>
      rw [hd] at hg
      simp only [Option.bind_some] at hg ⊢
      have hs := h.slots d
      rw [Array.getD_eq_getD_getElem?] at hs
      split at hg
      · rename_i q hq
        cases hg
        rw [hq] at hs
        simp only [VR, IR] at hs
        cases ht : a.tmps[d]? with
        | none => rw [ht] at hs; simp [Go.undef] at hs
        | some v => rw [ht] at hs; simp at hs; subst hs; simp
      · rename_i hq
        cases hg
        rw [hq] at hs
        simp only [VR, IR] at hs
        cases ht : a.tmps[d]? with
        | none => rfl
        | some v => rw [ht] at hs; simp at hs; subst hs; rfl
      · cases hg

theorem run_callFunc {g : Nat} (hc : callable P g = true) (args : Array Value) : (callFunc g args).run P w = .ok (.enter g args) w := by
  unfold callable at hc
  split at hc
  · rename_i fn hfn
    simp only [Bool.and_eq_true, bne_iff_ne, ne_eq] at hc
    have hn : fn.body.isNone = false := by
      cases hb : fn.body with
      | none => rw [hb] at hc; simp at hc
      | some b => rfl
    cases hb : fn.body with
    | none => rw [hb] at hc; simp at hc
    | some b => simp [callFunc, hfn, hc.1, hb]
  · cases hc

theorem callee_sound (h : SR B Γ st a w) {o : Oper} {c : Call} (ho : o.op = .call c) {g : Nat} {args : List PV} (hc : calleeOf st c = some (g, args)) (hcl : callable P g = true) :
    ∃ cargs : List Value, (execOp a.eval o).run P w = .ok (.enter g cargs.toArray) w ∧ LR Γ w args cargs := by
  unfold calleeOf at hc
  split at hc
  · rename_i f hf
    split at hc
    · rename_i g' caps hop
      cases hc
      have hv := h.op f
      rw [hop] at hv
      simp only [VR] at hv
      obtain ⟨l, hv, hl⟩ := hv
      refine ⟨c.args.toList.map a.eval ++ l, ?_, ?_⟩
      · have e1 : (c.args.toList.map a.eval ++ l).toArray = c.args.map a.eval ++ l.toArray := by
          apply Array.ext'
          simp
        rw [e1]
        simp [execOp, ho, resolve, hf, hv, Deferred.ofValue, invoke, run_callFunc hcl]
      · refine LR_append ?_ hl
        generalize c.args.toList = q
        induction q with
        | nil => rfl
        | cons x q ih => exact ⟨_, _, rfl, h.op x, ih⟩
    · cases hc
  · cases hc

mutual
theorem seen_set {H : Nm → Option Buf} {w : World} {S : Nat → Prop} : ∀ (k : Nat) (x y : PV) (v : Value), settled x = true → IR S w x v → seen H k x = some y → IR S w y v
  | 0, x, y, v, hx, hv, hs => by
    simp only [seen] at hs
    split at hs
    · cases hs; exact hv
    · cases hs
  | k + 1, x, y, v, hx, hv, hs => by
    by_cases hc : canon x = true
    · have : seen H (k + 1) x = some x := by cases x <;> first | (simp [canon] at hc; done) | (simp [seen, canon]; done) | simp [seen, hc]
      rw [this] at hs
      cases hs
      exact hv
    · cases x with
      | bool b => simp [canon] at hc
      | int q n => simp [canon] at hc
      | str q => simp [canon] at hc
      | sl n cs => simp [canon] at hc
      | ptr cs => simp [canon] at hc
      | nerr => simp [canon] at hc
      | err => simp [canon] at hc
      | undef => simp [canon] at hc
      | junk => simp [settled] at hx
      | ref nm n => simp [settled] at hx
      | loc nm len off => simp [settled] at hx
      | nils =>
        simp only [seen, canon, Bool.false_eq_true, if_false] at hs
        cases hs
        simp only [IR] at hv
        subst hv
        simp only [IR]
        exact ⟨none, 0, rfl, Nat.le_refl _, by simp [maxLen], .inl trivial⟩
      | agg cs =>
        simp only [seen, hc, Bool.false_eq_true, if_false] at hs
        rw [Option.map_eq_some_iff] at hs
        obtain ⟨ys, hys, rfl⟩ := hs
        simp only [IR] at hv ⊢
        obtain ⟨l, rfl, hl⟩ := hv
        rw [settled] at hx
        exact ⟨l, rfl, seenL_set k cs ys l hx hl hys⟩
      | tup cs =>
        simp only [seen, hc, Bool.false_eq_true, if_false] at hs
        rw [Option.map_eq_some_iff] at hs
        obtain ⟨ys, hys, rfl⟩ := hs
        simp only [IR] at hv ⊢
        obtain ⟨l, rfl, hl⟩ := hv
        rw [settled] at hx
        exact ⟨l, rfl, seenL_set k cs ys l hx hl hys⟩
      | fn g cs =>
        simp only [seen, hc, Bool.false_eq_true, if_false] at hs
        rw [Option.map_eq_some_iff] at hs
        obtain ⟨ys, hys, rfl⟩ := hs
        simp only [IR] at hv ⊢
        obtain ⟨l, rfl, hl⟩ := hv
        rw [settled] at hx
        exact ⟨l, rfl, seenL_set k cs ys l hx hl hys⟩
theorem seenL_set {H : Nm → Option Buf} {w : World} {S : Nat → Prop} : ∀ (k : Nat) (cs ys : List PV) (l : List Value), settledL cs = true → ILR S w cs l → seenL H k cs = some ys → ILR S w ys l
  | k, [], ys, l, _, hl, hs => by
    simp only [seenL] at hs
    cases hs
    exact hl
  | k, c :: cs, ys, l, hx, hl, hs => by
    rw [settledL, Bool.and_eq_true] at hx
    simp only [seenL] at hs
    split at hs
    · rename_i y ys' h1 h2
      cases hs
      simp only [ILR] at hl
      obtain ⟨v, r, rfl, hv, hr⟩ := hl
      exact ⟨v, r, rfl, seen_set k c y v hx.1 hv h1, seenL_set k cs ys' r hx.2 hr h2⟩
    · cases hs
end

theorem EffR.sound (hB : BaseOK P B) (h : SR B Γ st a w) {τ : Nat} (hτ : τ < st.t) {ops : Array Oper} {o : Oper} (hd : ∀ d, o.dst = some d → d < B.N ∧ ∀ j, st.H (τ, d, j) = none) {e : Eff} (he : EffR P τ ops o st e)
    {K : Act → World → Prop} {Q : Exit → Act → World → Prop} (hK : ∀ v w' Γ', SR B Γ' (st.app o.dst e) (a.put o.dst v) w' → K (a.put o.dst v) w') :
    if Region.wanted o (yielded ops a.tmps) then o.wp P a w K Q else K (a.put o.dst undef) w := by
  have hdN : ∀ k, o.dst = some k → k < B.N := fun k hk => (hd k hk).1
  rcases he with ⟨hg, rfl⟩ | ⟨hg, he⟩
  · rw [guard_sound h hg]
    simp only [Bool.false_eq_true, if_false]
    exact hK _ _ _ (h.put o.dst hdN .undef [] undef (by simp [VR, IR]))
  · rw [guard_sound h hg]
    simp only [if_true]
    rcases he with he | he
    · obtain ⟨v, w', Γ', hr, hsr⟩ := ev_sound (P := P) h τ hτ o hd he
      unfold Oper.wp
      rcases hr with hr | ⟨hr, rfl⟩
      · rw [hr]; exact hK _ _ _ hsr
      · rw [hr]; exact hK _ _ _ hsr
    · rcases he with ⟨c, g, args, ys, ho, hc, hs, hcase⟩ | ⟨c, g, acts, args, bin, r, bout, ho, hc, ⟨hst, hgc⟩, d, σ, hdst, hσ, hnd, hacts, hH, rfl⟩
      rotate_left
      · obtain ⟨cargs, hr, hl⟩ := callee_sound h ho hc hst.hcall
        have hν : ∀ j, j < bin.length → nameAt (σ ++ newNames τ d (bout.length - bin.length)) j = nameAt σ j := by
          intro j hj
          simp only [nameAt, List.getD_eq_getElem?_getD]
          rw [List.getElem?_append_left (by omega)]
        obtain ⟨hhr, hfit⟩ := h.hand hst hσ hnd hν hH
        have hl' : LR (Γ.holes bin.length (nameAt σ)) w args cargs := (LR_ren hfit args cargs hst.hargs).2 (by rw [hacts]; exact hl)
        have hnew : ∀ q, q < bout.length - bin.length → st.H (τ, d, q) = none := by
          intro q hq
          rcases hdst with hdst | hdst
          · exact (hd d hdst).2 q
          · omega
        unfold Oper.wp
        rw [hr]
        simp only [Oper.upon]
        refine (hgc (Γ.holes bin.length (nameAt σ)) w cargs (show Glob P Γ.S w from h.glob hB) hhr hl').mono ?_
        rintro en w' ⟨cr, Γo, rfl, ho', hvr, hSS, hS', hev, hbl, hk⟩
        obtain ⟨Γ', hsr⟩ := h.handed hτ hdN hst hσ hnew hnd hH ho' hvr hSS hS' hev hbl hk
        exact hK _ _ _ hsr
      have hsok : ∀ k, Γ.all k → k < w.heap.size := by
        rintro k (hk | ⟨i, r, hr, hk⟩)
        · exact h.sok k hk
        · exact (h.own i r k hr hk).2.1
      rcases hcase with ⟨r, hpc, hsf, rfl⟩ | ⟨d, el, sz, n, cells, hdst, hpc, hsf, rfl⟩ | ⟨d, r, bout, hdst, ⟨hst, hgc⟩, hsf, rfl⟩
      rotate_right
      · obtain ⟨cargs, hr, hl⟩ := callee_sound h ho hc hst.hcall
        unfold Oper.wp
        rw [hr]
        simp only [Oper.upon]
        have core : ∀ cr w' (Γo : Gh), HR Γo (bufsH bout) w' → VR Γo w' r cr → (∀ k, Γ.S k → Γo.S k) → (∀ k, Γo.S k → Γ.S k ∨ (w.heap.size ≤ k ∧ k < w'.heap.size)) →
            (∀ i q k, Γo.K i = some q → q.block = some k → w.heap.size ≤ k) → Keep (fun _ => False) w w' → K (a.put o.dst cr) w' := by
          intro cr w' Γo hhr hvr hSS hS' hbl hk
          have h0 : newNames τ d (bout.length - ([] : List Buf).length) = newNames τ d bout.length := by simp
          have hnob : ∀ k, ¬ (Γ.holes ([] : List Buf).length (nameAt [])).blocks k := by
            rintro k ⟨i, q, hq, _⟩
            have := (Gh.holes_some hq).2.1
            simp at this
          have hnewn : ∀ q, q < bout.length - ([] : List Buf).length → st.H (τ, d, q) = none := fun q _ => (hd d hdst).2 q
          obtain ⟨Γ', hsr⟩ := h.handed (g := g) (args := ys) (bin := []) (σ := []) hτ hdN hst rfl hnewn List.nodup_nil (by simp) hhr hvr hSS hS' (by
            intro i q hq
            have := (Gh.holes_some hq).2.1
            simp at this) (fun i q k h1 h2 => .inl (hbl i q k h1 h2)) ⟨hk.os, hk.tape, hk.output, hk.size, fun k hlt _ => hk.block k hlt id⟩
          simp only [List.nil_append, h0] at hsr
          exact hK cr w' Γ' hsr
        rcases hsf with hset | ⟨hfl, hflb⟩
        · refine (hgc { S := Γ.S, K := fun _ => none } w cargs (show Glob P Γ.S w from h.glob hB) ⟨h.sok, by simp [bufsH], by simp, by simp, by simp⟩ (LR_of_ILR (Γ := { S := Γ.S, K := fun _ => none }) _ _ (seenL_set _ _ _ _ hset (ILR_of_settled (Γ := Γ) _ _ hl hset) hs))).mono ?_
          rintro en w' ⟨cr, Γo, rfl, ho', hvr, hSS, hS', hev, hbl, hk⟩
          refine core cr w' Γo ho' hvr hSS hS' (fun i q k h1 h2 => ?_) ⟨hk.os, hk.tape, hk.output, hk.size, fun k hlt _ => hk.block k hlt (by rintro ⟨i, q, h1, _⟩; cases h1)⟩
          rcases hbl i q k h1 h2 with h3 | ⟨i, q, h3, _⟩
          · exact h3
          · cases h3
        · refine (hgc { S := Γ.all, K := fun _ => none } w cargs (show Glob P Γ.all w from (h.glob hB).mono (fun k hk => .inl hk) (fun _ _ => rfl)) ⟨hsok, by simp [bufsH], by simp, by simp, by simp⟩ (LR_of_ILR (Γ := { S := Γ.all, K := fun _ => none }) _ _ (seenL_sound h _ _ _ _ hl hs))).mono ?_
          rintro en w' ⟨cr, Γo, rfl, ho', hvr, hSS, hS', hev, hbl, hk⟩
          have hbl2 : ∀ i q k, Γo.K i = some q → q.block = some k → w.heap.size ≤ k := by
            intro i q k h1 h2
            rcases hbl i q k h1 h2 with h3 | ⟨i, q, h3, _⟩
            · exact h3
            · cases h3
          have hk2 : Keep (fun _ => False) w w' := ⟨hk.os, hk.tape, hk.output, hk.size, fun k hlt _ => hk.block k hlt (by rintro ⟨i, q, h1, _⟩; cases h1)⟩
          refine core cr w' { S := Γ.S, K := Γo.K } ⟨fun k h1 => Nat.lt_of_lt_of_le (h.sok k h1) hk2.size, ho'.dom, ?_, ?_, ho'.apart⟩ (VR_flatH (Γ := Γo) (Γ' := { S := Γ.S, K := Γo.K }) rfl _ _ hvr hfl) (fun _ h => h) (fun _ h => .inl h) hbl2 hk2
          · intro i b q hb hq
            refine RR_flatH (Γ := Γo) (Γ' := { S := Γ.S, K := Γo.K }) rfl b q (ho'.res i b q hb hq) ?_
            simp only [bufsH] at hb
            split at hb
            · exact List.all_eq_true.1 hflb b (List.mem_of_getElem? hb)
            · cases hb
          · intro i q k h1 h2
            refine ⟨fun h3 => ?_, (ho'.own i q k h1 h2).2⟩
            have := h.sok k h3
            have := hbl2 i q k h1 h2
            omega
      · obtain ⟨cargs, hr, hl⟩ := callee_sound h ho hc hpc.1
        unfold Oper.wp
        rw [hr]
        simp only [Oper.upon]
        rcases hsf with hset | hfl
        · refine (hpc.2 Γ.S w cargs (h.glob hB) h.sok (seenL_set _ _ _ _ hset (ILR_of_settled _ _ hl hset) hs)).mono ?_
          rintro en w' ⟨cr, S', rfl, hir, hSS, hS', hb⟩
          have hg := h.grow hb hSS hS'
          exact hK _ _ _ (hg.put o.dst hdN r (namesL st.H fuel args) cr (VR_of_IR _ _ hir))
        · refine (hpc.2 Γ.all w cargs ((h.glob hB).mono (fun k hk => .inl hk) (fun _ _ => rfl)) hsok (seenL_sound h _ _ _ _ hl hs)).mono ?_
          rintro en w' ⟨cr, S', rfl, hir, hSS, hS', hb⟩
          have hg := h.grow (S' := Γ.S) hb (fun _ h => h) (fun _ h => .inl h)
          exact hK _ _ _ (hg.put o.dst hdN r (namesL st.H fuel args) cr (VR_of_IR _ _ (IR_flat _ _ hir hfl)))
      · obtain ⟨cargs, hr, hl⟩ := callee_sound h ho hc hpc.1
        obtain ⟨hdl, hdn'⟩ := hd d hdst
        have hdn := hdn' 0
        unfold Oper.wp
        rw [hr]
        simp only [Oper.upon]
        obtain ⟨hcl, hsz, hall, hpc⟩ := hpc
        suffices core : ∀ cr w' S' l, w'.ownsRow w.heap.size el sz cr n l → ILR S' w' cells l → (∀ k, Γ.S k → S' k) → (∀ k, S' k → Γ.S k ∨ (w.heap.size ≤ k ∧ k < w'.heap.size)) → (∀ k, cr.ownBlock = some k → ¬ S' k) → Below w.heap.size w w' → K (a.put o.dst cr) w' by
          rcases hsf with hset | hfl
          · refine (hpc Γ.S w cargs (h.glob hB) h.sok (seenL_set _ _ _ _ hset (ILR_of_settled _ _ hl hset) hs)).mono ?_
            rintro en w' ⟨cr, S', l, rfl, hown, hil, hSS, hS', hnb, hb⟩
            exact core cr w' S' l hown hil hSS hS' hnb hb
          · refine (hpc Γ.all w cargs ((h.glob hB).mono (fun k hk => .inl hk) (fun _ _ => rfl)) hsok (seenL_sound h _ _ _ _ hl hs)).mono ?_
            rintro en w' ⟨cr, S', l, rfl, hown, hil, hSS, hS', hnb, hb⟩
            refine core cr w' Γ.S l hown (ILR_flat _ _ hil hfl) (fun _ h => h) (fun _ h => .inl h) ?_ hb
            intro k hk hS
            have := (hown.lt k hk).1
            have := h.sok k hS
            omega
        intro cr w' S' l hown hil hSS hS' hnb hb
        have hg := h.grow hb hSS hS'
        have hrow : ∃ Γ', SR B Γ' (st.app (some d) ⟨.ref (τ, d, 0) n, namesL st.H fuel args, [((τ, d, 0), ⟨some (el, sz), n, cells⟩)]⟩) (a.put (some d) cr) w' := by
          have hlr := LR_of_ILR (Γ := { S := S', K := Γ.K }) _ _ hil
          have h1 := all_isCell hall hlr
          have hKn : Γ.K (τ, d, 0) = none := (h.dom _).2 hdn
          have hc2 : SR B { S := S', K := updK Γ.K (τ, d, 0) (.row n cr) } { fr := st.fr, H := upd st.H (τ, d, 0) ⟨some (el, sz), n, cells⟩, t := st.t } a w' := by
            have hKm : ∀ i r, Γ.K i = some r → ∃ r', updK Γ.K (τ, d, 0) (.row n cr) i = some r' ∧ (r' = r ∨ r.len < r'.len) := by
              intro i r hr
              refine ⟨r, ?_, .inl rfl⟩
              unfold updK
              have : i ≠ (τ, d, 0) := by rintro rfl; rw [hKn] at hr; cases hr
              simp [this, hr]
            have hown0 := own_zero hown
            refine ⟨hg.keep, hg.defers, hg.size, hg.s0, hg.sin, ?_, hg.sok, ?_, ?_, ?_, ?_, ?_, ?_⟩
            · intro s
              exact VR_mono (Γ := { S := S', K := Γ.K }) (Γ' := { S := S', K := updK Γ.K (τ, d, 0) (.row n cr) }) (fun _ h => h) (fun _ _ => rfl) hKm _ _ (hg.slots s)
            · intro i
              simp only [updK, upd]
              by_cases hi : i = (τ, d, 0)
              · simp [hi]
              · simp [hi, h.dom i]
            · intro i b r hb' hr
              simp only [updK, upd] at hb' hr
              by_cases hi : i = (τ, d, 0)
              · subst hi
                simp at hb' hr
                subst hb' hr
                exact ⟨rfl, el, sz, l, rfl, hsz, hown0, LR_mono (Γ := { S := S', K := Γ.K }) (Γ' := { S := S', K := updK Γ.K (τ, d, 0) (.row n cr) }) (fun _ h => h) (fun _ _ => rfl) hKm _ _ hlr, h1⟩
              · simp only [hi, if_false] at hb' hr
                exact RR_mono (Γ := { S := S', K := Γ.K }) (Γ' := { S := S', K := updK Γ.K (τ, d, 0) (.row n cr) }) (fun _ h => h) (fun _ _ => rfl) hKm b r (fun _ _ => rfl) (hg.res i b r hb' hr)
            · intro i r k hr hk
              simp only [updK] at hr
              by_cases hi : i = (τ, d, 0)
              · subst hi
                simp at hr
                subst hr
                obtain ⟨hlo, hhi⟩ := hown.lt k hk
                exact ⟨hnb k hk, hhi, .inl (Nat.le_trans h.keep.size hlo)⟩
              · simp only [hi, if_false] at hr
                exact hg.own i r k hr hk
            · intro i j r q k hr hq hk hk'
              simp only [updK] at hr hq
              by_cases hi : i = (τ, d, 0) <;> by_cases hj : j = (τ, d, 0)
              · rw [hi, hj]
              · subst hi
                simp at hr
                simp only [hj, if_false] at hq
                subst hr
                have := (hown.lt k hk).1
                have := (h.own j q k hq hk').2.1
                omega
              · subst hj
                simp at hq
                simp only [hi, if_false] at hr
                subst hq
                have := (hown.lt k hk').1
                have := (h.own i r k hr hk).2.1
                omega
              · simp only [hi, hj, if_false] at hr hq
                exact h.apart i j r q k hr hq hk hk'
            · intro i hi
              simp only [upd]
              have : i ≠ (τ, d, 0) := by rintro rfl; exact absurd hi (by simpa using hτ)
              simp [this, h.fresh i hi]
            · intro i r hr
              obtain ⟨r1, h1, h2⟩ := hg.evo i r hr
              refine ⟨r1, ?_, h2⟩
              have : i ≠ (τ, d, 0) := by rintro rfl; rw [show ({ S := S', K := Γ.K } : Gh).K (τ, d, 0) = Γ.K (τ, d, 0) from rfl, hKn] at h1; cases h1
              simp [updK, this]
              exact h1
          refine ⟨_, hc2.put (some d) (fun k hk => by cases hk; exact hdl) (.ref (τ, d, 0) n) (namesL st.H fuel args) cr ?_⟩
          simp only [VR]
          refine ⟨.row n cr, by simp [updK], Nat.le_refl _, ?_, fun _ => ⟨cr, rfl, rfl⟩⟩
          rcases hown.2 with ⟨rfl, _⟩ | ⟨g, cap, cur, rfl, _⟩ <;> rfl
        obtain ⟨Γ', hsr⟩ := hrow
        rw [hdst] at hK ⊢
        exact hK _ _ _ hsr

end
end Go.Proofs.YthcmcjkljjfccaaGreatDoor.Abs
set_option linter.unusedVariables false
namespace Go.Proofs.YthcmcjkljjfccaaGreatDoor.Abs
open Go Go.RowKit

/-! ## What an operation looks at, and what it turns -/

structure Facts (τ : Nat) (d : Option Nat) (H : Nm → Option Buf) (e : Eff) : Prop where
  wr : ∀ x ∈ e.wr, x.1 ∈ e.rd ∨ ∃ k j, d = some k ∧ x.1 = (τ, k, j)
  rd : ∀ i ∈ e.rd, H i ≠ none

section
variable {P : Program} {st st' : St} {τ : Nat} {H H' : Nm → Option Buf} {d : Option Nat}

theorem Facts.none' (v : PV) : Facts τ d H ⟨v, [], []⟩ := ⟨by simp, by simp⟩
theorem Facts.one (v : PV) (nm : Nm) (h : H nm ≠ none) : Facts τ d H ⟨v, [nm], []⟩ := ⟨by simp, by simpa using h⟩
theorem Facts.new (v : PV) (rd : List Nm) (k : Nat) (b : Buf) (hd : d = some k) (h : ∀ i ∈ rd, H i ≠ none) : Facts τ d H ⟨v, rd, [((τ, k, 0), b)]⟩ := ⟨by
  intro x hx
  simp at hx
  subst hx
  exact .inr ⟨k, 0, hd, rfl⟩, h⟩

theorem live_some {nm : Nm} {n : Nat} (h : live H nm n = true) : H nm ≠ none := by
  unfold live at h
  split at h
  · rename_i b hb; simp [hb]
  · cases h
theorem live_eq {nm : Nm} {n : Nat} (h : H' nm = H nm) : live H' nm n = live H nm n := by unfold live; rw [h]

theorem evLoad_facts {i : TI} {x : PV} {e : Eff} (h : evLoad i H x = some e) : Facts τ d H e ∧ ((∀ nm ∈ e.rd, H' nm = H nm) → evLoad i H' x = some e) := by
  cases x <;> simp only [evLoad] at h ⊢ <;> try (cases h; done)
  · refine ⟨?_, fun _ => h⟩
    split at h
    · rw [Option.map_eq_some_iff] at h
      obtain ⟨v, hv, rfl⟩ := h
      exact .none' v
    · cases h
  · split at h
    · rename_i b hb
      split at h
      · rename_i hc
        have h0 := h
        rw [Option.map_eq_some_iff] at h
        obtain ⟨v, hv, rfl⟩ := h
        refine ⟨.one v _ (by simp [hb]), fun hH => ?_⟩
        rw [hH _ (by simp), hb]
        simp only [hc, and_self, if_true]
        exact h0
      · cases h
    · cases h

theorem evStore_facts {i : TI} {x y : PV} {e : Eff} (h : evStore i H y x = some e) : Facts τ d H e ∧ ((∀ nm ∈ e.rd, H' nm = H nm) → evStore i H' y x = some e) := by
  cases x <;> simp only [evStore] at h ⊢ <;> try (cases h; done)
  split at h
  · rename_i b hb
    split at h
    · rename_i hc
      cases h
      refine ⟨⟨by simp, by simp [hb]⟩, fun hH => ?_⟩
      rw [hH _ (by simp), hb]
      simp only [hc, and_self, if_true]
    · cases h
  · cases h

theorem evField_facts {i : TI} {f : Nat} {x : PV} {e : Eff} (h : evField i f H x = some e) : Facts τ d H e ∧ ((∀ nm ∈ e.rd, H' nm = H nm) → evField i f H' x = some e) := by
  cases x <;> simp only [evField] at h ⊢ <;> try (cases h; done)
  · refine ⟨?_, fun _ => h⟩
    split at h
    · split at h
      · split at h
        · cases h; exact .none' _
        · cases h
      · cases h
    · cases h
  · split at h
    · rename_i fs hk
      split at h
      · rename_i o s hf
        split at h
        · rename_i hc
          cases h
          refine ⟨.one _ _ (live_some hc.2), fun hH => ?_⟩
          rw [live_eq (hH _ (by simp))]
          simp only [hc, and_self, if_true]
        · cases h
      · cases h
    · cases h

theorem evIndexAddr_facts {sz : Nat} {x y : PV} {e : Eff} (h : evIndexAddr sz H x y = some e) : Facts τ d H e ∧ ((∀ nm ∈ e.rd, H' nm = H nm) → evIndexAddr sz H' x y = some e) := by
  unfold evIndexAddr at h
  split at h
  · refine ⟨?_, fun _ => by simpa only [evIndexAddr] using h⟩
    split at h
    · cases h; exact .none' _
    · cases h
  · split at h
    · rename_i hc
      cases h
      refine ⟨.one _ _ (live_some hc.2.2), fun hH => ?_⟩
      simp only [evIndexAddr]
      rw [live_eq (hH _ (by simp)), if_pos hc]
    · cases h
  · cases h

theorem rowOf_facts {sz : Nat} {x : PV} {n : Nat} {cs : List PV} {rd : List Nm} (h : rowOf H sz x = some (n, cs, rd)) : (∀ i ∈ rd, H i ≠ none) ∧ ((∀ nm ∈ rd, H' nm = H nm) → rowOf H' sz x = some (n, cs, rd)) := by
  cases x <;> simp only [rowOf] at h ⊢ <;> try (cases h; done)
  · cases h; exact ⟨by simp, fun _ => rfl⟩
  · split at h
    · rename_i hc
      cases h; exact ⟨by simp, fun _ => by simp [hc]⟩
    · cases h
  · split at h
    · rename_i b hb
      split at h
      · rename_i hc
        cases h
        refine ⟨by simp [hb], fun hH => ?_⟩
        rw [hH _ (by simp), hb]
        simp only [hc, and_self, if_true]
      · cases h
    · cases h

theorem ev_facts {o : Oper} {e : Eff} (he : ev P τ o st = some e) :
    Facts τ o.dst st.H e ∧ ((∀ x ∈ o.op.operands.toList, st'.op x = st.op x) → (∀ nm ∈ e.rd, st'.H nm = st.H nm) → ev P τ o st' = some e) := by
  have hpure : ∀ (q : Option PV), q.map (fun v => (⟨v, [], []⟩ : Eff)) = some e → Facts τ o.dst st.H e := by
    intro q hq
    rw [Option.map_eq_some_iff] at hq
    obtain ⟨x, hq, rfl⟩ := hq
    exact .none' x
  unfold ev at he ⊢
  simp only at he ⊢
  split at he
  · rename_i x ho
    cases he
    exact ⟨.none' _, fun h1 _ => by (try simp only [ho]); rw [h1 x (by simp [ho, Op.operands])]⟩
  · rename_i x ho
    cases he
    exact ⟨.none' _, fun h1 _ => by (try simp only [ho]); rw [h1 x (by simp [ho, Op.operands])]⟩
  -- pick
  · rename_i c x y ho
    constructor
    · split at he
      · cases he; exact .none' _
      · cases he
    · intro h1 _
      try simp only [ho]
      rw [h1 c (by simp [ho, Op.operands]), h1 x (by simp [ho, Op.operands]), h1 y (by simp [ho, Op.operands])]
      exact he
  -- alloc
  · rename_i t ho
    constructor
    · split at he
      · rename_i i d hi hd
        split at he
        · cases he; exact .new _ _ _ _ hd (by simp)
        · cases he
      · cases he
    · intro h1 _
      try simp only [ho]
      exact he
  -- box
  · rename_i t x ho
    constructor
    · split at he
      · rename_i d hd
        split at he
        · cases he; exact .new _ _ _ _ hd (by simp)
        · cases he
      · cases he
    · intro h1 _
      try simp only [ho]
      rw [h1 x (by simp [ho, Op.operands])]
      exact he
  -- build
  · rename_i t parts ho
    constructor
    · split at he
      · split at he
        · split at he
          · exact hpure _ he
          · cases he
        · cases he
      · cases he
    · intro h1 _
      have hp : (parts.toList.map fun p => (p.1, st'.op p.2)) = parts.toList.map fun p => (p.1, st.op p.2) := by
        apply List.map_congr_left
        intro p hp
        rw [h1 p.2 (by simp only [ho, Op.operands, List.mem_map]; exact ⟨p, hp, rfl⟩)]
      simp only [hp]
      exact he
  -- buildSlice
  · rename_i t len parts ho
    constructor
    · split at he
      · rename_i i d hi hd
        split at he
        · split at he
          · split at he
            · rw [Option.map_eq_some_iff] at he
              obtain ⟨cs, hcs, rfl⟩ := he
              exact .new _ _ _ _ hd (by simp)
            · cases he
          · cases he
        · cases he
      · cases he
    · intro h1 _
      have hp : (parts.toList.map fun p => (p.1, st'.op p.2)) = parts.toList.map fun p => (p.1, st.op p.2) := by
        apply List.map_congr_left
        intro p hp
        rw [h1 p.2 (by simp only [ho, Op.operands, List.mem_map]; exact ⟨p, hp, rfl⟩)]
      simp only [hp]
      exact he
  -- load
  · rename_i t x ho
    split at he
    · rename_i i hi
      obtain ⟨f1, f2⟩ := evLoad_facts (τ := τ) (d := o.dst) (H' := st'.H) he
      refine ⟨f1, fun h1 h2 => ?_⟩
      try simp only [hi]
      rw [h1 x (by simp [ho, Op.operands])]
      exact f2 h2
    · cases he
  -- store
  · rename_i t x y ho
    split at he
    · rename_i i hi
      obtain ⟨f1, f2⟩ := evStore_facts (τ := τ) (d := o.dst) (H' := st'.H) he
      refine ⟨f1, fun h1 h2 => ?_⟩
      try simp only [hi]
      rw [h1 x (by simp [ho, Op.operands]), h1 y (by simp [ho, Op.operands])]
      exact f2 h2
    · cases he
  -- nilCheck
  · rename_i x ho
    split at he
    · rename_i nm len off hop
      split at he
      · rename_i hl
        cases he
        refine ⟨.one _ _ (live_some hl), fun h1 h2 => ?_⟩
        try simp only [ho]
        rw [h1 x (by simp [ho, Op.operands]), hop]
        simp only
        rw [live_eq (h2 _ (by simp)), if_pos hl]
      · cases he
    · rename_i cs hop
      cases he
      refine ⟨.none' _, fun h1 h2 => ?_⟩
      try simp only [ho]
      rw [h1 x (by simp [ho, Op.operands]), hop]
    · cases he
  -- binOp
  · rename_i op t x y _ ho
    constructor
    · split at he
      · exact hpure _ he
      · cases he
    · intro h1 _
      try simp only [ho]
      rw [h1 x (by simp [ho, Op.operands]), h1 y (by simp [ho, Op.operands])]
      exact he
  -- unOp
  · rename_i op t x ho
    refine ⟨hpure _ he, fun h1 _ => ?_⟩
    try simp only [ho]
    rw [h1 x (by simp [ho, Op.operands])]
    exact he
  -- convert
  · rename_i s t x ho
    split at he
    · rename_i i k n hi hx
      constructor
      · split at he
        · exact hpure _ he
        · cases he
      · intro h1 _
        try simp only [ho]
        rw [h1 x (by simp [ho, Op.operands])]
        try simp only [hi, hx]
        exact he
    · rename_i i y hi hnot
      split at he
      · rename_i hstr
        have he0 := he
        unfold evConvS at he
        split at he
        rotate_left
        · cases he
        rename_i str hx
        split at he
        · rename_i e' j hk hj
          split at he
          · rename_i q hjk hq
            split at he
            · rename_i hqk
              split at he
              · rename_i hlen
                cases he
                refine ⟨.none' _, fun h1 h2 => ?_⟩
                try simp only [ho]
                rw [h1 x (by simp [ho, Op.operands])]
                simp only [hi, hx]
                rw [if_pos (show isStr (.str str) = true from rfl), ← hx]
                exact he0
              · cases he
            · cases he
          · cases he
        · cases he
      rename_i hns
      split at he
      · rename_i j hk hj
        split at he
        · rename_i e' hjk
          split at he
          · rename_i q hq
            split at he
            · rename_i hqk
              split at he
              · rename_i n cs rd hr
                rw [Option.map_eq_some_iff] at he
                obtain ⟨l, hl, rfl⟩ := he
                obtain ⟨f1, f2⟩ := rowOf_facts (H' := st'.H) hr
                refine ⟨⟨by simp, f1⟩, fun h1 h2 => ?_⟩
                try simp only [ho]
                rw [h1 x (by simp [ho, Op.operands])]
                have f3 := f2 h2
                generalize st.op x = y at *
                cases y with
                | int k n => exact absurd rfl (hnot _ _)
                | str q => exact absurd rfl hns
                | _ => simp only [hi, hk, hj, hjk, hq, hqk, f3, hl, Option.map_some, isStr, Bool.false_eq_true, if_false]
              · cases he
            · cases he
          · cases he
        · cases he
      · cases he
    · cases he
  -- makeFunc
  · rename_i fn first captured ho
    constructor
    · split at he
      · split at he
        · exact hpure _ he
        · cases he
      · cases he
    · intro h1 _
      have hp : captured.toList.map st'.op = captured.toList.map st.op := by
        apply List.map_congr_left
        intro p hp
        rw [h1 p (by simp only [ho, Op.operands, Array.toList_append, List.mem_append]; exact .inr hp)]
      simp only [hp]
      exact he
  -- makeSlice
  · rename_i t l c ho
    constructor
    · split at he
      · rename_i i d kl n kc m hi hd hl hc
        split at he
        · split at he
          · split at he
            · cases he
              exact .new _ _ _ _ hd (by simp)
            · cases he
          · cases he
        · cases he
      · cases he
    · intro h1 _
      try simp only [ho]
      rw [h1 l (by simp [ho, Op.operands]), h1 c (by simp [ho, Op.operands])]
      exact he
  -- slice
  · rename_i t x lo hi' mx ho
    constructor
    · split at he
      · split at he
        · split at he
          · split at he
            · cases he
            · exact hpure _ he
          · cases he
        · split at he
          · exact hpure _ he
          · cases he
        · cases he
      · cases he
    · intro h1 _
      have h2 : lo.map st'.op = lo.map st.op := by
        cases lo with
        | none => rfl
        | some q => simp only [Option.map_some]; rw [h1 q (by simp [ho, Op.operands])]
      have h3 : hi'.map st'.op = hi'.map st.op := by
        cases hi' with
        | none => rfl
        | some q => simp only [Option.map_some]; rw [h1 q (by simp [ho, Op.operands])]
      simp only [h2, h3]
      rw [h1 x (by simp [ho, Op.operands])]
      exact he
  -- fieldAddr
  · rename_i t x f ho
    split at he
    · rename_i i hi
      obtain ⟨f1, f2⟩ := evField_facts (τ := τ) (d := o.dst) (H' := st'.H) he
      refine ⟨f1, fun h1 h2 => ?_⟩
      try simp only [hi]
      rw [h1 x (by simp [ho, Op.operands])]
      exact f2 h2
    · cases he
  -- indexAddr
  · rename_i t x ix ho
    split at he
    · rename_i i hi
      split at he
      · rename_i e' hk
        split at he
        · rename_i j hj
          obtain ⟨f1, f2⟩ := evIndexAddr_facts (τ := τ) (d := o.dst) (H' := st'.H) he
          refine ⟨f1, fun h1 h2 => ?_⟩
          try simp only [hi, hk, hj]
          rw [h1 x (by simp [ho, Op.operands]), h1 ix (by simp [ho, Op.operands])]
          exact f2 h2
        · cases he
      · cases he
    · cases he
  -- index
  · rename_i t x ix ho
    constructor
    · split at he
      · split at he
        · exact hpure _ he
        · cases he
      · cases he
    · intro h1 _
      try simp only [ho]
      rw [h1 x (by simp [ho, Op.operands]), h1 ix (by simp [ho, Op.operands])]
      exact he
  -- extract
  · rename_i x j ho
    constructor
    · split at he
      · exact hpure _ he
      · cases he
    · intro h1 _
      try simp only [ho]
      rw [h1 x (by simp [ho, Op.operands])]
      exact he
  -- call
  · rename_i c ho
    have hmem : ∀ x ∈ c.args.toList, x ∈ o.op.operands.toList := by
      intro x hx
      rw [ho]
      simp only [Op.operands, Call.operands, Array.toList_append, List.mem_append]
      exact .inr hx
    split at he
    · rename_i hcal
      split at he
      · rename_i x hargs
        have hx : x ∈ o.op.operands.toList := hmem x (by rw [hargs]; simp)
        split at he
        · rename_i i s hi hop
          constructor
          · split at he
            · exact hpure _ he
            · cases he
          · intro h1 _
            try simp only [hcal, hargs]
            rw [h1 x hx]
            try simp only [hi, hop]
            exact he
        · rename_i i n cs hi hop
          constructor
          · split at he
            · exact hpure _ he
            · cases he
          · intro h1 _
            try simp only [hcal, hargs]
            rw [h1 x hx]
            try simp only [hi, hop]
            exact he
        · rename_i i hi hop
          constructor
          · split at he
            · exact hpure _ he
            · cases he
          · intro h1 _
            try simp only [hcal, hargs]
            rw [h1 x hx]
            try simp only [hi, hop]
            exact he
        · rename_i i nm n hi hop
          split at he
          · rename_i e' b hk hb
            split at he
            · rename_i hbn
              cases he
              refine ⟨.one _ _ (by simp [hb]), fun h1 h2 => ?_⟩
              try simp only [hcal, hargs]
              rw [h1 x hx]
              try simp only [hi, hop, hk]
              rw [h2 nm (by simp), hb]
              simp only [hbn, if_true]
            · cases he
          · cases he
        · cases he
      · cases he
    · rename_i hcal
      split at he
      · rename_i s x t t' d hargs htys hdst
        have hs : s ∈ o.op.operands.toList := hmem s (by rw [hargs]; simp)
        have hx : x ∈ o.op.operands.toList := hmem x (by rw [hargs]; simp)
        split at he
        · rename_i i hi
          split at he
          · rename_i e' hk
            split at he
            · rename_i j hj
              split at he
              · rename_i hc
                split at he
                · rename_i nm n hop
                  split at he
                  · rename_i b m cs rd hb hr
                    split at he
                    · rename_i hcc
                      cases he
                      obtain ⟨f1, f2⟩ := rowOf_facts (H' := st'.H) hr
                      refine ⟨⟨by simp, ?_⟩, fun h1 h2 => ?_⟩
                      · intro i hi
                        rcases List.mem_cons.1 hi with rfl | hi
                        · simp [hb]
                        · exact f1 i hi
                      · try simp only [ho, hcal, hargs, htys, hdst, hi, hk, hj]
                        rw [if_pos hc, h1 s hs, h1 x hx, hop]
                        simp only
                        rw [h2 nm (by simp), hb, f2 (fun i hi => h2 i (by simp [hi]))]
                        simp only
                        rw [if_pos hcc]
                    · cases he
                  · cases he
                · rename_i hop
                  split at he
                  · rename_i m cs rd hr
                    split at he
                    · rename_i hcc
                      cases he
                      obtain ⟨f1, f2⟩ := rowOf_facts (H' := st'.H) hr
                      refine ⟨.new _ _ _ _ hdst f1, fun h1 h2 => ?_⟩
                      try simp only [hcal, hargs, htys, hdst, hi, hk, hj]
                      rw [if_pos hc, h1 s hs, h1 x hx, hop]
                      simp only
                      rw [f2 h2]
                      simp only
                      rw [if_pos hcc]
                    · cases he
                  · cases he
                · cases he
              · cases he
            · cases he
          · cases he
        · cases he
      · cases he
    · cases he
  · cases he

end
end Go.Proofs.YthcmcjkljjfccaaGreatDoor.Abs
set_option linter.unusedVariables false
namespace Go.Proofs.YthcmcjkljjfccaaGreatDoor.Abs
open Go Go.RowKit

/-! ## The transformer -/

/-- A call, in the transformer's view. -/
def CallK (P : Program) [Begin P] (τ : Nat) (dst : Option Nat) (g : Nat) (ys : List PV) (s : Bool) (nms : List Nm) (K : Eff → Prop) : Prop :=
  (∃ r, PC P g ys r ∧ (s = true ∨ flat r = true) ∧ K ⟨r, nms, []⟩) ∨
  (∃ d el sz n cells, dst = some d ∧ PCF P g ys el sz n cells ∧ (s = true ∨ flatL cells = true) ∧ K ⟨.ref (τ, d, 0) n, nms, [((τ, d, 0), ⟨some (el, sz), n, cells⟩)]⟩) ∨
  (∃ d r bout, dst = some d ∧ GC P g ys [] r bout ∧ (s = true ∨ (flatH r = true ∧ bout.all (fun b => flatHL b.cells) = true)) ∧
    K ⟨ren (nameAt (newNames τ d bout.length)) r, nms, (newNames τ d bout.length).zip (bout.map (Buf.ren (nameAt (newNames τ d bout.length))))⟩)

def CallS (P : Program) [Begin P] (τ : Nat) (dst : Option Nat) (g : Nat) (args : List PV) (H : Nm → Option Buf) (K : Eff → Prop) : Prop :=
  (∃ ys, seenL H fuel args = some ys ∧ CallK P τ dst g ys (settledL args) (namesL H fuel args) K) ∨
  (∃ args' bin r bout e, GC P g args' bin r bout ∧ gcEff τ dst H args args' bin r bout e ∧ K e)

def opK (P : Program) [Begin P] (τ : Nat) (o : Oper) (st : St) (K : Eff → Prop) : Prop :=
  match o.op with
  | .call c => match c.callee with
    | .value _ => match calleeOf st c with
      | some (g, args) => CallS P τ o.dst g args st.H K
      | none => False
    | _ => match ev P τ o st with
      | some e => K e
      | none => False
  | _ => match ev P τ o st with
    | some e => K e
    | none => False

def guardK (g : Option Bool) (A B : Prop) : Prop :=
  match g with
  | some b => (b = true → A) ∧ (b = false → B)
  | none => False
def stepK (P : Program) [Begin P] (τ : Nat) (ops : Array Oper) (o : Oper) (st : St) (K : Eff → Prop) : Prop :=
  guardK (guardA ops o st) (opK P τ o st K) (K ⟨.undef, [], []⟩)

def pops (P : Program) [Begin P] (τ : Nat) (ops : Array Oper) : List Oper → St → (St → Prop) → Prop
  | [], st, K => K st
  | o :: os, st, K => stepK P τ ops o st fun e => pops P τ ops os (st.app o.dst e) K

abbrev Log := List (List Nm × List Nm)
/-- Which operations must lie behind which: bit j of the i-th number. -/
def masksGo (ops : List Oper) : List Nat → List Nat
  | acc => ops.foldl (fun acc o => acc ++ [o.after.toList.foldl (fun m e => if Region.binds .any e then m ||| (1 <<< e.on) ||| acc.getD e.on 0 else m) 0]) acc
def masks (ops : List Oper) : List Nat := masksGo ops []

def apartN (x y : List Nm × List Nm) : Prop := ∀ i ∈ x.2, i ∉ y.1 ∧ i ∉ y.2
/-- What is not ordered turns nothing that the other looks at. -/
def logOK (ms : List Nat) (log : Log) : Prop :=
  ∀ j i : Nat, j < i → ∀ x y m, log[j]? = some x → log[i]? = some y → ms[i]? = some m → m.testBit j = true ∨ (apartN x y ∧ apartN y x)

def pdraw (P : Program) [Begin P] (τ : Nat) (ops : Array Oper) : List Oper → St → Log → (St → Prop) → Prop
  | [], st, log, K => logOK (masks ops.toList) log ∧ K st
  | o :: os, st, log, K => stepK P τ ops o st fun e => pdraw P τ ops os (st.app o.dst e) (log ++ [(e.rd, e.wr.map (·.1))]) K

def condK (v : PV) (A B : Prop) : Prop :=
  match v with
  | .bool b => (b = true → A) ∧ (b = false → B)
  | _ => False

/-- What can be shown of a state that says no more, of the same machine. -/
def Up (P : Program) [Begin P] (J : St → Prop) (st : St) : Prop :=
  ∀ (B : Base) (Γ : Gh) (a : Act) (w : World), BaseOK P B → SR B Γ st a w → ∃ st' Γ', SR B Γ' st' a w ∧ J st'
def upIf (P : Program) [Begin P] (b : Bool) (J : St → Prop) : St → Prop := match b with
  | true => J
  | false => Up P J
def isReg : Code → Bool
  | .region _ _ _ => true
  | _ => false

def nextE (J : St → Prop) (Q : Exit → St → Prop) : Exit → St → Prop
  | .normal, st => J st
  | e, st => Q e st
def blockE (id : Nat) (Q : Exit → St → Prop) : Exit → St → Prop
  | .exit j, st => if j = id then Q .normal st else Q (.exit j) st
  | e, st => Q e st

def loopK (P : Program) [Begin P] (body : (Exit → St → Prop) → St → Prop) (Q : Exit → St → Prop) (st : St) : Prop :=
  ∃ (I : Nat → St → Prop) (n : Nat), Up P (I n) st ∧ ∀ n st, I n st → body (nextE (Up P fun st' => ∃ m, m < n ∧ I m st') Q) st

def pwp (P : Program) [Begin P] : Code → (Exit → St → Prop) → St → Prop
  | .skip, Q, st => Q .normal st
  | .region _ ops false, Q, st => pops P st.t ops ops.toList { st with t := st.t + 1 } (Q .normal)
  | .region _ ops true, Q, st => pdraw P st.t ops ops.toList { st with t := st.t + 1 } [] (Q .normal)
  | .seq a b, Q, st => pwp P a (nextE (upIf P (isReg a) fun st => pwp P b Q st) Q) st
  | .cond c a b, Q, st => condK (st.op c) (pwp P a Q st) (pwp P b Q st)
  | .block id c, Q, st => pwp P c (blockE id Q) st
  | .loop c, Q, st => loopK P (fun Q st => pwp P c Q st) Q st
  | .exit id, Q, st => Q (.exit id) st
  | .ret, Q, st => Q .ret st
  | _, _, _ => False

/-! ### What can be seen of the text alone -/

def usesT (ops : Array Oper) (o : Oper) : List Nat := o.looksAt ops
/-- A pair whose order may be drawn stands apart in the slots. -/
def pairOK (ops : Array Oper) (x y : Oper) : Bool :=
  (match x.dst with
   | some d => !(usesT ops y).contains d && y.dst != some d
   | none => true) &&
  (match y.dst with
   | some d => !(usesT ops x).contains d
   | none => true)
def nodupD : List Oper → Bool
  | [] => true
  | o :: os => (match o.dst with
    | some d => os.all fun q => q.dst != some d
    | none => true) && nodupD os
def noSel (o : Oper) : Bool := match o.op with
  | .select _ _ => false
  | _ => true
def regOK (N : Nat) (ops : Array Oper) (draw : Bool) : Bool :=
  nodupD ops.toList && (ops.toList.all fun o => (match o.dst with | some d => decide (d < N) | none => true)) &&
  (!draw || (
    let ms := masks ops.toList
    (List.range ops.size).all fun i => match ops[i]? with
      | some y => noSel y && (y.after.toList.all fun e => !Region.binds .any e || decide (e.on < i)) && ((List.range i).all fun j => match ops[j]? with
        | some x => (ms.getD i 0).testBit j || pairOK ops x y
        | none => true)
      | none => true))
def codeOK (N : Nat) : Code → Bool
  | .region _ ops draw => regOK N ops draw
  | .seq a b => codeOK N a && codeOK N b
  | .cond _ a b => codeOK N a && codeOK N b
  | .block _ c => codeOK N c
  | .loop c => codeOK N c
  | _ => true

section
variable {P : Program} [Begin P] {B : Base} {w w' : World} {Γ Γ' : Gh} {st : St} {a : Act} {S S' : Nat → Prop}

theorem stepK_eff {τ : Nat} {ops : Array Oper} {o : Oper} {K : Eff → Prop} (h : stepK P τ ops o st K) : ∃ e, EffR P τ ops o st e ∧ K e := by
  unfold stepK guardK at h
  cases hgb : guardA ops o st with
  | none => rw [hgb] at h; exact h.elim
  | some b =>
  rw [hgb] at h
  cases b
  case true =>
    have hg := hgb
    have h := h.1 rfl
    unfold opK at h
    have evc : (match ev P τ o st with | some e => K e | none => False) → ∃ e, EffR P τ ops o st e ∧ K e := by
      intro h
      split at h
      · rename_i e he
        exact ⟨e, .inr ⟨hg, .inl he⟩, h⟩
      · exact h.elim
    split at h
    · rename_i c ho
      split at h
      · split at h
        · rename_i g args hc
          rcases h with ⟨ys, hs, ⟨r, hpc, hsf, hk⟩ | ⟨d, el, sz, n, cells, hd, hpc, hsf, hk⟩ | ⟨d, r, bout, hd, hpc, hsf, hk⟩⟩ | ⟨args', bin, r, bout, e, hgc, he, hk⟩
          · exact ⟨_, .inr ⟨hg, .inr (.inl ⟨c, g, args, ys, ho, hc, hs, .inl ⟨r, hpc, hsf, rfl⟩⟩)⟩, hk⟩
          · exact ⟨_, .inr ⟨hg, .inr (.inl ⟨c, g, args, ys, ho, hc, hs, .inr (.inl ⟨d, el, sz, n, cells, hd, hpc, hsf, rfl⟩)⟩)⟩, hk⟩
          · exact ⟨_, .inr ⟨hg, .inr (.inl ⟨c, g, args, ys, ho, hc, hs, .inr (.inr ⟨d, r, bout, hd, hpc, hsf, rfl⟩)⟩)⟩, hk⟩
          · exact ⟨e, .inr ⟨hg, .inr (.inr ⟨c, g, args, args', bin, r, bout, ho, hc, hgc, he⟩)⟩, hk⟩
        · exact h.elim
      · exact evc h
    · exact evc h
  case false =>
    exact ⟨_, .inl ⟨hgb, rfl⟩, h.2 rfl⟩

theorem foldl_upd_none (l : List (Nm × Buf)) (H : Nm → Option Buf) (i : Nm) (hi : ∀ x ∈ l, x.1 ≠ i) : (l.foldl (fun H x => upd H x.1 x.2) H) i = H i := by
  induction l generalizing H with
  | nil => rfl
  | cons x l ih =>
    rw [List.foldl_cons, ih _ fun y hy => hi y (by simp [hy])]
    have := hi x (by simp)
    simp [upd, Ne.symm this]

mutual
theorem names_facts {H H' : Nm → Option Buf} : ∀ (k : Nat) (x y : PV), seen H k x = some y → (∀ i ∈ names H k x, H i ≠ none) ∧ ((∀ i ∈ names H k x, H' i = H i) → seen H' k x = some y ∧ names H' k x = names H k x)
  | 0, x, y, h => by
    simp only [seen] at h
    exact ⟨by simp [names], fun _ => ⟨by simpa only [seen] using h, by simp [names]⟩⟩
  | k + 1, x, y, h => by
    have easy : canon x = true → seen H (k + 1) x = some x → seen H' (k + 1) x = some x → names H (k + 1) x = [] → names H' (k + 1) x = [] →
        (∀ i ∈ names H (k + 1) x, H i ≠ none) ∧ ((∀ i ∈ names H (k + 1) x, H' i = H i) → seen H' (k + 1) x = some y ∧ names H' (k + 1) x = names H (k + 1) x) := by
      intro _ h1 h2 h3 h4
      rw [h1] at h
      cases h
      rw [h3, h4]
      exact ⟨by simp, fun _ => ⟨h2, rfl⟩⟩
    cases x with
    | bool b => exact easy rfl (by simp [seen, canon]) (by simp [seen, canon]) (by simp [names, canon]) (by simp [names, canon])
    | int q n => exact easy rfl (by simp [seen, canon]) (by simp [seen, canon]) (by simp [names, canon]) (by simp [names, canon])
    | str q => exact easy rfl (by simp [seen, canon]) (by simp [seen, canon]) (by simp [names, canon]) (by simp [names, canon])
    | nils =>
      simp only [seen, canon, Bool.false_eq_true, if_false] at h
      cases h
      exact ⟨by simp [names, canon], fun _ => ⟨by simp [seen, canon], by simp [names, canon]⟩⟩
    | sl n cs => exact easy rfl (by simp [seen, canon]) (by simp [seen, canon]) (by simp [names, canon]) (by simp [names, canon])
    | ptr cs => exact easy rfl (by simp [seen, canon]) (by simp [seen, canon]) (by simp [names, canon]) (by simp [names, canon])
    | nerr => exact easy rfl (by simp [seen, canon]) (by simp [seen, canon]) (by simp [names, canon]) (by simp [names, canon])
    | err => exact easy rfl (by simp [seen, canon]) (by simp [seen, canon]) (by simp [names, canon]) (by simp [names, canon])
    | undef => exact easy rfl (by simp [seen, canon]) (by simp [seen, canon]) (by simp [names, canon]) (by simp [names, canon])
    | junk => simp [seen, canon] at h
    | ref nm n =>
      simp only [seen, names, canon, Bool.false_eq_true, if_false] at h ⊢
      split at h
      · rename_i b hb
        split at h
        · rename_i hc
          rw [Option.map_eq_some_iff] at h
          obtain ⟨ys, hys, rfl⟩ := h
          obtain ⟨f1, f2⟩ := namesL_facts (H' := H') k b.cells ys hys
          (try simp only [hb])
          refine ⟨?_, fun hH => ?_⟩
          · intro i hi
            rcases List.mem_cons.1 hi with rfl | hi
            · simp [hb]
            · exact f1 i hi
          · obtain ⟨g1, g2⟩ := f2 fun i hi => hH i (by simp [hi])
            have := hH nm (by simp)
            rw [hb] at this
            simp only [this, hc, and_self, if_true, g1, g2, Option.map_some]
        · cases h
      · cases h
    | loc nm len off =>
      simp only [seen, names, canon, Bool.false_eq_true, if_false] at h ⊢
      split at h
      · rename_i b hb
        split at h
        · rename_i hc
          rw [Option.map_eq_some_iff] at h
          obtain ⟨ys, hys, rfl⟩ := h
          obtain ⟨f1, f2⟩ := namesL_facts (H' := H') k b.cells ys hys
          (try simp only [hb])
          refine ⟨?_, fun hH => ?_⟩
          · intro i hi
            rcases List.mem_cons.1 hi with rfl | hi
            · simp [hb]
            · exact f1 i hi
          · obtain ⟨g1, g2⟩ := f2 fun i hi => hH i (by simp [hi])
            have := hH nm (by simp)
            rw [hb] at this
            simp only [this, hc, if_true, g1, g2, Option.map_some]
            simp
        · cases h
      · cases h
    | agg cs =>
      by_cases hx : canon (.agg cs) = true
      · exact easy hx (by simp [seen, hx]) (by simp [seen, hx]) (by simp [names, hx]) (by simp [names, hx])
      · simp only [seen, names, hx, Bool.false_eq_true, if_false] at h ⊢
        rw [Option.map_eq_some_iff] at h
        obtain ⟨ys, hys, rfl⟩ := h
        obtain ⟨f1, f2⟩ := namesL_facts (H' := H') k cs ys hys
        exact ⟨f1, fun hH => by obtain ⟨g1, g2⟩ := f2 hH; rw [g1, g2]; exact ⟨rfl, rfl⟩⟩
    | tup cs =>
      by_cases hx : canon (.tup cs) = true
      · exact easy hx (by simp [seen, hx]) (by simp [seen, hx]) (by simp [names, hx]) (by simp [names, hx])
      · simp only [seen, names, hx, Bool.false_eq_true, if_false] at h ⊢
        rw [Option.map_eq_some_iff] at h
        obtain ⟨ys, hys, rfl⟩ := h
        obtain ⟨f1, f2⟩ := namesL_facts (H' := H') k cs ys hys
        exact ⟨f1, fun hH => by obtain ⟨g1, g2⟩ := f2 hH; rw [g1, g2]; exact ⟨rfl, rfl⟩⟩
    | fn g cs =>
      by_cases hx : canon (.fn g cs) = true
      · exact easy hx (by simp [seen, hx]) (by simp [seen, hx]) (by simp [names, hx]) (by simp [names, hx])
      · simp only [seen, names, hx, Bool.false_eq_true, if_false] at h ⊢
        rw [Option.map_eq_some_iff] at h
        obtain ⟨ys, hys, rfl⟩ := h
        obtain ⟨f1, f2⟩ := namesL_facts (H' := H') k cs ys hys
        exact ⟨f1, fun hH => by obtain ⟨g1, g2⟩ := f2 hH; rw [g1, g2]; exact ⟨rfl, rfl⟩⟩
theorem namesL_facts {H H' : Nm → Option Buf} : ∀ (k : Nat) (cs ys : List PV), seenL H k cs = some ys → (∀ i ∈ namesL H k cs, H i ≠ none) ∧ ((∀ i ∈ namesL H k cs, H' i = H i) → seenL H' k cs = some ys ∧ namesL H' k cs = namesL H k cs)
  | k, [], ys, h => by
    simp only [seenL] at h
    cases h
    exact ⟨by simp [namesL], fun _ => ⟨by simp [seenL], by simp [namesL]⟩⟩
  | k, c :: cs, ys, h => by
    simp only [seenL] at h
    split at h
    · rename_i y ys' h1 h2
      cases h
      obtain ⟨f1, f2⟩ := names_facts (H' := H') k c y h1
      obtain ⟨g1, g2⟩ := namesL_facts (H' := H') k cs ys' h2
      simp only [namesL, List.mem_append]
      refine ⟨fun i hi => hi.elim (f1 i) (g1 i), fun hH => ?_⟩
      obtain ⟨p1, p2⟩ := f2 fun i hi => hH i (.inl hi)
      obtain ⟨q1, q2⟩ := g2 fun i hi => hH i (.inr hi)
      simp only [seenL, p1, q1, p2, q2]
      exact ⟨trivial, trivial⟩
    · cases h
end

theorem ops_of_looks {ops : Array Oper} {o : Oper} {st st' : St} (h : ∀ s ∈ o.looksAt ops, st'.fr s = st.fr s) : (∀ x ∈ o.op.operands.toList, st'.op x = st.op x) ∧ guardA ops o st' = guardA ops o st := by
  constructor
  · intro x hx
    cases x with
    | tmp t =>
      simp only [St.op]
      refine h t ?_
      unfold Oper.looksAt
      rw [List.mem_append]
      left
      rw [List.mem_filterMap]
      exact ⟨_, hx, rfl⟩
    | const v => rfl
    | func f => rfl
    | global g => rfl
  · unfold guardA
    split
    · rfl
    · rename_i j want hg
      split
      · rename_i d hd
        rw [h d (by unfold Oper.looksAt; rw [List.mem_append]; right; rw [hg]; simp [hd])]
      · rfl

theorem callee_frame (ops : Array Oper) {o : Oper} {c : Call} {st' : St} {g : Nat} {args : List PV} (ho : o.op = .call c) (hc : calleeOf st c = some (g, args)) (h1 : ∀ s ∈ o.looksAt ops, st'.fr s = st.fr s) : calleeOf st' c = some (g, args) := by
  have ho1 := (ops_of_looks h1).1
  unfold calleeOf at hc ⊢
  split at hc
  · rename_i f hf
    have hmem : ∀ x ∈ c.args.toList, x ∈ o.op.operands.toList := by
      intro x hx
      rw [ho]
      simp only [Op.operands, Call.operands, Array.toList_append, List.mem_append]
      exact .inr hx
    have hfm : f ∈ o.op.operands.toList := by
      rw [ho]
      simp only [Op.operands, Call.operands, hf, Array.toList_append, List.mem_append]
      exact .inl (by simp)
    have hargs : c.args.toList.map st'.op = c.args.toList.map st.op := List.map_congr_left fun x hx => ho1 x (hmem x hx)
    simp only [ho1 f hfm, hargs]
    exact hc
  · cases hc

theorem EffR.facts {τ : Nat} {ops : Array Oper} {o : Oper} {st' : St} {e : Eff} (h : EffR P τ ops o st e) :
    Facts τ o.dst st.H e ∧ ((∀ s ∈ o.looksAt ops, st'.fr s = st.fr s) → (∀ nm ∈ e.rd, st'.H nm = st.H nm) → EffR P τ ops o st' e) := by
  rcases h with ⟨hg, rfl⟩ | ⟨hg, h⟩
  · refine ⟨.none' _, fun h1 _ => .inl ⟨?_, rfl⟩⟩
    rw [(ops_of_looks h1).2, hg]
  · rcases h with he | ⟨c, g, args, ys, ho, hc, hs, hcase⟩ | ⟨c, g, args, args', bin, r, bout, ho, hc, hgc, d, σ, hdst, hσ, hnd, hacts, hH, rfl⟩
    · obtain ⟨f1, f2⟩ := ev_facts (st' := st') he
      refine ⟨f1, fun h1 h2 => .inr ⟨?_, .inl (f2 (ops_of_looks h1).1 h2)⟩⟩
      rw [(ops_of_looks h1).2, hg]
    · obtain ⟨f1, f2⟩ := namesL_facts (H' := st'.H) fuel args ys hs
      have hce := callee_frame ops ho hc (st' := st')
      rcases hcase with ⟨r, hpc, hsf, rfl⟩ | ⟨d, el, sz, n, cells, hd, hpc, hsf, rfl⟩ | ⟨d, r, bout, hd, hpc, hsf, rfl⟩
      rotate_right
      · refine ⟨⟨?_, f1⟩, fun h1 h2 => .inr ⟨by rw [(ops_of_looks h1).2, hg], .inr ?_⟩⟩
        · intro x hx
          have hx1 := (List.of_mem_zip (a := x.1) (b := x.2) hx).1
          simp only [newNames, List.mem_map] at hx1
          obtain ⟨q, hq, he⟩ := hx1
          exact .inr ⟨d, q, hd, he.symm⟩
        · obtain ⟨g1, g2⟩ := f2 h2
          exact .inl ⟨c, g, args, ys, ho, hce h1, g1, .inr (.inr ⟨d, r, bout, hd, hpc, hsf, by rw [g2]⟩)⟩
      · refine ⟨⟨by simp, f1⟩, fun h1 h2 => .inr ⟨by rw [(ops_of_looks h1).2, hg], .inr ?_⟩⟩
        obtain ⟨g1, g2⟩ := f2 h2
        exact .inl ⟨c, g, args, ys, ho, hce h1, g1, .inl ⟨r, hpc, hsf, by rw [g2]⟩⟩
      · refine ⟨.new _ _ _ _ hd f1, fun h1 h2 => .inr ⟨by rw [(ops_of_looks h1).2, hg], .inr ?_⟩⟩
        obtain ⟨g1, g2⟩ := f2 h2
        exact .inl ⟨c, g, args, ys, ho, hce h1, g1, .inr (.inl ⟨d, el, sz, n, cells, hd, hpc, hsf, by rw [g2]⟩)⟩
    · have hst := hgc.1
      have hin : ∀ i ∈ σ, ∃ j, j < bin.length ∧ i = nameAt σ j := by
        intro i hi
        obtain ⟨j, hj, rfl⟩ := List.getElem_of_mem hi
        exact ⟨j, by omega, by simp [nameAt, List.getD_eq_getElem?_getD, hj]⟩
      refine ⟨⟨?_, ?_⟩, fun h1 h2 => .inr ⟨by rw [(ops_of_looks h1).2, hg], .inr (.inr ⟨c, g, args, args', bin, r, bout, ho, callee_frame ops ho hc h1, hgc, d, σ, hdst, hσ, hnd, hacts, ?_, rfl⟩)⟩⟩
      · intro x hx
        have hx1 := (List.of_mem_zip (a := x.1) (b := x.2) hx).1
        rcases List.mem_append.1 hx1 with h3 | h3
        · exact .inl h3
        · simp only [newNames, List.mem_map] at h3
          obtain ⟨q, hq, he⟩ := h3
          rcases hdst with hdst | hdst
          · exact .inr ⟨d, q, hdst, he.symm⟩
          · rw [hdst, Nat.sub_self] at hq; simp at hq
      · intro i hi
        obtain ⟨j, hj, rfl⟩ := hin i hi
        rw [hH j bin[j] (by simp [hj])]
        simp
      · intro j b hb
        have hj : j < bin.length := (List.getElem?_eq_some_iff.1 hb).1
        rw [h2 (nameAt σ j) (List.mem_of_getElem? (nameAt_get (σ := σ) (j := j) (by omega)))]
        exact hH j b hb

/-- What stands of a region's names when some of its operations are done. -/
theorem app_none {τ : Nat} {d : Option Nat} {e : Eff} (hf : Facts τ d st.H e) {k j : Nat} (hk : st.H (τ, k, j) = none) (hd : d ≠ some k) : (st.app d e).H (τ, k, j) = none := by
  simp only [St.app]
  rw [foldl_upd_none _ _ _ ?_]
  · exact hk
  · intro x hx hxe
    rcases hf.wr x hx with h1 | ⟨j', j2, h1, h2⟩
    · exact hf.rd _ h1 (hxe ▸ hk)
    · rw [hxe] at h2
      cases h2
      exact hd h1

/-- A region without a draw. -/
theorem pops_sound (hB : BaseOK P B) {τ : Nat} {ops : Array Oper} {K : St → Prop} {Q : Exit → Act → World → Prop} : ∀ (os : List Oper) (st : St) (Γ : Gh) (a : Act) (w : World), SR B Γ st a w → τ < st.t →
    (∀ o ∈ os, ∀ d, o.dst = some d → d < B.N ∧ ∀ j, st.H (τ, d, j) = none) → nodupD os = true → pops P τ ops os st K → (∀ Γ' st' a' w', SR B Γ' st' a' w' → K st' → Q .normal a' w') → wpList P ops Q os a w
  | [], st, Γ, a, w, h, _, _, _, hp, hQ => hQ Γ st a w h hp
  | o :: os, st, Γ, a, w, h, hτ, hd, hn, hp, hQ => by
    obtain ⟨e, he, hk⟩ := stepK_eff hp
    have hf := (he.facts (st' := st)).1
    have key := he.sound hB (Q := Q) (K := wpList P ops Q os) h hτ (hd o (by simp)) ?_
    · unfold wpList
      split
      · rename_i hw; rw [if_pos hw] at key; exact .inl key
      · rename_i hw; rw [if_neg hw] at key; exact key
    · intro v w' Γ' hsr
      simp only [nodupD, Bool.and_eq_true] at hn
      refine pops_sound hB os (st.app o.dst e) Γ' _ _ hsr hτ ?_ hn.2 hk hQ
      intro o' ho' d' hd'
      obtain ⟨h1, h2⟩ := hd o' (by simp [ho']) d' hd'
      refine ⟨h1, fun j => app_none hf (h2 j) ?_⟩
      intro hdd
      have := hn.1
      rw [hdd] at this
      simp only [List.all_eq_true, bne_iff_ne, ne_eq] at this
      exact this o' ho' hd'

end
end Go.Proofs.YthcmcjkljjfccaaGreatDoor.Abs
set_option linter.unusedVariables false
namespace Go.Proofs.YthcmcjkljjfccaaGreatDoor.Abs
open Go Go.RowKit

/-! ## A region whose order is drawn -/

section
variable {P : Program} [Begin P] {B : Base} {w w' : World} {Γ Γ' : Gh} {st : St} {a : Act} {S S' : Nat → Prop}

def noEff : Eff := ⟨.undef, [], []⟩
abbrev App := Option Nat × Eff
def runA (l : List App) (st : St) : St := l.foldl (fun st x => st.app x.1 x.2) st

def foldW (wr : List (Nm × Buf)) (H : Nm → Option Buf) : Nm → Option Buf := wr.foldl (fun H x => upd H x.1 x.2) H
theorem foldW_at (wr : List (Nm × Buf)) (H H' : Nm → Option Buf) (i : Nm) (h : i ∈ wr.map (·.1) ∨ H i = H' i) : foldW wr H i = foldW wr H' i := by
  induction wr generalizing H H' with
  | nil => simpa [foldW] using h
  | cons x wr ih =>
    simp only [foldW, List.foldl_cons] at ih ⊢
    refine ih _ _ ?_
    by_cases hx : i = x.1
    · right; simp [upd, hx]
    · rcases h with h | h
      · simp only [List.map_cons, List.mem_cons, hx, false_or] at h
        exact .inl h
      · right; simp [upd, hx, h]
theorem foldW_none (wr : List (Nm × Buf)) (H : Nm → Option Buf) (i : Nm) (h : i ∉ wr.map (·.1)) : foldW wr H i = H i :=
  foldl_upd_none wr H i fun x hx he => h (List.mem_map.2 ⟨x, hx, he⟩)

theorem app_fr (st : St) (d : Option Nat) (e : Eff) (s : Nat) : (st.app d e).fr s = if d = some s then e.v else st.fr s := by
  cases d with
  | none => simp [St.app, setSlot]
  | some d =>
    simp only [St.app, setSlot, Option.some.injEq]
    by_cases h : s = d
    · simp [h]
    · simp [h, Ne.symm h]
theorem app_H (st : St) (d : Option Nat) (e : Eff) (i : Nm) : (st.app d e).H i = foldW e.wr st.H i := rfl
theorem app_t (st : St) (d : Option Nat) (e : Eff) : (st.app d e).t = st.t := rfl
theorem runA_t (l : List App) (st : St) : (runA l st).t = st.t := by
  induction l generalizing st with
  | nil => rfl
  | cons x l ih => simp only [runA, List.foldl_cons] at ih ⊢; rw [ih]; rfl

theorem St.ext' {st st' : St} (h1 : ∀ s, st.fr s = st'.fr s) (h2 : ∀ i, st.H i = st'.H i) (h3 : st.t = st'.t) : st = st' := by
  cases st; cases st'
  simp only at h1 h2 h3
  congr
  · funext s; exact h1 s
  · funext i; exact h2 i

def wrN (x : App) : List Nm := x.2.wr.map (·.1)
theorem app_comm (st : St) (x y : App) (hd : x.1 = none ∨ x.1 ≠ y.1) (hw : ∀ i ∈ wrN x, i ∉ wrN y) : (st.app x.1 x.2).app y.1 y.2 = (st.app y.1 y.2).app x.1 x.2 := by
  refine St.ext' ?_ ?_ rfl
  · intro s
    simp only [app_fr]
    by_cases h1 : x.1 = some s <;> by_cases h2 : y.1 = some s <;> simp [h1, h2]
    rcases hd with h | h
    · rw [h] at h1; cases h1
    · exact absurd (h1.trans h2.symm) h
  · intro i
    simp only [app_H]
    by_cases h1 : i ∈ wrN x
    · have h2 := hw i h1
      rw [foldW_none _ _ _ h2]
      exact foldW_at _ _ _ _ (.inl h1)
    · rw [foldW_none x.2.wr _ _ h1]
      refine foldW_at _ _ _ _ (.inr ?_)
      exact foldW_none _ _ _ h1

/-- A slot hangs on those alone that write it. -/
theorem runA_fr (s : Nat) : ∀ (l : List App) (st : St), (runA l st).fr s = (runA (l.filter fun x => x.1 == some s) st).fr s := by
  intro l
  suffices ∀ (st st' : St), st.fr s = st'.fr s → (runA l st).fr s = (runA (l.filter fun x => x.1 == some s) st').fr s from fun st => this st st rfl
  induction l with
  | nil => intro st st' h; exact h
  | cons x l ih =>
    intro st st' h
    by_cases hx : (x.1 == some s) = true
    · rw [List.filter_cons_of_pos (by exact hx)]
      refine ih _ _ ?_
      rw [app_fr, app_fr, h]
    · rw [List.filter_cons_of_neg (by exact hx)]
      refine ih _ _ ?_
      rw [app_fr, if_neg (by simpa using hx)]
      exact h
theorem runA_H (i : Nm) : ∀ (l : List App) (st : St), (runA l st).H i = (runA (l.filter fun x => (wrN x).contains i) st).H i := by
  intro l
  suffices ∀ (st st' : St), st.H i = st'.H i → (runA l st).H i = (runA (l.filter fun x => (wrN x).contains i) st').H i from fun st => this st st rfl
  induction l with
  | nil => intro st st' h; exact h
  | cons x l ih =>
    intro st st' h
    by_cases hx : ((wrN x).contains i) = true
    · rw [List.filter_cons_of_pos (by exact hx)]
      refine ih _ _ ?_
      rw [app_H, app_H]
      exact foldW_at _ _ _ _ (.inr h)
    · rw [List.filter_cons_of_neg (by exact hx)]
      refine ih _ _ ?_
      rw [app_H, foldW_none]
      · exact h
      · intro hm; exact hx (by rw [List.contains_iff_mem]; exact hm)

theorem runA_append (l m : List App) (st : St) : runA (l ++ m) st = runA m (runA l st) := by simp [runA]
theorem runA_cons (x : App) (l : List App) (st : St) : runA (x :: l) st = runA l (st.app x.1 x.2) := rfl

/-- One that stands apart from all behind it may be done last. -/
theorem runA_last (x : App) : ∀ (l : List App) (st : St), (∀ y ∈ l, (x.1 = none ∨ x.1 ≠ y.1) ∧ ∀ i ∈ wrN x, i ∉ wrN y) → runA (x :: l) st = (runA l st).app x.1 x.2
  | [], st, _ => rfl
  | y :: l, st, h => by
    rw [runA_cons, runA_cons, runA_cons, app_comm st x y (h y (by simp)).1 (h y (by simp)).2]
    have := runA_last x l (st.app y.1 y.2) fun z hz => h z (by simp [hz])
    rw [runA_cons] at this
    exact this

/-- The state when those of L are done. -/
def stOf (n : Nat) (g : Nat → App) (L : Nat → Bool) (st : St) : St := runA (((List.range n).filter L).map g) st

theorem stOf_lt (n : Nat) (g : Nat → App) (i : Nat) (hi : i ≤ n) (st : St) : stOf n g (fun j => decide (j < i)) st = runA ((List.range i).map g) st := by
  unfold stOf
  congr 2
  obtain ⟨k, rfl⟩ : ∃ k, n = i + k := ⟨n - i, by omega⟩
  rw [List.range_add, List.filter_append]
  have h1 : (List.range i).filter (fun j => decide (j < i)) = List.range i := List.filter_eq_self.2 fun a ha => by simpa using ha
  have h2 : ((List.range k).map (i + ·)).filter (fun j => decide (j < i)) = [] := List.filter_eq_nil_iff.2 fun a ha => by
    rw [List.mem_map] at ha
    obtain ⟨b, _, rfl⟩ := ha
    simp
  rw [h1, h2, List.append_nil]

theorem filter_map_filter (g : Nat → App) (p : App → Bool) (L : Nat → Bool) (l : List Nat) : ((l.filter L).map g).filter p = (l.filter fun j => L j && p (g j)).map g := by
  rw [List.filter_map, List.filter_filter]
  congr 1
  congr 1
  funext j
  simp [Bool.and_comm]

theorem stOf_fr (n : Nat) (g : Nat → App) (L L' : Nat → Bool) (st : St) (s : Nat) (h : ∀ j, j < n → (g j).1 = some s → L j = L' j) : (stOf n g L st).fr s = (stOf n g L' st).fr s := by
  unfold stOf
  rw [runA_fr, runA_fr s (((List.range n).filter L').map g), filter_map_filter, filter_map_filter]
  congr 3
  refine List.filter_congr fun j hj => ?_
  by_cases hs : (g j).1 = some s
  · rw [h j (by simpa using hj) hs]
  · have : ((g j).1 == some s) = false := by simpa using hs
    rw [this, Bool.and_false, Bool.and_false]
theorem stOf_H (n : Nat) (g : Nat → App) (L L' : Nat → Bool) (st : St) (i : Nm) (h : ∀ j, j < n → i ∈ wrN (g j) → L j = L' j) : (stOf n g L st).H i = (stOf n g L' st).H i := by
  unfold stOf
  rw [runA_H, runA_H i (((List.range n).filter L').map g), filter_map_filter, filter_map_filter]
  congr 3
  refine List.filter_congr fun j hj => ?_
  by_cases hs : i ∈ wrN (g j)
  · rw [h j (by simpa using hj) hs]
  · have : ((wrN (g j)).contains i) = false := by
      rw [Bool.eq_false_iff]
      intro hc
      exact hs (by rwa [List.contains_iff_mem] at hc)
    rw [this, Bool.and_false, Bool.and_false]

theorem stOf_insert (n : Nat) (g : Nat → App) (L : Nat → Bool) (st : St) (i : Nat) (hi : i < n) (hL : L i = false) (h : ∀ j, i < j → j < n → L j = true → ((g i).1 = none ∨ (g i).1 ≠ (g j).1) ∧ ∀ q ∈ wrN (g i), q ∉ wrN (g j)) :
    stOf n g (fun j => if j = i then true else L j) st = (stOf n g L st).app (g i).1 (g i).2 := by
  unfold stOf
  obtain ⟨k, rfl⟩ : ∃ k, n = i + (1 + k) := ⟨n - i - 1, by omega⟩
  have hspl : List.range (i + (1 + k)) = List.range i ++ i :: (List.range k).map (fun q => i + (1 + q)) := by
    rw [List.range_add, List.range_add]
    simp [Function.comp_def]
  have e1 : (List.range i).filter (fun j => if j = i then true else L j) = (List.range i).filter L := List.filter_congr fun j hj => by
    have : j ≠ i := by have := List.mem_range.1 hj; omega
    simp [this]
  have e2 : ((List.range k).map (fun q => i + (1 + q))).filter (fun j => if j = i then true else L j) = ((List.range k).map (fun q => i + (1 + q))).filter L := List.filter_congr fun j hj => by
    rw [List.mem_map] at hj
    obtain ⟨q, _, rfl⟩ := hj
    have : i + (1 + q) ≠ i := by omega
    simp
  rw [hspl, List.filter_append, List.filter_append, List.filter_cons_of_pos (by simp), List.filter_cons_of_neg (by simp [hL]), e1, e2]
  rw [List.map_append, List.map_cons, runA_append, List.map_append, runA_append]
  rw [runA_last (g i)]
  intro y hy
  rw [List.mem_map] at hy
  obtain ⟨j, hj, rfl⟩ := hy
  rw [List.mem_filter, List.mem_map] at hj
  obtain ⟨⟨q, hq, rfl⟩, hLj⟩ := hj
  have := List.mem_range.1 hq
  exact h _ (by omega) (by omega) hLj

/-- The effects, one after the other, as they stand in the text. -/
theorem pdraw_effs {τ : Nat} {ops : Array Oper} {K : St → Prop} : ∀ (os : List Oper) (st : St) (log : Log), pdraw P τ ops os st log K →
    ∃ es : List Eff, es.length = os.length ∧ (∀ (j : Nat) o e, os[j]? = some o → es[j]? = some e → EffR P τ ops o (runA ((List.range j).map fun i => ((os[i]?).bind (·.dst), es.getD i noEff)) st) e) ∧
      logOK (masks ops.toList) (log ++ es.map fun e => (e.rd, e.wr.map (·.1))) ∧ K (runA ((List.range os.length).map fun i => ((os[i]?).bind (·.dst), es.getD i noEff)) st)
  | [], st, log, h => by
    obtain ⟨h1, h2⟩ := h
    exact ⟨[], rfl, by simp, by simpa using h1, by simpa [runA] using h2⟩
  | o :: os, st, log, h => by
    obtain ⟨e, he, hk⟩ := stepK_eff h
    obtain ⟨es, h1, h2, h3, h4⟩ := pdraw_effs os (st.app o.dst e) _ hk
    have hsh : ∀ n, (List.range (n + 1)).map (fun i => (((o :: os)[i]?).bind (·.dst), (e :: es).getD i noEff)) = (o.dst, e) :: (List.range n).map fun i => ((os[i]?).bind (·.dst), es.getD i noEff) := by
      intro n
      rw [List.range_succ_eq_map, List.map_cons, List.map_map]
      rfl
    refine ⟨e :: es, by simp [h1], ?_, by simpa using h3, ?_⟩
    · intro j o' e' ho' he'
      cases j with
      | zero =>
        simp at ho' he'
        subst ho' he'
        simpa [runA] using he
      | succ j =>
        rw [hsh, runA_cons]
        exact h2 j o' e' (by simpa using ho') (by simpa using he')
    · rw [List.length_cons, hsh, runA_cons]
      exact h4

end
end Go.Proofs.YthcmcjkljjfccaaGreatDoor.Abs
