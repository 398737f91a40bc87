/-
  The law FnExactAnswerOf is true at every input of bulk at most 1048576, in the second form's card.
  Its conditions: those that the row itself names (the listed variables, the bulk).
-/
import Derived.Test.YthcmcjkljjfccaaGreatDoorPlain2
set_option maxRecDepth 100000
set_option linter.unusedVariables false
set_option linter.unusedSimpArgs false
namespace Go.Proofs.YthcmcjkljjfccaaGreatDoor.Abs
open Go Go.Proofs.Tryz Go.Proofs.YthcmcjkljjfccaaGreatDoor Go.ChangeShapes Go.WideShapes Go.ChangeAt Go.RowKit

noncomputable def wit : Array Value := #[.agg #[.string ⟨#[]⟩, .slice none 0 0], .agg #[.int .i64 0, .int .i64 0, .slice none 0 0], .int .i64 0]
theorem wit_laid (os : Os) (args : Array Value) : laidMetH prog theLaid ((World.laidAll prog os theLaid).forCall (fun _ _ => 0) ⟨#[], args, []⟩).memory := by
  rw [MakeChecks.laidMetH_plain _ _ _ (by kernel_rfl)]
  exact laidMet_laidAll _ (by kernel_rfl) (by kernel_rfl)
theorem wit_reads (os : Os) {H : Type} (enc : TypeId × Value → H) :
    ∃ places, DataW.whole enc prog ((World.laidAll prog os theLaid).forCall (fun _ _ => 0) ⟨#[], wit, []⟩).memory f6.params.toList [] false wit.toList 8 =
      some ([.agg [.lit (.string []), .nil], .agg [.lit (.int .i64 0), .lit (.int .i64 0), .nil], .lit (.int .i64 0)], [], places) := ⟨[], by kernel_rfl⟩
theorem wit_shaped (os : Os) : ((World.laidAll prog os theLaid).forCall (fun _ _ => 0) ⟨#[], wit, []⟩).Shaped prog := World.shaped_of_ZipB (by kernel_rfl) (by kernel_rfl)
theorem wit_ok (os : Os) : Input.okWideB prog ((World.laidAll prog os theLaid).forCall (fun _ _ => 0) ⟨#[], wit, []⟩) 6 ⟨#[], wit, []⟩ = true := by kernel_rfl
theorem contract_here (H : Type) (enc : TypeId × Value → H) (W : World) (base : Nat) (args : Array Value) (ds gs : List (DataW H)) (before : List MemPlace)
    (hval : ∀ (j : Nat) t v, f6.params[j]? = some t → args[j]? = some v → Value.okWide prog W .any base t v)
    (hW : DataW.Whole enc prog f6.params.toList Rows.fnExactAnswerOfSpec.vars false W args.toList ds gs before)
    (hk : Rows.uptoSmall H (ds ++ gs) = true) (hL : laidMetH prog theLaid W) (hs : W.ShapedOpen prog) :
    Calls prog 6 args W fun e W' => ∃ v, e = .returned v ∧ Rows.fnExactAnswerOfSpec.post enc prog f6 false true false false W args v W' := by
  have hW' := hW
  obtain ⟨p, q, hA, hV, rfl, _, _⟩ := hW
  have hq : gs = [] ∧ q = [] := trodVars_none hV
  obtain ⟨rfl, rfl⟩ := hq
  rw [params6] at hA hval
  obtain ⟨v0, vs0, d0, ds0, p0, q0, e0, g0, c0, h0, r0⟩ := trodAll_cons hA
  obtain ⟨v1, vs1, d1, ds1, p1, q1, e1, g1, c1, h1, r1⟩ := trodAll_cons r0
  obtain ⟨v2, vs2, d2, ds2, p2, q2, e2, g2, c2, h2, r2⟩ := trodAll_cons r1
  obtain ⟨z0, z1, z2⟩ := trodAll_nil r2
  subst z0 z1 z2
  subst e2 g2 c2
  subst e1 g1 c1
  subst g0 c0
  obtain rfl : args = #[v0, v1, v2] := by cases args; simp_all
  have hsm := small hk
  obtain ⟨a0, i0, s0⟩ := param_struct underlying24 (hval 0 24 v0 rfl rfl) rd24 h0 (hsm d0 (by simp))
  obtain ⟨a1, i1, s1⟩ := param_struct underlying27 (hval 1 27 v1 rfl rfl) rd27 h1 (hsm d1 (by simp))
  obtain ⟨a2, rfl, rfl, _, _⟩ := open_int underlying3 (hval 2 3 v2 rfl rfl) h2
  refine (calls_true (cargs := [v0, v1, .int .i64 a2]) (laws_FnExactAnswerOf_ok (law_AnswerOf a0 a1 a2 s0 s1)) (begin_ok hs hL) ⟨_, _, rfl, i0, ⟨_, _, rfl, i1, ⟨_, _, rfl, (by simp only [IR]), rfl⟩⟩⟩).mono ?_
  rintro e W' ⟨rfl, hb⟩
  exact ⟨_, rfl, post_of_below laidOutK (by
    intro t ht
    rw [params6] at ht
    have hall : ([24, 27, 3].all fun u => prog.readableRec u && decide (u < prog.types.size)) = true := by kernel_rfl
    have := List.all_eq_true.1 hall t (by simpa using ht)
    simpa using this) hW' rfl hb (fun _ _ _ => trodAll_mk1 (shut_bool underlying4 _)) rfl rfl (ok_one (by kernel_rfl) rfl (okWide_bool_mk underlying4 _))⟩
theorem lifted_here (os : Os) (started : os.Started) (H : Type) (enc : TypeId × Value → H) (F : Stop.Interp) :
    ReturnsInHanded {} checked os 6 .any ((Rows.OpenSpec.upto Rows.fnExactAnswerOfSpec).preRow enc prog f6 Rows.fnExactAnswerOfUptoRow.domain false Rows.fnExactAnswerOfUptoRow.laid) (((Rows.OpenSpec.upto Rows.fnExactAnswerOfSpec).at F).post enc prog f6 false true false false) := by
  obtain ⟨places, hx⟩ := wit_reads os enc
  refine returnsInHanded_of_row (C := checked) (s := Rows.OpenSpec.upto Rows.fnExactAnswerOfSpec) ownK started (by kernel_rfl) func6
    ⟨World.laidAll prog os theLaid, fun _ _ => 0, ⟨#[], wit, []⟩, World.laidAll_os _ _ _, wit_shaped os, rfl, (Input.okWide_of_okWideB (wit_ok os)).2,
      OpenSpec.preRow_of_cond 8 hx (by kernel_rfl) (fun k hk => by cases hk; kernel_rfl) (by kernel_rfl) (wit_laid os _), by
        simp only [Assume.holds]
        exact ⟨by simp, by simp, fun _ => Modest.zero, by simp, by simp⟩⟩ ?_
  intro W base args ds gs before hval hW _ hcond _ hL hs _
  exact contract_here H enc W base args ds gs before hval hW (hcond _ rfl) hL hs
theorem said_here : Rows.FnExactAnswerOfUptoSaid :=
  OpenClaim.holds_of_cond 6 f6 rfl rfl rfl rfl rfl rfl rfl ⟨rfl, rfl, rfl, rfl, rfl⟩ rfl rfl rfl rfl rfl (by kernel_rfl) func6 (by kernel_rfl)
    (of_decide_eq_true (by kernel_rfl)) (by unfold Func.isWrapper; first | (rw [if_pos (by decide +kernel)]; kernel_rfl) | (rw [if_neg (by decide +kernel)]; exact ⟨rfl, rfl⟩))
    (fun os started H enc _ F => by rw [OpenClaim.pre_eq_preRow]; exact lifted_here os started H enc F)
theorem plain_here (f : FuncId) (fn : Func) (hf : Tryz.pinned.checked.prog.funcNamed "loop.example/g00300/laws.FnExactAnswerOf" = some f) (hfn : Tryz.pinned.checked.prog.funcs[f]? = some fn) :
    true = Tryz.pinned.checked.prog.looks [] ∧ ∀ (j : Nat) t, fn.params[j]? = some t → Tryz.pinned.checked.prog.wantsStandIn t = false := by
  obtain rfl : f = 6 := Option.some.inj ((show prog.funcNamed "loop.example/g00300/laws.FnExactAnswerOf" = some 6 by kernel_rfl).symm.trans hf) |>.symm
  obtain rfl : fn = f6 := (Option.some.inj (func6.symm.trans hfn)).symm
  refine ⟨by kernel_rfl, fun j t ht => ?_⟩
  rw [params6] at ht
  have hall : ([24, 27, 3].all fun u => !prog.wantsStandIn u) = true := by kernel_rfl
  have := List.all_eq_true.1 hall t (by simpa using Array.mem_of_getElem? ht)
  exact (Bool.not_eq_true' _).mp this
theorem card_here : Rows.FnExactAnswerOfUptoCardSaid :=
  Claim7.holds_tied_plain_at .later [] _ _ _ _ said_here (fun _ h => by cases h) (by kernel_rfl) (fun _ h => by cases h) fnExactAnswerOfUpto_row_tie rfl ⟨rfl, rfl⟩ (by kernel_rfl) rfl plain_here (by kernel_rfl)
end Go.Proofs.YthcmcjkljjfccaaGreatDoor.Abs
namespace Go.Proofs.YthcmcjkljjfccaaGreatDoor
theorem answerOf_card : Rows.FnExactAnswerOfUptoCardSaid := Abs.card_here
end Go.Proofs.YthcmcjkljjfccaaGreatDoor
