/-
  Each function of this program computes its plain function: the contracts, part 1.
-/
import Derived.Test.YthcmcjkljjfccaaGreatDoorBase
set_option linter.unusedVariables false
set_option linter.unusedSimpArgs false
set_option linter.unusedVariables false
set_option linter.unusedSimpArgs false
set_option maxRecDepth 20000
set_option maxHeartbeats 1600000
namespace Go.Proofs.YthcmcjkljjfccaaGreatDoor.Abs
open Go Go.Proofs.Tryz
theorem laws_szTarget_ok {a_0 : TTarget} {left_1 : Int} {r : Int} (h : laws_szTarget a_0 left_1 = some r) : PC prog 49 [.agg [.str a_0.fHost, .str a_0.fData, .int .i64 a_0.fGroup, .int .i64 a_0.fWeight], .int .i64 left_1] (.int .i64 r) := by
  refine PC.intro (rs := [.tmp 4]) func49 rfl rfl mx (by rfl) (by rfl) (by rw [ntmps49]; simp) ?_
  rw [laws_szTarget] at h
  rw [pwp_start]
  simp only [go_sem, st0]
  refine pwp_plain rfl ?_
  simp only [go_sem]
  cases hg1 : (decide ((IntKind.i64.wrap (left_1 - (a_0.fHost.length : Int))) < 0)) with
  | true =>
    replace h := if_t hg1 h
    replace h := Option.some.inj h
    subst h
    simp only [go_sem]
  | false =>
    replace h := if_f hg1 h
    simp only [go_sem]
    refine UpC.here ?_
    simp only [go_sem]
    refine pwp_plain rfl ?_
    simp only [go_sem]
    cases hg2 : (decide ((IntKind.i64.wrap ((IntKind.i64.wrap (left_1 - (a_0.fHost.length : Int))) - (a_0.fData.length : Int))) < 0)) with
    | true =>
      replace h := if_t hg2 h
      replace h := Option.some.inj h
      subst h
      simp only [go_sem]
    | false =>
      replace h := if_f hg2 h
      simp only [go_sem]
      refine UpC.here ?_
      replace h := Option.some.inj h
      subst h
      simp only [go_sem]

theorem laws_szTargetS_ok {a_0 : (List TTarget)} {left_1 : Int} {r : Int} (h : laws_szTargetS a_0 left_1 = some r) : PC prog 27 [.sl a_0.length (a_0.flatMap cTarget), .int .i64 left_1] (.int .i64 r) := by
  refine PC.intro (rs := [.tmp 4]) func27 rfl rfl mx (by rfl) (by rfl) (by rw [ntmps27]; simp) ?_
  rw [laws_szTargetS] at h
  rw [pwp_start]
  simp only [go_sem, st0]
  refine pwp_plain rfl ?_
  simp only [go_sem]
  cases hg1 : (decide ((IntKind.i64.wrap (left_1 - (a_0.length : Int))) < 0)) with
  | true =>
    replace h := if_t hg1 h
    replace h := Option.some.inj h
    subst h
    simp only [go_sem]
  | false =>
    replace h := if_f hg1 h
    simp only [go_sem]
    refine UpC.here ?_
    refine pwp_plain rfl ?_
    simp only [go_sem]
    refine loopG_i (fun m s => ∃ (left_1' : Int) (i_5 : Int), laws_szTargetS_L1 a_0 left_1 m left_1' i_5 = some r ∧ s = ⟨frL [(0, .sl a_0.length (a_0.flatMap cTarget)), (1, .int .i64 left_1'), (5, .int .i64 i_5)], hL [], 5⟩) FU ?_ ?_
    · exact Up.to [(0, .sl a_0.length (a_0.flatMap cTarget)), (1, .int .i64 (IntKind.i64.wrap (left_1 - (a_0.length : Int)))), (5, .int .i64 0)] [] 5 ⟨_, _, h, rfl⟩
    · rintro Q1 fu1 _ ⟨left_1', i_5, h, rfl⟩ hN1 hR1 hE1
      cases fu1 with
      | zero =>
        rw [laws_szTargetS_L1] at h; cases h
      | succ fu1 =>
        rw [laws_szTargetS_L1] at h
        simp only [go_sem]
        refine pwp_plain rfl ?_
        simp only [go_sem]
        cases hg2 : (decide (i_5 < (a_0.length : Int))) with
        | true =>
          replace h := if_t hg2 h
          simp only [go_sem]
          refine UpC.here ?_
          refine pwp_plain rfl ?_
          simp only [go_sem]
          obtain ⟨e3, he3, h⟩ := bind_i h
          refine evE_index he3 cTarget_len (by decide) (fun rest => ?_)
          simp only [go_sem]
          obtain ⟨y4, hy4, h⟩ := bind_i h
          refine CallS.pcs (laws_szTarget_ok hy4) rfl ?_
          simp only [go_sem]
          cases hg5 : (decide (y4 < 0)) with
          | true =>
            replace h := if_t hg5 h
            simp only [go_sem]
            refine hR1 _ ?_
            replace h := Option.some.inj h
            subst h
            simp only [go_sem]
          | false =>
            replace h := if_f hg5 h
            simp only [go_sem]
            refine UpC.here ?_
            simp only [go_sem]
            exact hN1 _ (Up.to [(0, .sl a_0.length (a_0.flatMap cTarget)), (1, .int .i64 y4), (5, .int .i64 (IntKind.i64.wrap (i_5 + 1)))] [] 5 ⟨fu1, Nat.lt_succ_self _, y4, (IntKind.i64.wrap (i_5 + 1)), h, rfl⟩)
        | false =>
          replace h := if_f hg2 h
          simp only [go_sem]
          refine hE1 _ _ ?_
          simp only [go_sem]
          refine UpC.here ?_
          replace h := Option.some.inj h
          subst h
          simp only [go_sem]

theorem laws_szPolicy_ok {a_0 : TPolicy} {left_1 : Int} {r : Int} (h : laws_szPolicy a_0 left_1 = some r) : PC prog 7 [.agg [.str a_0.fName, .sl a_0.fTargets.length (a_0.fTargets.flatMap cTarget)], .int .i64 left_1] (.int .i64 r) := by
  refine PC.intro (rs := [.tmp 4]) func7 rfl rfl mx (by rfl) (by rfl) (by rw [ntmps7]; simp) ?_
  rw [laws_szPolicy] at h
  rw [pwp_start]
  simp only [go_sem, st0]
  refine pwp_plain rfl ?_
  simp only [go_sem]
  cases hg1 : (decide ((IntKind.i64.wrap (left_1 - (a_0.fName.length : Int))) < 0)) with
  | true =>
    replace h := if_t hg1 h
    replace h := Option.some.inj h
    subst h
    simp only [go_sem]
  | false =>
    replace h := if_f hg1 h
    simp only [go_sem]
    refine UpC.here ?_
    simp only [go_sem]
    obtain ⟨y2, hy2, h⟩ := bind_i h
    refine CallS.pcs (laws_szTargetS_ok hy2) rfl ?_
    simp only [go_sem]
    refine pwp_plain rfl ?_
    simp only [go_sem]
    cases hg3 : (decide (y2 < 0)) with
    | true =>
      replace h := if_t hg3 h
      replace h := Option.some.inj h
      subst h
      simp only [go_sem]
    | false =>
      replace h := if_f hg3 h
      simp only [go_sem]
      refine UpC.here ?_
      replace h := Option.some.inj h
      subst h
      simp only [go_sem]

theorem laws_szHost_ok {a_0 : THost} {left_1 : Int} {r : Int} (h : laws_szHost a_0 left_1 = some r) : PC prog 50 [.agg [.str a_0.fName, .bool a_0.fUp, .int .i64 a_0.fRow], .int .i64 left_1] (.int .i64 r) := by
  refine PC.intro (rs := [.tmp 4]) func50 rfl rfl mx (by rfl) (by rfl) (by rw [ntmps50]; simp) ?_
  rw [laws_szHost] at h
  rw [pwp_start]
  simp only [go_sem, st0]
  refine pwp_plain rfl ?_
  simp only [go_sem]
  cases hg1 : (decide ((IntKind.i64.wrap (left_1 - (a_0.fName.length : Int))) < 0)) with
  | true =>
    replace h := if_t hg1 h
    replace h := Option.some.inj h
    subst h
    simp only [go_sem]
  | false =>
    replace h := if_f hg1 h
    simp only [go_sem]
    refine UpC.here ?_
    replace h := Option.some.inj h
    subst h
    simp only [go_sem]

theorem laws_szHostS_ok {a_0 : (List THost)} {left_1 : Int} {r : Int} (h : laws_szHostS a_0 left_1 = some r) : PC prog 28 [.sl a_0.length (a_0.flatMap cHost), .int .i64 left_1] (.int .i64 r) := by
  refine PC.intro (rs := [.tmp 4]) func28 rfl rfl mx (by rfl) (by rfl) (by rw [ntmps28]; simp) ?_
  rw [laws_szHostS] at h
  rw [pwp_start]
  simp only [go_sem, st0]
  refine pwp_plain rfl ?_
  simp only [go_sem]
  cases hg1 : (decide ((IntKind.i64.wrap (left_1 - (a_0.length : Int))) < 0)) with
  | true =>
    replace h := if_t hg1 h
    replace h := Option.some.inj h
    subst h
    simp only [go_sem]
  | false =>
    replace h := if_f hg1 h
    simp only [go_sem]
    refine UpC.here ?_
    refine pwp_plain rfl ?_
    simp only [go_sem]
    refine loopG_i (fun m s => ∃ (left_1' : Int) (i_5 : Int), laws_szHostS_L1 a_0 left_1 m left_1' i_5 = some r ∧ s = ⟨frL [(0, .sl a_0.length (a_0.flatMap cHost)), (1, .int .i64 left_1'), (5, .int .i64 i_5)], hL [], 5⟩) FU ?_ ?_
    · exact Up.to [(0, .sl a_0.length (a_0.flatMap cHost)), (1, .int .i64 (IntKind.i64.wrap (left_1 - (a_0.length : Int)))), (5, .int .i64 0)] [] 5 ⟨_, _, h, rfl⟩
    · rintro Q1 fu1 _ ⟨left_1', i_5, h, rfl⟩ hN1 hR1 hE1
      cases fu1 with
      | zero =>
        rw [laws_szHostS_L1] at h; cases h
      | succ fu1 =>
        rw [laws_szHostS_L1] at h
        simp only [go_sem]
        refine pwp_plain rfl ?_
        simp only [go_sem]
        cases hg2 : (decide (i_5 < (a_0.length : Int))) with
        | true =>
          replace h := if_t hg2 h
          simp only [go_sem]
          refine UpC.here ?_
          refine pwp_plain rfl ?_
          simp only [go_sem]
          obtain ⟨e3, he3, h⟩ := bind_i h
          refine evE_index he3 cHost_len (by decide) (fun rest => ?_)
          simp only [go_sem]
          obtain ⟨y4, hy4, h⟩ := bind_i h
          refine CallS.pcs (laws_szHost_ok hy4) rfl ?_
          simp only [go_sem]
          cases hg5 : (decide (y4 < 0)) with
          | true =>
            replace h := if_t hg5 h
            simp only [go_sem]
            refine hR1 _ ?_
            replace h := Option.some.inj h
            subst h
            simp only [go_sem]
          | false =>
            replace h := if_f hg5 h
            simp only [go_sem]
            refine UpC.here ?_
            simp only [go_sem]
            exact hN1 _ (Up.to [(0, .sl a_0.length (a_0.flatMap cHost)), (1, .int .i64 y4), (5, .int .i64 (IntKind.i64.wrap (i_5 + 1)))] [] 5 ⟨fu1, Nat.lt_succ_self _, y4, (IntKind.i64.wrap (i_5 + 1)), h, rfl⟩)
        | false =>
          replace h := if_f hg2 h
          simp only [go_sem]
          refine hE1 _ _ ?_
          simp only [go_sem]
          refine UpC.here ?_
          replace h := Option.some.inj h
          subst h
          simp only [go_sem]

theorem laws_szHealth_ok {a_0 : THealth} {left_1 : Int} {r : Int} (h : laws_szHealth a_0 left_1 = some r) : PC prog 8 [.agg [.int .i64 a_0.fRise, .int .i64 a_0.fFall, .sl a_0.fHosts.length (a_0.fHosts.flatMap cHost)], .int .i64 left_1] (.int .i64 r) := by
  refine PC.intro (rs := [.tmp 4]) func8 rfl rfl mx (by rfl) (by rfl) (by rw [ntmps8]; simp) ?_
  rw [laws_szHealth] at h
  rw [pwp_start]
  simp only [go_sem, st0]
  obtain ⟨y1, hy1, h⟩ := bind_i h
  refine CallS.pcs (laws_szHostS_ok hy1) rfl ?_
  simp only [go_sem]
  refine pwp_plain rfl ?_
  simp only [go_sem]
  cases hg2 : (decide (y1 < 0)) with
  | true =>
    replace h := if_t hg2 h
    replace h := Option.some.inj h
    subst h
    simp only [go_sem]
  | false =>
    replace h := if_f hg2 h
    simp only [go_sem]
    refine UpC.here ?_
    replace h := Option.some.inj h
    subst h
    simp only [go_sem]

theorem laws_toTarget_ok {a_0 : TTarget} {r : TTarget} (h : laws_toTarget a_0 = some r) : PC prog 58 [.agg [.str a_0.fHost, .str a_0.fData, .int .i64 a_0.fGroup, .int .i64 a_0.fWeight]] (.agg [.str r.fHost, .str r.fData, .int .i64 r.fGroup, .int .i64 r.fWeight]) := by
  refine PC.intro (rs := [.cell 2 70]) func58 rfl rfl mx (by rfl) (by rfl) (by rw [ntmps58]; simp) ?_
  rw [laws_toTarget] at h
  rw [pwp_start]
  replace h := Option.some.inj h
  subst h
  simp only [go_sem, st0]
theorem laws_toTarget_gc {a_0 : TTarget} {r : TTarget} (h : laws_toTarget a_0 = some r) : GC prog 58 [.agg [.str a_0.fHost, .str a_0.fData, .int .i64 a_0.fGroup, .int .i64 a_0.fWeight]] [] (.agg [.str r.fHost, .str r.fData, .int .i64 r.fGroup, .int .i64 r.fWeight]) [] := by
  refine GC.introU (rs := [.cell 2 70]) func58 rfl rfl mx (Static.mk' (by rfl) (by simp only [go_sem]) (by simp only [go_sem]) (by simp) (by simp only [go_sem]) (by simp only [go_sem])) (by rfl) (by rw [ntmps58]; simp) ?_
  rw [laws_toTarget] at h
  rw [pwp_start]
  replace h := Option.some.inj h
  subst h
  simp only [go_sem, st0H, holesL]
  exact Up.here (retG_i [] [.agg [.str a_0.fHost, .str a_0.fData, .int .i64 a_0.fGroup, .int .i64 a_0.fWeight]] rfl (by decide) (by decide) (by simp only [go_sem]) (by simp only [go_sem]) (by simp only [go_sem]))

theorem laws_toTargetS_ok {a_0 : (List TTarget)} {r : (List TTarget)} (h : laws_toTargetS a_0 = some r) : PC prog 32 [.sl a_0.length (a_0.flatMap cTarget)] (.sl r.length (r.flatMap cTarget)) := by
  refine PC.intro (rs := [.tmp 2]) func32 rfl rfl mx (by rfl) (by rfl) (by rw [ntmps32]; simp) ?_
  rw [laws_toTargetS] at h
  rw [pwp_start]
  simp only [go_sem, st0]
  obtain ⟨x1, hx1, h⟩ := bind_i h
  refine evE_make (c := cTarget) hx1 rfl cTarget_len (by decide) rfl ?_
  simp only [go_sem]
  refine pwp_plain rfl ?_
  simp only [go_sem]
  refine loopG_i (fun m s => ∃ (i_4 : Int) (out_7 : List TTarget), laws_toTargetS_L1 a_0 m i_4 out_7 = some r ∧ s = ⟨frL [(0, .sl a_0.length (a_0.flatMap cTarget)), (3, .ref (2, 7, 0) out_7.length), (4, .int .i64 i_4)], hL [((2, 7, 0), ⟨some (70, 4), out_7.length, out_7.flatMap cTarget⟩)], 4⟩) FU ?_ ?_
  · exact Up.to [(0, .sl a_0.length (a_0.flatMap cTarget)), (3, .ref (2, 7, 0) x1.length), (4, .int .i64 0)] [((2, 7, 0), ⟨some (70, 4), x1.length, x1.flatMap cTarget⟩)] 4 ⟨_, _, h, rfl⟩
  · rintro Q1 fu1 _ ⟨i_4, out_7, h, rfl⟩ hN1 hR1 hE1
    cases fu1 with
    | zero =>
      rw [laws_toTargetS_L1] at h; cases h
    | succ fu1 =>
      rw [laws_toTargetS_L1] at h
      simp only [go_sem]
      refine pwp_plain rfl ?_
      simp only [go_sem]
      cases hg2 : (decide (i_4 < (a_0.length : Int))) with
      | true =>
        replace h := if_t hg2 h
        simp only [go_sem]
        refine UpC.here ?_
        refine pwp_plain rfl ?_
        simp only [go_sem]
        obtain ⟨e3, he3, h⟩ := bind_i h
        refine evE_index he3 cTarget_len (by decide) (fun rest => ?_)
        simp only [go_sem]
        obtain ⟨y4, hy4, h⟩ := bind_i h
        refine CallS.seeg (laws_toTarget_gc hy4) (by simp only [go_sem]) (by simp only [go_sem]) ?_
        simp only [go_sem]
        obtain ⟨e5, he5, h⟩ := bind_i h
        refine evE_indexRef he5 (by simp only [go_sem]) ?_
        simp only [go_sem]
        obtain ⟨x6, hx6, h⟩ := bind_i h
        refine evE_storeRow (x := y4) hx6 cTarget_len (by simp only [go_sem] <;> rfl) _ (by omega) rfl rfl rfl ?_
        simp only [go_sem, put?_len hx6]
        refine UpC.here ?_
        simp only [go_sem, put?_len hx6]
        exact hN1 _ (Up.to [(0, .sl a_0.length (a_0.flatMap cTarget)), (3, .ref (2, 7, 0) x6.length), (4, .int .i64 (IntKind.i64.wrap (i_4 + 1)))] [((2, 7, 0), ⟨some (70, 4), x6.length, x6.flatMap cTarget⟩)] 4 ⟨fu1, Nat.lt_succ_self _, (IntKind.i64.wrap (i_4 + 1)), x6, h, rfl⟩)
      | false =>
        replace h := if_f hg2 h
        simp only [go_sem]
        refine hE1 _ _ ?_
        simp only [go_sem]
        refine UpC.here ?_
        replace h := Option.some.inj h
        subst h
        simp only [go_sem]
theorem laws_toTargetS_okf {a_0 : (List TTarget)} {r : (List TTarget)} (h : laws_toTargetS a_0 = some r) : PCF prog 32 [.sl a_0.length (a_0.flatMap cTarget)] 70 4 r.length (r.flatMap cTarget) := by
  refine PCF.introU (rs := [.tmp 2]) func32 rfl rfl mx (by rfl) (by rfl) (by rw [ntmps32]; simp) (by decide) (by simp only [go_sem]) (by simp only [go_sem]) ?_
  rw [laws_toTargetS] at h
  rw [pwp_start]
  simp only [go_sem, st0]
  obtain ⟨x1, hx1, h⟩ := bind_i h
  refine evE_make (c := cTarget) hx1 rfl cTarget_len (by decide) rfl ?_
  simp only [go_sem]
  refine pwp_plain rfl ?_
  simp only [go_sem]
  refine loopG_i (fun m s => ∃ (i_4 : Int) (out_7 : List TTarget), laws_toTargetS_L1 a_0 m i_4 out_7 = some r ∧ s = ⟨frL [(0, .sl a_0.length (a_0.flatMap cTarget)), (3, .ref (2, 7, 0) out_7.length), (4, .int .i64 i_4)], hL [((2, 7, 0), ⟨some (70, 4), out_7.length, out_7.flatMap cTarget⟩)], 4⟩) FU ?_ ?_
  · exact Up.to [(0, .sl a_0.length (a_0.flatMap cTarget)), (3, .ref (2, 7, 0) x1.length), (4, .int .i64 0)] [((2, 7, 0), ⟨some (70, 4), x1.length, x1.flatMap cTarget⟩)] 4 ⟨_, _, h, rfl⟩
  · rintro Q1 fu1 _ ⟨i_4, out_7, h, rfl⟩ hN1 hR1 hE1
    cases fu1 with
    | zero =>
      rw [laws_toTargetS_L1] at h; cases h
    | succ fu1 =>
      rw [laws_toTargetS_L1] at h
      simp only [go_sem]
      refine pwp_plain rfl ?_
      simp only [go_sem]
      cases hg2 : (decide (i_4 < (a_0.length : Int))) with
      | true =>
        replace h := if_t hg2 h
        simp only [go_sem]
        refine UpC.here ?_
        refine pwp_plain rfl ?_
        simp only [go_sem]
        obtain ⟨e3, he3, h⟩ := bind_i h
        refine evE_index he3 cTarget_len (by decide) (fun rest => ?_)
        simp only [go_sem]
        obtain ⟨y4, hy4, h⟩ := bind_i h
        refine CallS.seeg (laws_toTarget_gc hy4) (by simp only [go_sem]) (by simp only [go_sem]) ?_
        simp only [go_sem]
        obtain ⟨e5, he5, h⟩ := bind_i h
        refine evE_indexRef he5 (by simp only [go_sem]) ?_
        simp only [go_sem]
        obtain ⟨x6, hx6, h⟩ := bind_i h
        refine evE_storeRow (x := y4) hx6 cTarget_len (by simp only [go_sem] <;> rfl) _ (by omega) rfl rfl rfl ?_
        simp only [go_sem, put?_len hx6]
        refine UpC.here ?_
        simp only [go_sem, put?_len hx6]
        exact hN1 _ (Up.to [(0, .sl a_0.length (a_0.flatMap cTarget)), (3, .ref (2, 7, 0) x6.length), (4, .int .i64 (IntKind.i64.wrap (i_4 + 1)))] [((2, 7, 0), ⟨some (70, 4), x6.length, x6.flatMap cTarget⟩)] 4 ⟨fu1, Nat.lt_succ_self _, (IntKind.i64.wrap (i_4 + 1)), x6, h, rfl⟩)
      | false =>
        replace h := if_f hg2 h
        simp only [go_sem]
        refine hE1 _ _ ?_
        simp only [go_sem]
        refine UpC.here ?_
        replace h := Option.some.inj h
        subst h
        simp only [go_sem]
        exact Up.here (retF_i (2, 7, 0) (by simp only [go_sem]) (by simp only [go_sem]))
theorem laws_toTargetS_gc {a_0 : (List TTarget)} {r : (List TTarget)} (h : laws_toTargetS a_0 = some r) : GC prog 32 [.sl a_0.length (a_0.flatMap cTarget)] [] (.ref (0, 0, 0) r.length) [⟨some (70, 4), r.length, r.flatMap cTarget⟩] := by
  refine GC.introU (rs := [.tmp 2]) func32 rfl rfl mx (Static.mk' (by rfl) (by simp only [go_sem]) (by simp only [go_sem]) (by simp) (by simp only [go_sem]) (by simp only [go_sem])) (by rfl) (by rw [ntmps32]; simp) ?_
  rw [laws_toTargetS] at h
  rw [pwp_start]
  simp only [go_sem, st0H, holesL]
  obtain ⟨x1, hx1, h⟩ := bind_i h
  refine evE_make (c := cTarget) hx1 rfl cTarget_len (by decide) rfl ?_
  simp only [go_sem]
  refine pwp_plain rfl ?_
  simp only [go_sem]
  refine loopG_i (fun m s => ∃ (i_4 : Int) (out_7 : List TTarget), laws_toTargetS_L1 a_0 m i_4 out_7 = some r ∧ s = ⟨frL [(0, .sl a_0.length (a_0.flatMap cTarget)), (3, .ref (2, 7, 0) out_7.length), (4, .int .i64 i_4)], hL [((2, 7, 0), ⟨some (70, 4), out_7.length, out_7.flatMap cTarget⟩)], 4⟩) FU ?_ ?_
  · exact Up.to [(0, .sl a_0.length (a_0.flatMap cTarget)), (3, .ref (2, 7, 0) x1.length), (4, .int .i64 0)] [((2, 7, 0), ⟨some (70, 4), x1.length, x1.flatMap cTarget⟩)] 4 ⟨_, _, h, rfl⟩
  · rintro Q1 fu1 _ ⟨i_4, out_7, h, rfl⟩ hN1 hR1 hE1
    cases fu1 with
    | zero =>
      rw [laws_toTargetS_L1] at h; cases h
    | succ fu1 =>
      rw [laws_toTargetS_L1] at h
      simp only [go_sem]
      refine pwp_plain rfl ?_
      simp only [go_sem]
      cases hg2 : (decide (i_4 < (a_0.length : Int))) with
      | true =>
        replace h := if_t hg2 h
        simp only [go_sem]
        refine UpC.here ?_
        refine pwp_plain rfl ?_
        simp only [go_sem]
        obtain ⟨e3, he3, h⟩ := bind_i h
        refine evE_index he3 cTarget_len (by decide) (fun rest => ?_)
        simp only [go_sem]
        obtain ⟨y4, hy4, h⟩ := bind_i h
        refine CallS.seeg (laws_toTarget_gc hy4) (by simp only [go_sem]) (by simp only [go_sem]) ?_
        simp only [go_sem]
        obtain ⟨e5, he5, h⟩ := bind_i h
        refine evE_indexRef he5 (by simp only [go_sem]) ?_
        simp only [go_sem]
        obtain ⟨x6, hx6, h⟩ := bind_i h
        refine evE_storeRow (x := y4) hx6 cTarget_len (by simp only [go_sem] <;> rfl) _ (by omega) rfl rfl rfl ?_
        simp only [go_sem, put?_len hx6]
        refine UpC.here ?_
        simp only [go_sem, put?_len hx6]
        exact hN1 _ (Up.to [(0, .sl a_0.length (a_0.flatMap cTarget)), (3, .ref (2, 7, 0) x6.length), (4, .int .i64 (IntKind.i64.wrap (i_4 + 1)))] [((2, 7, 0), ⟨some (70, 4), x6.length, x6.flatMap cTarget⟩)] 4 ⟨fu1, Nat.lt_succ_self _, (IntKind.i64.wrap (i_4 + 1)), x6, h, rfl⟩)
      | false =>
        replace h := if_f hg2 h
        simp only [go_sem]
        refine hE1 _ _ ?_
        simp only [go_sem]
        refine UpC.here ?_
        replace h := Option.some.inj h
        subst h
        simp only [go_sem]
        exact Up.here (retG_i [(2, 7, 0)] [.ref (2, 7, 0) out_7.length] rfl (by decide) (by decide) (by simp only [go_sem]) (by simp only [go_sem]) (by simp only [go_sem]))

theorem laws_toPolicy_ok {a_0 : TPolicy} {r : TPolicy} (h : laws_toPolicy a_0 = some r) : PC prog 10 [.agg [.str a_0.fName, .sl a_0.fTargets.length (a_0.fTargets.flatMap cTarget)]] (.agg [.str r.fName, .sl r.fTargets.length (r.fTargets.flatMap cTarget)]) := by
  refine PC.intro (rs := [.cell 2 35]) func10 rfl rfl mx (by rfl) (by rfl) (by rw [ntmps10]; simp) ?_
  rw [laws_toPolicy] at h
  rw [pwp_start]
  simp only [go_sem, st0]
  obtain ⟨y1, hy1, h⟩ := bind_i h
  refine CallS.seeg (laws_toTargetS_gc hy1) (by simp only [go_sem]) (by simp only [go_sem]) ?_
  replace h := Option.some.inj h
  subst h
  simp only [go_sem]
theorem laws_toPolicy_gc {a_0 : TPolicy} {r : TPolicy} (h : laws_toPolicy a_0 = some r) : GC prog 10 [.agg [.str a_0.fName, .sl a_0.fTargets.length (a_0.fTargets.flatMap cTarget)]] [] (.agg [.str r.fName, .ref (0, 0, 0) r.fTargets.length]) [⟨some (70, 4), r.fTargets.length, r.fTargets.flatMap cTarget⟩] := by
  refine GC.introU (rs := [.cell 2 35]) func10 rfl rfl mx (Static.mk' (by rfl) (by simp only [go_sem]) (by simp only [go_sem]) (by simp) (by simp only [go_sem]) (by simp only [go_sem])) (by rfl) (by rw [ntmps10]; simp) ?_
  rw [laws_toPolicy] at h
  rw [pwp_start]
  simp only [go_sem, st0H, holesL]
  obtain ⟨y1, hy1, h⟩ := bind_i h
  refine CallS.seeg (laws_toTargetS_gc hy1) (by simp only [go_sem]) (by simp only [go_sem]) ?_
  replace h := Option.some.inj h
  subst h
  simp only [go_sem]
  exact Up.here (retG_i [(4, 9, 0)] [.agg [.str a_0.fName, .ref (4, 9, 0) y1.length]] rfl (by decide) (by decide) (by simp only [go_sem]) (by simp only [go_sem]) (by simp only [go_sem]))

theorem laws_toHost_ok {a_0 : THost} {r : THost} (h : laws_toHost a_0 = some r) : PC prog 59 [.agg [.str a_0.fName, .bool a_0.fUp, .int .i64 a_0.fRow]] (.agg [.str r.fName, .bool r.fUp, .int .i64 r.fRow]) := by
  refine PC.intro (rs := [.cell 2 89]) func59 rfl rfl mx (by rfl) (by rfl) (by rw [ntmps59]; simp) ?_
  rw [laws_toHost] at h
  rw [pwp_start]
  replace h := Option.some.inj h
  subst h
  simp only [go_sem, st0]
theorem laws_toHost_gc {a_0 : THost} {r : THost} (h : laws_toHost a_0 = some r) : GC prog 59 [.agg [.str a_0.fName, .bool a_0.fUp, .int .i64 a_0.fRow]] [] (.agg [.str r.fName, .bool r.fUp, .int .i64 r.fRow]) [] := by
  refine GC.introU (rs := [.cell 2 89]) func59 rfl rfl mx (Static.mk' (by rfl) (by simp only [go_sem]) (by simp only [go_sem]) (by simp) (by simp only [go_sem]) (by simp only [go_sem])) (by rfl) (by rw [ntmps59]; simp) ?_
  rw [laws_toHost] at h
  rw [pwp_start]
  replace h := Option.some.inj h
  subst h
  simp only [go_sem, st0H, holesL]
  exact Up.here (retG_i [] [.agg [.str a_0.fName, .bool a_0.fUp, .int .i64 a_0.fRow]] rfl (by decide) (by decide) (by simp only [go_sem]) (by simp only [go_sem]) (by simp only [go_sem]))

theorem laws_toHostS_ok {a_0 : (List THost)} {r : (List THost)} (h : laws_toHostS a_0 = some r) : PC prog 33 [.sl a_0.length (a_0.flatMap cHost)] (.sl r.length (r.flatMap cHost)) := by
  refine PC.intro (rs := [.tmp 2]) func33 rfl rfl mx (by rfl) (by rfl) (by rw [ntmps33]; simp) ?_
  rw [laws_toHostS] at h
  rw [pwp_start]
  simp only [go_sem, st0]
  obtain ⟨x1, hx1, h⟩ := bind_i h
  refine evE_make (c := cHost) hx1 rfl cHost_len (by decide) rfl ?_
  simp only [go_sem]
  refine pwp_plain rfl ?_
  simp only [go_sem]
  refine loopG_i (fun m s => ∃ (i_4 : Int) (out_7 : List THost), laws_toHostS_L1 a_0 m i_4 out_7 = some r ∧ s = ⟨frL [(0, .sl a_0.length (a_0.flatMap cHost)), (3, .ref (2, 7, 0) out_7.length), (4, .int .i64 i_4)], hL [((2, 7, 0), ⟨some (89, 3), out_7.length, out_7.flatMap cHost⟩)], 4⟩) FU ?_ ?_
  · exact Up.to [(0, .sl a_0.length (a_0.flatMap cHost)), (3, .ref (2, 7, 0) x1.length), (4, .int .i64 0)] [((2, 7, 0), ⟨some (89, 3), x1.length, x1.flatMap cHost⟩)] 4 ⟨_, _, h, rfl⟩
  · rintro Q1 fu1 _ ⟨i_4, out_7, h, rfl⟩ hN1 hR1 hE1
    cases fu1 with
    | zero =>
      rw [laws_toHostS_L1] at h; cases h
    | succ fu1 =>
      rw [laws_toHostS_L1] at h
      simp only [go_sem]
      refine pwp_plain rfl ?_
      simp only [go_sem]
      cases hg2 : (decide (i_4 < (a_0.length : Int))) with
      | true =>
        replace h := if_t hg2 h
        simp only [go_sem]
        refine UpC.here ?_
        refine pwp_plain rfl ?_
        simp only [go_sem]
        obtain ⟨e3, he3, h⟩ := bind_i h
        refine evE_index he3 cHost_len (by decide) (fun rest => ?_)
        simp only [go_sem]
        obtain ⟨y4, hy4, h⟩ := bind_i h
        refine CallS.seeg (laws_toHost_gc hy4) (by simp only [go_sem]) (by simp only [go_sem]) ?_
        simp only [go_sem]
        obtain ⟨e5, he5, h⟩ := bind_i h
        refine evE_indexRef he5 (by simp only [go_sem]) ?_
        simp only [go_sem]
        obtain ⟨x6, hx6, h⟩ := bind_i h
        refine evE_storeRow (x := y4) hx6 cHost_len (by simp only [go_sem] <;> rfl) _ (by omega) rfl rfl rfl ?_
        simp only [go_sem, put?_len hx6]
        refine UpC.here ?_
        simp only [go_sem, put?_len hx6]
        exact hN1 _ (Up.to [(0, .sl a_0.length (a_0.flatMap cHost)), (3, .ref (2, 7, 0) x6.length), (4, .int .i64 (IntKind.i64.wrap (i_4 + 1)))] [((2, 7, 0), ⟨some (89, 3), x6.length, x6.flatMap cHost⟩)] 4 ⟨fu1, Nat.lt_succ_self _, (IntKind.i64.wrap (i_4 + 1)), x6, h, rfl⟩)
      | false =>
        replace h := if_f hg2 h
        simp only [go_sem]
        refine hE1 _ _ ?_
        simp only [go_sem]
        refine UpC.here ?_
        replace h := Option.some.inj h
        subst h
        simp only [go_sem]
theorem laws_toHostS_okf {a_0 : (List THost)} {r : (List THost)} (h : laws_toHostS a_0 = some r) : PCF prog 33 [.sl a_0.length (a_0.flatMap cHost)] 89 3 r.length (r.flatMap cHost) := by
  refine PCF.introU (rs := [.tmp 2]) func33 rfl rfl mx (by rfl) (by rfl) (by rw [ntmps33]; simp) (by decide) (by simp only [go_sem]) (by simp only [go_sem]) ?_
  rw [laws_toHostS] at h
  rw [pwp_start]
  simp only [go_sem, st0]
  obtain ⟨x1, hx1, h⟩ := bind_i h
  refine evE_make (c := cHost) hx1 rfl cHost_len (by decide) rfl ?_
  simp only [go_sem]
  refine pwp_plain rfl ?_
  simp only [go_sem]
  refine loopG_i (fun m s => ∃ (i_4 : Int) (out_7 : List THost), laws_toHostS_L1 a_0 m i_4 out_7 = some r ∧ s = ⟨frL [(0, .sl a_0.length (a_0.flatMap cHost)), (3, .ref (2, 7, 0) out_7.length), (4, .int .i64 i_4)], hL [((2, 7, 0), ⟨some (89, 3), out_7.length, out_7.flatMap cHost⟩)], 4⟩) FU ?_ ?_
  · exact Up.to [(0, .sl a_0.length (a_0.flatMap cHost)), (3, .ref (2, 7, 0) x1.length), (4, .int .i64 0)] [((2, 7, 0), ⟨some (89, 3), x1.length, x1.flatMap cHost⟩)] 4 ⟨_, _, h, rfl⟩
  · rintro Q1 fu1 _ ⟨i_4, out_7, h, rfl⟩ hN1 hR1 hE1
    cases fu1 with
    | zero =>
      rw [laws_toHostS_L1] at h; cases h
    | succ fu1 =>
      rw [laws_toHostS_L1] at h
      simp only [go_sem]
      refine pwp_plain rfl ?_
      simp only [go_sem]
      cases hg2 : (decide (i_4 < (a_0.length : Int))) with
      | true =>
        replace h := if_t hg2 h
        simp only [go_sem]
        refine UpC.here ?_
        refine pwp_plain rfl ?_
        simp only [go_sem]
        obtain ⟨e3, he3, h⟩ := bind_i h
        refine evE_index he3 cHost_len (by decide) (fun rest => ?_)
        simp only [go_sem]
        obtain ⟨y4, hy4, h⟩ := bind_i h
        refine CallS.seeg (laws_toHost_gc hy4) (by simp only [go_sem]) (by simp only [go_sem]) ?_
        simp only [go_sem]
        obtain ⟨e5, he5, h⟩ := bind_i h
        refine evE_indexRef he5 (by simp only [go_sem]) ?_
        simp only [go_sem]
        obtain ⟨x6, hx6, h⟩ := bind_i h
        refine evE_storeRow (x := y4) hx6 cHost_len (by simp only [go_sem] <;> rfl) _ (by omega) rfl rfl rfl ?_
        simp only [go_sem, put?_len hx6]
        refine UpC.here ?_
        simp only [go_sem, put?_len hx6]
        exact hN1 _ (Up.to [(0, .sl a_0.length (a_0.flatMap cHost)), (3, .ref (2, 7, 0) x6.length), (4, .int .i64 (IntKind.i64.wrap (i_4 + 1)))] [((2, 7, 0), ⟨some (89, 3), x6.length, x6.flatMap cHost⟩)] 4 ⟨fu1, Nat.lt_succ_self _, (IntKind.i64.wrap (i_4 + 1)), x6, h, rfl⟩)
      | false =>
        replace h := if_f hg2 h
        simp only [go_sem]
        refine hE1 _ _ ?_
        simp only [go_sem]
        refine UpC.here ?_
        replace h := Option.some.inj h
        subst h
        simp only [go_sem]
        exact Up.here (retF_i (2, 7, 0) (by simp only [go_sem]) (by simp only [go_sem]))
theorem laws_toHostS_gc {a_0 : (List THost)} {r : (List THost)} (h : laws_toHostS a_0 = some r) : GC prog 33 [.sl a_0.length (a_0.flatMap cHost)] [] (.ref (0, 0, 0) r.length) [⟨some (89, 3), r.length, r.flatMap cHost⟩] := by
  refine GC.introU (rs := [.tmp 2]) func33 rfl rfl mx (Static.mk' (by rfl) (by simp only [go_sem]) (by simp only [go_sem]) (by simp) (by simp only [go_sem]) (by simp only [go_sem])) (by rfl) (by rw [ntmps33]; simp) ?_
  rw [laws_toHostS] at h
  rw [pwp_start]
  simp only [go_sem, st0H, holesL]
  obtain ⟨x1, hx1, h⟩ := bind_i h
  refine evE_make (c := cHost) hx1 rfl cHost_len (by decide) rfl ?_
  simp only [go_sem]
  refine pwp_plain rfl ?_
  simp only [go_sem]
  refine loopG_i (fun m s => ∃ (i_4 : Int) (out_7 : List THost), laws_toHostS_L1 a_0 m i_4 out_7 = some r ∧ s = ⟨frL [(0, .sl a_0.length (a_0.flatMap cHost)), (3, .ref (2, 7, 0) out_7.length), (4, .int .i64 i_4)], hL [((2, 7, 0), ⟨some (89, 3), out_7.length, out_7.flatMap cHost⟩)], 4⟩) FU ?_ ?_
  · exact Up.to [(0, .sl a_0.length (a_0.flatMap cHost)), (3, .ref (2, 7, 0) x1.length), (4, .int .i64 0)] [((2, 7, 0), ⟨some (89, 3), x1.length, x1.flatMap cHost⟩)] 4 ⟨_, _, h, rfl⟩
  · rintro Q1 fu1 _ ⟨i_4, out_7, h, rfl⟩ hN1 hR1 hE1
    cases fu1 with
    | zero =>
      rw [laws_toHostS_L1] at h; cases h
    | succ fu1 =>
      rw [laws_toHostS_L1] at h
      simp only [go_sem]
      refine pwp_plain rfl ?_
      simp only [go_sem]
      cases hg2 : (decide (i_4 < (a_0.length : Int))) with
      | true =>
        replace h := if_t hg2 h
        simp only [go_sem]
        refine UpC.here ?_
        refine pwp_plain rfl ?_
        simp only [go_sem]
        obtain ⟨e3, he3, h⟩ := bind_i h
        refine evE_index he3 cHost_len (by decide) (fun rest => ?_)
        simp only [go_sem]
        obtain ⟨y4, hy4, h⟩ := bind_i h
        refine CallS.seeg (laws_toHost_gc hy4) (by simp only [go_sem]) (by simp only [go_sem]) ?_
        simp only [go_sem]
        obtain ⟨e5, he5, h⟩ := bind_i h
        refine evE_indexRef he5 (by simp only [go_sem]) ?_
        simp only [go_sem]
        obtain ⟨x6, hx6, h⟩ := bind_i h
        refine evE_storeRow (x := y4) hx6 cHost_len (by simp only [go_sem] <;> rfl) _ (by omega) rfl rfl rfl ?_
        simp only [go_sem, put?_len hx6]
        refine UpC.here ?_
        simp only [go_sem, put?_len hx6]
        exact hN1 _ (Up.to [(0, .sl a_0.length (a_0.flatMap cHost)), (3, .ref (2, 7, 0) x6.length), (4, .int .i64 (IntKind.i64.wrap (i_4 + 1)))] [((2, 7, 0), ⟨some (89, 3), x6.length, x6.flatMap cHost⟩)] 4 ⟨fu1, Nat.lt_succ_self _, (IntKind.i64.wrap (i_4 + 1)), x6, h, rfl⟩)
      | false =>
        replace h := if_f hg2 h
        simp only [go_sem]
        refine hE1 _ _ ?_
        simp only [go_sem]
        refine UpC.here ?_
        replace h := Option.some.inj h
        subst h
        simp only [go_sem]
        exact Up.here (retG_i [(2, 7, 0)] [.ref (2, 7, 0) out_7.length] rfl (by decide) (by decide) (by simp only [go_sem]) (by simp only [go_sem]) (by simp only [go_sem]))

theorem laws_toHealth_ok {a_0 : THealth} {r : THealth} (h : laws_toHealth a_0 = some r) : PC prog 11 [.agg [.int .i64 a_0.fRise, .int .i64 a_0.fFall, .sl a_0.fHosts.length (a_0.fHosts.flatMap cHost)]] (.agg [.int .i64 r.fRise, .int .i64 r.fFall, .sl r.fHosts.length (r.fHosts.flatMap cHost)]) := by
  refine PC.intro (rs := [.cell 2 39]) func11 rfl rfl mx (by rfl) (by rfl) (by rw [ntmps11]; simp) ?_
  rw [laws_toHealth] at h
  rw [pwp_start]
  simp only [go_sem, st0]
  obtain ⟨y1, hy1, h⟩ := bind_i h
  refine CallS.seeg (laws_toHostS_gc hy1) (by simp only [go_sem]) (by simp only [go_sem]) ?_
  replace h := Option.some.inj h
  subst h
  simp only [go_sem]
theorem laws_toHealth_gc {a_0 : THealth} {r : THealth} (h : laws_toHealth a_0 = some r) : GC prog 11 [.agg [.int .i64 a_0.fRise, .int .i64 a_0.fFall, .sl a_0.fHosts.length (a_0.fHosts.flatMap cHost)]] [] (.agg [.int .i64 r.fRise, .int .i64 r.fFall, .ref (0, 0, 0) r.fHosts.length]) [⟨some (89, 3), r.fHosts.length, r.fHosts.flatMap cHost⟩] := by
  refine GC.introU (rs := [.cell 2 39]) func11 rfl rfl mx (Static.mk' (by rfl) (by simp only [go_sem]) (by simp only [go_sem]) (by simp) (by simp only [go_sem]) (by simp only [go_sem])) (by rfl) (by rw [ntmps11]; simp) ?_
  rw [laws_toHealth] at h
  rw [pwp_start]
  simp only [go_sem, st0H, holesL]
  obtain ⟨y1, hy1, h⟩ := bind_i h
  refine CallS.seeg (laws_toHostS_gc hy1) (by simp only [go_sem]) (by simp only [go_sem]) ?_
  replace h := Option.some.inj h
  subst h
  simp only [go_sem]
  exact Up.here (retG_i [(5, 12, 0)] [.agg [.int .i64 a_0.fRise, .int .i64 a_0.fFall, .ref (5, 12, 0) y1.length]] rfl (by decide) (by decide) (by simp only [go_sem]) (by simp only [go_sem]) (by simp only [go_sem]))

theorem spec_l1Split_ok {s_0 : Str} {b_1 : Int} {r : (List Str)} (h : spec_l1Split s_0 b_1 = some r) : PC prog 77 [.str s_0, .int .u8 b_1] (.sl r.length (r.flatMap cS)) := by
  refine PC.intro (rs := [.tmp 4]) func77 rfl rfl mx (by rfl) (by rfl) (by rw [ntmps77]; simp) ?_
  rw [spec_l1Split] at h
  rw [pwp_start]
  simp only [go_sem, st0]
  refine pwp_join rfl (fun s => ∃ (out_5 : List Str) (from_6 : Int), spec_l1Split_K1 s_0 out_5 from_6 = some r ∧ s = ⟨frL [(0, .str s_0), (5, .ref (5, 5, 0) out_5.length), (6, .int .i64 from_6)], hL [((5, 5, 0), ⟨some (9, 1), out_5.length, out_5.flatMap cS⟩)], 7⟩) (fun J hJ => ?_) ?_
  · simp only [go_sem]
    refine loopG_i (fun m s => ∃ (from_6 : Int) (i_7 : Int) (out_5 : List Str), spec_l1Split_L1 s_0 b_1 m from_6 i_7 out_5 = some r ∧ s = ⟨frL [(0, .str s_0), (1, .int .u8 b_1), (5, .ref (5, 5, 0) out_5.length), (6, .int .i64 from_6), (7, .int .i64 i_7)], hL [((5, 5, 0), ⟨some (9, 1), out_5.length, out_5.flatMap cS⟩)], 6⟩) FU ?_ ?_
    · refine Up.own 5 9 1 (by simp only [go_sem]) (by decide) ?_
      exact Up.to [(0, .str s_0), (1, .int .u8 b_1), (5, .ref (5, 5, 0) ([] : List Str).length), (6, .int .i64 0), (7, .int .i64 0)] [((5, 5, 0), ⟨some (9, 1), ([] : List Str).length, ([] : List Str).flatMap cS⟩)] 6 ⟨_, _, _, h, rfl⟩
    · rintro Q1 fu1 _ ⟨from_6, i_7, out_5, h, rfl⟩ hN1 hR1 hE1
      cases fu1 with
      | zero =>
        rw [spec_l1Split_L1] at h; cases h
      | succ fu1 =>
        rw [spec_l1Split_L1] at h
        simp only [go_sem]
        refine pwp_plain rfl ?_
        simp only [go_sem]
        cases hg3 : (decide (i_7 < (s_0.length : Int))) with
        | true =>
          replace h := if_t hg3 h
          simp only [go_sem]
          refine UpC.here ?_
          refine pwp_plain rfl ?_
          simp only [go_sem]
          obtain ⟨b4, hb4, h⟩ := bind_i h
          refine evP_ix hb4 ?_
          simp only [go_sem]
          cases hg5 : ((b4.toNat : Int) == b_1) with
          | true =>
            replace h := if_t hg5 h
            simp only [go_sem]
            obtain ⟨x6, hx6, h⟩ := bind_i h
            refine evP_cut hx6 ?_
            simp only [go_sem]
            obtain ⟨x7, hx7, h⟩ := bind_i h
            refine evE_app hx7 cS_len (by decide) (by simp only [go_sem]) rfl rfl (by simp only [go_sem]; rfl) rfl rfl ?_
            simp only [go_sem]
            refine UpC.here ?_
            simp only [go_sem]
            exact hN1 _ (Up.to [(0, .str s_0), (1, .int .u8 b_1), (5, .ref (5, 5, 0) x7.length), (6, .int .i64 (IntKind.i64.wrap (i_7 + 1))), (7, .int .i64 (IntKind.i64.wrap (i_7 + 1)))] [((5, 5, 0), ⟨some (9, 1), x7.length, x7.flatMap cS⟩)] 6 ⟨fu1, Nat.lt_succ_self _, (IntKind.i64.wrap (i_7 + 1)), (IntKind.i64.wrap (i_7 + 1)), x7, h, rfl⟩)
          | false =>
            replace h := if_f hg5 h
            simp only [go_sem]
            refine UpC.here ?_
            simp only [go_sem]
            exact hN1 _ (Up.to [(0, .str s_0), (1, .int .u8 b_1), (5, .ref (5, 5, 0) out_5.length), (6, .int .i64 from_6), (7, .int .i64 (IntKind.i64.wrap (i_7 + 1)))] [((5, 5, 0), ⟨some (9, 1), out_5.length, out_5.flatMap cS⟩)] 6 ⟨fu1, Nat.lt_succ_self _, from_6, (IntKind.i64.wrap (i_7 + 1)), out_5, h, rfl⟩)
        | false =>
          replace h := if_f hg3 h
          simp only [go_sem]
          refine hE1 _ _ ?_
          simp only [go_sem]
          refine join_n ?_
          exact Up.to [(0, .str s_0), (5, .ref (5, 5, 0) out_5.length), (6, .int .i64 from_6)] [((5, 5, 0), ⟨some (9, 1), out_5.length, out_5.flatMap cS⟩)] 7 (hJ _ ⟨out_5, from_6, h, rfl⟩)
  · rintro _ ⟨out_5, from_6, h, rfl⟩
    rw [spec_l1Split_K1] at h
    simp only [go_sem]
    obtain ⟨x1, hx1, h⟩ := bind_i h
    refine evP_cutL hx1 ?_
    simp only [go_sem]
    obtain ⟨x2, hx2, h⟩ := bind_i h
    refine evE_app hx2 cS_len (by decide) (by simp only [go_sem]) rfl rfl (by simp only [go_sem]; rfl) rfl rfl ?_
    replace h := Option.some.inj h
    subst h
    simp only [go_sem]

theorem spec_l1In_ok {n_0 : Int} {lo_1 : Int} {hi_2 : Int} {r : Bool} (h : spec_l1In n_0 lo_1 hi_2 = some r) : PC prog 53 [.int .i64 n_0, .int .i64 lo_1, .int .i64 hi_2] (.bool r) := by
  refine PC.intro (rs := [.tmp 6]) func53 rfl rfl mx (by rfl) (by rfl) (by rw [ntmps53]; simp) ?_
  rw [spec_l1In] at h
  rw [pwp_start]
  simp only [go_sem, st0]
  cases hg1 : (decide (lo_1 ≤ n_0)) with
  | true =>
    replace h := if_t hg1 h
    replace h := Option.some.inj h
    subst h
    simp only [go_sem]
  | false =>
    replace h := if_f hg1 h
    replace h := Option.some.inj h
    subst h
    simp only [go_sem]

theorem spec_l1Int_ok {s_0 : Str} {r : Int} (h : spec_l1Int s_0 = some r) : PC prog 78 [.str s_0] (.int .i64 r) := by
  refine PC.intro (rs := [.tmp 2]) func78 rfl rfl mx (by rfl) (by rfl) (by rw [ntmps78]; simp) ?_
  rw [spec_l1Int] at h
  rw [pwp_start]
  simp only [go_sem, st0]
  refine pwp_join rfl (fun s => spec_l1Int_K1 s_0 = some r ∧ s = ⟨frL [(0, .str s_0)], hL [], 3⟩) (fun J hJ => ?_) ?_
  · simp only [go_sem]
    obtain ⟨y7, hy7, h⟩ := bind_i h
    refine CallS.pcs (spec_l1In_ok hy7) rfl ?_
    simp only [go_sem]
    cases hg8 : (!y7) with
    | true =>
      replace h := if_t hg8 h
      replace h := Option.some.inj h
      subst h
      simp only [go_sem]
    | false =>
      replace h := if_f hg8 h
      simp only [go_sem]
      obtain ⟨b9, hb9, h⟩ := bind_i h
      refine evP_ix hb9 ?_
      simp only [go_sem]
      cases hg10 : ((b9.toNat : Int) == 48) with
      | true =>
        replace h := if_t hg10 h
        simp only [go_sem]
        cases hg11 : (decide (1 < (s_0.length : Int))) with
        | true =>
          replace h := if_t hg11 h
          replace h := Option.some.inj h
          subst h
          simp only [go_sem]
        | false =>
          replace h := if_f hg11 h
          simp only [go_sem]
          refine join_n ?_
          exact Up.to [(0, .str s_0)] [] 3 (hJ _ ⟨h, rfl⟩)
      | false =>
        replace h := if_f hg10 h
        simp only [go_sem]
        refine join_n ?_
        exact Up.to [(0, .str s_0)] [] 3 (hJ _ ⟨h, rfl⟩)
  · rintro _ ⟨h, rfl⟩
    rw [spec_l1Int_K1] at h
    simp only [go_sem]
    refine pwp_plain rfl ?_
    simp only [go_sem]
    refine loopG_i (fun m s => ∃ (n_3 : Int) (i_4 : Int), spec_l1Int_L1 s_0 m n_3 i_4 = some r ∧ s = ⟨frL [(0, .str s_0), (3, .int .i64 n_3), (4, .int .i64 i_4)], hL [], 5⟩) FU ?_ ?_
    · exact Up.to [(0, .str s_0), (3, .int .i64 0), (4, .int .i64 0)] [] 5 ⟨_, _, h, rfl⟩
    · rintro Q1 fu1 _ ⟨n_3, i_4, h, rfl⟩ hN1 hR1 hE1
      cases fu1 with
      | zero =>
        rw [spec_l1Int_L1] at h; cases h
      | succ fu1 =>
        rw [spec_l1Int_L1] at h
        simp only [go_sem]
        refine pwp_plain rfl ?_
        simp only [go_sem]
        cases hg1 : (decide (i_4 < (s_0.length : Int))) with
        | true =>
          replace h := if_t hg1 h
          simp only [go_sem]
          refine UpC.here ?_
          refine pwp_plain rfl ?_
          simp only [go_sem]
          refine pwp_plain rfl ?_
          simp only [go_sem]
          obtain ⟨b2, hb2, h⟩ := bind_i h
          refine evP_ix hb2 ?_
          simp only [go_sem]
          cases hg3 : (decide ((b2.toNat : Int) < 48)) with
          | true =>
            replace h := if_t hg3 h
            simp only [go_sem]
            refine hR1 _ ?_
            replace h := Option.some.inj h
            subst h
            simp only [go_sem]
          | false =>
            replace h := if_f hg3 h
            simp only [go_sem]
            obtain ⟨b4, hb4, h⟩ := bind_i h
            refine evP_ix hb4 ?_
            simp only [go_sem]
            cases hg5 : (decide (57 < (b4.toNat : Int))) with
            | true =>
              replace h := if_t hg5 h
              simp only [go_sem]
              refine hR1 _ ?_
              replace h := Option.some.inj h
              subst h
              simp only [go_sem]
            | false =>
              replace h := if_f hg5 h
              simp only [go_sem]
              refine UpC.here ?_
              simp only [go_sem]
              obtain ⟨b6, hb6, h⟩ := bind_i h
              refine evP_ix hb6 ?_
              simp only [go_sem]
              refine UpC.here ?_
              simp only [go_sem]
              exact hN1 _ (Up.to [(0, .str s_0), (3, .int .i64 (IntKind.i64.wrap ((IntKind.i64.wrap (10 * n_3)) + (IntKind.i64.wrap (IntKind.u8.wrap ((b6.toNat : Int) - 48)))))), (4, .int .i64 (IntKind.i64.wrap (i_4 + 1)))] [] 5 ⟨fu1, Nat.lt_succ_self _, (IntKind.i64.wrap ((IntKind.i64.wrap (10 * n_3)) + (IntKind.i64.wrap (IntKind.u8.wrap ((b6.toNat : Int) - 48))))), (IntKind.i64.wrap (i_4 + 1)), h, rfl⟩)
        | false =>
          replace h := if_f hg1 h
          simp only [go_sem]
          refine hE1 _ _ ?_
          simp only [go_sem]
          refine UpC.here ?_
          replace h := Option.some.inj h
          subst h
          simp only [go_sem]

theorem spec_l3Number_ok {n_0 : Int} {bytes_1 : Int} {r : Str} (h : spec_l3Number n_0 bytes_1 = some r) : PC prog 79 [.int .i64 n_0, .int .i64 bytes_1] (.str r) := by
  refine PC.intro (rs := [.tmp 4]) func79 rfl rfl mx (by rfl) (by rfl) (by rw [ntmps79]; simp) ?_
  rw [spec_l3Number] at h
  rw [pwp_start]
  simp only [go_sem, st0]
  obtain ⟨x1, hx1, h⟩ := bind_i h
  refine evE_make (c := cU) hx1 rfl cU_len (by decide) rfl ?_
  simp only [go_sem]
  refine pwp_join rfl (fun s => ∃ (b_5 : List Int), spec_l3Number_K1 b_5 = some r ∧ s = ⟨frL [(5, .sl b_5.length (b_5.flatMap cU))], hL [], 5⟩) (fun J hJ => ?_) ?_
  · simp only [go_sem]
    refine loopG_i (fun m s => ∃ (n_0' : Int) (i_6 : Int) (b_8 : List Int), spec_l3Number_L1 n_0 m n_0' i_6 b_8 = some r ∧ s = ⟨frL [(0, .int .i64 n_0'), (5, .ref (2, 8, 0) b_8.length), (6, .int .i64 i_6)], hL [((2, 8, 0), ⟨some (5, 1), b_8.length, b_8.flatMap cU⟩)], 4⟩) FU ?_ ?_
    · exact Up.to [(0, .int .i64 n_0), (5, .ref (2, 8, 0) x1.length), (6, .int .i64 (IntKind.i64.wrap (bytes_1 - 1)))] [((2, 8, 0), ⟨some (5, 1), x1.length, x1.flatMap cU⟩)] 4 ⟨_, _, _, h, rfl⟩
    · rintro Q1 fu1 _ ⟨n_0', i_6, b_8, h, rfl⟩ hN1 hR1 hE1
      cases fu1 with
      | zero =>
        rw [spec_l3Number_L1] at h; cases h
      | succ fu1 =>
        rw [spec_l3Number_L1] at h
        simp only [go_sem]
        refine pwp_plain rfl ?_
        simp only [go_sem]
        cases hg3 : (decide (0 ≤ i_6)) with
        | true =>
          replace h := if_t hg3 h
          simp only [go_sem]
          refine UpC.here ?_
          refine pwp_plain rfl ?_
          simp only [go_sem]
          obtain ⟨e4, he4, h⟩ := bind_i h
          refine evE_indexRef he4 (by simp only [go_sem]) ?_
          simp only [go_sem]
          obtain ⟨x5, hx5, h⟩ := bind_i h
          refine evE_storeRow (x := (IntKind.u8.wrap n_0')) hx5 cU_len (by simp only [go_sem] <;> rfl) _ (by omega) rfl rfl rfl ?_
          simp only [go_sem, put?_len hx5]
          refine UpC.here ?_
          simp only [go_sem, put?_len hx5]
          exact hN1 _ (Up.to [(0, .int .i64 (n_0'.fdiv 256)), (5, .ref (2, 8, 0) x5.length), (6, .int .i64 (IntKind.i64.wrap (i_6 - 1)))] [((2, 8, 0), ⟨some (5, 1), x5.length, x5.flatMap cU⟩)] 4 ⟨fu1, Nat.lt_succ_self _, (n_0'.fdiv 256), (IntKind.i64.wrap (i_6 - 1)), x5, h, rfl⟩)
        | false =>
          replace h := if_f hg3 h
          simp only [go_sem]
          refine hE1 _ _ ?_
          simp only [go_sem]
          refine join_n ?_
          exact Up.cutS [((2, 8, 0), ⟨some (5, 1), b_8.length, b_8.flatMap cU⟩)] [(5, .sl b_8.length (b_8.flatMap cU))] [] 5 (hJ _ ⟨b_8, h, rfl⟩)
  · rintro _ ⟨b_5, h, rfl⟩
    rw [spec_l3Number_K1] at h
    simp only [go_sem]
    obtain ⟨x2, hx2, h⟩ := bind_i h
    rw [show bytesOf (b_5.flatMap cU) = some x2 from bytes_text (c := cU) (fun _ => rfl) hx2]
    replace h := Option.some.inj h
    subst h
    simp only [go_sem]

theorem spec_l1Label_ok {s_0 : Str} {r : Bool} (h : spec_l1Label s_0 = some r) : PC prog 103 [.str s_0] (.bool r) := by
  refine PC.intro (rs := [.tmp 2]) func103 rfl rfl mx (by rfl) (by rfl) (by rw [ntmps103]; simp) ?_
  rw [spec_l1Label] at h
  rw [pwp_start]
  simp only [go_sem, st0]
  refine pwp_plain rfl ?_
  simp only [go_sem]
  cases hg1 : (s_0 == [42]) with
  | true =>
    replace h := if_t hg1 h
    replace h := Option.some.inj h
    subst h
    simp only [go_sem]
  | false =>
    replace h := if_f hg1 h
    simp only [go_sem]
    refine UpC.here ?_
    refine pwp_join rfl (fun s => spec_l1Label_K1 s_0 = some r ∧ s = ⟨frL [(0, .str s_0)], hL [], 5⟩) (fun J hJ => ?_) ?_
    · simp only [go_sem]
      refine loopG_i (fun m s => ∃ (i_3 : Int), spec_l1Label_L1 s_0 m i_3 = some r ∧ s = ⟨frL [(0, .str s_0), (3, .int .i64 i_3)], hL [], 4⟩) FU ?_ ?_
      · exact Up.to [(0, .str s_0), (3, .int .i64 0)] [] 4 ⟨_, h, rfl⟩
      · rintro Q1 fu1 _ ⟨i_3, h, rfl⟩ hN1 hR1 hE1
        cases fu1 with
        | zero =>
          rw [spec_l1Label_L1] at h; cases h
        | succ fu1 =>
          rw [spec_l1Label_L1] at h
          simp only [go_sem]
          refine pwp_plain rfl ?_
          simp only [go_sem]
          cases hg3 : (decide (i_3 < (s_0.length : Int))) with
          | true =>
            replace h := if_t hg3 h
            simp only [go_sem]
            refine UpC.here ?_
            refine pwp_plain rfl ?_
            simp only [go_sem]
            obtain ⟨b4, hb4, h⟩ := bind_i h
            refine evP_ix hb4 ?_
            simp only [go_sem]
            cases hg5 : (decide (97 ≤ (b4.toNat : Int))) with
            | true =>
              replace h := if_t hg5 h
              simp only [go_sem]
              cases hg6 : (decide ((b4.toNat : Int) ≤ 122)) with
              | true =>
                replace h := if_t hg6 h
                simp only [go_sem]
                refine UpC.here ?_
                simp only [go_sem]
                exact hN1 _ (Up.to [(0, .str s_0), (3, .int .i64 (IntKind.i64.wrap (i_3 + 1)))] [] 4 ⟨fu1, Nat.lt_succ_self _, (IntKind.i64.wrap (i_3 + 1)), h, rfl⟩)
              | false =>
                replace h := if_f hg6 h
                simp only [go_sem]
                cases hg7 : (decide (48 ≤ (b4.toNat : Int))) with
                | true =>
                  replace h := if_t hg7 h
                  simp only [go_sem]
                  cases hg8 : (decide ((b4.toNat : Int) ≤ 57)) with
                  | true =>
                    replace h := if_t hg8 h
                    simp only [go_sem]
                    refine UpC.here ?_
                    simp only [go_sem]
                    exact hN1 _ (Up.to [(0, .str s_0), (3, .int .i64 (IntKind.i64.wrap (i_3 + 1)))] [] 4 ⟨fu1, Nat.lt_succ_self _, (IntKind.i64.wrap (i_3 + 1)), h, rfl⟩)
                  | false =>
                    replace h := if_f hg8 h
                    simp only [go_sem]
                    cases hg9 : ((b4.toNat : Int) == 45) with
                    | true =>
                      replace h := if_t hg9 h
                      simp only [go_sem]
                      refine UpC.here ?_
                      simp only [go_sem]
                      exact hN1 _ (Up.to [(0, .str s_0), (3, .int .i64 (IntKind.i64.wrap (i_3 + 1)))] [] 4 ⟨fu1, Nat.lt_succ_self _, (IntKind.i64.wrap (i_3 + 1)), h, rfl⟩)
                    | false =>
                      replace h := if_f hg9 h
                      simp only [go_sem]
                      cases hg10 : (!((b4.toNat : Int) == 95)) with
                      | true =>
                        replace h := if_t hg10 h
                        simp only [go_sem]
                        refine hR1 _ ?_
                        replace h := Option.some.inj h
                        subst h
                        simp only [go_sem]
                      | false =>
                        replace h := if_f hg10 h
                        simp only [go_sem]
                        refine UpC.here ?_
                        simp only [go_sem]
                        exact hN1 _ (Up.to [(0, .str s_0), (3, .int .i64 (IntKind.i64.wrap (i_3 + 1)))] [] 4 ⟨fu1, Nat.lt_succ_self _, (IntKind.i64.wrap (i_3 + 1)), h, rfl⟩)
                | false =>
                  replace h := if_f hg7 h
                  simp only [go_sem]
                  cases hg11 : ((b4.toNat : Int) == 45) with
                  | true =>
                    replace h := if_t hg11 h
                    simp only [go_sem]
                    refine UpC.here ?_
                    simp only [go_sem]
                    exact hN1 _ (Up.to [(0, .str s_0), (3, .int .i64 (IntKind.i64.wrap (i_3 + 1)))] [] 4 ⟨fu1, Nat.lt_succ_self _, (IntKind.i64.wrap (i_3 + 1)), h, rfl⟩)
                  | false =>
                    replace h := if_f hg11 h
                    simp only [go_sem]
                    cases hg12 : (!((b4.toNat : Int) == 95)) with
                    | true =>
                      replace h := if_t hg12 h
                      simp only [go_sem]
                      refine hR1 _ ?_
                      replace h := Option.some.inj h
                      subst h
                      simp only [go_sem]
                    | false =>
                      replace h := if_f hg12 h
                      simp only [go_sem]
                      refine UpC.here ?_
                      simp only [go_sem]
                      exact hN1 _ (Up.to [(0, .str s_0), (3, .int .i64 (IntKind.i64.wrap (i_3 + 1)))] [] 4 ⟨fu1, Nat.lt_succ_self _, (IntKind.i64.wrap (i_3 + 1)), h, rfl⟩)
            | false =>
              replace h := if_f hg5 h
              simp only [go_sem]
              cases hg13 : (decide (48 ≤ (b4.toNat : Int))) with
              | true =>
                replace h := if_t hg13 h
                simp only [go_sem]
                cases hg14 : (decide ((b4.toNat : Int) ≤ 57)) with
                | true =>
                  replace h := if_t hg14 h
                  simp only [go_sem]
                  refine UpC.here ?_
                  simp only [go_sem]
                  exact hN1 _ (Up.to [(0, .str s_0), (3, .int .i64 (IntKind.i64.wrap (i_3 + 1)))] [] 4 ⟨fu1, Nat.lt_succ_self _, (IntKind.i64.wrap (i_3 + 1)), h, rfl⟩)
                | false =>
                  replace h := if_f hg14 h
                  simp only [go_sem]
                  cases hg15 : ((b4.toNat : Int) == 45) with
                  | true =>
                    replace h := if_t hg15 h
                    simp only [go_sem]
                    refine UpC.here ?_
                    simp only [go_sem]
                    exact hN1 _ (Up.to [(0, .str s_0), (3, .int .i64 (IntKind.i64.wrap (i_3 + 1)))] [] 4 ⟨fu1, Nat.lt_succ_self _, (IntKind.i64.wrap (i_3 + 1)), h, rfl⟩)
                  | false =>
                    replace h := if_f hg15 h
                    simp only [go_sem]
                    cases hg16 : (!((b4.toNat : Int) == 95)) with
                    | true =>
                      replace h := if_t hg16 h
                      simp only [go_sem]
                      refine hR1 _ ?_
                      replace h := Option.some.inj h
                      subst h
                      simp only [go_sem]
                    | false =>
                      replace h := if_f hg16 h
                      simp only [go_sem]
                      refine UpC.here ?_
                      simp only [go_sem]
                      exact hN1 _ (Up.to [(0, .str s_0), (3, .int .i64 (IntKind.i64.wrap (i_3 + 1)))] [] 4 ⟨fu1, Nat.lt_succ_self _, (IntKind.i64.wrap (i_3 + 1)), h, rfl⟩)
              | false =>
                replace h := if_f hg13 h
                simp only [go_sem]
                cases hg17 : ((b4.toNat : Int) == 45) with
                | true =>
                  replace h := if_t hg17 h
                  simp only [go_sem]
                  refine UpC.here ?_
                  simp only [go_sem]
                  exact hN1 _ (Up.to [(0, .str s_0), (3, .int .i64 (IntKind.i64.wrap (i_3 + 1)))] [] 4 ⟨fu1, Nat.lt_succ_self _, (IntKind.i64.wrap (i_3 + 1)), h, rfl⟩)
                | false =>
                  replace h := if_f hg17 h
                  simp only [go_sem]
                  cases hg18 : (!((b4.toNat : Int) == 95)) with
                  | true =>
                    replace h := if_t hg18 h
                    simp only [go_sem]
                    refine hR1 _ ?_
                    replace h := Option.some.inj h
                    subst h
                    simp only [go_sem]
                  | false =>
                    replace h := if_f hg18 h
                    simp only [go_sem]
                    refine UpC.here ?_
                    simp only [go_sem]
                    exact hN1 _ (Up.to [(0, .str s_0), (3, .int .i64 (IntKind.i64.wrap (i_3 + 1)))] [] 4 ⟨fu1, Nat.lt_succ_self _, (IntKind.i64.wrap (i_3 + 1)), h, rfl⟩)
          | false =>
            replace h := if_f hg3 h
            simp only [go_sem]
            refine hE1 _ _ ?_
            simp only [go_sem]
            refine join_n ?_
            exact Up.to [(0, .str s_0)] [] 5 (hJ _ ⟨h, rfl⟩)
    · rintro _ ⟨h, rfl⟩
      rw [spec_l1Label_K1] at h
      simp only [go_sem]
      obtain ⟨y2, hy2, h⟩ := bind_i h
      refine CallS.pcs (spec_l1In_ok hy2) rfl ?_
      replace h := Option.some.inj h
      subst h
      simp only [go_sem]

theorem spec_l1Labels_ok {s_0 : Str} {r : ((List Str) × Bool)} (h : spec_l1Labels s_0 = some r) : PC prog 82 [.str s_0] (.tup [.sl r.1.length (r.1.flatMap cS), .bool r.2]) := by
  refine PC.intro (rs := [.tmp 2, .tmp 3]) func82 rfl rfl mx (by rfl) (by rfl) (by rw [ntmps82]; simp) ?_
  rw [spec_l1Labels] at h
  rw [pwp_start]
  simp only [go_sem, st0]
  refine pwp_plain rfl ?_
  simp only [go_sem]
  cases hg1 : (s_0 == ([] : Str)) with
  | true =>
    replace h := if_t hg1 h
    replace h := Option.some.inj h
    subst h
    simp only [go_sem]
  | false =>
    replace h := if_f hg1 h
    simp only [go_sem]
    refine UpC.here ?_
    simp only [go_sem]
    obtain ⟨y2, hy2, h⟩ := bind_i h
    refine CallS.pcs (spec_l1Split_ok hy2) rfl ?_
    simp only [go_sem]
    refine pwp_join rfl (fun s => spec_l1Labels_K1 s_0 y2 = some r ∧ s = ⟨frL [(0, .str s_0), (4, .sl y2.length (y2.flatMap cS))], hL [], 6⟩) (fun J hJ => ?_) ?_
    · simp only [go_sem]
      refine loopG_i (fun m s => ∃ (post13 : List Str) (i13 : Nat), m = post13.length ∧ Rg y2 i13 post13 ∧ y2.length ≤ 9223372036854775807 ∧ spec_l1Labels_L1 s_0 y2 post13 i13 = some r ∧ s = ⟨frL [(0, .str s_0), (4, .sl y2.length (y2.flatMap cS)), (11, .sl y2.length (y2.flatMap cS)), (12, .int .i64 (y2.length : Int)), (13, .int .i64 (i13 : Int))], hL [], 5⟩) y2.length (Up.bound 11 y2.length (y2.flatMap cS) (by simp only [go_sem]) (fun hb => ?_)) ?_
      · exact Up.to [(0, .str s_0), (4, .sl y2.length (y2.flatMap cS)), (11, .sl y2.length (y2.flatMap cS)), (12, .int .i64 (y2.length : Int)), (13, .int .i64 ((0 : Nat) : Int))] [] 5 ⟨_, 0, rfl, rg_0 _, hb, h, rfl⟩
      · rintro Q1 _ _ ⟨post13, i13, rfl, hl13, hb13, h, rfl⟩ hN1 hR1 hE1
        cases post13 with
        | nil =>
          rw [spec_l1Labels_L1] at h
          simp only [go_sem, rg_nil hl13]
          refine pwp_plain rfl ?_
          simp only [go_sem, rg_nil hl13]
          refine hE1 _ _ ?_
          simp only [go_sem, rg_nil hl13]
          refine join_n ?_
          exact Up.to [(0, .str s_0), (4, .sl y2.length (y2.flatMap cS))] [] 6 (hJ _ ⟨h, rfl⟩)
        | cons e13 post13 =>
          rw [spec_l1Labels_L1] at h
          simp only [go_sem, rg_cons hl13, rg_step hl13 hb13]
          refine pwp_plain rfl ?_
          simp only [go_sem, rg_cons hl13, rg_step hl13 hb13]
          refine UpC.here ?_
          refine pwp_plain rfl ?_
          simp only [go_sem, rg_cons hl13, rg_step hl13 hb13]
          refine evE_round hl13 cS_len (by decide) (fun rest => ?_)
          simp only [go_sem, rg_cons hl13, rg_step hl13 hb13]
          obtain ⟨y4, hy4, h⟩ := bind_i h
          refine CallS.pcs (spec_l1Label_ok hy4) rfl ?_
          simp only [go_sem, rg_cons hl13, rg_step hl13 hb13]
          cases hg5 : (!y4) with
          | true =>
            replace h := if_t hg5 h
            simp only [go_sem, rg_cons hl13, rg_step hl13 hb13]
            refine hR1 _ ?_
            replace h := Option.some.inj h
            subst h
            simp only [go_sem, rg_cons hl13, rg_step hl13 hb13]
          | false =>
            replace h := if_f hg5 h
            simp only [go_sem, rg_cons hl13, rg_step hl13 hb13]
            refine UpC.here ?_
            simp only [go_sem, rg_cons hl13, rg_step hl13 hb13]
            exact hN1 _ (Up.to [(0, .str s_0), (4, .sl y2.length (y2.flatMap cS)), (11, .sl y2.length (y2.flatMap cS)), (12, .int .i64 (y2.length : Int)), (13, .int .i64 ((i13 + 1 : Nat) : Int))] [] 5 ⟨post13.length, Nat.lt_succ_self _, post13, i13 + 1, rfl, rg_next hl13, hb13, h, rfl⟩)
    · rintro _ ⟨h, rfl⟩
      rw [spec_l1Labels_K1] at h
      simp only [go_sem]
      cases hg3 : (decide ((s_0.length : Int) ≤ 60)) with
      | true =>
        replace h := if_t hg3 h
        replace h := Option.some.inj h
        subst h
        simp only [go_sem]
      | false =>
        replace h := if_f hg3 h
        replace h := Option.some.inj h
        subst h
        simp only [go_sem]

theorem spec_l3Target_ok {s_0 : Str} {r : Bool} (h : spec_l3Target s_0 = some r) : PC prog 80 [.str s_0] (.bool r) := by
  refine PC.intro (rs := [.tmp 2]) func80 rfl rfl mx (by rfl) (by rfl) (by rw [ntmps80]; simp) ?_
  rw [spec_l3Target] at h
  rw [pwp_start]
  simp only [go_sem, st0]
  obtain ⟨y1, hy1, h⟩ := bind_i h
  refine CallS.pcs (spec_l1Labels_ok hy1) rfl ?_
  simp only [go_sem]
  refine pwp_join rfl (fun s => ∃ (ok_4 : Bool), spec_l3Target_K1 s_0 ok_4 = some r ∧ s = ⟨frL [(0, .str s_0), (4, .bool ok_4)], hL [], 5⟩) (fun J hJ => ?_) ?_
  · simp only [go_sem]
    refine loopG_i (fun m s => ∃ (post14 : List Str) (i14 : Nat) (ok_4 : Bool), m = post14.length ∧ Rg y1.1 i14 post14 ∧ y1.1.length ≤ 9223372036854775807 ∧ spec_l3Target_L1 s_0 post14 i14 ok_4 = some r ∧ s = ⟨frL [(0, .str s_0), (4, .bool ok_4), (12, .sl y1.1.length (y1.1.flatMap cS)), (13, .int .i64 (y1.1.length : Int)), (14, .int .i64 (i14 : Int))], hL [], 4⟩) y1.1.length (Up.bound 12 y1.1.length (y1.1.flatMap cS) (by simp only [go_sem]) (fun hb => ?_)) ?_
    · exact Up.to [(0, .str s_0), (4, .bool y1.2), (12, .sl y1.1.length (y1.1.flatMap cS)), (13, .int .i64 (y1.1.length : Int)), (14, .int .i64 ((0 : Nat) : Int))] [] 4 ⟨_, 0, _, rfl, rg_0 _, hb, h, rfl⟩
    · rintro Q1 _ _ ⟨post14, i14, ok_4, rfl, hl14, hb14, h, rfl⟩ hN1 hR1 hE1
      cases post14 with
      | nil =>
        rw [spec_l3Target_L1] at h
        simp only [go_sem, rg_nil hl14]
        refine pwp_plain rfl ?_
        simp only [go_sem, rg_nil hl14]
        refine hE1 _ _ ?_
        simp only [go_sem, rg_nil hl14]
        refine join_n ?_
        exact Up.to [(0, .str s_0), (4, .bool ok_4)] [] 5 (hJ _ ⟨ok_4, h, rfl⟩)
      | cons e14 post14 =>
        rw [spec_l3Target_L1] at h
        simp only [go_sem, rg_cons hl14, rg_step hl14 hb14]
        refine pwp_plain rfl ?_
        simp only [go_sem, rg_cons hl14, rg_step hl14 hb14]
        refine UpC.here ?_
        refine pwp_plain rfl ?_
        simp only [go_sem, rg_cons hl14, rg_step hl14 hb14]
        refine evE_round hl14 cS_len (by decide) (fun rest => ?_)
        simp only [go_sem, rg_cons hl14, rg_step hl14 hb14]
        cases hg3 : ok_4 with
        | true =>
          replace h := if_t hg3 h
          simp only [go_sem, rg_cons hl14, rg_step hl14 hb14]
          refine UpC.here ?_
          simp only [go_sem, rg_cons hl14, rg_step hl14 hb14]
          exact hN1 _ (Up.to [(0, .str s_0), (4, .bool (!(e14 == [42]))), (12, .sl y1.1.length (y1.1.flatMap cS)), (13, .int .i64 (y1.1.length : Int)), (14, .int .i64 ((i14 + 1 : Nat) : Int))] [] 4 ⟨post14.length, Nat.lt_succ_self _, post14, i14 + 1, (!(e14 == [42])), rfl, rg_next hl14, hb14, h, rfl⟩)
        | false =>
          replace h := if_f hg3 h
          simp only [go_sem, rg_cons hl14, rg_step hl14 hb14]
          refine UpC.here ?_
          simp only [go_sem, rg_cons hl14, rg_step hl14 hb14]
          exact hN1 _ (Up.to [(0, .str s_0), (4, .bool false), (12, .sl y1.1.length (y1.1.flatMap cS)), (13, .int .i64 (y1.1.length : Int)), (14, .int .i64 ((i14 + 1 : Nat) : Int))] [] 4 ⟨post14.length, Nat.lt_succ_self _, post14, i14 + 1, false, rfl, rg_next hl14, hb14, h, rfl⟩)
  · rintro _ ⟨ok_4, h, rfl⟩
    rw [spec_l3Target_K1] at h
    simp only [go_sem]
    cases hg2 : ok_4 with
    | true =>
      replace h := if_t hg2 h
      replace h := Option.some.inj h
      subst h
      simp only [go_sem]
    | false =>
      replace h := if_f hg2 h
      replace h := Option.some.inj h
      subst h
      simp only [go_sem]

theorem spec_l2Bytes_ok {s_0 : Str} {r : Str} (h : spec_l2Bytes s_0 = some r) : PC prog 81 [.str s_0] (.str r) := by
  refine PC.intro (rs := [.tmp 2]) func81 rfl rfl mx (by rfl) (by rfl) (by rw [ntmps81]; simp) ?_
  rw [spec_l2Bytes] at h
  rw [pwp_start]
  simp only [go_sem, st0]
  obtain ⟨y1, hy1, h⟩ := bind_i h
  refine CallS.pcs (spec_l1Labels_ok hy1) rfl ?_
  simp only [go_sem]
  refine pwp_join rfl (fun s => ∃ (out_5 : Str), spec_l2Bytes_K1 out_5 = some r ∧ s = ⟨frL [(5, .str out_5)], hL [], 6⟩) (fun J hJ => ?_) ?_
  · simp only [go_sem]
    refine loopG_i (fun m s => ∃ (post15 : List Str) (i15 : Nat) (out_5 : Str), m = post15.length ∧ Rg y1.1 i15 post15 ∧ y1.1.length ≤ 9223372036854775807 ∧ spec_l2Bytes_L1 post15 i15 out_5 = some r ∧ s = ⟨frL [(5, .str out_5), (13, .sl y1.1.length (y1.1.flatMap cS)), (14, .int .i64 (y1.1.length : Int)), (15, .int .i64 (i15 : Int))], hL [], 5⟩) y1.1.length (Up.bound 13 y1.1.length (y1.1.flatMap cS) (by simp only [go_sem]) (fun hb => ?_)) ?_
    · exact Up.to [(5, .str ([] : Str)), (13, .sl y1.1.length (y1.1.flatMap cS)), (14, .int .i64 (y1.1.length : Int)), (15, .int .i64 ((0 : Nat) : Int))] [] 5 ⟨_, 0, _, rfl, rg_0 _, hb, h, rfl⟩
    · rintro Q1 _ _ ⟨post15, i15, out_5, rfl, hl15, hb15, h, rfl⟩ hN1 hR1 hE1
      cases post15 with
      | nil =>
        rw [spec_l2Bytes_L1] at h
        simp only [go_sem, rg_nil hl15]
        refine pwp_plain rfl ?_
        simp only [go_sem, rg_nil hl15]
        refine hE1 _ _ ?_
        simp only [go_sem, rg_nil hl15]
        refine join_n ?_
        exact Up.to [(5, .str out_5)] [] 6 (hJ _ ⟨out_5, h, rfl⟩)
      | cons e15 post15 =>
        rw [spec_l2Bytes_L1] at h
        simp only [go_sem, rg_cons hl15, rg_step hl15 hb15]
        refine pwp_plain rfl ?_
        simp only [go_sem, rg_cons hl15, rg_step hl15 hb15]
        refine UpC.here ?_
        refine pwp_plain rfl ?_
        simp only [go_sem, rg_cons hl15, rg_step hl15 hb15]
        refine evE_round hl15 cS_len (by decide) (fun rest => ?_)
        simp only [go_sem, rg_cons hl15, rg_step hl15 hb15]
        obtain ⟨x3, hx3, h⟩ := bind_i h
        rw [show bytesOf [PV.int .u8 (IntKind.u8.wrap (e15.length : Int))] = some x3 from bytes_text (c := cU) (fun _ => rfl) hx3]
        simp only [go_sem, rg_cons hl15, rg_step hl15 hb15]
        obtain ⟨x4, hx4, h⟩ := bind_i h
        refine evP_cat hx4 ?_
        simp only [go_sem, rg_cons hl15, rg_step hl15 hb15]
        obtain ⟨x5, hx5, h⟩ := bind_i h
        refine evP_cat hx5 ?_
        simp only [go_sem, rg_cons hl15, rg_step hl15 hb15]
        refine UpC.here ?_
        simp only [go_sem, rg_cons hl15, rg_step hl15 hb15]
        exact hN1 _ (Up.to [(5, .str x5), (13, .sl y1.1.length (y1.1.flatMap cS)), (14, .int .i64 (y1.1.length : Int)), (15, .int .i64 ((i15 + 1 : Nat) : Int))] [] 5 ⟨post15.length, Nat.lt_succ_self _, post15, i15 + 1, x5, rfl, rg_next hl15, hb15, h, rfl⟩)
  · rintro _ ⟨out_5, h, rfl⟩
    rw [spec_l2Bytes_K1] at h
    simp only [go_sem]
    obtain ⟨x2, hx2, h⟩ := bind_i h
    refine evP_cat hx2 ?_
    replace h := Option.some.inj h
    subst h
    simp only [go_sem]

theorem spec_l3Bytes_ok {kind_0 : Int} {data_1 : Str} {r : (Str × Bool)} (h : spec_l3Bytes kind_0 data_1 = some r) : PC prog 51 [.int .i64 kind_0, .str data_1] (.tup [.str r.1, .bool r.2]) := by
  refine PC.intro (rs := [.tmp 4, .tmp 5]) func51 rfl rfl mx (by rfl) (by rfl) (by rw [ntmps51]; simp) ?_
  rw [spec_l3Bytes] at h
  rw [pwp_start]
  simp only [go_sem, st0]
  refine pwp_plain rfl ?_
  simp only [go_sem]
  cases hg1 : (kind_0 == 1) with
  | true =>
    replace h := if_t hg1 h
    simp only [go_sem]
    obtain ⟨y2, hy2, h⟩ := bind_i h
    refine CallS.pcs (spec_l1Split_ok hy2) rfl ?_
    simp only [go_sem]
    refine pwp_plain rfl ?_
    simp only [go_sem]
    refine loopG_i (fun m s => ∃ (post21 : List Str) (i21 : Nat) (out_6 : Str), m = post21.length ∧ Rg y2 i21 post21 ∧ y2.length ≤ 9223372036854775807 ∧ spec_l3Bytes_L1 y2 post21 i21 out_6 = some r ∧ s = ⟨frL [(6, .str out_6), (7, .sl y2.length (y2.flatMap cS)), (19, .sl y2.length (y2.flatMap cS)), (20, .int .i64 (y2.length : Int)), (21, .int .i64 (i21 : Int))], hL [], 7⟩) y2.length (Up.bound 19 y2.length (y2.flatMap cS) (by simp only [go_sem]) (fun hb => ?_)) ?_
    · exact Up.to [(6, .str ([] : Str)), (7, .sl y2.length (y2.flatMap cS)), (19, .sl y2.length (y2.flatMap cS)), (20, .int .i64 (y2.length : Int)), (21, .int .i64 ((0 : Nat) : Int))] [] 7 ⟨_, 0, _, rfl, rg_0 _, hb, h, rfl⟩
    · rintro Q1 _ _ ⟨post21, i21, out_6, rfl, hl21, hb21, h, rfl⟩ hN1 hR1 hE1
      cases post21 with
      | nil =>
        rw [spec_l3Bytes_L1] at h
        simp only [go_sem, rg_nil hl21]
        refine pwp_plain rfl ?_
        simp only [go_sem, rg_nil hl21]
        refine hE1 _ _ ?_
        simp only [go_sem, rg_nil hl21]
        refine UpC.to [(6, .str out_6), (7, .sl y2.length (y2.flatMap cS))] [] 8 ?_
        replace h := Option.some.inj h
        subst h
        simp only [go_sem, rg_nil hl21]
      | cons e21 post21 =>
        rw [spec_l3Bytes_L1] at h
        simp only [go_sem, rg_cons hl21, rg_step hl21 hb21]
        refine pwp_plain rfl ?_
        simp only [go_sem, rg_cons hl21, rg_step hl21 hb21]
        refine UpC.to [(6, .str out_6), (7, .sl y2.length (y2.flatMap cS)), (19, .sl y2.length (y2.flatMap cS)), (20, .int .i64 (y2.length : Int)), (21, .int .i64 (i21 : Int))] [] 8 ?_
        simp only [go_sem, rg_cons hl21, rg_step hl21 hb21]
        refine pwp_plain rfl ?_
        simp only [go_sem, rg_cons hl21, rg_step hl21 hb21]
        refine evE_round hl21 cS_len (by decide) (fun rest => ?_)
        simp only [go_sem, rg_cons hl21, rg_step hl21 hb21]
        obtain ⟨y3, hy3, h⟩ := bind_i h
        refine CallS.pcs (spec_l1Int_ok hy3) rfl ?_
        simp only [go_sem, rg_cons hl21, rg_step hl21 hb21]
        refine pwp_plain rfl ?_
        simp only [go_sem, rg_cons hl21, rg_step hl21 hb21]
        obtain ⟨y4, hy4, h⟩ := bind_i h
        refine CallS.pcs (spec_l1In_ok hy4) rfl ?_
        simp only [go_sem, rg_cons hl21, rg_step hl21 hb21]
        cases hg5 : (!y4) with
        | true =>
          replace h := if_t hg5 h
          simp only [go_sem, rg_cons hl21, rg_step hl21 hb21]
          refine hR1 _ ?_
          replace h := Option.some.inj h
          subst h
          simp only [go_sem, rg_cons hl21, rg_step hl21 hb21]
        | false =>
          replace h := if_f hg5 h
          simp only [go_sem, rg_cons hl21, rg_step hl21 hb21]
          refine UpC.to [(6, .str out_6), (7, .sl y2.length (y2.flatMap cS)), (10, .int .i64 y3), (19, .sl y2.length (y2.flatMap cS)), (20, .int .i64 (y2.length : Int)), (21, .int .i64 (i21 : Int))] [] 11 ?_
          simp only [go_sem, rg_cons hl21, rg_step hl21 hb21]
          obtain ⟨y6, hy6, h⟩ := bind_i h
          refine CallS.pcs (spec_l3Number_ok hy6) rfl ?_
          simp only [go_sem, rg_cons hl21, rg_step hl21 hb21]
          obtain ⟨x7, hx7, h⟩ := bind_i h
          refine evP_cat hx7 ?_
          simp only [go_sem, rg_cons hl21, rg_step hl21 hb21]
          refine UpC.to [(6, .str x7), (7, .sl y2.length (y2.flatMap cS)), (19, .sl y2.length (y2.flatMap cS)), (20, .int .i64 (y2.length : Int)), (21, .int .i64 (i21 : Int))] [] 12 ?_
          simp only [go_sem, rg_cons hl21, rg_step hl21 hb21]
          exact hN1 _ (Up.to [(6, .str x7), (7, .sl y2.length (y2.flatMap cS)), (19, .sl y2.length (y2.flatMap cS)), (20, .int .i64 (y2.length : Int)), (21, .int .i64 ((i21 + 1 : Nat) : Int))] [] 7 ⟨post21.length, Nat.lt_succ_self _, post21, i21 + 1, x7, rfl, rg_next hl21, hb21, h, rfl⟩)
  | false =>
    replace h := if_f hg1 h
    simp only [go_sem]
    refine pwp_join rfl (fun s => ∃ (v_39 : Bool), spec_l3Bytes_K1 kind_0 data_1 v_39 = some r ∧ s = ⟨frL [(1, .str data_1), (14, .int .i64 kind_0), (39, .bool v_39)], hL [], 6⟩) (fun J hJ => ?_) ?_
    · simp only [go_sem]
      cases hg40 : (kind_0 == 2) with
      | true =>
        replace h := if_t hg40 h
        simp only [go_sem]
        refine join_n ?_
        exact Up.to [(1, .str data_1), (14, .int .i64 kind_0), (39, .bool true)] [] 6 (hJ _ ⟨true, h, rfl⟩)
      | false =>
        replace h := if_f hg40 h
        simp only [go_sem]
        refine join_n ?_
        exact Up.to [(1, .str data_1), (14, .int .i64 kind_0), (39, .bool (kind_0 == 5))] [] 6 (hJ _ ⟨(kind_0 == 5), h, rfl⟩)
    · rintro _ ⟨v_39, h, rfl⟩
      rw [spec_l3Bytes_K1] at h
      simp only [go_sem]
      cases hg8 : v_39 with
      | true =>
        replace h := if_t hg8 h
        simp only [go_sem]
        refine pwp_plain rfl ?_
        simp only [go_sem]
        obtain ⟨y9, hy9, h⟩ := bind_i h
        refine CallS.pcs (spec_l3Target_ok hy9) rfl ?_
        simp only [go_sem]
        cases hg10 : (!y9) with
        | true =>
          replace h := if_t hg10 h
          replace h := Option.some.inj h
          subst h
          simp only [go_sem]
        | false =>
          replace h := if_f hg10 h
          simp only [go_sem]
          refine UpC.to [(1, .str data_1)] [] 7 ?_
          simp only [go_sem]
          obtain ⟨y11, hy11, h⟩ := bind_i h
          refine CallS.pcs (spec_l2Bytes_ok hy11) rfl ?_
          replace h := Option.some.inj h
          subst h
          simp only [go_sem]
      | false =>
        replace h := if_f hg8 h
        simp only [go_sem]
        cases hg12 : (kind_0 == 6) with
        | true =>
          replace h := if_t hg12 h
          simp only [go_sem]
          obtain ⟨y13, hy13, h⟩ := bind_i h
          refine CallS.pcs (spec_l1Int_ok hy13) rfl ?_
          simp only [go_sem]
          obtain ⟨y14, hy14, h⟩ := bind_i h
          refine CallS.pcs (spec_l3Number_ok hy14) rfl ?_
          simp only [go_sem]
          obtain ⟨y15, hy15, h⟩ := bind_i h
          refine CallS.pcs (spec_l1In_ok hy15) rfl ?_
          replace h := Option.some.inj h
          subst h
          simp only [go_sem]
        | false =>
          replace h := if_f hg12 h
          simp only [go_sem]
          cases hg16 : (kind_0 == 15) with
          | true =>
            replace h := if_t hg16 h
            simp only [go_sem]
            obtain ⟨y17, hy17, h⟩ := bind_i h
            refine CallS.pcs (spec_l1Split_ok hy17) rfl ?_
            simp only [go_sem]
            refine pwp_plain rfl ?_
            simp only [go_sem]
            cases hg18 : ((y17.length : Int) != 2) with
            | true =>
              replace h := if_t hg18 h
              replace h := Option.some.inj h
              subst h
              simp only [go_sem]
            | false =>
              replace h := if_f hg18 h
              simp only [go_sem]
              obtain ⟨e19, he19, h⟩ := bind_i h
              refine evE_index he19 cS_len (by decide) (fun rest => ?_)
              simp only [go_sem]
              obtain ⟨y20, hy20, h⟩ := bind_i h
              refine CallS.pcs (spec_l1Int_ok hy20) rfl ?_
              simp only [go_sem]
              obtain ⟨y21, hy21, h⟩ := bind_i h
              refine CallS.pcs (spec_l1In_ok hy21) rfl ?_
              simp only [go_sem]
              cases hg22 : (!y21) with
              | true =>
                replace h := if_t hg22 h
                replace h := Option.some.inj h
                subst h
                simp only [go_sem]
              | false =>
                replace h := if_f hg22 h
                simp only [go_sem]
                obtain ⟨e23, he23, h⟩ := bind_i h
                refine evE_index he23 cS_len (by decide) (fun rest => ?_)
                simp only [go_sem]
                obtain ⟨y24, hy24, h⟩ := bind_i h
                refine CallS.pcs (spec_l3Target_ok hy24) rfl ?_
                simp only [go_sem]
                cases hg25 : (!y24) with
                | true =>
                  replace h := if_t hg25 h
                  replace h := Option.some.inj h
                  subst h
                  simp only [go_sem]
                | false =>
                  replace h := if_f hg25 h
                  simp only [go_sem]
                  refine UpC.to [(12, .sl y17.length (y17.flatMap cS))] [] 10 ?_
                  simp only [go_sem]
                  obtain ⟨e26, he26, h⟩ := bind_i h
                  refine evE_index he26 cS_len (by decide) (fun rest => ?_)
                  simp only [go_sem]
                  obtain ⟨y27, hy27, h⟩ := bind_i h
                  refine CallS.pcs (spec_l1Int_ok hy27) rfl ?_
                  simp only [go_sem]
                  obtain ⟨y28, hy28, h⟩ := bind_i h
                  refine CallS.pcs (spec_l3Number_ok hy28) rfl ?_
                  simp only [go_sem]
                  obtain ⟨e29, he29, h⟩ := bind_i h
                  refine evE_index he29 cS_len (by decide) (fun rest => ?_)
                  simp only [go_sem]
                  obtain ⟨y30, hy30, h⟩ := bind_i h
                  refine CallS.pcs (spec_l2Bytes_ok hy30) rfl ?_
                  simp only [go_sem]
                  obtain ⟨x31, hx31, h⟩ := bind_i h
                  refine evP_cat hx31 ?_
                  simp only [go_sem]
                  refine lgEnd_pure (by simp) ?_
                  replace h := Option.some.inj h
                  subst h
                  try simp only [go_sem]
          | false =>
            replace h := if_f hg16 h
            simp only [go_sem]
            cases hg32 : (kind_0 == 16) with
            | true =>
              replace h := if_t hg32 h
              simp only [go_sem]
              refine pwp_join rfl (fun s => spec_l3Bytes_K2 data_1 = some r ∧ s = ⟨frL [(1, .str data_1)], hL [], 11⟩) (fun J hJ => ?_) ?_
              · simp only [go_sem]
                refine loopG_i (fun m s => ∃ (i_13 : Int), spec_l3Bytes_L2 data_1 m i_13 = some r ∧ s = ⟨frL [(1, .str data_1), (13, .int .i64 i_13)], hL [], 10⟩) FU ?_ ?_
                · exact Up.to [(1, .str data_1), (13, .int .i64 0)] [] 10 ⟨_, h, rfl⟩
                · rintro Q2 fu2 _ ⟨i_13, h, rfl⟩ hN2 hR2 hE2
                  cases fu2 with
                  | zero =>
                    rw [spec_l3Bytes_L2] at h; cases h
                  | succ fu2 =>
                    rw [spec_l3Bytes_L2] at h
                    simp only [go_sem]
                    refine pwp_plain rfl ?_
                    simp only [go_sem]
                    cases hg35 : (decide (i_13 < (data_1.length : Int))) with
                    | true =>
                      replace h := if_t hg35 h
                      simp only [go_sem]
                      refine UpC.to [(1, .str data_1), (13, .int .i64 i_13)] [] 11 ?_
                      simp only [go_sem]
                      refine pwp_plain rfl ?_
                      simp only [go_sem]
                      obtain ⟨b36, hb36, h⟩ := bind_i h
                      refine evP_ix hb36 ?_
                      simp only [go_sem]
                      cases hg37 : (decide ((b36.toNat : Int) < 32)) with
                      | true =>
                        replace h := if_t hg37 h
                        simp only [go_sem]
                        refine hR2 _ ?_
                        replace h := Option.some.inj h
                        subst h
                        simp only [go_sem]
                      | false =>
                        replace h := if_f hg37 h
                        simp only [go_sem]
                        obtain ⟨b38, hb38, h⟩ := bind_i h
                        refine evP_ix hb38 ?_
                        simp only [go_sem]
                        cases hg39 : (decide (126 < (b38.toNat : Int))) with
                        | true =>
                          replace h := if_t hg39 h
                          simp only [go_sem]
                          refine hR2 _ ?_
                          replace h := Option.some.inj h
                          subst h
                          simp only [go_sem]
                        | false =>
                          replace h := if_f hg39 h
                          simp only [go_sem]
                          refine UpC.to [(1, .str data_1), (13, .int .i64 i_13)] [] 12 ?_
                          simp only [go_sem]
                          exact hN2 _ (Up.to [(1, .str data_1), (13, .int .i64 (IntKind.i64.wrap (i_13 + 1)))] [] 10 ⟨fu2, Nat.lt_succ_self _, (IntKind.i64.wrap (i_13 + 1)), h, rfl⟩)
                    | false =>
                      replace h := if_f hg35 h
                      simp only [go_sem]
                      refine hE2 _ _ ?_
                      simp only [go_sem]
                      refine join_n ?_
                      exact Up.to [(1, .str data_1)] [] 11 (hJ _ ⟨h, rfl⟩)
              · rintro _ ⟨h, rfl⟩
                rw [spec_l3Bytes_K2] at h
                simp only [go_sem]
                obtain ⟨x33, hx33, h⟩ := bind_i h
                rw [show bytesOf [PV.int .u8 (IntKind.u8.wrap (data_1.length : Int))] = some x33 from bytes_text (c := cU) (fun _ => rfl) hx33]
                simp only [go_sem]
                obtain ⟨x34, hx34, h⟩ := bind_i h
                refine evP_cat hx34 ?_
                replace h := Option.some.inj h
                subst h
                simp only [go_sem]
            | false =>
              replace h := if_f hg32 h
              simp only [go_sem]
              refine UpC.to [] [] 9 ?_
              replace h := Option.some.inj h
              subst h
              simp only [go_sem]

theorem spec_GoodName_ok {s_0 : Str} {r : Bool} (h : spec_GoodName s_0 = some r) : PC prog 52 [.str s_0] (.bool r) := by
  refine PC.intro (rs := [.tmp 2]) func52 rfl rfl mx (by rfl) (by rfl) (by rw [ntmps52]; simp) ?_
  rw [spec_GoodName] at h
  rw [pwp_start]
  simp only [go_sem, st0]
  obtain ⟨y1, hy1, h⟩ := bind_i h
  refine CallS.pcs (spec_l1Labels_ok hy1) rfl ?_
  replace h := Option.some.inj h
  subst h
  simp only [go_sem]

theorem spec_GoodPolicy_ok {p_0 : TPolicy} {r : Bool} (h : spec_GoodPolicy p_0 = some r) : PC prog 29 [.agg [.str p_0.fName, .sl p_0.fTargets.length (p_0.fTargets.flatMap cTarget)]] (.bool r) := by
  refine PC.intro (rs := [.tmp 2]) func29 rfl rfl mx (by rfl) (by rfl) (by rw [ntmps29]; simp) ?_
  rw [spec_GoodPolicy] at h
  rw [pwp_start]
  simp only [go_sem, st0]
  refine pwp_join rfl (fun s => spec_GoodPolicy_K1 p_0 = some r ∧ s = ⟨frL [(1, .loc (1, 1, 0) 0 0)], hL [((1, 1, 0), ⟨none, 0, [.str p_0.fName, .sl p_0.fTargets.length (p_0.fTargets.flatMap cTarget)]⟩)], 4⟩) (fun J hJ => ?_) ?_
  · simp only [go_sem]
    refine loopG_i (fun m s => ∃ (post10 : List TTarget) (i10 : Nat), m = post10.length ∧ Rg p_0.fTargets i10 post10 ∧ p_0.fTargets.length ≤ 9223372036854775807 ∧ spec_GoodPolicy_L1 p_0 post10 i10 = some r ∧ s = ⟨frL [(1, .loc (1, 1, 0) 0 0), (8, .sl p_0.fTargets.length (p_0.fTargets.flatMap cTarget)), (9, .int .i64 (p_0.fTargets.length : Int)), (10, .int .i64 (i10 : Int))], hL [((1, 1, 0), ⟨none, 0, [.str p_0.fName, .sl p_0.fTargets.length (p_0.fTargets.flatMap cTarget)]⟩)], 3⟩) p_0.fTargets.length (Up.bound 8 p_0.fTargets.length (p_0.fTargets.flatMap cTarget) (by simp only [go_sem]) (fun hb => ?_)) ?_
    · exact Up.to [(1, .loc (1, 1, 0) 0 0), (8, .sl p_0.fTargets.length (p_0.fTargets.flatMap cTarget)), (9, .int .i64 (p_0.fTargets.length : Int)), (10, .int .i64 ((0 : Nat) : Int))] [((1, 1, 0), ⟨none, 0, [.str p_0.fName, .sl p_0.fTargets.length (p_0.fTargets.flatMap cTarget)]⟩)] 3 ⟨_, 0, rfl, rg_0 _, hb, h, rfl⟩
    · rintro Q1 _ _ ⟨post10, i10, rfl, hl10, hb10, h, rfl⟩ hN1 hR1 hE1
      cases post10 with
      | nil =>
        rw [spec_GoodPolicy_L1] at h
        simp only [go_sem, rg_nil hl10]
        refine pwp_plain rfl ?_
        simp only [go_sem, rg_nil hl10]
        refine hE1 _ _ ?_
        simp only [go_sem, rg_nil hl10]
        refine join_n ?_
        exact Up.to [(1, .loc (1, 1, 0) 0 0)] [((1, 1, 0), ⟨none, 0, [.str p_0.fName, .sl p_0.fTargets.length (p_0.fTargets.flatMap cTarget)]⟩)] 4 (hJ _ ⟨h, rfl⟩)
      | cons e10 post10 =>
        rw [spec_GoodPolicy_L1] at h
        simp only [go_sem, rg_cons hl10, rg_step hl10 hb10]
        refine pwp_plain rfl ?_
        simp only [go_sem, rg_cons hl10, rg_step hl10 hb10]
        refine UpC.here ?_
        refine pwp_plain rfl ?_
        simp only [go_sem, rg_cons hl10, rg_step hl10 hb10]
        refine evE_round hl10 cTarget_len (by decide) (fun rest => ?_)
        simp only [go_sem, rg_cons hl10, rg_step hl10 hb10]
        obtain ⟨y4, hy4, h⟩ := bind_i h
        refine CallS.pcs (spec_l3Bytes_ok hy4) rfl ?_
        simp only [go_sem, rg_cons hl10, rg_step hl10 hb10]
        cases hg5 : (!y4.2) with
        | true =>
          replace h := if_t hg5 h
          simp only [go_sem, rg_cons hl10, rg_step hl10 hb10]
          refine hR1 _ ?_
          replace h := Option.some.inj h
          subst h
          simp only [go_sem, rg_cons hl10, rg_step hl10 hb10]
        | false =>
          replace h := if_f hg5 h
          simp only [go_sem, rg_cons hl10, rg_step hl10 hb10]
          obtain ⟨y6, hy6, h⟩ := bind_i h
          refine CallS.pcs (spec_GoodName_ok hy6) rfl ?_
          simp only [go_sem, rg_cons hl10, rg_step hl10 hb10]
          cases hg7 : (!y6) with
          | true =>
            replace h := if_t hg7 h
            simp only [go_sem, rg_cons hl10, rg_step hl10 hb10]
            refine hR1 _ ?_
            replace h := Option.some.inj h
            subst h
            simp only [go_sem, rg_cons hl10, rg_step hl10 hb10]
          | false =>
            replace h := if_f hg7 h
            simp only [go_sem, rg_cons hl10, rg_step hl10 hb10]
            obtain ⟨y8, hy8, h⟩ := bind_i h
            refine CallS.pcs (spec_l1In_ok hy8) rfl ?_
            simp only [go_sem, rg_cons hl10, rg_step hl10 hb10]
            cases hg9 : (!y8) with
            | true =>
              replace h := if_t hg9 h
              simp only [go_sem, rg_cons hl10, rg_step hl10 hb10]
              refine hR1 _ ?_
              replace h := Option.some.inj h
              subst h
              simp only [go_sem, rg_cons hl10, rg_step hl10 hb10]
            | false =>
              replace h := if_f hg9 h
              simp only [go_sem, rg_cons hl10, rg_step hl10 hb10]
              obtain ⟨y10, hy10, h⟩ := bind_i h
              refine CallS.pcs (spec_l1In_ok hy10) rfl ?_
              simp only [go_sem, rg_cons hl10, rg_step hl10 hb10]
              cases hg11 : (!y10) with
              | true =>
                replace h := if_t hg11 h
                simp only [go_sem, rg_cons hl10, rg_step hl10 hb10]
                refine hR1 _ ?_
                replace h := Option.some.inj h
                subst h
                simp only [go_sem, rg_cons hl10, rg_step hl10 hb10]
              | false =>
                replace h := if_f hg11 h
                simp only [go_sem, rg_cons hl10, rg_step hl10 hb10]
                refine UpC.here ?_
                simp only [go_sem, rg_cons hl10, rg_step hl10 hb10]
                exact hN1 _ (Up.to [(1, .loc (1, 1, 0) 0 0), (8, .sl p_0.fTargets.length (p_0.fTargets.flatMap cTarget)), (9, .int .i64 (p_0.fTargets.length : Int)), (10, .int .i64 ((i10 + 1 : Nat) : Int))] [((1, 1, 0), ⟨none, 0, [.str p_0.fName, .sl p_0.fTargets.length (p_0.fTargets.flatMap cTarget)]⟩)] 3 ⟨post10.length, Nat.lt_succ_self _, post10, i10 + 1, rfl, rg_next hl10, hb10, h, rfl⟩)
  · rintro _ ⟨h, rfl⟩
    rw [spec_GoodPolicy_K1] at h
    simp only [go_sem]
    obtain ⟨y1, hy1, h⟩ := bind_i h
    refine CallS.pcs (spec_GoodName_ok hy1) rfl ?_
    simp only [go_sem]
    cases hg2 : y1 with
    | true =>
      replace h := if_t hg2 h
      simp only [go_sem]
      obtain ⟨y3, hy3, h⟩ := bind_i h
      refine CallS.pcs (spec_l1In_ok hy3) rfl ?_
      replace h := Option.some.inj h
      subst h
      simp only [go_sem]
    | false =>
      replace h := if_f hg2 h
      replace h := Option.some.inj h
      subst h
      simp only [go_sem]

theorem spec_l13Most_ok {h_0 : THealth} {x_1 : THost} {r : Int} (h : spec_l13Most h_0 x_1 = some r) : PC prog 54 [.agg [.int .i64 h_0.fRise, .int .i64 h_0.fFall, .sl h_0.fHosts.length (h_0.fHosts.flatMap cHost)], .agg [.str x_1.fName, .bool x_1.fUp, .int .i64 x_1.fRow]] (.int .i64 r) := by
  refine PC.intro (rs := [.tmp 4]) func54 rfl rfl mx (by rfl) (by rfl) (by rw [ntmps54]; simp) ?_
  rw [spec_l13Most] at h
  rw [pwp_start]
  simp only [go_sem, st0]
  refine pwp_plain rfl ?_
  simp only [go_sem]
  cases hg1 : x_1.fUp with
  | true =>
    replace h := if_t hg1 h
    replace h := Option.some.inj h
    subst h
    simp only [go_sem]
  | false =>
    replace h := if_f hg1 h
    simp only [go_sem]
    refine UpC.here ?_
    replace h := Option.some.inj h
    subst h
    simp only [go_sem]

theorem spec_l13Names_ok {l_0 : (List Str)} {r : Bool} (h : spec_l13Names l_0 = some r) : PC prog 55 [.sl l_0.length (l_0.flatMap cS)] (.bool r) := by
  refine PC.intro (rs := [.tmp 2]) func55 rfl rfl mx (by rfl) (by rfl) (by rw [ntmps55]; simp) ?_
  rw [spec_l13Names] at h
  rw [pwp_start]
  simp only [go_sem, st0]
  refine pwp_join rfl (fun s => spec_l13Names_K1 l_0 = some r ∧ s = ⟨frL [(0, .sl l_0.length (l_0.flatMap cS))], hL [], 4⟩) (fun J hJ => ?_) ?_
  · simp only [go_sem]
    refine loopG_i (fun m s => ∃ (post9 : List Str) (i9 : Nat), m = post9.length ∧ Rg l_0 i9 post9 ∧ l_0.length ≤ 9223372036854775807 ∧ spec_l13Names_L1 l_0 post9 i9 = some r ∧ s = ⟨frL [(0, .sl l_0.length (l_0.flatMap cS)), (7, .sl l_0.length (l_0.flatMap cS)), (8, .int .i64 (l_0.length : Int)), (9, .int .i64 (i9 : Int))], hL [], 3⟩) l_0.length (Up.bound 7 l_0.length (l_0.flatMap cS) (by simp only [go_sem]) (fun hb => ?_)) ?_
    · exact Up.to [(0, .sl l_0.length (l_0.flatMap cS)), (7, .sl l_0.length (l_0.flatMap cS)), (8, .int .i64 (l_0.length : Int)), (9, .int .i64 ((0 : Nat) : Int))] [] 3 ⟨_, 0, rfl, rg_0 _, hb, h, rfl⟩
    · rintro Q1 _ _ ⟨post9, i9, rfl, hl9, hb9, h, rfl⟩ hN1 hR1 hE1
      cases post9 with
      | nil =>
        rw [spec_l13Names_L1] at h
        simp only [go_sem, rg_nil hl9]
        refine pwp_plain rfl ?_
        simp only [go_sem, rg_nil hl9]
        refine hE1 _ _ ?_
        simp only [go_sem, rg_nil hl9]
        refine join_n ?_
        exact Up.to [(0, .sl l_0.length (l_0.flatMap cS))] [] 4 (hJ _ ⟨h, rfl⟩)
      | cons e9 post9 =>
        rw [spec_l13Names_L1] at h
        simp only [go_sem, rg_cons hl9, rg_step hl9 hb9]
        refine pwp_plain rfl ?_
        simp only [go_sem, rg_cons hl9, rg_step hl9 hb9]
        refine UpC.here ?_
        refine pwp_plain rfl ?_
        simp only [go_sem, rg_cons hl9, rg_step hl9 hb9]
        refine evE_round hl9 cS_len (by decide) (fun rest => ?_)
        simp only [go_sem, rg_cons hl9, rg_step hl9 hb9]
        refine pwp_plain rfl ?_
        simp only [go_sem, rg_cons hl9, rg_step hl9 hb9]
        obtain ⟨y2, hy2, h⟩ := bind_i h
        refine CallS.pcs (spec_GoodName_ok hy2) rfl ?_
        simp only [go_sem, rg_cons hl9, rg_step hl9 hb9]
        cases hg3 : (!y2) with
        | true =>
          replace h := if_t hg3 h
          simp only [go_sem, rg_cons hl9, rg_step hl9 hb9]
          refine hR1 _ ?_
          replace h := Option.some.inj h
          subst h
          simp only [go_sem, rg_cons hl9, rg_step hl9 hb9]
        | false =>
          replace h := if_f hg3 h
          simp only [go_sem, rg_cons hl9, rg_step hl9 hb9]
          cases hg4 : (e9 == ([] : Str)) with
          | true =>
            replace h := if_t hg4 h
            simp only [go_sem, rg_cons hl9, rg_step hl9 hb9]
            refine hR1 _ ?_
            replace h := Option.some.inj h
            subst h
            simp only [go_sem, rg_cons hl9, rg_step hl9 hb9]
          | false =>
            replace h := if_f hg4 h
            simp only [go_sem, rg_cons hl9, rg_step hl9 hb9]
            refine UpC.here ?_
            simp only [go_sem, rg_cons hl9, rg_step hl9 hb9]
            obtain ⟨x5, hx5, h⟩ := bind_i h
            refine evP_rcutH hx5 cS_len ?_
            simp only [go_sem, rg_cons hl9, rg_step hl9 hb9]
            refine loopG_i (fun m s => ∃ (post25 : List Str) (i25 : Nat), m = post25.length ∧ Rg x5 i25 post25 ∧ x5.length ≤ 9223372036854775807 ∧ spec_l13Names_L2 i9 e9 (spec_l13Names_L1 l_0 post9) post25 i25 = some r ∧ s = ⟨frL [(0, .sl l_0.length (l_0.flatMap cS)), (4, .str e9), (7, .sl l_0.length (l_0.flatMap cS)), (8, .int .i64 (l_0.length : Int)), (9, .int .i64 (i9 : Int)), (23, .sl x5.length (x5.flatMap cS)), (24, .int .i64 (x5.length : Int)), (25, .int .i64 (i25 : Int))], hL [], 7⟩) x5.length (Up.bound 23 x5.length (x5.flatMap cS) (by simp only [go_sem]) (fun hb => ?_)) ?_
            · exact Up.to [(0, .sl l_0.length (l_0.flatMap cS)), (4, .str e9), (7, .sl l_0.length (l_0.flatMap cS)), (8, .int .i64 (l_0.length : Int)), (9, .int .i64 (i9 : Int)), (23, .sl x5.length (x5.flatMap cS)), (24, .int .i64 (x5.length : Int)), (25, .int .i64 ((0 : Nat) : Int))] [] 7 ⟨_, 0, rfl, rg_0 _, hb, h, rfl⟩
            · rintro Q2 _ _ ⟨post25, i25, rfl, hl25, hb25, h, rfl⟩ hN2 hR2 hE2
              cases post25 with
              | nil =>
                rw [spec_l13Names_L2] at h
                simp only [go_sem, rg_cons hl9, rg_step hl9 hb9, rg_nil hl25]
                refine pwp_plain rfl ?_
                simp only [go_sem, rg_cons hl9, rg_step hl9 hb9, rg_nil hl25]
                refine hE2 _ _ ?_
                simp only [go_sem, rg_cons hl9, rg_step hl9 hb9, rg_nil hl25]
                refine UpC.here ?_
                simp only [go_sem, rg_cons hl9, rg_step hl9 hb9, rg_nil hl25]
                exact hN1 _ (Up.to [(0, .sl l_0.length (l_0.flatMap cS)), (7, .sl l_0.length (l_0.flatMap cS)), (8, .int .i64 (l_0.length : Int)), (9, .int .i64 ((i9 + 1 : Nat) : Int))] [] 3 ⟨post9.length, Nat.lt_succ_self _, post9, i9 + 1, rfl, rg_next hl9, hb9, h, rfl⟩)
              | cons e25 post25 =>
                rw [spec_l13Names_L2] at h
                simp only [go_sem, rg_cons hl9, rg_step hl9 hb9, rg_cons hl25, rg_step hl25 hb25]
                refine pwp_plain rfl ?_
                simp only [go_sem, rg_cons hl9, rg_step hl9 hb9, rg_cons hl25, rg_step hl25 hb25]
                refine UpC.here ?_
                refine pwp_plain rfl ?_
                simp only [go_sem, rg_cons hl9, rg_step hl9 hb9, rg_cons hl25, rg_step hl25 hb25]
                refine evE_round hl25 cS_len (by decide) (fun rest => ?_)
                simp only [go_sem, rg_cons hl9, rg_step hl9 hb9, rg_cons hl25, rg_step hl25 hb25]
                cases hg6 : (e25 == e9) with
                | true =>
                  replace h := if_t hg6 h
                  simp only [go_sem, rg_cons hl9, rg_step hl9 hb9, rg_cons hl25, rg_step hl25 hb25]
                  refine hR2 _ ?_
                  simp only [go_sem, rg_cons hl9, rg_step hl9 hb9, rg_cons hl25, rg_step hl25 hb25]
                  refine hR1 _ ?_
                  replace h := Option.some.inj h
                  subst h
                  simp only [go_sem, rg_cons hl9, rg_step hl9 hb9, rg_cons hl25, rg_step hl25 hb25]
                | false =>
                  replace h := if_f hg6 h
                  simp only [go_sem, rg_cons hl9, rg_step hl9 hb9, rg_cons hl25, rg_step hl25 hb25]
                  refine UpC.here ?_
                  simp only [go_sem, rg_cons hl9, rg_step hl9 hb9, rg_cons hl25, rg_step hl25 hb25]
                  exact hN2 _ (Up.to [(0, .sl l_0.length (l_0.flatMap cS)), (4, .str e9), (7, .sl l_0.length (l_0.flatMap cS)), (8, .int .i64 (l_0.length : Int)), (9, .int .i64 (i9 : Int)), (23, .sl x5.length (x5.flatMap cS)), (24, .int .i64 (x5.length : Int)), (25, .int .i64 ((i25 + 1 : Nat) : Int))] [] 7 ⟨post25.length, Nat.lt_succ_self _, post25, i25 + 1, rfl, rg_next hl25, hb25, h, rfl⟩)
  · rintro _ ⟨h, rfl⟩
    rw [spec_l13Names_K1] at h
    simp only [go_sem]
    obtain ⟨y1, hy1, h⟩ := bind_i h
    refine CallS.pcs (spec_l1In_ok hy1) rfl ?_
    replace h := Option.some.inj h
    subst h
    simp only [go_sem]

theorem spec_GoodHealth_ok {h_0 : THealth} {r : Bool} (h : spec_GoodHealth h_0 = some r) : PC prog 30 [.agg [.int .i64 h_0.fRise, .int .i64 h_0.fFall, .sl h_0.fHosts.length (h_0.fHosts.flatMap cHost)]] (.bool r) := by
  refine PC.intro (rs := [.tmp 2]) func30 rfl rfl mx (by rfl) (by rfl) (by rw [ntmps30]; simp) ?_
  rw [spec_GoodHealth] at h
  rw [pwp_start]
  simp only [go_sem, st0]
  refine pwp_join rfl (fun s => ∃ (names_3 : List Str), spec_GoodHealth_K1 h_0 names_3 = some r ∧ s = ⟨frL [(1, .loc (1, 1, 0) 0 0), (3, .sl names_3.length (names_3.flatMap cS))], hL [((1, 1, 0), ⟨none, 0, [.int .i64 h_0.fRise, .int .i64 h_0.fFall, .sl h_0.fHosts.length (h_0.fHosts.flatMap cHost)]⟩)], 6⟩) (fun J hJ => ?_) ?_
  · simp only [go_sem]
    refine loopG_i (fun m s => ∃ (post9 : List THost) (i9 : Nat) (names_3 : List Str), m = post9.length ∧ Rg h_0.fHosts i9 post9 ∧ h_0.fHosts.length ≤ 9223372036854775807 ∧ spec_GoodHealth_L1 h_0 post9 i9 names_3 = some r ∧ s = ⟨frL [(1, .loc (1, 1, 0) 0 0), (3, .ref (4, 3, 0) names_3.length), (7, .sl h_0.fHosts.length (h_0.fHosts.flatMap cHost)), (8, .int .i64 (h_0.fHosts.length : Int)), (9, .int .i64 (i9 : Int))], hL [((1, 1, 0), ⟨none, 0, [.int .i64 h_0.fRise, .int .i64 h_0.fFall, .sl h_0.fHosts.length (h_0.fHosts.flatMap cHost)]⟩), ((4, 3, 0), ⟨some (9, 1), names_3.length, names_3.flatMap cS⟩)], 5⟩) h_0.fHosts.length (Up.bound 7 h_0.fHosts.length (h_0.fHosts.flatMap cHost) (by simp only [go_sem]) (fun hb => ?_)) ?_
    · refine Up.own 3 9 1 (by simp only [go_sem]) (by decide) ?_
      exact Up.to [(1, .loc (1, 1, 0) 0 0), (3, .ref (4, 3, 0) ([] : List Str).length), (7, .sl h_0.fHosts.length (h_0.fHosts.flatMap cHost)), (8, .int .i64 (h_0.fHosts.length : Int)), (9, .int .i64 ((0 : Nat) : Int))] [((1, 1, 0), ⟨none, 0, [.int .i64 h_0.fRise, .int .i64 h_0.fFall, .sl h_0.fHosts.length (h_0.fHosts.flatMap cHost)]⟩), ((4, 3, 0), ⟨some (9, 1), ([] : List Str).length, ([] : List Str).flatMap cS⟩)] 5 ⟨_, 0, _, rfl, rg_0 _, hb, h, rfl⟩
    · rintro Q1 _ _ ⟨post9, i9, names_3, rfl, hl9, hb9, h, rfl⟩ hN1 hR1 hE1
      cases post9 with
      | nil =>
        rw [spec_GoodHealth_L1] at h
        simp only [go_sem, rg_nil hl9]
        refine pwp_plain rfl ?_
        simp only [go_sem, rg_nil hl9]
        refine hE1 _ _ ?_
        simp only [go_sem, rg_nil hl9]
        refine join_n ?_
        exact Up.cutS [((4, 3, 0), ⟨some (9, 1), names_3.length, names_3.flatMap cS⟩)] [(1, .loc (1, 1, 0) 0 0), (3, .sl names_3.length (names_3.flatMap cS))] [((1, 1, 0), ⟨none, 0, [.int .i64 h_0.fRise, .int .i64 h_0.fFall, .sl h_0.fHosts.length (h_0.fHosts.flatMap cHost)]⟩)] 6 (hJ _ ⟨names_3, h, rfl⟩)
      | cons e9 post9 =>
        rw [spec_GoodHealth_L1] at h
        simp only [go_sem, rg_cons hl9, rg_step hl9 hb9]
        refine pwp_plain rfl ?_
        simp only [go_sem, rg_cons hl9, rg_step hl9 hb9]
        refine UpC.here ?_
        refine pwp_plain rfl ?_
        simp only [go_sem, rg_cons hl9, rg_step hl9 hb9]
        refine evE_round hl9 cHost_len (by decide) (fun rest => ?_)
        simp only [go_sem, rg_cons hl9, rg_step hl9 hb9]
        refine pwp_plain rfl ?_
        simp only [go_sem, rg_cons hl9, rg_step hl9 hb9]
        obtain ⟨y6, hy6, h⟩ := bind_i h
        refine CallS.pcs (spec_l13Most_ok hy6) rfl ?_
        simp only [go_sem, rg_cons hl9, rg_step hl9 hb9]
        obtain ⟨y7, hy7, h⟩ := bind_i h
        refine CallS.pcs (spec_l1In_ok hy7) rfl ?_
        simp only [go_sem, rg_cons hl9, rg_step hl9 hb9]
        refine lgEnd_pure (by simp) ?_
        cases hg8 : (!y7) with
        | true =>
          replace h := if_t hg8 h
          try simp only [go_sem, rg_cons hl9, rg_step hl9 hb9]
          refine hR1 _ ?_
          replace h := Option.some.inj h
          subst h
          simp only [go_sem, rg_cons hl9, rg_step hl9 hb9]
        | false =>
          replace h := if_f hg8 h
          try simp only [go_sem, rg_cons hl9, rg_step hl9 hb9]
          refine UpC.here ?_
          simp only [go_sem, rg_cons hl9, rg_step hl9 hb9]
          obtain ⟨x9, hx9, h⟩ := bind_i h
          refine evE_app hx9 cS_len (by decide) (by simp only [go_sem]) rfl rfl (by simp only [go_sem]; rfl) rfl rfl ?_
          simp only [go_sem, rg_cons hl9, rg_step hl9 hb9]
          refine UpC.here ?_
          simp only [go_sem, rg_cons hl9, rg_step hl9 hb9]
          exact hN1 _ (Up.to [(1, .loc (1, 1, 0) 0 0), (3, .ref (4, 3, 0) x9.length), (7, .sl h_0.fHosts.length (h_0.fHosts.flatMap cHost)), (8, .int .i64 (h_0.fHosts.length : Int)), (9, .int .i64 ((i9 + 1 : Nat) : Int))] [((1, 1, 0), ⟨none, 0, [.int .i64 h_0.fRise, .int .i64 h_0.fFall, .sl h_0.fHosts.length (h_0.fHosts.flatMap cHost)]⟩), ((4, 3, 0), ⟨some (9, 1), x9.length, x9.flatMap cS⟩)] 5 ⟨post9.length, Nat.lt_succ_self _, post9, i9 + 1, x9, rfl, rg_next hl9, hb9, h, rfl⟩)
  · rintro _ ⟨names_3, h, rfl⟩
    rw [spec_GoodHealth_K1] at h
    simp only [go_sem]
    obtain ⟨y1, hy1, h⟩ := bind_i h
    refine CallS.pcs (spec_l1In_ok hy1) rfl ?_
    simp only [go_sem]
    cases hg2 : y1 with
    | true =>
      replace h := if_t hg2 h
      simp only [go_sem]
      obtain ⟨y3, hy3, h⟩ := bind_i h
      refine CallS.pcs (spec_l1In_ok hy3) rfl ?_
      simp only [go_sem]
      cases hg4 : y3 with
      | true =>
        replace h := if_t hg4 h
        simp only [go_sem]
        obtain ⟨y5, hy5, h⟩ := bind_i h
        refine CallS.pcs (spec_l13Names_ok hy5) rfl ?_
        replace h := Option.some.inj h
        subst h
        simp only [go_sem]
      | false =>
        replace h := if_f hg4 h
        replace h := Option.some.inj h
        subst h
        simp only [go_sem]
    | false =>
      replace h := if_f hg2 h
      replace h := Option.some.inj h
      subst h
      simp only [go_sem]

theorem spec_l1Has_ok {l_0 : (List Int)} {n_1 : Int} {r : Bool} (h : spec_l1Has l_0 n_1 = some r) : PC prog 104 [.sl l_0.length (l_0.flatMap cI), .int .i64 n_1] (.bool r) := by
  refine PC.intro (rs := [.tmp 4]) func104 rfl rfl mx (by rfl) (by rfl) (by rw [ntmps104]; simp) ?_
  rw [spec_l1Has] at h
  rw [pwp_start]
  simp only [go_sem, st0]
  refine pwp_plain rfl ?_
  simp only [go_sem]
  refine loopG_i (fun m s => ∃ (post9 : List Int) (i9 : Nat), m = post9.length ∧ Rg l_0 i9 post9 ∧ l_0.length ≤ 9223372036854775807 ∧ spec_l1Has_L1 n_1 post9 i9 = some r ∧ s = ⟨frL [(1, .int .i64 n_1), (7, .sl l_0.length (l_0.flatMap cI)), (8, .int .i64 (l_0.length : Int)), (9, .int .i64 (i9 : Int))], hL [], 3⟩) l_0.length (Up.bound 7 l_0.length (l_0.flatMap cI) (by simp only [go_sem]) (fun hb => ?_)) ?_
  · exact Up.to [(1, .int .i64 n_1), (7, .sl l_0.length (l_0.flatMap cI)), (8, .int .i64 (l_0.length : Int)), (9, .int .i64 ((0 : Nat) : Int))] [] 3 ⟨_, 0, rfl, rg_0 _, hb, h, rfl⟩
  · rintro Q1 _ _ ⟨post9, i9, rfl, hl9, hb9, h, rfl⟩ hN1 hR1 hE1
    cases post9 with
    | nil =>
      rw [spec_l1Has_L1] at h
      simp only [go_sem, rg_nil hl9]
      refine pwp_plain rfl ?_
      simp only [go_sem, rg_nil hl9]
      refine hE1 _ _ ?_
      simp only [go_sem, rg_nil hl9]
      refine UpC.here ?_
      replace h := Option.some.inj h
      subst h
      simp only [go_sem, rg_nil hl9]
    | cons e9 post9 =>
      rw [spec_l1Has_L1] at h
      simp only [go_sem, rg_cons hl9, rg_step hl9 hb9]
      refine pwp_plain rfl ?_
      simp only [go_sem, rg_cons hl9, rg_step hl9 hb9]
      refine UpC.here ?_
      refine pwp_plain rfl ?_
      simp only [go_sem, rg_cons hl9, rg_step hl9 hb9]
      refine evE_round hl9 cI_len (by decide) (fun rest => ?_)
      simp only [go_sem, rg_cons hl9, rg_step hl9 hb9]
      cases hg1 : (e9 == n_1) with
      | true =>
        replace h := if_t hg1 h
        simp only [go_sem, rg_cons hl9, rg_step hl9 hb9]
        refine hR1 _ ?_
        replace h := Option.some.inj h
        subst h
        simp only [go_sem, rg_cons hl9, rg_step hl9 hb9]
      | false =>
        replace h := if_f hg1 h
        simp only [go_sem, rg_cons hl9, rg_step hl9 hb9]
        refine UpC.here ?_
        simp only [go_sem, rg_cons hl9, rg_step hl9 hb9]
        exact hN1 _ (Up.to [(1, .int .i64 n_1), (7, .sl l_0.length (l_0.flatMap cI)), (8, .int .i64 (l_0.length : Int)), (9, .int .i64 ((i9 + 1 : Nat) : Int))] [] 3 ⟨post9.length, Nat.lt_succ_self _, post9, i9 + 1, rfl, rg_next hl9, hb9, h, rfl⟩)

theorem spec_l14Groups_ok {p_0 : TPolicy} {r : (List Int)} (h : spec_l14Groups p_0 = some r) : PC prog 83 [.agg [.str p_0.fName, .sl p_0.fTargets.length (p_0.fTargets.flatMap cTarget)]] (.sl r.length (r.flatMap cI)) := by
  refine PC.intro (rs := [.tmp 2]) func83 rfl rfl mx (by rfl) (by rfl) (by rw [ntmps83]; simp) ?_
  rw [spec_l14Groups] at h
  rw [pwp_start]
  simp only [go_sem, st0]
  refine pwp_plain rfl ?_
  simp only [go_sem]
  refine loopG_i (fun m s => ∃ (g_4 : Int) (out_3 : List Int), spec_l14Groups_L1 p_0 m g_4 out_3 = some r ∧ s = ⟨frL [(1, .loc (1, 1, 0) 0 0), (3, .ref (4, 3, 0) out_3.length), (4, .int .i64 g_4)], hL [((1, 1, 0), ⟨none, 0, [.str p_0.fName, .sl p_0.fTargets.length (p_0.fTargets.flatMap cTarget)]⟩), ((4, 3, 0), ⟨some (3, 1), out_3.length, out_3.flatMap cI⟩)], 5⟩) FU ?_ ?_
  · refine Up.own 3 3 1 (by simp only [go_sem]) (by decide) ?_
    exact Up.to [(1, .loc (1, 1, 0) 0 0), (3, .ref (4, 3, 0) ([] : List Int).length), (4, .int .i64 0)] [((1, 1, 0), ⟨none, 0, [.str p_0.fName, .sl p_0.fTargets.length (p_0.fTargets.flatMap cTarget)]⟩), ((4, 3, 0), ⟨some (3, 1), ([] : List Int).length, ([] : List Int).flatMap cI⟩)] 5 ⟨_, _, h, rfl⟩
  · rintro Q1 fu1 _ ⟨g_4, out_3, h, rfl⟩ hN1 hR1 hE1
    cases fu1 with
    | zero =>
      rw [spec_l14Groups_L1] at h; cases h
    | succ fu1 =>
      rw [spec_l14Groups_L1] at h
      simp only [go_sem]
      refine pwp_plain rfl ?_
      simp only [go_sem]
      cases hg1 : (decide (g_4 < 10)) with
      | true =>
        replace h := if_t hg1 h
        simp only [go_sem]
        refine UpC.here ?_
        refine pwp_plain rfl ?_
        simp only [go_sem]
        refine loopG_i (fun m s => ∃ (post14 : List TTarget) (i14 : Nat) (out_3' : List Int), m = post14.length ∧ Rg p_0.fTargets i14 post14 ∧ p_0.fTargets.length ≤ 9223372036854775807 ∧ spec_l14Groups_L2 g_4 out_3 (spec_l14Groups_L1 p_0 fu1) post14 i14 out_3' = some r ∧ s = ⟨frL [(1, .loc (1, 1, 0) 0 0), (3, .ref (4, 3, 0) out_3'.length), (4, .int .i64 g_4), (12, .sl p_0.fTargets.length (p_0.fTargets.flatMap cTarget)), (13, .int .i64 (p_0.fTargets.length : Int)), (14, .int .i64 (i14 : Int))], hL [((1, 1, 0), ⟨none, 0, [.str p_0.fName, .sl p_0.fTargets.length (p_0.fTargets.flatMap cTarget)]⟩), ((4, 3, 0), ⟨some (3, 1), out_3'.length, out_3'.flatMap cI⟩)], 7⟩) p_0.fTargets.length (Up.bound 12 p_0.fTargets.length (p_0.fTargets.flatMap cTarget) (by simp only [go_sem]) (fun hb => ?_)) ?_
        · exact Up.to [(1, .loc (1, 1, 0) 0 0), (3, .ref (4, 3, 0) out_3.length), (4, .int .i64 g_4), (12, .sl p_0.fTargets.length (p_0.fTargets.flatMap cTarget)), (13, .int .i64 (p_0.fTargets.length : Int)), (14, .int .i64 ((0 : Nat) : Int))] [((1, 1, 0), ⟨none, 0, [.str p_0.fName, .sl p_0.fTargets.length (p_0.fTargets.flatMap cTarget)]⟩), ((4, 3, 0), ⟨some (3, 1), out_3.length, out_3.flatMap cI⟩)] 7 ⟨_, 0, _, rfl, rg_0 _, hb, h, rfl⟩
        · rintro Q2 _ _ ⟨post14, i14, out_3', rfl, hl14, hb14, h, rfl⟩ hN2 hR2 hE2
          cases post14 with
          | nil =>
            rw [spec_l14Groups_L2] at h
            simp only [go_sem, rg_nil hl14]
            refine pwp_plain rfl ?_
            simp only [go_sem, rg_nil hl14]
            refine hE2 _ _ ?_
            simp only [go_sem, rg_nil hl14]
            refine UpC.here ?_
            simp only [go_sem, rg_nil hl14]
            exact hN1 _ (Up.to [(1, .loc (1, 1, 0) 0 0), (3, .ref (4, 3, 0) out_3'.length), (4, .int .i64 (IntKind.i64.wrap (g_4 + 1)))] [((1, 1, 0), ⟨none, 0, [.str p_0.fName, .sl p_0.fTargets.length (p_0.fTargets.flatMap cTarget)]⟩), ((4, 3, 0), ⟨some (3, 1), out_3'.length, out_3'.flatMap cI⟩)] 5 ⟨fu1, Nat.lt_succ_self _, (IntKind.i64.wrap (g_4 + 1)), out_3', h, rfl⟩)
          | cons e14 post14 =>
            rw [spec_l14Groups_L2] at h
            simp only [go_sem, rg_cons hl14, rg_step hl14 hb14]
            refine pwp_plain rfl ?_
            simp only [go_sem, rg_cons hl14, rg_step hl14 hb14]
            refine UpC.here ?_
            refine pwp_plain rfl ?_
            simp only [go_sem, rg_cons hl14, rg_step hl14 hb14]
            refine evE_round hl14 cTarget_len (by decide) (fun rest => ?_)
            simp only [go_sem, rg_cons hl14, rg_step hl14 hb14]
            cases hg2 : (e14.fGroup == g_4) with
            | true =>
              replace h := if_t hg2 h
              simp only [go_sem, rg_cons hl14, rg_step hl14 hb14]
              obtain ⟨y3, hy3, h⟩ := bind_i h
              refine CallS.see (spec_l1Has_ok hy3) (by simp only [go_sem]) (by simp only [go_sem]) ?_
              simp only [go_sem, rg_cons hl14, rg_step hl14 hb14]
              cases hg4 : (!y3) with
              | true =>
                replace h := if_t hg4 h
                simp only [go_sem, rg_cons hl14, rg_step hl14 hb14]
                obtain ⟨x5, hx5, h⟩ := bind_i h
                refine evE_app hx5 cI_len (by decide) (by simp only [go_sem]) rfl rfl (by simp only [go_sem]; rfl) rfl rfl ?_
                simp only [go_sem, rg_cons hl14, rg_step hl14 hb14]
                refine UpC.here ?_
                simp only [go_sem, rg_cons hl14, rg_step hl14 hb14]
                exact hN2 _ (Up.to [(1, .loc (1, 1, 0) 0 0), (3, .ref (4, 3, 0) x5.length), (4, .int .i64 g_4), (12, .sl p_0.fTargets.length (p_0.fTargets.flatMap cTarget)), (13, .int .i64 (p_0.fTargets.length : Int)), (14, .int .i64 ((i14 + 1 : Nat) : Int))] [((1, 1, 0), ⟨none, 0, [.str p_0.fName, .sl p_0.fTargets.length (p_0.fTargets.flatMap cTarget)]⟩), ((4, 3, 0), ⟨some (3, 1), x5.length, x5.flatMap cI⟩)] 7 ⟨post14.length, Nat.lt_succ_self _, post14, i14 + 1, x5, rfl, rg_next hl14, hb14, h, rfl⟩)
              | false =>
                replace h := if_f hg4 h
                simp only [go_sem, rg_cons hl14, rg_step hl14 hb14]
                refine UpC.here ?_
                simp only [go_sem, rg_cons hl14, rg_step hl14 hb14]
                exact hN2 _ (Up.to [(1, .loc (1, 1, 0) 0 0), (3, .ref (4, 3, 0) out_3'.length), (4, .int .i64 g_4), (12, .sl p_0.fTargets.length (p_0.fTargets.flatMap cTarget)), (13, .int .i64 (p_0.fTargets.length : Int)), (14, .int .i64 ((i14 + 1 : Nat) : Int))] [((1, 1, 0), ⟨none, 0, [.str p_0.fName, .sl p_0.fTargets.length (p_0.fTargets.flatMap cTarget)]⟩), ((4, 3, 0), ⟨some (3, 1), out_3'.length, out_3'.flatMap cI⟩)] 7 ⟨post14.length, Nat.lt_succ_self _, post14, i14 + 1, out_3', rfl, rg_next hl14, hb14, h, rfl⟩)
            | false =>
              replace h := if_f hg2 h
              simp only [go_sem, rg_cons hl14, rg_step hl14 hb14]
              refine UpC.here ?_
              simp only [go_sem, rg_cons hl14, rg_step hl14 hb14]
              exact hN2 _ (Up.to [(1, .loc (1, 1, 0) 0 0), (3, .ref (4, 3, 0) out_3'.length), (4, .int .i64 g_4), (12, .sl p_0.fTargets.length (p_0.fTargets.flatMap cTarget)), (13, .int .i64 (p_0.fTargets.length : Int)), (14, .int .i64 ((i14 + 1 : Nat) : Int))] [((1, 1, 0), ⟨none, 0, [.str p_0.fName, .sl p_0.fTargets.length (p_0.fTargets.flatMap cTarget)]⟩), ((4, 3, 0), ⟨some (3, 1), out_3'.length, out_3'.flatMap cI⟩)] 7 ⟨post14.length, Nat.lt_succ_self _, post14, i14 + 1, out_3', rfl, rg_next hl14, hb14, h, rfl⟩)
      | false =>
        replace h := if_f hg1 h
        simp only [go_sem]
        refine hE1 _ _ ?_
        simp only [go_sem]
        refine UpC.here ?_
        replace h := Option.some.inj h
        subst h
        simp only [go_sem]

theorem spec_IsUp_ok {h_0 : THealth} {name_1 : Str} {r : (Bool × Bool)} (h : spec_IsUp h_0 name_1 = some r) : PC prog 84 [.agg [.int .i64 h_0.fRise, .int .i64 h_0.fFall, .sl h_0.fHosts.length (h_0.fHosts.flatMap cHost)], .str name_1] (.tup [.bool r.1, .bool r.2]) := by
  refine PC.intro (rs := [.tmp 4, .tmp 5]) func84 rfl rfl mx (by rfl) (by rfl) (by rw [ntmps84]; simp) ?_
  rw [spec_IsUp] at h
  rw [pwp_start]
  simp only [go_sem, st0]
  refine pwp_plain rfl ?_
  simp only [go_sem]
  obtain ⟨y1, hy1, h⟩ := bind_i h
  refine CallS.pcs (spec_GoodHealth_ok hy1) rfl ?_
  simp only [go_sem]
  cases hg2 : (!y1) with
  | true =>
    replace h := if_t hg2 h
    replace h := Option.some.inj h
    subst h
    simp only [go_sem]
  | false =>
    replace h := if_f hg2 h
    simp only [go_sem]
    refine UpC.here ?_
    refine pwp_plain rfl ?_
    simp only [go_sem]
    refine loopG_i (fun m s => ∃ (post14 : List THost) (i14 : Nat), m = post14.length ∧ Rg h_0.fHosts i14 post14 ∧ h_0.fHosts.length ≤ 9223372036854775807 ∧ spec_IsUp_L1 name_1 post14 i14 = some r ∧ s = ⟨frL [(1, .str name_1), (12, .sl h_0.fHosts.length (h_0.fHosts.flatMap cHost)), (13, .int .i64 (h_0.fHosts.length : Int)), (14, .int .i64 (i14 : Int))], hL [], 4⟩) h_0.fHosts.length (Up.bound 12 h_0.fHosts.length (h_0.fHosts.flatMap cHost) (by simp only [go_sem]) (fun hb => ?_)) ?_
    · exact Up.to [(1, .str name_1), (12, .sl h_0.fHosts.length (h_0.fHosts.flatMap cHost)), (13, .int .i64 (h_0.fHosts.length : Int)), (14, .int .i64 ((0 : Nat) : Int))] [] 4 ⟨_, 0, rfl, rg_0 _, hb, h, rfl⟩
    · rintro Q1 _ _ ⟨post14, i14, rfl, hl14, hb14, h, rfl⟩ hN1 hR1 hE1
      cases post14 with
      | nil =>
        rw [spec_IsUp_L1] at h
        simp only [go_sem, rg_nil hl14]
        refine pwp_plain rfl ?_
        simp only [go_sem, rg_nil hl14]
        refine hE1 _ _ ?_
        simp only [go_sem, rg_nil hl14]
        refine UpC.here ?_
        replace h := Option.some.inj h
        subst h
        simp only [go_sem, rg_nil hl14]
      | cons e14 post14 =>
        rw [spec_IsUp_L1] at h
        simp only [go_sem, rg_cons hl14, rg_step hl14 hb14]
        refine pwp_plain rfl ?_
        simp only [go_sem, rg_cons hl14, rg_step hl14 hb14]
        refine UpC.here ?_
        refine pwp_plain rfl ?_
        simp only [go_sem, rg_cons hl14, rg_step hl14 hb14]
        refine evE_round hl14 cHost_len (by decide) (fun rest => ?_)
        simp only [go_sem, rg_cons hl14, rg_step hl14 hb14]
        cases hg3 : (e14.fName == name_1) with
        | true =>
          replace h := if_t hg3 h
          simp only [go_sem, rg_cons hl14, rg_step hl14 hb14]
          refine hR1 _ ?_
          replace h := Option.some.inj h
          subst h
          simp only [go_sem, rg_cons hl14, rg_step hl14 hb14]
        | false =>
          replace h := if_f hg3 h
          simp only [go_sem, rg_cons hl14, rg_step hl14 hb14]
          refine UpC.here ?_
          simp only [go_sem, rg_cons hl14, rg_step hl14 hb14]
          exact hN1 _ (Up.to [(1, .str name_1), (12, .sl h_0.fHosts.length (h_0.fHosts.flatMap cHost)), (13, .int .i64 (h_0.fHosts.length : Int)), (14, .int .i64 ((i14 + 1 : Nat) : Int))] [] 4 ⟨post14.length, Nat.lt_succ_self _, post14, i14 + 1, rfl, rg_next hl14, hb14, h, rfl⟩)

theorem spec_l14Well_ok {h_0 : THealth} {host_1 : Str} {r : Bool} (h : spec_l14Well h_0 host_1 = some r) : PC prog 57 [.agg [.int .i64 h_0.fRise, .int .i64 h_0.fFall, .sl h_0.fHosts.length (h_0.fHosts.flatMap cHost)], .str host_1] (.bool r) := by
  refine PC.intro (rs := [.tmp 4]) func57 rfl rfl mx (by rfl) (by rfl) (by rw [ntmps57]; simp) ?_
  rw [spec_l14Well] at h
  rw [pwp_start]
  simp only [go_sem, st0]
  obtain ⟨y1, hy1, h⟩ := bind_i h
  refine CallS.pcs (spec_IsUp_ok hy1) rfl ?_
  simp only [go_sem]
  cases hg2 : y1.1 with
  | true =>
    replace h := if_t hg2 h
    replace h := Option.some.inj h
    subst h
    simp only [go_sem]
  | false =>
    replace h := if_f hg2 h
    replace h := Option.some.inj h
    subst h
    simp only [go_sem]

theorem spec_l14Group_ok {p_0 : TPolicy} {h_1 : THealth} {r : Int} (h : spec_l14Group p_0 h_1 = some r) : PC prog 56 [.agg [.str p_0.fName, .sl p_0.fTargets.length (p_0.fTargets.flatMap cTarget)], .agg [.int .i64 h_1.fRise, .int .i64 h_1.fFall, .sl h_1.fHosts.length (h_1.fHosts.flatMap cHost)]] (.int .i64 r) := by
  refine PC.intro (rs := [.tmp 4]) func56 rfl rfl mx (by rfl) (by rfl) (by rw [ntmps56]; simp) ?_
  rw [spec_l14Group] at h
  rw [pwp_start]
  simp only [go_sem, st0]
  refine pwp_join rfl (fun s => spec_l14Group_K1 p_0 = some r ∧ s = ⟨frL [(2, .loc (1, 2, 0) 0 0)], hL [((1, 2, 0), ⟨none, 0, [.str p_0.fName, .sl p_0.fTargets.length (p_0.fTargets.flatMap cTarget)]⟩)], 4⟩) (fun J hJ => ?_) ?_
  · simp only [go_sem]
    obtain ⟨y3, hy3, h⟩ := bind_i h
    refine CallS.pcs (spec_l14Groups_ok hy3) rfl ?_
    simp only [go_sem]
    refine loopG_i (fun m s => ∃ (post12 : List Int) (i12 : Nat), m = post12.length ∧ Rg y3 i12 post12 ∧ y3.length ≤ 9223372036854775807 ∧ spec_l14Group_L1 p_0 h_1 post12 i12 = some r ∧ s = ⟨frL [(2, .loc (1, 2, 0) 0 0), (3, .loc (1, 3, 0) 0 0), (10, .sl y3.length (y3.flatMap cI)), (11, .int .i64 (y3.length : Int)), (12, .int .i64 (i12 : Int))], hL [((1, 2, 0), ⟨none, 0, [.str p_0.fName, .sl p_0.fTargets.length (p_0.fTargets.flatMap cTarget)]⟩), ((1, 3, 0), ⟨none, 0, [.int .i64 h_1.fRise, .int .i64 h_1.fFall, .sl h_1.fHosts.length (h_1.fHosts.flatMap cHost)]⟩)], 3⟩) y3.length (Up.bound 10 y3.length (y3.flatMap cI) (by simp only [go_sem]) (fun hb => ?_)) ?_
    · exact Up.to [(2, .loc (1, 2, 0) 0 0), (3, .loc (1, 3, 0) 0 0), (10, .sl y3.length (y3.flatMap cI)), (11, .int .i64 (y3.length : Int)), (12, .int .i64 ((0 : Nat) : Int))] [((1, 2, 0), ⟨none, 0, [.str p_0.fName, .sl p_0.fTargets.length (p_0.fTargets.flatMap cTarget)]⟩), ((1, 3, 0), ⟨none, 0, [.int .i64 h_1.fRise, .int .i64 h_1.fFall, .sl h_1.fHosts.length (h_1.fHosts.flatMap cHost)]⟩)] 3 ⟨_, 0, rfl, rg_0 _, hb, h, rfl⟩
    · rintro Q1 _ _ ⟨post12, i12, rfl, hl12, hb12, h, rfl⟩ hN1 hR1 hE1
      cases post12 with
      | nil =>
        rw [spec_l14Group_L1] at h
        simp only [go_sem, rg_nil hl12]
        refine pwp_plain rfl ?_
        simp only [go_sem, rg_nil hl12]
        refine hE1 _ _ ?_
        simp only [go_sem, rg_nil hl12]
        refine join_n ?_
        exact Up.to [(2, .loc (1, 2, 0) 0 0)] [((1, 2, 0), ⟨none, 0, [.str p_0.fName, .sl p_0.fTargets.length (p_0.fTargets.flatMap cTarget)]⟩)] 4 (hJ _ ⟨h, rfl⟩)
      | cons e12 post12 =>
        rw [spec_l14Group_L1] at h
        simp only [go_sem, rg_cons hl12, rg_step hl12 hb12]
        refine pwp_plain rfl ?_
        simp only [go_sem, rg_cons hl12, rg_step hl12 hb12]
        refine UpC.here ?_
        refine pwp_plain rfl ?_
        simp only [go_sem, rg_cons hl12, rg_step hl12 hb12]
        refine evE_round hl12 cI_len (by decide) (fun rest => ?_)
        simp only [go_sem, rg_cons hl12, rg_step hl12 hb12]
        refine loopG_i (fun m s => ∃ (post19 : List TTarget) (i19 : Nat), m = post19.length ∧ Rg p_0.fTargets i19 post19 ∧ p_0.fTargets.length ≤ 9223372036854775807 ∧ spec_l14Group_L2 h_1 i12 e12 (spec_l14Group_L1 p_0 h_1 post12) post19 i19 = some r ∧ s = ⟨frL [(2, .loc (1, 2, 0) 0 0), (3, .loc (1, 3, 0) 0 0), (6, .int .i64 e12), (10, .sl y3.length (y3.flatMap cI)), (11, .int .i64 (y3.length : Int)), (12, .int .i64 (i12 : Int)), (17, .sl p_0.fTargets.length (p_0.fTargets.flatMap cTarget)), (18, .int .i64 (p_0.fTargets.length : Int)), (19, .int .i64 (i19 : Int))], hL [((1, 2, 0), ⟨none, 0, [.str p_0.fName, .sl p_0.fTargets.length (p_0.fTargets.flatMap cTarget)]⟩), ((1, 3, 0), ⟨none, 0, [.int .i64 h_1.fRise, .int .i64 h_1.fFall, .sl h_1.fHosts.length (h_1.fHosts.flatMap cHost)]⟩)], 6⟩) p_0.fTargets.length (Up.bound 17 p_0.fTargets.length (p_0.fTargets.flatMap cTarget) (by simp only [go_sem]) (fun hb => ?_)) ?_
        · exact Up.to [(2, .loc (1, 2, 0) 0 0), (3, .loc (1, 3, 0) 0 0), (6, .int .i64 e12), (10, .sl y3.length (y3.flatMap cI)), (11, .int .i64 (y3.length : Int)), (12, .int .i64 (i12 : Int)), (17, .sl p_0.fTargets.length (p_0.fTargets.flatMap cTarget)), (18, .int .i64 (p_0.fTargets.length : Int)), (19, .int .i64 ((0 : Nat) : Int))] [((1, 2, 0), ⟨none, 0, [.str p_0.fName, .sl p_0.fTargets.length (p_0.fTargets.flatMap cTarget)]⟩), ((1, 3, 0), ⟨none, 0, [.int .i64 h_1.fRise, .int .i64 h_1.fFall, .sl h_1.fHosts.length (h_1.fHosts.flatMap cHost)]⟩)] 6 ⟨_, 0, rfl, rg_0 _, hb, h, rfl⟩
        · rintro Q2 _ _ ⟨post19, i19, rfl, hl19, hb19, h, rfl⟩ hN2 hR2 hE2
          cases post19 with
          | nil =>
            rw [spec_l14Group_L2] at h
            simp only [go_sem, rg_cons hl12, rg_step hl12 hb12, rg_nil hl19]
            refine pwp_plain rfl ?_
            simp only [go_sem, rg_cons hl12, rg_step hl12 hb12, rg_nil hl19]
            refine hE2 _ _ ?_
            simp only [go_sem, rg_cons hl12, rg_step hl12 hb12, rg_nil hl19]
            refine UpC.here ?_
            simp only [go_sem, rg_cons hl12, rg_step hl12 hb12, rg_nil hl19]
            exact hN1 _ (Up.to [(2, .loc (1, 2, 0) 0 0), (3, .loc (1, 3, 0) 0 0), (10, .sl y3.length (y3.flatMap cI)), (11, .int .i64 (y3.length : Int)), (12, .int .i64 ((i12 + 1 : Nat) : Int))] [((1, 2, 0), ⟨none, 0, [.str p_0.fName, .sl p_0.fTargets.length (p_0.fTargets.flatMap cTarget)]⟩), ((1, 3, 0), ⟨none, 0, [.int .i64 h_1.fRise, .int .i64 h_1.fFall, .sl h_1.fHosts.length (h_1.fHosts.flatMap cHost)]⟩)] 3 ⟨post12.length, Nat.lt_succ_self _, post12, i12 + 1, rfl, rg_next hl12, hb12, h, rfl⟩)
          | cons e19 post19 =>
            rw [spec_l14Group_L2] at h
            simp only [go_sem, rg_cons hl12, rg_step hl12 hb12, rg_cons hl19, rg_step hl19 hb19]
            refine pwp_plain rfl ?_
            simp only [go_sem, rg_cons hl12, rg_step hl12 hb12, rg_cons hl19, rg_step hl19 hb19]
            refine UpC.here ?_
            refine pwp_plain rfl ?_
            simp only [go_sem, rg_cons hl12, rg_step hl12 hb12, rg_cons hl19, rg_step hl19 hb19]
            refine evE_round hl19 cTarget_len (by decide) (fun rest => ?_)
            simp only [go_sem, rg_cons hl12, rg_step hl12 hb12, rg_cons hl19, rg_step hl19 hb19]
            cases hg4 : (e19.fGroup == e12) with
            | true =>
              replace h := if_t hg4 h
              simp only [go_sem, rg_cons hl12, rg_step hl12 hb12, rg_cons hl19, rg_step hl19 hb19]
              obtain ⟨y5, hy5, h⟩ := bind_i h
              refine CallS.pcs (spec_l14Well_ok hy5) rfl ?_
              simp only [go_sem, rg_cons hl12, rg_step hl12 hb12, rg_cons hl19, rg_step hl19 hb19]
              cases hg6 : y5 with
              | true =>
                replace h := if_t hg6 h
                simp only [go_sem, rg_cons hl12, rg_step hl12 hb12, rg_cons hl19, rg_step hl19 hb19]
                refine hR2 _ ?_
                simp only [go_sem, rg_cons hl12, rg_step hl12 hb12, rg_cons hl19, rg_step hl19 hb19]
                refine hR1 _ ?_
                replace h := Option.some.inj h
                subst h
                simp only [go_sem, rg_cons hl12, rg_step hl12 hb12, rg_cons hl19, rg_step hl19 hb19]
              | false =>
                replace h := if_f hg6 h
                simp only [go_sem, rg_cons hl12, rg_step hl12 hb12, rg_cons hl19, rg_step hl19 hb19]
                refine UpC.here ?_
                simp only [go_sem, rg_cons hl12, rg_step hl12 hb12, rg_cons hl19, rg_step hl19 hb19]
                exact hN2 _ (Up.to [(2, .loc (1, 2, 0) 0 0), (3, .loc (1, 3, 0) 0 0), (6, .int .i64 e12), (10, .sl y3.length (y3.flatMap cI)), (11, .int .i64 (y3.length : Int)), (12, .int .i64 (i12 : Int)), (17, .sl p_0.fTargets.length (p_0.fTargets.flatMap cTarget)), (18, .int .i64 (p_0.fTargets.length : Int)), (19, .int .i64 ((i19 + 1 : Nat) : Int))] [((1, 2, 0), ⟨none, 0, [.str p_0.fName, .sl p_0.fTargets.length (p_0.fTargets.flatMap cTarget)]⟩), ((1, 3, 0), ⟨none, 0, [.int .i64 h_1.fRise, .int .i64 h_1.fFall, .sl h_1.fHosts.length (h_1.fHosts.flatMap cHost)]⟩)] 6 ⟨post19.length, Nat.lt_succ_self _, post19, i19 + 1, rfl, rg_next hl19, hb19, h, rfl⟩)
            | false =>
              replace h := if_f hg4 h
              simp only [go_sem, rg_cons hl12, rg_step hl12 hb12, rg_cons hl19, rg_step hl19 hb19]
              refine UpC.here ?_
              simp only [go_sem, rg_cons hl12, rg_step hl12 hb12, rg_cons hl19, rg_step hl19 hb19]
              exact hN2 _ (Up.to [(2, .loc (1, 2, 0) 0 0), (3, .loc (1, 3, 0) 0 0), (6, .int .i64 e12), (10, .sl y3.length (y3.flatMap cI)), (11, .int .i64 (y3.length : Int)), (12, .int .i64 (i12 : Int)), (17, .sl p_0.fTargets.length (p_0.fTargets.flatMap cTarget)), (18, .int .i64 (p_0.fTargets.length : Int)), (19, .int .i64 ((i19 + 1 : Nat) : Int))] [((1, 2, 0), ⟨none, 0, [.str p_0.fName, .sl p_0.fTargets.length (p_0.fTargets.flatMap cTarget)]⟩), ((1, 3, 0), ⟨none, 0, [.int .i64 h_1.fRise, .int .i64 h_1.fFall, .sl h_1.fHosts.length (h_1.fHosts.flatMap cHost)]⟩)] 6 ⟨post19.length, Nat.lt_succ_self _, post19, i19 + 1, rfl, rg_next hl19, hb19, h, rfl⟩)
  · rintro _ ⟨h, rfl⟩
    rw [spec_l14Group_K1] at h
    simp only [go_sem]
    obtain ⟨y1, hy1, h⟩ := bind_i h
    refine CallS.pcs (spec_l14Groups_ok hy1) rfl ?_
    simp only [go_sem]
    obtain ⟨e2, he2, h⟩ := bind_i h
    refine evE_index he2 cI_len (by decide) (fun rest => ?_)
    replace h := Option.some.inj h
    subst h
    simp only [go_sem]

theorem spec_l14Candidates_ok {p_0 : TPolicy} {h_1 : THealth} {r : (List Int)} (h : spec_l14Candidates p_0 h_1 = some r) : PC prog 31 [.agg [.str p_0.fName, .sl p_0.fTargets.length (p_0.fTargets.flatMap cTarget)], .agg [.int .i64 h_1.fRise, .int .i64 h_1.fFall, .sl h_1.fHosts.length (h_1.fHosts.flatMap cHost)]] (.sl r.length (r.flatMap cI)) := by
  refine PC.intro (rs := [.tmp 4]) func31 rfl rfl mx (by rfl) (by rfl) (by rw [ntmps31]; simp) ?_
  rw [spec_l14Candidates] at h
  rw [pwp_start]
  simp only [go_sem, st0]
  obtain ⟨y1, hy1, h⟩ := bind_i h
  refine CallS.pcs (spec_l14Group_ok hy1) rfl ?_
  simp only [go_sem]
  refine pwp_join rfl (fun s => ∃ (well_6 : List Int) (all_7 : List Int), spec_l14Candidates_K1 well_6 all_7 = some r ∧ s = ⟨frL [(6, .sl well_6.length (well_6.flatMap cI)), (7, .sl all_7.length (all_7.flatMap cI))], hL [], 9⟩) (fun J hJ => ?_) ?_
  · simp only [go_sem]
    refine loopG_i (fun m s => ∃ (post16 : List TTarget) (i16 : Nat) (well_6 : List Int) (all_7 : List Int), m = post16.length ∧ Rg p_0.fTargets i16 post16 ∧ p_0.fTargets.length ≤ 9223372036854775807 ∧ spec_l14Candidates_L1 h_1 y1 post16 i16 well_6 all_7 = some r ∧ s = ⟨frL [(3, .loc (1, 3, 0) 0 0), (5, .int .i64 y1), (6, .ref (6, 6, 0) well_6.length), (7, .ref (7, 7, 0) all_7.length), (14, .sl p_0.fTargets.length (p_0.fTargets.flatMap cTarget)), (15, .int .i64 (p_0.fTargets.length : Int)), (16, .int .i64 (i16 : Int))], hL [((1, 3, 0), ⟨none, 0, [.int .i64 h_1.fRise, .int .i64 h_1.fFall, .sl h_1.fHosts.length (h_1.fHosts.flatMap cHost)]⟩), ((6, 6, 0), ⟨some (3, 1), well_6.length, well_6.flatMap cI⟩), ((7, 7, 0), ⟨some (3, 1), all_7.length, all_7.flatMap cI⟩)], 8⟩) p_0.fTargets.length (Up.bound 14 p_0.fTargets.length (p_0.fTargets.flatMap cTarget) (by simp only [go_sem]) (fun hb => ?_)) ?_
    · refine Up.own 6 3 1 (by simp only [go_sem]) (by decide) ?_
      refine Up.own 7 3 1 (by simp only [go_sem]) (by decide) ?_
      exact Up.to [(3, .loc (1, 3, 0) 0 0), (5, .int .i64 y1), (6, .ref (6, 6, 0) ([] : List Int).length), (7, .ref (7, 7, 0) ([] : List Int).length), (14, .sl p_0.fTargets.length (p_0.fTargets.flatMap cTarget)), (15, .int .i64 (p_0.fTargets.length : Int)), (16, .int .i64 ((0 : Nat) : Int))] [((1, 3, 0), ⟨none, 0, [.int .i64 h_1.fRise, .int .i64 h_1.fFall, .sl h_1.fHosts.length (h_1.fHosts.flatMap cHost)]⟩), ((6, 6, 0), ⟨some (3, 1), ([] : List Int).length, ([] : List Int).flatMap cI⟩), ((7, 7, 0), ⟨some (3, 1), ([] : List Int).length, ([] : List Int).flatMap cI⟩)] 8 ⟨_, 0, _, _, rfl, rg_0 _, hb, h, rfl⟩
    · rintro Q1 _ _ ⟨post16, i16, well_6, all_7, rfl, hl16, hb16, h, rfl⟩ hN1 hR1 hE1
      cases post16 with
      | nil =>
        rw [spec_l14Candidates_L1] at h
        simp only [go_sem, rg_nil hl16]
        refine pwp_plain rfl ?_
        simp only [go_sem, rg_nil hl16]
        refine hE1 _ _ ?_
        simp only [go_sem, rg_nil hl16]
        refine join_n ?_
        exact Up.cutS [((6, 6, 0), ⟨some (3, 1), well_6.length, well_6.flatMap cI⟩), ((7, 7, 0), ⟨some (3, 1), all_7.length, all_7.flatMap cI⟩)] [(6, .sl well_6.length (well_6.flatMap cI)), (7, .sl all_7.length (all_7.flatMap cI))] [] 9 (hJ _ ⟨well_6, all_7, h, rfl⟩)
      | cons e16 post16 =>
        rw [spec_l14Candidates_L1] at h
        simp only [go_sem, rg_cons hl16, rg_step hl16 hb16]
        refine pwp_plain rfl ?_
        simp only [go_sem, rg_cons hl16, rg_step hl16 hb16]
        refine UpC.here ?_
        refine pwp_plain rfl ?_
        simp only [go_sem, rg_cons hl16, rg_step hl16 hb16]
        refine evE_round hl16 cTarget_len (by decide) (fun rest => ?_)
        simp only [go_sem, rg_cons hl16, rg_step hl16 hb16]
        refine pwp_plain rfl ?_
        simp only [go_sem, rg_cons hl16, rg_step hl16 hb16]
        cases hg3 : (e16.fGroup != y1) with
        | true =>
          replace h := if_t hg3 h
          simp only [go_sem, rg_cons hl16, rg_step hl16 hb16]
          refine UpC.here ?_
          simp only [go_sem, rg_cons hl16, rg_step hl16 hb16]
          exact hN1 _ (Up.to [(3, .loc (1, 3, 0) 0 0), (5, .int .i64 y1), (6, .ref (6, 6, 0) well_6.length), (7, .ref (7, 7, 0) all_7.length), (14, .sl p_0.fTargets.length (p_0.fTargets.flatMap cTarget)), (15, .int .i64 (p_0.fTargets.length : Int)), (16, .int .i64 ((i16 + 1 : Nat) : Int))] [((1, 3, 0), ⟨none, 0, [.int .i64 h_1.fRise, .int .i64 h_1.fFall, .sl h_1.fHosts.length (h_1.fHosts.flatMap cHost)]⟩), ((6, 6, 0), ⟨some (3, 1), well_6.length, well_6.flatMap cI⟩), ((7, 7, 0), ⟨some (3, 1), all_7.length, all_7.flatMap cI⟩)] 8 ⟨post16.length, Nat.lt_succ_self _, post16, i16 + 1, well_6, all_7, rfl, rg_next hl16, hb16, h, rfl⟩)
        | false =>
          replace h := if_f hg3 h
          simp only [go_sem, rg_cons hl16, rg_step hl16 hb16]
          refine UpC.here ?_
          simp only [go_sem, rg_cons hl16, rg_step hl16 hb16]
          obtain ⟨x4, hx4, h⟩ := bind_i h
          refine evE_app hx4 cI_len (by decide) (by simp only [go_sem]) rfl rfl (by simp only [go_sem]; rfl) rfl rfl ?_
          simp only [go_sem, rg_cons hl16, rg_step hl16 hb16]
          obtain ⟨y5, hy5, h⟩ := bind_i h
          refine CallS.pcs (spec_l14Well_ok hy5) rfl ?_
          simp only [go_sem, rg_cons hl16, rg_step hl16 hb16]
          cases hg6 : y5 with
          | true =>
            replace h := if_t hg6 h
            simp only [go_sem, rg_cons hl16, rg_step hl16 hb16]
            obtain ⟨x7, hx7, h⟩ := bind_i h
            refine evE_app hx7 cI_len (by decide) (by simp only [go_sem]) rfl rfl (by simp only [go_sem]; rfl) rfl rfl ?_
            simp only [go_sem, rg_cons hl16, rg_step hl16 hb16]
            refine UpC.here ?_
            simp only [go_sem, rg_cons hl16, rg_step hl16 hb16]
            exact hN1 _ (Up.to [(3, .loc (1, 3, 0) 0 0), (5, .int .i64 y1), (6, .ref (6, 6, 0) x7.length), (7, .ref (7, 7, 0) x4.length), (14, .sl p_0.fTargets.length (p_0.fTargets.flatMap cTarget)), (15, .int .i64 (p_0.fTargets.length : Int)), (16, .int .i64 ((i16 + 1 : Nat) : Int))] [((1, 3, 0), ⟨none, 0, [.int .i64 h_1.fRise, .int .i64 h_1.fFall, .sl h_1.fHosts.length (h_1.fHosts.flatMap cHost)]⟩), ((6, 6, 0), ⟨some (3, 1), x7.length, x7.flatMap cI⟩), ((7, 7, 0), ⟨some (3, 1), x4.length, x4.flatMap cI⟩)] 8 ⟨post16.length, Nat.lt_succ_self _, post16, i16 + 1, x7, x4, rfl, rg_next hl16, hb16, h, rfl⟩)
          | false =>
            replace h := if_f hg6 h
            simp only [go_sem, rg_cons hl16, rg_step hl16 hb16]
            refine UpC.here ?_
            simp only [go_sem, rg_cons hl16, rg_step hl16 hb16]
            exact hN1 _ (Up.to [(3, .loc (1, 3, 0) 0 0), (5, .int .i64 y1), (6, .ref (6, 6, 0) well_6.length), (7, .ref (7, 7, 0) x4.length), (14, .sl p_0.fTargets.length (p_0.fTargets.flatMap cTarget)), (15, .int .i64 (p_0.fTargets.length : Int)), (16, .int .i64 ((i16 + 1 : Nat) : Int))] [((1, 3, 0), ⟨none, 0, [.int .i64 h_1.fRise, .int .i64 h_1.fFall, .sl h_1.fHosts.length (h_1.fHosts.flatMap cHost)]⟩), ((6, 6, 0), ⟨some (3, 1), well_6.length, well_6.flatMap cI⟩), ((7, 7, 0), ⟨some (3, 1), x4.length, x4.flatMap cI⟩)] 8 ⟨post16.length, Nat.lt_succ_self _, post16, i16 + 1, well_6, x4, rfl, rg_next hl16, hb16, h, rfl⟩)
  · rintro _ ⟨well_6, all_7, h, rfl⟩
    rw [spec_l14Candidates_K1] at h
    simp only [go_sem]
    refine pwp_plain rfl ?_
    simp only [go_sem]
    cases hg2 : ((well_6.length : Int) == 0) with
    | true =>
      replace h := if_t hg2 h
      replace h := Option.some.inj h
      subst h
      simp only [go_sem]
    | false =>
      replace h := if_f hg2 h
      simp only [go_sem]
      refine UpC.here ?_
      replace h := Option.some.inj h
      subst h
      simp only [go_sem]

theorem spec_CandidatesOf_ok {p_0 : TPolicy} {h_1 : THealth} {r : ((List Int) × Bool)} (h : spec_CandidatesOf p_0 h_1 = some r) : PC prog 9 [.agg [.str p_0.fName, .sl p_0.fTargets.length (p_0.fTargets.flatMap cTarget)], .agg [.int .i64 h_1.fRise, .int .i64 h_1.fFall, .sl h_1.fHosts.length (h_1.fHosts.flatMap cHost)]] (.tup [.sl r.1.length (r.1.flatMap cI), .bool r.2]) := by
  refine PC.intro (rs := [.tmp 4, .tmp 5]) func9 rfl rfl mx (by rfl) (by rfl) (by rw [ntmps9]; simp) ?_
  rw [spec_CandidatesOf] at h
  rw [pwp_start]
  simp only [go_sem, st0]
  refine pwp_plain rfl ?_
  simp only [go_sem]
  obtain ⟨y1, hy1, h⟩ := bind_i h
  refine CallS.pcs (spec_GoodPolicy_ok hy1) rfl ?_
  simp only [go_sem]
  cases hg2 : (!y1) with
  | true =>
    replace h := if_t hg2 h
    replace h := Option.some.inj h
    subst h
    simp only [go_sem]
  | false =>
    replace h := if_f hg2 h
    simp only [go_sem]
    obtain ⟨y3, hy3, h⟩ := bind_i h
    refine CallS.pcs (spec_GoodHealth_ok hy3) rfl ?_
    simp only [go_sem]
    cases hg4 : (!y3) with
    | true =>
      replace h := if_t hg4 h
      replace h := Option.some.inj h
      subst h
      simp only [go_sem]
    | false =>
      replace h := if_f hg4 h
      simp only [go_sem]
      refine UpC.here ?_
      simp only [go_sem]
      obtain ⟨y5, hy5, h⟩ := bind_i h
      refine CallS.pcs (spec_l14Candidates_ok hy5) rfl ?_
      replace h := Option.some.inj h
      subst h
      simp only [go_sem]

theorem impl_labelsOf_ok {s_0 : Str} {r : (List Str)} (h : impl_labelsOf s_0 = some r) : PC prog 85 [.str s_0] (.sl r.length (r.flatMap cS)) := by
  refine PC.intro (rs := [.tmp 2]) func85 rfl rfl mx (by rfl) (by rfl) (by rw [ntmps85]; simp) ?_
  rw [impl_labelsOf] at h
  rw [pwp_start]
  simp only [go_sem, st0]
  refine pwp_plain rfl ?_
  simp only [go_sem]
  cases hg1 : (s_0 == ([] : Str)) with
  | true =>
    replace h := if_t hg1 h
    replace h := Option.some.inj h
    subst h
    simp only [go_sem]
  | false =>
    replace h := if_f hg1 h
    simp only [go_sem]
    refine UpC.here ?_
    simp only [go_sem]
    obtain ⟨y2, hy2, h⟩ := bind_i h
    refine CallS.pcs (strings_Split_ok hy2) rfl ?_
    replace h := Option.some.inj h
    subst h
    simp only [go_sem]

theorem slices_IndexFunc_string_string_ok {s_0 : (List Str)} {f_1 : Str → Option Bool} {g_1 : Nat} {caps_1 : List PV} (hc1 : canonL caps_1 = true) (hF1 : ∀ q0 q, f_1 q0 = some q → PC prog g_1 (.str q0 :: caps_1) (.bool q)) {r : Int} (h : slices_IndexFunc_string_string s_0 f_1 = some r) : PC prog 105 [.sl s_0.length (s_0.flatMap cS), .fn g_1 caps_1] (.int .i64 r) := by
  refine PC.intro (rs := [.tmp 4]) func105 rfl rfl mx (by rfl) (by rfl) (by rw [ntmps105]; simp) ?_
  rw [slices_IndexFunc_string_string] at h
  rw [pwp_start]
  simp only [go_sem, st0]
  refine pwp_plain rfl ?_
  simp only [go_sem]
  refine loopG_i (fun m s => ∃ (v_8 : Int), slices_IndexFunc_string_string_L1 s_0 f_1 m v_8 = some r ∧ s = ⟨frL [(0, .sl s_0.length (s_0.flatMap cS)), (1, .fn g_1 caps_1), (7, .int .i64 (s_0.length : Int)), (8, .int .i64 v_8)], hL [], 3⟩) FU ?_ ?_
  · exact Up.to [(0, .sl s_0.length (s_0.flatMap cS)), (1, .fn g_1 caps_1), (7, .int .i64 (s_0.length : Int)), (8, .int .i64 0)] [] 3 (h3 := by simp only [go_sem, inNL_settled _ _ (canonL_settled _ hc1)]) ⟨_, h, rfl⟩
  · rintro Q1 fu1 _ ⟨v_8, h, rfl⟩ hN1 hR1 hE1
    cases fu1 with
    | zero =>
      rw [slices_IndexFunc_string_string_L1] at h; cases h
    | succ fu1 =>
      rw [slices_IndexFunc_string_string_L1] at h
      simp only [go_sem]
      refine pwp_plain rfl ?_
      simp only [go_sem]
      cases hg1 : (decide (v_8 < (s_0.length : Int))) with
      | true =>
        replace h := if_t hg1 h
        simp only [go_sem]
        refine UpC.here ?_
        refine pwp_plain rfl ?_
        simp only [go_sem]
        obtain ⟨e2, he2, h⟩ := bind_i h
        refine evE_index he2 cS_len (by decide) (fun rest => ?_)
        simp only [go_sem]
        obtain ⟨y3, hy3, h⟩ := bind_i h
        refine CallS.pcs (hF1 _ _ hy3) (by simp only [go_sem, hc1]) ?_
        simp only [go_sem]
        cases hg4 : y3 with
        | true =>
          replace h := if_t hg4 h
          simp only [go_sem]
          refine hR1 _ ?_
          replace h := Option.some.inj h
          subst h
          simp only [go_sem]
        | false =>
          replace h := if_f hg4 h
          simp only [go_sem]
          refine UpC.here ?_
          simp only [go_sem]
          exact hN1 _ (Up.to [(0, .sl s_0.length (s_0.flatMap cS)), (1, .fn g_1 caps_1), (7, .int .i64 (s_0.length : Int)), (8, .int .i64 (IntKind.i64.wrap (v_8 + 1)))] [] 3 (h3 := by simp only [go_sem, inNL_settled _ _ (canonL_settled _ hc1)]) ⟨fu1, Nat.lt_succ_self _, (IntKind.i64.wrap (v_8 + 1)), h, rfl⟩)
      | false =>
        replace h := if_f hg1 h
        simp only [go_sem]
        refine hE1 _ _ ?_
        simp only [go_sem]
        refine UpC.here ?_
        replace h := Option.some.inj h
        subst h
        simp only [go_sem]

theorem slices_ContainsFunc_string_string_ok {s_0 : (List Str)} {f_1 : Str → Option Bool} {g_1 : Nat} {caps_1 : List PV} (hc1 : canonL caps_1 = true) (hF1 : ∀ q0 q, f_1 q0 = some q → PC prog g_1 (.str q0 :: caps_1) (.bool q)) {r : Bool} (h : slices_ContainsFunc_string_string s_0 f_1 = some r) : PC prog 86 [.sl s_0.length (s_0.flatMap cS), .fn g_1 caps_1] (.bool r) := by
  refine PC.intro (rs := [.tmp 4]) func86 rfl rfl mx (by rfl) (by rfl) (by rw [ntmps86]; simp) ?_
  rw [slices_ContainsFunc_string_string] at h
  rw [pwp_start]
  simp only [go_sem, st0]
  obtain ⟨y1, hy1, h⟩ := bind_i h
  refine CallS.pcs (slices_IndexFunc_string_string_ok hc1 hF1 hy1) (by simp only [go_sem, hc1]) ?_
  replace h := Option.some.inj h
  subst h
  simp only [go_sem]

theorem impl_within_ok {n_0 : Int} {low_1 : Int} {high_2 : Int} {r : Bool} (h : impl_within n_0 low_1 high_2 = some r) : PC prog 61 [.int .i64 n_0, .int .i64 low_1, .int .i64 high_2] (.bool r) := by
  refine PC.intro (rs := [.tmp 6]) func61 rfl rfl mx (by rfl) (by rfl) (by rw [ntmps61]; simp) ?_
  rw [impl_within] at h
  rw [pwp_start]
  simp only [go_sem, st0]
  cases hg1 : (decide (low_1 ≤ n_0)) with
  | true =>
    replace h := if_t hg1 h
    replace h := Option.some.inj h
    subst h
    simp only [go_sem]
  | false =>
    replace h := if_f hg1 h
    replace h := Option.some.inj h
    subst h
    simp only [go_sem]

theorem impl_isLabel_ok {s_0 : Str} {r : Bool} (h : impl_isLabel s_0 = some r) : PC prog 88 [.str s_0] (.bool r) := by
  refine PC.intro (rs := [.tmp 2]) func88 rfl rfl mx (by rfl) (by rfl) (by rw [ntmps88]; simp) ?_
  rw [impl_isLabel] at h
  rw [pwp_start]
  simp only [go_sem, st0]
  refine pwp_plain rfl ?_
  simp only [go_sem]
  cases hg1 : (s_0 == [42]) with
  | true =>
    replace h := if_t hg1 h
    replace h := Option.some.inj h
    subst h
    simp only [go_sem]
  | false =>
    replace h := if_f hg1 h
    simp only [go_sem]
    refine UpC.here ?_
    simp only [go_sem]
    obtain ⟨y2, hy2, h⟩ := bind_i h
    refine CallS.pcs (impl_within_ok hy2) rfl ?_
    simp only [go_sem]
    cases hg3 : y2 with
    | true =>
      replace h := if_t hg3 h
      simp only [go_sem]
      obtain ⟨y4, hy4, h⟩ := bind_i h
      refine CallS.pcs (strings_Trim_ok hy4) rfl ?_
      replace h := Option.some.inj h
      subst h
      simp only [go_sem]
    | false =>
      replace h := if_f hg3 h
      replace h := Option.some.inj h
      subst h
      simp only [go_sem]

theorem impl_GoodName_1_ok {label_0 : Str} {r : Bool} (h : impl_GoodName_1 label_0 = some r) : PC prog 87 [.str label_0] (.bool r) := by
  refine PC.intro (rs := [.tmp 2]) func87 rfl rfl mx (by rfl) (by rfl) (by rw [ntmps87]; simp) ?_
  rw [impl_GoodName_1] at h
  rw [pwp_start]
  simp only [go_sem, st0]
  obtain ⟨y1, hy1, h⟩ := bind_i h
  refine CallS.pcs (impl_isLabel_ok hy1) rfl ?_
  replace h := Option.some.inj h
  subst h
  simp only [go_sem]

theorem impl_GoodName_ok {s_0 : Str} {r : Bool} (h : impl_GoodName s_0 = some r) : PC prog 60 [.str s_0] (.bool r) := by
  refine PC.intro (rs := [.tmp 2]) func60 rfl rfl mx (by rfl) (by rfl) (by rw [ntmps60]; simp) ?_
  rw [impl_GoodName] at h
  rw [pwp_start]
  simp only [go_sem, st0]
  refine pwp_plain rfl ?_
  simp only [go_sem]
  cases hg1 : (decide (60 < (s_0.length : Int))) with
  | true =>
    replace h := if_t hg1 h
    replace h := Option.some.inj h
    subst h
    simp only [go_sem]
  | false =>
    replace h := if_f hg1 h
    simp only [go_sem]
    refine UpC.here ?_
    simp only [go_sem]
    obtain ⟨y2, hy2, h⟩ := bind_i h
    refine CallS.pcs (impl_labelsOf_ok hy2) rfl ?_
    simp only [go_sem]
    cases hg3 : (decide ((y2.length : Int) ≤ 8)) with
    | true =>
      replace h := if_t hg3 h
      simp only [go_sem]
      obtain ⟨y4, hy4, h⟩ := bind_i h
      refine CallS.pcs (slices_ContainsFunc_string_string_ok (g_1 := 87) (caps_1 := []) rfl (fun _ _ hq => impl_GoodName_1_ok hq) hy4) rfl ?_
      replace h := Option.some.inj h
      subst h
      simp only [go_sem]
    | false =>
      replace h := if_f hg3 h
      replace h := Option.some.inj h
      subst h
      simp only [go_sem]

theorem slices_IndexFunc_impl_Target_impl_Target_ok {s_0 : (List TTarget)} {f_1 : TTarget → Option Bool} {g_1 : Nat} {caps_1 : List PV} (hc1 : canonL caps_1 = true) (hF1 : ∀ q0 q, f_1 q0 = some q → PC prog g_1 (.agg [.str q0.fHost, .str q0.fData, .int .i64 q0.fGroup, .int .i64 q0.fWeight] :: caps_1) (.bool q)) {r : Int} (h : slices_IndexFunc_impl_Target_impl_Target s_0 f_1 = some r) : PC prog 89 [.sl s_0.length (s_0.flatMap cTarget), .fn g_1 caps_1] (.int .i64 r) := by
  refine PC.intro (rs := [.tmp 4]) func89 rfl rfl mx (by rfl) (by rfl) (by rw [ntmps89]; simp) ?_
  rw [slices_IndexFunc_impl_Target_impl_Target] at h
  rw [pwp_start]
  simp only [go_sem, st0]
  refine pwp_plain rfl ?_
  simp only [go_sem]
  refine loopG_i (fun m s => ∃ (v_8 : Int), slices_IndexFunc_impl_Target_impl_Target_L1 s_0 f_1 m v_8 = some r ∧ s = ⟨frL [(0, .sl s_0.length (s_0.flatMap cTarget)), (1, .fn g_1 caps_1), (7, .int .i64 (s_0.length : Int)), (8, .int .i64 v_8)], hL [], 3⟩) FU ?_ ?_
  · exact Up.to [(0, .sl s_0.length (s_0.flatMap cTarget)), (1, .fn g_1 caps_1), (7, .int .i64 (s_0.length : Int)), (8, .int .i64 0)] [] 3 (h3 := by simp only [go_sem, inNL_settled _ _ (canonL_settled _ hc1)]) ⟨_, h, rfl⟩
  · rintro Q1 fu1 _ ⟨v_8, h, rfl⟩ hN1 hR1 hE1
    cases fu1 with
    | zero =>
      rw [slices_IndexFunc_impl_Target_impl_Target_L1] at h; cases h
    | succ fu1 =>
      rw [slices_IndexFunc_impl_Target_impl_Target_L1] at h
      simp only [go_sem]
      refine pwp_plain rfl ?_
      simp only [go_sem]
      cases hg1 : (decide (v_8 < (s_0.length : Int))) with
      | true =>
        replace h := if_t hg1 h
        simp only [go_sem]
        refine UpC.here ?_
        refine pwp_plain rfl ?_
        simp only [go_sem]
        obtain ⟨e2, he2, h⟩ := bind_i h
        refine evE_index he2 cTarget_len (by decide) (fun rest => ?_)
        simp only [go_sem]
        obtain ⟨y3, hy3, h⟩ := bind_i h
        refine CallS.pcs (hF1 _ _ hy3) (by simp only [go_sem, hc1]) ?_
        simp only [go_sem]
        cases hg4 : y3 with
        | true =>
          replace h := if_t hg4 h
          simp only [go_sem]
          refine hR1 _ ?_
          replace h := Option.some.inj h
          subst h
          simp only [go_sem]
        | false =>
          replace h := if_f hg4 h
          simp only [go_sem]
          refine UpC.here ?_
          simp only [go_sem]
          exact hN1 _ (Up.to [(0, .sl s_0.length (s_0.flatMap cTarget)), (1, .fn g_1 caps_1), (7, .int .i64 (s_0.length : Int)), (8, .int .i64 (IntKind.i64.wrap (v_8 + 1)))] [] 3 (h3 := by simp only [go_sem, inNL_settled _ _ (canonL_settled _ hc1)]) ⟨fu1, Nat.lt_succ_self _, (IntKind.i64.wrap (v_8 + 1)), h, rfl⟩)
      | false =>
        replace h := if_f hg1 h
        simp only [go_sem]
        refine hE1 _ _ ?_
        simp only [go_sem]
        refine UpC.here ?_
        replace h := Option.some.inj h
        subst h
        simp only [go_sem]

theorem slices_ContainsFunc_impl_Target_impl_Target_ok {s_0 : (List TTarget)} {f_1 : TTarget → Option Bool} {g_1 : Nat} {caps_1 : List PV} (hc1 : canonL caps_1 = true) (hF1 : ∀ q0 q, f_1 q0 = some q → PC prog g_1 (.agg [.str q0.fHost, .str q0.fData, .int .i64 q0.fGroup, .int .i64 q0.fWeight] :: caps_1) (.bool q)) {r : Bool} (h : slices_ContainsFunc_impl_Target_impl_Target s_0 f_1 = some r) : PC prog 62 [.sl s_0.length (s_0.flatMap cTarget), .fn g_1 caps_1] (.bool r) := by
  refine PC.intro (rs := [.tmp 4]) func62 rfl rfl mx (by rfl) (by rfl) (by rw [ntmps62]; simp) ?_
  rw [slices_ContainsFunc_impl_Target_impl_Target] at h
  rw [pwp_start]
  simp only [go_sem, st0]
  obtain ⟨y1, hy1, h⟩ := bind_i h
  refine CallS.pcs (slices_IndexFunc_impl_Target_impl_Target_ok hc1 hF1 hy1) (by simp only [go_sem, hc1]) ?_
  replace h := Option.some.inj h
  subst h
  simp only [go_sem]

theorem impl_numberIn_ok {s_0 : Str} {most_1 : Int} {r : (Int × Bool)} (h : impl_numberIn s_0 most_1 = some r) : PC prog 91 [.str s_0, .int .i64 most_1] (.tup [.int .i64 r.1, .bool r.2]) := by
  refine PC.intro (rs := [.tmp 4, .tmp 5]) func91 rfl rfl mx (by rfl) (by rfl) (by rw [ntmps91]; simp) ?_
  rw [impl_numberIn] at h
  rw [pwp_start]
  simp only [go_sem, st0]
  obtain ⟨y1, hy1, h⟩ := bind_i h
  refine CallS.pcs (strconv_Atoi_ok hy1) rfl ?_
  simp only [go_sem]
  cases hg2 : y1.2 with
  | true =>
    replace h := if_t hg2 h
    replace h := Option.some.inj h
    subst h
    simp only [go_sem]
  | false =>
    replace h := if_f hg2 h
    simp only [go_sem]
    obtain ⟨y3, hy3, h⟩ := bind_i h
    refine CallS.pcs (impl_within_ok hy3) rfl ?_
    simp only [go_sem]
    cases hg4 : y3 with
    | true =>
      replace h := if_t hg4 h
      simp only [go_sem]
      obtain ⟨y5, hy5, h⟩ := bind_i h
      refine CallS.pcs (strconv_Itoa_ok hy5) rfl ?_
      replace h := Option.some.inj h
      subst h
      simp only [go_sem]
    | false =>
      replace h := if_f hg4 h
      replace h := Option.some.inj h
      subst h
      simp only [go_sem]

theorem impl_big_ok {n_0 : Int} {count_1 : Int} {r : Str} (h : impl_big n_0 count_1 = some r) : PC prog 92 [.int .i64 n_0, .int .i64 count_1] (.str r) := by
  refine PC.intro (rs := [.tmp 4]) func92 rfl rfl mx (by rfl) (by rfl) (by rw [ntmps92]; simp) ?_
  rw [impl_big] at h
  rw [pwp_start]
  simp only [go_sem, st0]
  refine pwp_join rfl (fun s => ∃ (out_5 : List Int), impl_big_K1 out_5 = some r ∧ s = ⟨frL [(5, .sl out_5.length (out_5.flatMap cU))], hL [], 5⟩) (fun J hJ => ?_) ?_
  · simp only [go_sem]
    refine loopG_i (fun m s => ∃ (i_6 : Int) (out_7 : List Int), impl_big_L1 n_0 m i_6 out_7 = some r ∧ s = ⟨frL [(0, .int .i64 n_0), (5, .ref (2, 7, 0) out_7.length), (6, .int .i64 i_6)], hL [((2, 7, 0), ⟨some (5, 1), out_7.length, out_7.flatMap cU⟩)], 4⟩) FU ?_ ?_
    · exact Up.to [(0, .int .i64 n_0), (5, .ref (2, 7, 0) ([] : List Int).length), (6, .int .i64 (IntKind.i64.wrap (count_1 - 1)))] [((2, 7, 0), ⟨some (5, 1), ([] : List Int).length, ([] : List Int).flatMap cU⟩)] 4 ⟨_, _, h, rfl⟩
    · rintro Q1 fu1 _ ⟨i_6, out_7, h, rfl⟩ hN1 hR1 hE1
      cases fu1 with
      | zero =>
        rw [impl_big_L1] at h; cases h
      | succ fu1 =>
        rw [impl_big_L1] at h
        simp only [go_sem]
        refine pwp_plain rfl ?_
        simp only [go_sem]
        cases hg2 : (decide (0 ≤ i_6)) with
        | true =>
          replace h := if_t hg2 h
          simp only [go_sem]
          refine UpC.here ?_
          refine pwp_plain rfl ?_
          simp only [go_sem]
          obtain ⟨u3, hu3, h⟩ := bind_i h
          rw [if_neg (ge0?_some hu3)]
          simp only [go_sem]
          obtain ⟨x4, hx4, h⟩ := bind_i h
          refine evE_app hx4 cU_len (by decide) (by simp only [go_sem]) rfl rfl (by simp only [go_sem]; rfl) rfl rfl ?_
          simp only [go_sem]
          refine UpC.here ?_
          simp only [go_sem]
          exact hN1 _ (Up.to [(0, .int .i64 n_0), (5, .ref (2, 7, 0) x4.length), (6, .int .i64 (IntKind.i64.wrap (i_6 - 1)))] [((2, 7, 0), ⟨some (5, 1), x4.length, x4.flatMap cU⟩)] 4 ⟨fu1, Nat.lt_succ_self _, (IntKind.i64.wrap (i_6 - 1)), x4, h, rfl⟩)
        | false =>
          replace h := if_f hg2 h
          simp only [go_sem]
          refine hE1 _ _ ?_
          simp only [go_sem]
          refine join_n ?_
          exact Up.cutS [((2, 7, 0), ⟨some (5, 1), out_7.length, out_7.flatMap cU⟩)] [(5, .sl out_7.length (out_7.flatMap cU))] [] 5 (hJ _ ⟨out_7, h, rfl⟩)
  · rintro _ ⟨out_5, h, rfl⟩
    rw [impl_big_K1] at h
    simp only [go_sem]
    obtain ⟨x1, hx1, h⟩ := bind_i h
    rw [show bytesOf (out_5.flatMap cU) = some x1 from bytes_text (c := cU) (fun _ => rfl) hx1]
    replace h := Option.some.inj h
    subst h
    simp only [go_sem]

theorem impl_isTarget_ok {s_0 : Str} {r : Bool} (h : impl_isTarget s_0 = some r) : PC prog 93 [.str s_0] (.bool r) := by
  refine PC.intro (rs := [.tmp 2]) func93 rfl rfl mx (by rfl) (by rfl) (by rw [ntmps93]; simp) ?_
  rw [impl_isTarget] at h
  rw [pwp_start]
  simp only [go_sem, st0]
  cases hg1 : (!(s_0 == ([] : Str))) with
  | true =>
    replace h := if_t hg1 h
    simp only [go_sem]
    obtain ⟨y2, hy2, h⟩ := bind_i h
    refine CallS.pcs (impl_GoodName_ok hy2) rfl ?_
    simp only [go_sem]
    cases hg3 : y2 with
    | true =>
      replace h := if_t hg3 h
      simp only [go_sem]
      obtain ⟨y4, hy4, h⟩ := bind_i h
      refine CallS.pcs (strings_Contains_ok hy4) rfl ?_
      replace h := Option.some.inj h
      subst h
      simp only [go_sem]
    | false =>
      replace h := if_f hg3 h
      replace h := Option.some.inj h
      subst h
      simp only [go_sem]
  | false =>
    replace h := if_f hg1 h
    replace h := Option.some.inj h
    subst h
    simp only [go_sem]

theorem impl_labelBytes_ok {s_0 : Str} {r : Str} (h : impl_labelBytes s_0 = some r) : PC prog 94 [.str s_0] (.str r) := by
  refine PC.intro (rs := [.tmp 2]) func94 rfl rfl mx (by rfl) (by rfl) (by rw [ntmps94]; simp) ?_
  rw [impl_labelBytes] at h
  rw [pwp_start]
  simp only [go_sem, st0]
  refine pwp_plain rfl ?_
  simp only [go_sem]
  obtain ⟨y1, hy1, h⟩ := bind_i h
  refine CallS.pcs (impl_labelsOf_ok hy1) rfl ?_
  simp only [go_sem]
  refine loopG_i (fun m s => ∃ (post9 : List Str) (i9 : Nat) (out_3 : Str), m = post9.length ∧ Rg y1 i9 post9 ∧ y1.length ≤ 9223372036854775807 ∧ impl_labelBytes_L1 post9 i9 out_3 = some r ∧ s = ⟨frL [(3, .str out_3), (7, .sl y1.length (y1.flatMap cS)), (8, .int .i64 (y1.length : Int)), (9, .int .i64 (i9 : Int))], hL [], 4⟩) y1.length (Up.bound 7 y1.length (y1.flatMap cS) (by simp only [go_sem]) (fun hb => ?_)) ?_
  · exact Up.to [(3, .str ([] : Str)), (7, .sl y1.length (y1.flatMap cS)), (8, .int .i64 (y1.length : Int)), (9, .int .i64 ((0 : Nat) : Int))] [] 4 ⟨_, 0, _, rfl, rg_0 _, hb, h, rfl⟩
  · rintro Q1 _ _ ⟨post9, i9, out_3, rfl, hl9, hb9, h, rfl⟩ hN1 hR1 hE1
    cases post9 with
    | nil =>
      rw [impl_labelBytes_L1] at h
      simp only [go_sem, rg_nil hl9]
      refine pwp_plain rfl ?_
      simp only [go_sem, rg_nil hl9]
      refine hE1 _ _ ?_
      simp only [go_sem, rg_nil hl9]
      refine UpC.here ?_
      replace h := Option.some.inj h
      subst h
      simp only [go_sem, rg_nil hl9]
    | cons e9 post9 =>
      rw [impl_labelBytes_L1] at h
      simp only [go_sem, rg_cons hl9, rg_step hl9 hb9]
      refine pwp_plain rfl ?_
      simp only [go_sem, rg_cons hl9, rg_step hl9 hb9]
      refine UpC.here ?_
      refine pwp_plain rfl ?_
      simp only [go_sem, rg_cons hl9, rg_step hl9 hb9]
      refine evE_round hl9 cS_len (by decide) (fun rest => ?_)
      simp only [go_sem, rg_cons hl9, rg_step hl9 hb9]
      obtain ⟨x2, hx2, h⟩ := bind_i h
      rw [show bytesOf [PV.int .u8 (IntKind.u8.wrap (e9.length : Int))] = some x2 from bytes_text (c := cU) (fun _ => rfl) hx2]
      simp only [go_sem, rg_cons hl9, rg_step hl9 hb9]
      obtain ⟨x3, hx3, h⟩ := bind_i h
      refine evP_cat hx3 ?_
      simp only [go_sem, rg_cons hl9, rg_step hl9 hb9]
      obtain ⟨x4, hx4, h⟩ := bind_i h
      refine evP_cat hx4 ?_
      simp only [go_sem, rg_cons hl9, rg_step hl9 hb9]
      refine UpC.here ?_
      simp only [go_sem, rg_cons hl9, rg_step hl9 hb9]
      exact hN1 _ (Up.to [(3, .str x4), (7, .sl y1.length (y1.flatMap cS)), (8, .int .i64 (y1.length : Int)), (9, .int .i64 ((i9 + 1 : Nat) : Int))] [] 4 ⟨post9.length, Nat.lt_succ_self _, post9, i9 + 1, x4, rfl, rg_next hl9, hb9, h, rfl⟩)

theorem slices_IndexFunc_byte_byte_ok {s_0 : (List Int)} {f_1 : Int → Option Bool} {g_1 : Nat} {caps_1 : List PV} (hc1 : canonL caps_1 = true) (hF1 : ∀ q0 q, f_1 q0 = some q → PC prog g_1 (.int .u8 q0 :: caps_1) (.bool q)) {r : Int} (h : slices_IndexFunc_byte_byte s_0 f_1 = some r) : PC prog 112 [.sl s_0.length (s_0.flatMap cU), .fn g_1 caps_1] (.int .i64 r) := by
  refine PC.intro (rs := [.tmp 4]) func112 rfl rfl mx (by rfl) (by rfl) (by rw [ntmps112]; simp) ?_
  rw [slices_IndexFunc_byte_byte] at h
  rw [pwp_start]
  simp only [go_sem, st0]
  refine pwp_plain rfl ?_
  simp only [go_sem]
  refine loopG_i (fun m s => ∃ (v_8 : Int), slices_IndexFunc_byte_byte_L1 s_0 f_1 m v_8 = some r ∧ s = ⟨frL [(0, .sl s_0.length (s_0.flatMap cU)), (1, .fn g_1 caps_1), (7, .int .i64 (s_0.length : Int)), (8, .int .i64 v_8)], hL [], 3⟩) FU ?_ ?_
  · exact Up.to [(0, .sl s_0.length (s_0.flatMap cU)), (1, .fn g_1 caps_1), (7, .int .i64 (s_0.length : Int)), (8, .int .i64 0)] [] 3 (h3 := by simp only [go_sem, inNL_settled _ _ (canonL_settled _ hc1)]) ⟨_, h, rfl⟩
  · rintro Q1 fu1 _ ⟨v_8, h, rfl⟩ hN1 hR1 hE1
    cases fu1 with
    | zero =>
      rw [slices_IndexFunc_byte_byte_L1] at h; cases h
    | succ fu1 =>
      rw [slices_IndexFunc_byte_byte_L1] at h
      simp only [go_sem]
      refine pwp_plain rfl ?_
      simp only [go_sem]
      cases hg1 : (decide (v_8 < (s_0.length : Int))) with
      | true =>
        replace h := if_t hg1 h
        simp only [go_sem]
        refine UpC.here ?_
        refine pwp_plain rfl ?_
        simp only [go_sem]
        obtain ⟨e2, he2, h⟩ := bind_i h
        refine evE_index he2 cU_len (by decide) (fun rest => ?_)
        simp only [go_sem]
        obtain ⟨y3, hy3, h⟩ := bind_i h
        refine CallS.pcs (hF1 _ _ hy3) (by simp only [go_sem, hc1]) ?_
        simp only [go_sem]
        cases hg4 : y3 with
        | true =>
          replace h := if_t hg4 h
          simp only [go_sem]
          refine hR1 _ ?_
          replace h := Option.some.inj h
          subst h
          simp only [go_sem]
        | false =>
          replace h := if_f hg4 h
          simp only [go_sem]
          refine UpC.here ?_
          simp only [go_sem]
          exact hN1 _ (Up.to [(0, .sl s_0.length (s_0.flatMap cU)), (1, .fn g_1 caps_1), (7, .int .i64 (s_0.length : Int)), (8, .int .i64 (IntKind.i64.wrap (v_8 + 1)))] [] 3 (h3 := by simp only [go_sem, inNL_settled _ _ (canonL_settled _ hc1)]) ⟨fu1, Nat.lt_succ_self _, (IntKind.i64.wrap (v_8 + 1)), h, rfl⟩)
      | false =>
        replace h := if_f hg1 h
        simp only [go_sem]
        refine hE1 _ _ ?_
        simp only [go_sem]
        refine UpC.here ?_
        replace h := Option.some.inj h
        subst h
        simp only [go_sem]

theorem slices_ContainsFunc_byte_byte_ok {s_0 : (List Int)} {f_1 : Int → Option Bool} {g_1 : Nat} {caps_1 : List PV} (hc1 : canonL caps_1 = true) (hF1 : ∀ q0 q, f_1 q0 = some q → PC prog g_1 (.int .u8 q0 :: caps_1) (.bool q)) {r : Bool} (h : slices_ContainsFunc_byte_byte s_0 f_1 = some r) : PC prog 96 [.sl s_0.length (s_0.flatMap cU), .fn g_1 caps_1] (.bool r) := by
  refine PC.intro (rs := [.tmp 4]) func96 rfl rfl mx (by rfl) (by rfl) (by rw [ntmps96]; simp) ?_
  rw [slices_ContainsFunc_byte_byte] at h
  rw [pwp_start]
  simp only [go_sem, st0]
  obtain ⟨y1, hy1, h⟩ := bind_i h
  refine CallS.pcs (slices_IndexFunc_byte_byte_ok hc1 hF1 hy1) (by simp only [go_sem, hc1]) ?_
  replace h := Option.some.inj h
  subst h
  simp only [go_sem]

theorem impl_DataBytes_1_ok {c_0 : Int} {r : Bool} (h : impl_DataBytes_1 c_0 = some r) : PC prog 97 [.int .u8 c_0] (.bool r) := by
  refine PC.intro (rs := [.tmp 2]) func97 rfl rfl mx (by rfl) (by rfl) (by rw [ntmps97]; simp) ?_
  rw [impl_DataBytes_1] at h
  rw [pwp_start]
  simp only [go_sem, st0]
  cases hg1 : (decide (c_0 < 32)) with
  | true =>
    replace h := if_t hg1 h
    replace h := Option.some.inj h
    subst h
    simp only [go_sem]
  | false =>
    replace h := if_f hg1 h
    replace h := Option.some.inj h
    subst h
    simp only [go_sem]

theorem impl_DataBytes_ok {kind_0 : Int} {data_1 : Str} {r : (Str × Bool)} (h : impl_DataBytes kind_0 data_1 = some r) : PC prog 64 [.int .i64 kind_0, .str data_1] (.tup [.str r.1, .bool r.2]) := by
  refine PC.intro (rs := [.tmp 4, .tmp 5]) func64 rfl rfl mx (by rfl) (by rfl) (by rw [ntmps64]; simp) ?_
  rw [impl_DataBytes] at h
  rw [pwp_start]
  simp only [go_sem, st0]
  refine pwp_plain rfl ?_
  simp only [go_sem]
  cases hg1 : (kind_0 == 1) with
  | true =>
    replace h := if_t hg1 h
    simp only [go_sem]
    obtain ⟨y2, hy2, h⟩ := bind_i h
    refine CallS.pcs (strings_Split_ok hy2) rfl ?_
    simp only [go_sem]
    refine pwp_plain rfl ?_
    simp only [go_sem]
    refine loopG_i (fun m s => ∃ (post26 : List Str) (i26 : Nat) (out_6 : Str), m = post26.length ∧ Rg y2 i26 post26 ∧ y2.length ≤ 9223372036854775807 ∧ impl_DataBytes_L1 y2 post26 i26 out_6 = some r ∧ s = ⟨frL [(6, .str out_6), (7, .sl y2.length (y2.flatMap cS)), (24, .sl y2.length (y2.flatMap cS)), (25, .int .i64 (y2.length : Int)), (26, .int .i64 (i26 : Int))], hL [], 7⟩) y2.length (Up.bound 24 y2.length (y2.flatMap cS) (by simp only [go_sem]) (fun hb => ?_)) ?_
    · exact Up.to [(6, .str ([] : Str)), (7, .sl y2.length (y2.flatMap cS)), (24, .sl y2.length (y2.flatMap cS)), (25, .int .i64 (y2.length : Int)), (26, .int .i64 ((0 : Nat) : Int))] [] 7 ⟨_, 0, _, rfl, rg_0 _, hb, h, rfl⟩
    · rintro Q1 _ _ ⟨post26, i26, out_6, rfl, hl26, hb26, h, rfl⟩ hN1 hR1 hE1
      cases post26 with
      | nil =>
        rw [impl_DataBytes_L1] at h
        simp only [go_sem, rg_nil hl26]
        refine pwp_plain rfl ?_
        simp only [go_sem, rg_nil hl26]
        refine hE1 _ _ ?_
        simp only [go_sem, rg_nil hl26]
        refine UpC.to [(6, .str out_6)] [] 8 ?_
        replace h := Option.some.inj h
        subst h
        simp only [go_sem, rg_nil hl26]
      | cons e26 post26 =>
        rw [impl_DataBytes_L1] at h
        simp only [go_sem, rg_cons hl26, rg_step hl26 hb26]
        refine pwp_plain rfl ?_
        simp only [go_sem, rg_cons hl26, rg_step hl26 hb26]
        refine UpC.to [(6, .str out_6), (7, .sl y2.length (y2.flatMap cS)), (24, .sl y2.length (y2.flatMap cS)), (25, .int .i64 (y2.length : Int)), (26, .int .i64 (i26 : Int))] [] 8 ?_
        simp only [go_sem, rg_cons hl26, rg_step hl26 hb26]
        refine pwp_plain rfl ?_
        simp only [go_sem, rg_cons hl26, rg_step hl26 hb26]
        refine evE_round hl26 cS_len (by decide) (fun rest => ?_)
        simp only [go_sem, rg_cons hl26, rg_step hl26 hb26]
        obtain ⟨y3, hy3, h⟩ := bind_i h
        refine CallS.pcs (impl_numberIn_ok hy3) rfl ?_
        simp only [go_sem, rg_cons hl26, rg_step hl26 hb26]
        refine pwp_plain rfl ?_
        simp only [go_sem, rg_cons hl26, rg_step hl26 hb26]
        cases hg4 : (!y3.2) with
        | true =>
          replace h := if_t hg4 h
          simp only [go_sem, rg_cons hl26, rg_step hl26 hb26]
          refine hR1 _ ?_
          replace h := Option.some.inj h
          subst h
          simp only [go_sem, rg_cons hl26, rg_step hl26 hb26]
        | false =>
          replace h := if_f hg4 h
          simp only [go_sem, rg_cons hl26, rg_step hl26 hb26]
          cases hg5 : ((y2.length : Int) != 4) with
          | true =>
            replace h := if_t hg5 h
            simp only [go_sem, rg_cons hl26, rg_step hl26 hb26]
            refine hR1 _ ?_
            replace h := Option.some.inj h
            subst h
            simp only [go_sem, rg_cons hl26, rg_step hl26 hb26]
          | false =>
            replace h := if_f hg5 h
            simp only [go_sem, rg_cons hl26, rg_step hl26 hb26]
            refine UpC.to [(6, .str out_6), (7, .sl y2.length (y2.flatMap cS)), (10, .int .i64 y3.1), (24, .sl y2.length (y2.flatMap cS)), (25, .int .i64 (y2.length : Int)), (26, .int .i64 (i26 : Int))] [] 11 ?_
            simp only [go_sem, rg_cons hl26, rg_step hl26 hb26]
            obtain ⟨y6, hy6, h⟩ := bind_i h
            refine CallS.pcs (impl_big_ok hy6) rfl ?_
            simp only [go_sem, rg_cons hl26, rg_step hl26 hb26]
            obtain ⟨x7, hx7, h⟩ := bind_i h
            refine evP_cat hx7 ?_
            simp only [go_sem, rg_cons hl26, rg_step hl26 hb26]
            refine UpC.to [(6, .str x7), (7, .sl y2.length (y2.flatMap cS)), (24, .sl y2.length (y2.flatMap cS)), (25, .int .i64 (y2.length : Int)), (26, .int .i64 (i26 : Int))] [] 12 ?_
            simp only [go_sem, rg_cons hl26, rg_step hl26 hb26]
            exact hN1 _ (Up.to [(6, .str x7), (7, .sl y2.length (y2.flatMap cS)), (24, .sl y2.length (y2.flatMap cS)), (25, .int .i64 (y2.length : Int)), (26, .int .i64 ((i26 + 1 : Nat) : Int))] [] 7 ⟨post26.length, Nat.lt_succ_self _, post26, i26 + 1, x7, rfl, rg_next hl26, hb26, h, rfl⟩)
  | false =>
    replace h := if_f hg1 h
    simp only [go_sem]
    refine pwp_join rfl (fun s => ∃ (v_48 : Bool), impl_DataBytes_K1 kind_0 data_1 v_48 = some r ∧ s = ⟨frL [(1, .str data_1), (19, .int .i64 kind_0), (48, .bool v_48)], hL [], 6⟩) (fun J hJ => ?_) ?_
    · simp only [go_sem]
      cases hg34 : (kind_0 == 2) with
      | true =>
        replace h := if_t hg34 h
        simp only [go_sem]
        refine join_n ?_
        exact Up.to [(1, .str data_1), (19, .int .i64 kind_0), (48, .bool true)] [] 6 (hJ _ ⟨true, h, rfl⟩)
      | false =>
        replace h := if_f hg34 h
        simp only [go_sem]
        refine join_n ?_
        exact Up.to [(1, .str data_1), (19, .int .i64 kind_0), (48, .bool (kind_0 == 5))] [] 6 (hJ _ ⟨(kind_0 == 5), h, rfl⟩)
    · rintro _ ⟨v_48, h, rfl⟩
      rw [impl_DataBytes_K1] at h
      simp only [go_sem]
      cases hg8 : v_48 with
      | true =>
        replace h := if_t hg8 h
        simp only [go_sem]
        refine pwp_plain rfl ?_
        simp only [go_sem]
        obtain ⟨y9, hy9, h⟩ := bind_i h
        refine CallS.pcs (impl_isTarget_ok hy9) rfl ?_
        simp only [go_sem]
        cases hg10 : (!y9) with
        | true =>
          replace h := if_t hg10 h
          replace h := Option.some.inj h
          subst h
          simp only [go_sem]
        | false =>
          replace h := if_f hg10 h
          simp only [go_sem]
          refine UpC.to [(1, .str data_1)] [] 7 ?_
          simp only [go_sem]
          obtain ⟨y11, hy11, h⟩ := bind_i h
          refine CallS.pcs (impl_labelBytes_ok hy11) rfl ?_
          simp only [go_sem]
          obtain ⟨x12, hx12, h⟩ := bind_i h
          refine evP_cat hx12 ?_
          replace h := Option.some.inj h
          subst h
          simp only [go_sem]
      | false =>
        replace h := if_f hg8 h
        simp only [go_sem]
        cases hg13 : (kind_0 == 6) with
        | true =>
          replace h := if_t hg13 h
          simp only [go_sem]
          obtain ⟨y14, hy14, h⟩ := bind_i h
          refine CallS.pcs (impl_numberIn_ok hy14) rfl ?_
          simp only [go_sem]
          refine pwp_plain rfl ?_
          simp only [go_sem]
          cases hg15 : (!y14.2) with
          | true =>
            replace h := if_t hg15 h
            replace h := Option.some.inj h
            subst h
            simp only [go_sem]
          | false =>
            replace h := if_f hg15 h
            simp only [go_sem]
            refine UpC.to [(12, .int .i64 y14.1)] [] 9 ?_
            simp only [go_sem]
            obtain ⟨y16, hy16, h⟩ := bind_i h
            refine CallS.pcs (impl_big_ok hy16) rfl ?_
            replace h := Option.some.inj h
            subst h
            simp only [go_sem]
        | false =>
          replace h := if_f hg13 h
          simp only [go_sem]
          cases hg17 : (kind_0 == 15) with
          | true =>
            replace h := if_t hg17 h
            simp only [go_sem]
            obtain ⟨y18, hy18, h⟩ := bind_i h
            refine CallS.pcs (strings_Cut_ok hy18) rfl ?_
            simp only [go_sem]
            obtain ⟨y19, hy19, h⟩ := bind_i h
            refine CallS.pcs (impl_numberIn_ok hy19) rfl ?_
            simp only [go_sem]
            refine pwp_plain rfl ?_
            simp only [go_sem]
            cases hg20 : (!y19.2) with
            | true =>
              replace h := if_t hg20 h
              replace h := Option.some.inj h
              subst h
              simp only [go_sem]
            | false =>
              replace h := if_f hg20 h
              simp only [go_sem]
              obtain ⟨y21, hy21, h⟩ := bind_i h
              refine CallS.pcs (impl_isTarget_ok hy21) rfl ?_
              simp only [go_sem]
              cases hg22 : (!y21) with
              | true =>
                replace h := if_t hg22 h
                replace h := Option.some.inj h
                subst h
                simp only [go_sem]
              | false =>
                replace h := if_f hg22 h
                simp only [go_sem]
                refine UpC.to [(15, .str y18.2.1), (17, .int .i64 y19.1)] [] 11 ?_
                simp only [go_sem]
                obtain ⟨y23, hy23, h⟩ := bind_i h
                refine CallS.pcs (impl_big_ok hy23) rfl ?_
                simp only [go_sem]
                obtain ⟨y24, hy24, h⟩ := bind_i h
                refine CallS.pcs (impl_labelBytes_ok hy24) rfl ?_
                simp only [go_sem]
                obtain ⟨x25, hx25, h⟩ := bind_i h
                refine evP_cat hx25 ?_
                simp only [go_sem]
                obtain ⟨x26, hx26, h⟩ := bind_i h
                refine evP_cat hx26 ?_
                replace h := Option.some.inj h
                subst h
                simp only [go_sem]
          | false =>
            replace h := if_f hg17 h
            simp only [go_sem]
            cases hg27 : (kind_0 == 16) with
            | true =>
              replace h := if_t hg27 h
              simp only [go_sem]
              refine pwp_plain rfl ?_
              simp only [go_sem]
              cases hg28 : (decide (30 < (data_1.length : Int))) with
              | true =>
                replace h := if_t hg28 h
                replace h := Option.some.inj h
                subst h
                simp only [go_sem]
              | false =>
                replace h := if_f hg28 h
                simp only [go_sem]
                obtain ⟨x29, hx29, h⟩ := bind_i h
                refine evE_bytes (c := cU) (fun _ => rfl) hx29 ?_
                simp only [go_sem]
                obtain ⟨y30, hy30, h⟩ := bind_i h
                refine CallS.pcs (slices_ContainsFunc_byte_byte_ok (g_1 := 97) (caps_1 := []) rfl (fun _ _ hq => impl_DataBytes_1_ok hq) hy30) rfl ?_
                simp only [go_sem]
                cases hg31 : y30 with
                | true =>
                  replace h := if_t hg31 h
                  replace h := Option.some.inj h
                  subst h
                  simp only [go_sem]
                | false =>
                  replace h := if_f hg31 h
                  simp only [go_sem]
                  refine UpC.to [(1, .str data_1)] [] 10 ?_
                  simp only [go_sem]
                  obtain ⟨y32, hy32, h⟩ := bind_i h
                  refine CallS.pcs (impl_big_ok hy32) rfl ?_
                  simp only [go_sem]
                  obtain ⟨x33, hx33, h⟩ := bind_i h
                  refine evP_cat hx33 ?_
                  replace h := Option.some.inj h
                  subst h
                  simp only [go_sem]
            | false =>
              replace h := if_f hg27 h
              simp only [go_sem]
              refine UpC.to [] [] 9 ?_
              replace h := Option.some.inj h
              subst h
              simp only [go_sem]

theorem impl_GoodPolicy_1_ok {t_0 : TTarget} {r : Bool} (h : impl_GoodPolicy_1 t_0 = some r) : PC prog 63 [.agg [.str t_0.fHost, .str t_0.fData, .int .i64 t_0.fGroup, .int .i64 t_0.fWeight]] (.bool r) := by
  refine PC.intro (rs := [.tmp 2]) func63 rfl rfl mx (by rfl) (by rfl) (by rw [ntmps63]; simp) ?_
  rw [impl_GoodPolicy_1] at h
  rw [pwp_start]
  simp only [go_sem, st0]
  obtain ⟨y1, hy1, h⟩ := bind_i h
  refine CallS.pcs (impl_DataBytes_ok hy1) rfl ?_
  simp only [go_sem]
  cases hg2 : (!y1.2) with
  | true =>
    replace h := if_t hg2 h
    replace h := Option.some.inj h
    subst h
    simp only [go_sem]
  | false =>
    replace h := if_f hg2 h
    simp only [go_sem]
    cases hg3 : (decide (100 < (t_0.fData.length : Int))) with
    | true =>
      replace h := if_t hg3 h
      replace h := Option.some.inj h
      subst h
      simp only [go_sem]
    | false =>
      replace h := if_f hg3 h
      simp only [go_sem]
      obtain ⟨y4, hy4, h⟩ := bind_i h
      refine CallS.pcs (impl_GoodName_ok hy4) rfl ?_
      simp only [go_sem]
      cases hg5 : (!y4) with
      | true =>
        replace h := if_t hg5 h
        replace h := Option.some.inj h
        subst h
        simp only [go_sem]
      | false =>
        replace h := if_f hg5 h
        simp only [go_sem]
        obtain ⟨y6, hy6, h⟩ := bind_i h
        refine CallS.pcs (impl_within_ok hy6) rfl ?_
        simp only [go_sem]
        cases hg7 : (!y6) with
        | true =>
          replace h := if_t hg7 h
          replace h := Option.some.inj h
          subst h
          simp only [go_sem]
        | false =>
          replace h := if_f hg7 h
          simp only [go_sem]
          obtain ⟨y8, hy8, h⟩ := bind_i h
          refine CallS.pcs (impl_within_ok hy8) rfl ?_
          replace h := Option.some.inj h
          subst h
          simp only [go_sem]

theorem impl_GoodPolicy_ok {p_0 : TPolicy} {r : Bool} (h : impl_GoodPolicy p_0 = some r) : PC prog 34 [.agg [.str p_0.fName, .sl p_0.fTargets.length (p_0.fTargets.flatMap cTarget)]] (.bool r) := by
  refine PC.intro (rs := [.tmp 2]) func34 rfl rfl mx (by rfl) (by rfl) (by rw [ntmps34]; simp) ?_
  rw [impl_GoodPolicy] at h
  rw [pwp_start]
  simp only [go_sem, st0]
  obtain ⟨y1, hy1, h⟩ := bind_i h
  refine CallS.pcs (impl_GoodName_ok hy1) rfl ?_
  simp only [go_sem]
  cases hg2 : y1 with
  | true =>
    replace h := if_t hg2 h
    simp only [go_sem]
    obtain ⟨y3, hy3, h⟩ := bind_i h
    refine CallS.pcs (impl_within_ok hy3) rfl ?_
    simp only [go_sem]
    cases hg4 : y3 with
    | true =>
      replace h := if_t hg4 h
      simp only [go_sem]
      obtain ⟨y5, hy5, h⟩ := bind_i h
      refine CallS.pcs (slices_ContainsFunc_impl_Target_impl_Target_ok (g_1 := 63) (caps_1 := []) rfl (fun _ _ hq => impl_GoodPolicy_1_ok hq) hy5) rfl ?_
      replace h := Option.some.inj h
      subst h
      simp only [go_sem]
    | false =>
      replace h := if_f hg4 h
      replace h := Option.some.inj h
      subst h
      simp only [go_sem]
  | false =>
    replace h := if_f hg2 h
    replace h := Option.some.inj h
    subst h
    simp only [go_sem]

theorem impl_Health_mostRow_ok {h_0 : THealth} {x_1 : THost} {r : Int} (h : impl_Health_mostRow h_0 x_1 = some r) : PC prog 65 [.agg [.int .i64 h_0.fRise, .int .i64 h_0.fFall, .sl h_0.fHosts.length (h_0.fHosts.flatMap cHost)], .agg [.str x_1.fName, .bool x_1.fUp, .int .i64 x_1.fRow]] (.int .i64 r) := by
  refine PC.intro (rs := [.tmp 4]) func65 rfl rfl mx (by rfl) (by rfl) (by rw [ntmps65]; simp) ?_
  rw [impl_Health_mostRow] at h
  rw [pwp_start]
  simp only [go_sem, st0]
  refine pwp_plain rfl ?_
  simp only [go_sem]
  cases hg1 : x_1.fUp with
  | true =>
    replace h := if_t hg1 h
    replace h := Option.some.inj h
    subst h
    simp only [go_sem]
  | false =>
    replace h := if_f hg1 h
    simp only [go_sem]
    refine UpC.here ?_
    replace h := Option.some.inj h
    subst h
    simp only [go_sem]

theorem impl_GoodHealth_1_ok {y_0 : THost} {c_0 : THost} {r : Bool} (h : impl_GoodHealth_1 y_0 c_0 = some r) : PC prog 67 [.agg [.str y_0.fName, .bool y_0.fUp, .int .i64 y_0.fRow], .ptr [.str c_0.fName, .bool c_0.fUp, .int .i64 c_0.fRow]] (.bool r) := by
  refine PC.intro (rs := [.tmp 3]) func67 rfl rfl mx (by rfl) (by rfl) (by rw [ntmps67]; simp) ?_
  rw [impl_GoodHealth_1] at h
  rw [pwp_start]
  replace h := Option.some.inj h
  subst h
  simp only [go_sem, st0]

theorem slices_IndexFunc_impl_Host_impl_Host_ok {s_0 : (List THost)} {f_1 : THost → Option Bool} {g_1 : Nat} {caps_1 : List PV} (hc1 : canonL caps_1 = true) (hF1 : ∀ q0 q, f_1 q0 = some q → PC prog g_1 (.agg [.str q0.fName, .bool q0.fUp, .int .i64 q0.fRow] :: caps_1) (.bool q)) {r : Int} (h : slices_IndexFunc_impl_Host_impl_Host s_0 f_1 = some r) : PC prog 98 [.sl s_0.length (s_0.flatMap cHost), .fn g_1 caps_1] (.int .i64 r) := by
  refine PC.intro (rs := [.tmp 4]) func98 rfl rfl mx (by rfl) (by rfl) (by rw [ntmps98]; simp) ?_
  rw [slices_IndexFunc_impl_Host_impl_Host] at h
  rw [pwp_start]
  simp only [go_sem, st0]
  refine pwp_plain rfl ?_
  simp only [go_sem]
  refine loopG_i (fun m s => ∃ (v_8 : Int), slices_IndexFunc_impl_Host_impl_Host_L1 s_0 f_1 m v_8 = some r ∧ s = ⟨frL [(0, .sl s_0.length (s_0.flatMap cHost)), (1, .fn g_1 caps_1), (7, .int .i64 (s_0.length : Int)), (8, .int .i64 v_8)], hL [], 3⟩) FU ?_ ?_
  · exact Up.to [(0, .sl s_0.length (s_0.flatMap cHost)), (1, .fn g_1 caps_1), (7, .int .i64 (s_0.length : Int)), (8, .int .i64 0)] [] 3 (h3 := by simp only [go_sem, inNL_settled _ _ (canonL_settled _ hc1)]) ⟨_, h, rfl⟩
  · rintro Q1 fu1 _ ⟨v_8, h, rfl⟩ hN1 hR1 hE1
    cases fu1 with
    | zero =>
      rw [slices_IndexFunc_impl_Host_impl_Host_L1] at h; cases h
    | succ fu1 =>
      rw [slices_IndexFunc_impl_Host_impl_Host_L1] at h
      simp only [go_sem]
      refine pwp_plain rfl ?_
      simp only [go_sem]
      cases hg1 : (decide (v_8 < (s_0.length : Int))) with
      | true =>
        replace h := if_t hg1 h
        simp only [go_sem]
        refine UpC.here ?_
        refine pwp_plain rfl ?_
        simp only [go_sem]
        obtain ⟨e2, he2, h⟩ := bind_i h
        refine evE_index he2 cHost_len (by decide) (fun rest => ?_)
        simp only [go_sem]
        obtain ⟨y3, hy3, h⟩ := bind_i h
        refine CallS.pcs (hF1 _ _ hy3) (by simp only [go_sem, hc1]) ?_
        simp only [go_sem]
        cases hg4 : y3 with
        | true =>
          replace h := if_t hg4 h
          simp only [go_sem]
          refine hR1 _ ?_
          replace h := Option.some.inj h
          subst h
          simp only [go_sem]
        | false =>
          replace h := if_f hg4 h
          simp only [go_sem]
          refine UpC.here ?_
          simp only [go_sem]
          exact hN1 _ (Up.to [(0, .sl s_0.length (s_0.flatMap cHost)), (1, .fn g_1 caps_1), (7, .int .i64 (s_0.length : Int)), (8, .int .i64 (IntKind.i64.wrap (v_8 + 1)))] [] 3 (h3 := by simp only [go_sem, inNL_settled _ _ (canonL_settled _ hc1)]) ⟨fu1, Nat.lt_succ_self _, (IntKind.i64.wrap (v_8 + 1)), h, rfl⟩)
      | false =>
        replace h := if_f hg1 h
        simp only [go_sem]
        refine hE1 _ _ ?_
        simp only [go_sem]
        refine UpC.here ?_
        replace h := Option.some.inj h
        subst h
        simp only [go_sem]

theorem slices_ContainsFunc_impl_Host_impl_Host_ok {s_0 : (List THost)} {f_1 : THost → Option Bool} {g_1 : Nat} {caps_1 : List PV} (hc1 : canonL caps_1 = true) (hF1 : ∀ q0 q, f_1 q0 = some q → PC prog g_1 (.agg [.str q0.fName, .bool q0.fUp, .int .i64 q0.fRow] :: caps_1) (.bool q)) {r : Bool} (h : slices_ContainsFunc_impl_Host_impl_Host s_0 f_1 = some r) : PC prog 66 [.sl s_0.length (s_0.flatMap cHost), .fn g_1 caps_1] (.bool r) := by
  refine PC.intro (rs := [.tmp 4]) func66 rfl rfl mx (by rfl) (by rfl) (by rw [ntmps66]; simp) ?_
  rw [slices_ContainsFunc_impl_Host_impl_Host] at h
  rw [pwp_start]
  simp only [go_sem, st0]
  obtain ⟨y1, hy1, h⟩ := bind_i h
  refine CallS.pcs (slices_IndexFunc_impl_Host_impl_Host_ok hc1 hF1 hy1) (by simp only [go_sem, hc1]) ?_
  replace h := Option.some.inj h
  subst h
  simp only [go_sem]

theorem impl_GoodHealth_ok {h_0 : THealth} {r : Bool} (h : impl_GoodHealth h_0 = some r) : PC prog 35 [.agg [.int .i64 h_0.fRise, .int .i64 h_0.fFall, .sl h_0.fHosts.length (h_0.fHosts.flatMap cHost)]] (.bool r) := by
  refine PC.intro (rs := [.tmp 2]) func35 rfl rfl mx (by rfl) (by rfl) (by rw [ntmps35]; simp) ?_
  rw [impl_GoodHealth] at h
  rw [pwp_start]
  simp only [go_sem, st0]
  refine pwp_plain rfl ?_
  simp only [go_sem]
  obtain ⟨y1, hy1, h⟩ := bind_i h
  refine CallS.pcs (impl_within_ok hy1) rfl ?_
  simp only [go_sem]
  cases hg2 : (!y1) with
  | true =>
    replace h := if_t hg2 h
    replace h := Option.some.inj h
    subst h
    simp only [go_sem]
  | false =>
    replace h := if_f hg2 h
    simp only [go_sem]
    obtain ⟨y3, hy3, h⟩ := bind_i h
    refine CallS.pcs (impl_within_ok hy3) rfl ?_
    simp only [go_sem]
    cases hg4 : (!y3) with
    | true =>
      replace h := if_t hg4 h
      replace h := Option.some.inj h
      subst h
      simp only [go_sem]
    | false =>
      replace h := if_f hg4 h
      simp only [go_sem]
      obtain ⟨y5, hy5, h⟩ := bind_i h
      refine CallS.pcs (impl_within_ok hy5) rfl ?_
      simp only [go_sem]
      cases hg6 : (!y5) with
      | true =>
        replace h := if_t hg6 h
        replace h := Option.some.inj h
        subst h
        simp only [go_sem]
      | false =>
        replace h := if_f hg6 h
        simp only [go_sem]
        refine UpC.here ?_
        refine pwp_plain rfl ?_
        simp only [go_sem]
        refine loopG_i (fun m s => ∃ (post25 : List THost) (i25 : Nat), m = post25.length ∧ Rg h_0.fHosts i25 post25 ∧ h_0.fHosts.length ≤ 9223372036854775807 ∧ impl_GoodHealth_L1 h_0 post25 i25 = some r ∧ s = ⟨frL [(1, .loc (1, 1, 0) 0 0), (23, .sl h_0.fHosts.length (h_0.fHosts.flatMap cHost)), (24, .int .i64 (h_0.fHosts.length : Int)), (25, .int .i64 (i25 : Int))], hL [((1, 1, 0), ⟨none, 0, [.int .i64 h_0.fRise, .int .i64 h_0.fFall, .sl h_0.fHosts.length (h_0.fHosts.flatMap cHost)]⟩)], 4⟩) h_0.fHosts.length (Up.bound 23 h_0.fHosts.length (h_0.fHosts.flatMap cHost) (by simp only [go_sem]) (fun hb => ?_)) ?_
        · exact Up.to [(1, .loc (1, 1, 0) 0 0), (23, .sl h_0.fHosts.length (h_0.fHosts.flatMap cHost)), (24, .int .i64 (h_0.fHosts.length : Int)), (25, .int .i64 ((0 : Nat) : Int))] [((1, 1, 0), ⟨none, 0, [.int .i64 h_0.fRise, .int .i64 h_0.fFall, .sl h_0.fHosts.length (h_0.fHosts.flatMap cHost)]⟩)] 4 ⟨_, 0, rfl, rg_0 _, hb, h, rfl⟩
        · rintro Q1 _ _ ⟨post25, i25, rfl, hl25, hb25, h, rfl⟩ hN1 hR1 hE1
          cases post25 with
          | nil =>
            rw [impl_GoodHealth_L1] at h
            simp only [go_sem, rg_nil hl25]
            refine pwp_plain rfl ?_
            simp only [go_sem, rg_nil hl25]
            refine hE1 _ _ ?_
            simp only [go_sem, rg_nil hl25]
            refine UpC.here ?_
            replace h := Option.some.inj h
            subst h
            simp only [go_sem, rg_nil hl25]
          | cons e25 post25 =>
            rw [impl_GoodHealth_L1] at h
            simp only [go_sem, rg_cons hl25, rg_step hl25 hb25]
            refine pwp_plain rfl ?_
            simp only [go_sem, rg_cons hl25, rg_step hl25 hb25]
            refine UpC.here ?_
            refine pwp_plain rfl ?_
            simp only [go_sem, rg_cons hl25, rg_step hl25 hb25]
            refine evE_round hl25 cHost_len (by decide) (fun rest => ?_)
            simp only [go_sem, rg_cons hl25, rg_step hl25 hb25]
            cases hg7 : (e25.fName == ([] : Str)) with
            | true =>
              replace h := if_t hg7 h
              simp only [go_sem, rg_cons hl25, rg_step hl25 hb25]
              refine lgEnd_pure (by simp) ?_
              try simp only [go_sem, rg_cons hl25, rg_step hl25 hb25]
              refine hR1 _ ?_
              replace h := Option.some.inj h
              subst h
              simp only [go_sem, rg_cons hl25, rg_step hl25 hb25]
            | false =>
              replace h := if_f hg7 h
              simp only [go_sem, rg_cons hl25, rg_step hl25 hb25]
              obtain ⟨y8, hy8, h⟩ := bind_i h
              refine CallS.pcs (impl_GoodName_ok hy8) rfl ?_
              simp only [go_sem, rg_cons hl25, rg_step hl25 hb25]
              cases hg9 : (!y8) with
              | true =>
                replace h := if_t hg9 h
                simp only [go_sem, rg_cons hl25, rg_step hl25 hb25]
                refine lgEnd_pure (by simp) ?_
                try simp only [go_sem, rg_cons hl25, rg_step hl25 hb25]
                refine hR1 _ ?_
                replace h := Option.some.inj h
                subst h
                simp only [go_sem, rg_cons hl25, rg_step hl25 hb25]
              | false =>
                replace h := if_f hg9 h
                simp only [go_sem, rg_cons hl25, rg_step hl25 hb25]
                obtain ⟨y10, hy10, h⟩ := bind_i h
                refine CallS.pcs (impl_Health_mostRow_ok hy10) rfl ?_
                simp only [go_sem, rg_cons hl25, rg_step hl25 hb25]
                obtain ⟨y11, hy11, h⟩ := bind_i h
                refine CallS.pcs (impl_within_ok hy11) rfl ?_
                simp only [go_sem, rg_cons hl25, rg_step hl25 hb25]
                cases hg12 : (!y11) with
                | true =>
                  replace h := if_t hg12 h
                  simp only [go_sem, rg_cons hl25, rg_step hl25 hb25]
                  refine lgEnd_pure (by simp) ?_
                  try simp only [go_sem, rg_cons hl25, rg_step hl25 hb25]
                  refine hR1 _ ?_
                  replace h := Option.some.inj h
                  subst h
                  simp only [go_sem, rg_cons hl25, rg_step hl25 hb25]
                | false =>
                  replace h := if_f hg12 h
                  simp only [go_sem, rg_cons hl25, rg_step hl25 hb25]
                  obtain ⟨x13, hx13, h⟩ := bind_i h
                  refine evP_rcutH hx13 cHost_len ?_
                  simp only [go_sem, rg_cons hl25, rg_step hl25 hb25]
                  obtain ⟨y14, hy14, h⟩ := bind_i h
                  refine CallS.see (slices_ContainsFunc_impl_Host_impl_Host_ok (g_1 := 67) (caps_1 := [.ptr [.str e25.fName, .bool e25.fUp, .int .i64 e25.fRow]]) rfl (fun _ _ hq => impl_GoodHealth_1_ok hq) hy14) (by simp only [go_sem]) (by simp only [go_sem]) ?_
                  simp only [go_sem, rg_cons hl25, rg_step hl25 hb25]
                  refine lgEnd_pure (by simp) ?_
                  cases hg15 : y14 with
                  | true =>
                    replace h := if_t hg15 h
                    try simp only [go_sem, rg_cons hl25, rg_step hl25 hb25]
                    refine hR1 _ ?_
                    replace h := Option.some.inj h
                    subst h
                    simp only [go_sem, rg_cons hl25, rg_step hl25 hb25]
                  | false =>
                    replace h := if_f hg15 h
                    try simp only [go_sem, rg_cons hl25, rg_step hl25 hb25]
                    refine UpC.here ?_
                    simp only [go_sem, rg_cons hl25, rg_step hl25 hb25]
                    exact hN1 _ (Up.to [(1, .loc (1, 1, 0) 0 0), (23, .sl h_0.fHosts.length (h_0.fHosts.flatMap cHost)), (24, .int .i64 (h_0.fHosts.length : Int)), (25, .int .i64 ((i25 + 1 : Nat) : Int))] [((1, 1, 0), ⟨none, 0, [.int .i64 h_0.fRise, .int .i64 h_0.fFall, .sl h_0.fHosts.length (h_0.fHosts.flatMap cHost)]⟩)] 4 ⟨post25.length, Nat.lt_succ_self _, post25, i25 + 1, rfl, rg_next hl25, hb25, h, rfl⟩)

theorem impl_groupsIn_ok {p_0 : TPolicy} {r : (List Int)} (h : impl_groupsIn p_0 = some r) : PC prog 99 [.agg [.str p_0.fName, .sl p_0.fTargets.length (p_0.fTargets.flatMap cTarget)]] (.sl r.length (r.flatMap cI)) := by
  refine PC.intro (rs := [.tmp 2]) func99 rfl rfl mx (by rfl) (by rfl) (by rw [ntmps99]; simp) ?_
  rw [impl_groupsIn] at h
  rw [pwp_start]
  simp only [go_sem, st0]
  refine pwp_join rfl (fun s => ∃ (out_3 : List Int), impl_groupsIn_K1 out_3 = some r ∧ s = ⟨frL [(3, .ref (2, 6, 0) out_3.length)], hL [((2, 6, 0), ⟨some (3, 1), out_3.length, out_3.flatMap cI⟩)], 5⟩) (fun J hJ => ?_) ?_
  · simp only [go_sem]
    refine loopG_i (fun m s => ∃ (post10 : List TTarget) (i10 : Nat) (out_6 : List Int), m = post10.length ∧ Rg p_0.fTargets i10 post10 ∧ p_0.fTargets.length ≤ 9223372036854775807 ∧ impl_groupsIn_L1 post10 i10 out_6 = some r ∧ s = ⟨frL [(3, .ref (2, 6, 0) out_6.length), (8, .sl p_0.fTargets.length (p_0.fTargets.flatMap cTarget)), (9, .int .i64 (p_0.fTargets.length : Int)), (10, .int .i64 (i10 : Int))], hL [((2, 6, 0), ⟨some (3, 1), out_6.length, out_6.flatMap cI⟩)], 4⟩) p_0.fTargets.length (Up.bound 8 p_0.fTargets.length (p_0.fTargets.flatMap cTarget) (by simp only [go_sem]) (fun hb => ?_)) ?_
    · exact Up.to [(3, .ref (2, 6, 0) ([] : List Int).length), (8, .sl p_0.fTargets.length (p_0.fTargets.flatMap cTarget)), (9, .int .i64 (p_0.fTargets.length : Int)), (10, .int .i64 ((0 : Nat) : Int))] [((2, 6, 0), ⟨some (3, 1), ([] : List Int).length, ([] : List Int).flatMap cI⟩)] 4 ⟨_, 0, _, rfl, rg_0 _, hb, h, rfl⟩
    · rintro Q1 _ _ ⟨post10, i10, out_6, rfl, hl10, hb10, h, rfl⟩ hN1 hR1 hE1
      cases post10 with
      | nil =>
        rw [impl_groupsIn_L1] at h
        simp only [go_sem, rg_nil hl10]
        refine pwp_plain rfl ?_
        simp only [go_sem, rg_nil hl10]
        refine hE1 _ _ ?_
        simp only [go_sem, rg_nil hl10]
        refine join_n ?_
        exact Up.to [(3, .ref (2, 6, 0) out_6.length)] [((2, 6, 0), ⟨some (3, 1), out_6.length, out_6.flatMap cI⟩)] 5 (hJ _ ⟨out_6, h, rfl⟩)
      | cons e10 post10 =>
        rw [impl_groupsIn_L1] at h
        simp only [go_sem, rg_cons hl10, rg_step hl10 hb10]
        refine pwp_plain rfl ?_
        simp only [go_sem, rg_cons hl10, rg_step hl10 hb10]
        refine UpC.here ?_
        refine pwp_plain rfl ?_
        simp only [go_sem, rg_cons hl10, rg_step hl10 hb10]
        refine evE_round hl10 cTarget_len (by decide) (fun rest => ?_)
        simp only [go_sem, rg_cons hl10, rg_step hl10 hb10]
        obtain ⟨x4, hx4, h⟩ := bind_i h
        refine evE_app hx4 cI_len (by decide) (by simp only [go_sem]) rfl rfl (by simp only [go_sem]; rfl) rfl rfl ?_
        simp only [go_sem, rg_cons hl10, rg_step hl10 hb10]
        refine UpC.here ?_
        simp only [go_sem, rg_cons hl10, rg_step hl10 hb10]
        exact hN1 _ (Up.to [(3, .ref (2, 6, 0) x4.length), (8, .sl p_0.fTargets.length (p_0.fTargets.flatMap cTarget)), (9, .int .i64 (p_0.fTargets.length : Int)), (10, .int .i64 ((i10 + 1 : Nat) : Int))] [((2, 6, 0), ⟨some (3, 1), x4.length, x4.flatMap cI⟩)] 4 ⟨post10.length, Nat.lt_succ_self _, post10, i10 + 1, x4, rfl, rg_next hl10, hb10, h, rfl⟩)
  · rintro _ ⟨out_3, h, rfl⟩
    rw [impl_groupsIn_K1] at h
    simp only [go_sem]
    obtain ⟨y1, hy1, h⟩ := bind_i h
    refine CallS.turn (slices_Sort_int_int_gc hy1) [(2, 6, 0)] rfl rfl (by decide) (by simp only [go_sem]) (by simp only [go_sem]) ?_
    obtain ⟨u2, hu2, h⟩ := bind_i h
    simp only [go_sem, same?_some hu2]
    obtain ⟨y3, hy3, h⟩ := bind_i h
    refine CallS.take (slices_Compact_int_int_gc hy3) [(2, 6, 0)] [(2, 6, 0), (6, 23, 0)] rfl (by decide) rfl (by simp only [go_sem]) (by simp only [go_sem]) ?_
    replace h := Option.some.inj h
    subst h
    simp only [go_sem, same?_some hu2]

theorem impl_Health_findHost_1_ok {x_0 : THost} {c_0 : Str} {r : Bool} (h : impl_Health_findHost_1 x_0 c_0 = some r) : PC prog 115 [.agg [.str x_0.fName, .bool x_0.fUp, .int .i64 x_0.fRow], .ptr [.str c_0]] (.bool r) := by
  refine PC.intro (rs := [.tmp 3]) func115 rfl rfl mx (by rfl) (by rfl) (by rw [ntmps115]; simp) ?_
  rw [impl_Health_findHost_1] at h
  rw [pwp_start]
  replace h := Option.some.inj h
  subst h
  simp only [go_sem, st0]

theorem impl_Health_findHost_ok {h_0 : THealth} {name_1 : Str} {r : Int} (h : impl_Health_findHost h_0 name_1 = some r) : PC prog 101 [.agg [.int .i64 h_0.fRise, .int .i64 h_0.fFall, .sl h_0.fHosts.length (h_0.fHosts.flatMap cHost)], .str name_1] (.int .i64 r) := by
  refine PC.intro (rs := [.tmp 4]) func101 rfl rfl mx (by rfl) (by rfl) (by rw [ntmps101]; simp) ?_
  rw [impl_Health_findHost] at h
  rw [pwp_start]
  simp only [go_sem, st0]
  obtain ⟨y1, hy1, h⟩ := bind_i h
  refine CallS.see (slices_IndexFunc_impl_Host_impl_Host_ok (g_1 := 115) (caps_1 := [.ptr [.str name_1]]) rfl (fun _ _ hq => impl_Health_findHost_1_ok hq) hy1) (by simp only [go_sem]) (by simp only [go_sem]) ?_
  replace h := Option.some.inj h
  subst h
  simp only [go_sem]

theorem impl_isWell_ok {h_0 : THealth} {t_1 : TTarget} {r : Bool} (h : impl_isWell h_0 t_1 = some r) : PC prog 69 [.agg [.int .i64 h_0.fRise, .int .i64 h_0.fFall, .sl h_0.fHosts.length (h_0.fHosts.flatMap cHost)], .agg [.str t_1.fHost, .str t_1.fData, .int .i64 t_1.fGroup, .int .i64 t_1.fWeight]] (.bool r) := by
  refine PC.intro (rs := [.tmp 4]) func69 rfl rfl mx (by rfl) (by rfl) (by rw [ntmps69]; simp) ?_
  rw [impl_isWell] at h
  rw [pwp_start]
  simp only [go_sem, st0]
  obtain ⟨y1, hy1, h⟩ := bind_i h
  refine CallS.pcs (impl_Health_findHost_ok hy1) rfl ?_
  simp only [go_sem]
  cases hg2 : (decide (y1 < 0)) with
  | true =>
    replace h := if_t hg2 h
    replace h := Option.some.inj h
    subst h
    simp only [go_sem]
  | false =>
    replace h := if_f hg2 h
    simp only [go_sem]
    obtain ⟨e3, he3, h⟩ := bind_i h
    refine evE_index he3 cHost_len (by decide) (fun rest => ?_)
    replace h := Option.some.inj h
    subst h
    simp only [go_sem]

theorem impl_groupOf_1_ok {t_0 : TTarget} {c_0 : Int} {c_1 : THealth} {r : Bool} (h : impl_groupOf_1 t_0 c_0 c_1 = some r) : PC prog 100 [.agg [.str t_0.fHost, .str t_0.fData, .int .i64 t_0.fGroup, .int .i64 t_0.fWeight], .ptr [.int .i64 c_0], .ptr [.int .i64 c_1.fRise, .int .i64 c_1.fFall, .sl c_1.fHosts.length (c_1.fHosts.flatMap cHost)]] (.bool r) := by
  refine PC.intro (rs := [.tmp 4]) func100 rfl rfl mx (by rfl) (by rfl) (by rw [ntmps100]; simp) ?_
  rw [impl_groupOf_1] at h
  rw [pwp_start]
  simp only [go_sem, st0]
  cases hg1 : (t_0.fGroup == c_0) with
  | true =>
    replace h := if_t hg1 h
    simp only [go_sem]
    obtain ⟨y2, hy2, h⟩ := bind_i h
    refine CallS.pcs (impl_isWell_ok hy2) rfl ?_
    replace h := Option.some.inj h
    subst h
    simp only [go_sem]
  | false =>
    replace h := if_f hg1 h
    replace h := Option.some.inj h
    subst h
    simp only [go_sem]

theorem impl_groupOf_ok {p_0 : TPolicy} {h_1 : THealth} {r : Int} (h : impl_groupOf p_0 h_1 = some r) : PC prog 68 [.agg [.str p_0.fName, .sl p_0.fTargets.length (p_0.fTargets.flatMap cTarget)], .agg [.int .i64 h_1.fRise, .int .i64 h_1.fFall, .sl h_1.fHosts.length (h_1.fHosts.flatMap cHost)]] (.int .i64 r) := by
  refine PC.intro (rs := [.tmp 4]) func68 rfl rfl mx (by rfl) (by rfl) (by rw [ntmps68]; simp) ?_
  rw [impl_groupOf] at h
  rw [pwp_start]
  simp only [go_sem, st0]
  obtain ⟨y1, hy1, h⟩ := bind_i h
  refine CallS.pcs (impl_groupsIn_ok hy1) rfl ?_
  simp only [go_sem]
  refine pwp_join rfl (fun s => impl_groupOf_K1 y1 = some r ∧ s = ⟨frL [(5, .sl y1.length (y1.flatMap cI))], hL [], 5⟩) (fun J hJ => ?_) ?_
  · simp only [go_sem]
    refine loopG_i (fun m s => ∃ (post12 : List Int) (i12 : Nat), m = post12.length ∧ Rg y1 i12 post12 ∧ y1.length ≤ 9223372036854775807 ∧ impl_groupOf_L1 p_0 h_1 y1 post12 i12 = some r ∧ s = ⟨frL [(2, .loc (1, 2, 0) 0 0), (3, .loc (1, 3, 0) 0 0), (5, .sl y1.length (y1.flatMap cI)), (10, .sl y1.length (y1.flatMap cI)), (11, .int .i64 (y1.length : Int)), (12, .int .i64 (i12 : Int))], hL [((1, 2, 0), ⟨none, 0, [.str p_0.fName, .sl p_0.fTargets.length (p_0.fTargets.flatMap cTarget)]⟩), ((1, 3, 0), ⟨none, 0, [.int .i64 h_1.fRise, .int .i64 h_1.fFall, .sl h_1.fHosts.length (h_1.fHosts.flatMap cHost)]⟩)], 4⟩) y1.length (Up.bound 10 y1.length (y1.flatMap cI) (by simp only [go_sem]) (fun hb => ?_)) ?_
    · exact Up.to [(2, .loc (1, 2, 0) 0 0), (3, .loc (1, 3, 0) 0 0), (5, .sl y1.length (y1.flatMap cI)), (10, .sl y1.length (y1.flatMap cI)), (11, .int .i64 (y1.length : Int)), (12, .int .i64 ((0 : Nat) : Int))] [((1, 2, 0), ⟨none, 0, [.str p_0.fName, .sl p_0.fTargets.length (p_0.fTargets.flatMap cTarget)]⟩), ((1, 3, 0), ⟨none, 0, [.int .i64 h_1.fRise, .int .i64 h_1.fFall, .sl h_1.fHosts.length (h_1.fHosts.flatMap cHost)]⟩)] 4 ⟨_, 0, rfl, rg_0 _, hb, h, rfl⟩
    · rintro Q1 _ _ ⟨post12, i12, rfl, hl12, hb12, h, rfl⟩ hN1 hR1 hE1
      cases post12 with
      | nil =>
        rw [impl_groupOf_L1] at h
        simp only [go_sem, rg_nil hl12]
        refine pwp_plain rfl ?_
        simp only [go_sem, rg_nil hl12]
        refine hE1 _ _ ?_
        simp only [go_sem, rg_nil hl12]
        refine join_n ?_
        exact Up.to [(5, .sl y1.length (y1.flatMap cI))] [] 5 (hJ _ ⟨h, rfl⟩)
      | cons e12 post12 =>
        rw [impl_groupOf_L1] at h
        simp only [go_sem, rg_cons hl12, rg_step hl12 hb12]
        refine pwp_plain rfl ?_
        simp only [go_sem, rg_cons hl12, rg_step hl12 hb12]
        refine UpC.here ?_
        refine pwp_plain rfl ?_
        simp only [go_sem, rg_cons hl12, rg_step hl12 hb12]
        refine evE_round hl12 cI_len (by decide) (fun rest => ?_)
        simp only [go_sem, rg_cons hl12, rg_step hl12 hb12]
        obtain ⟨y3, hy3, h⟩ := bind_i h
        refine CallS.see (slices_ContainsFunc_impl_Target_impl_Target_ok (g_1 := 100) (caps_1 := [.ptr [.int .i64 e12], .ptr [.int .i64 h_1.fRise, .int .i64 h_1.fFall, .sl h_1.fHosts.length (h_1.fHosts.flatMap cHost)]]) rfl (fun _ _ hq => impl_groupOf_1_ok hq) hy3) (by simp only [go_sem]) (by simp only [go_sem]) ?_
        simp only [go_sem, rg_cons hl12, rg_step hl12 hb12]
        cases hg4 : y3 with
        | true =>
          replace h := if_t hg4 h
          simp only [go_sem, rg_cons hl12, rg_step hl12 hb12]
          refine hR1 _ ?_
          replace h := Option.some.inj h
          subst h
          simp only [go_sem, rg_cons hl12, rg_step hl12 hb12]
        | false =>
          replace h := if_f hg4 h
          simp only [go_sem, rg_cons hl12, rg_step hl12 hb12]
          refine UpC.here ?_
          simp only [go_sem, rg_cons hl12, rg_step hl12 hb12]
          exact hN1 _ (Up.to [(2, .loc (1, 2, 0) 0 0), (3, .loc (1, 3, 0) 0 0), (5, .sl y1.length (y1.flatMap cI)), (10, .sl y1.length (y1.flatMap cI)), (11, .int .i64 (y1.length : Int)), (12, .int .i64 ((i12 + 1 : Nat) : Int))] [((1, 2, 0), ⟨none, 0, [.str p_0.fName, .sl p_0.fTargets.length (p_0.fTargets.flatMap cTarget)]⟩), ((1, 3, 0), ⟨none, 0, [.int .i64 h_1.fRise, .int .i64 h_1.fFall, .sl h_1.fHosts.length (h_1.fHosts.flatMap cHost)]⟩)] 4 ⟨post12.length, Nat.lt_succ_self _, post12, i12 + 1, rfl, rg_next hl12, hb12, h, rfl⟩)
  · rintro _ ⟨h, rfl⟩
    rw [impl_groupOf_K1] at h
    simp only [go_sem]
    obtain ⟨e2, he2, h⟩ := bind_i h
    refine evE_index he2 cI_len (by decide) (fun rest => ?_)
    replace h := Option.some.inj h
    subst h
    simp only [go_sem]


end Go.Proofs.YthcmcjkljjfccaaGreatDoor.Abs
