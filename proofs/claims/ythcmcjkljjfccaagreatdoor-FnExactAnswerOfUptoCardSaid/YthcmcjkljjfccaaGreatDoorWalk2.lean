/-
  Each function of this program computes its plain function: the contracts, part 2.
-/
import Derived.Test.YthcmcjkljjfccaaGreatDoorWalk1
set_option linter.unusedVariables false
set_option linter.unusedSimpArgs false
set_option linter.unusedVariables false
set_option linter.unusedSimpArgs false
set_option maxRecDepth 20000
set_option maxHeartbeats 1600000
namespace Go.Proofs.YthcmcjkljjfccaaGreatDoor.Abs
open Go Go.Proofs.Tryz
theorem impl_candidatesOf_ok {p_0 : TPolicy} {h_1 : THealth} {r : (List Int)} (h : impl_candidatesOf p_0 h_1 = some r) : PC prog 36 [.agg [.str p_0.fName, .sl p_0.fTargets.length (p_0.fTargets.flatMap cTarget)], .agg [.int .i64 h_1.fRise, .int .i64 h_1.fFall, .sl h_1.fHosts.length (h_1.fHosts.flatMap cHost)]] (.sl r.length (r.flatMap cI)) := by
  refine PC.intro (rs := [.tmp 4]) func36 rfl rfl mx (by rfl) (by rfl) (by rw [ntmps36]; simp) ?_
  rw [impl_candidatesOf] at h
  rw [pwp_start]
  simp only [go_sem, st0]
  obtain ⟨y1, hy1, h⟩ := bind_i h
  refine CallS.pcs (impl_groupOf_ok hy1) rfl ?_
  simp only [go_sem]
  refine pwp_join rfl (fun s => ∃ (well_6 : List Int) (all_7 : List Int), impl_candidatesOf_K1 well_6 all_7 = some r ∧ s = ⟨frL [(6, .sl well_6.length (well_6.flatMap cI)), (7, .sl all_7.length (all_7.flatMap cI))], hL [], 6⟩) (fun J hJ => ?_) ?_
  · simp only [go_sem]
    refine loopG_i (fun m s => ∃ (post18 : List TTarget) (i18 : Nat) (well_13 : List Int) (all_14 : List Int), m = post18.length ∧ Rg p_0.fTargets i18 post18 ∧ p_0.fTargets.length ≤ 9223372036854775807 ∧ impl_candidatesOf_L1 h_1 y1 post18 i18 well_13 all_14 = some r ∧ s = ⟨frL [(3, .loc (1, 3, 0) 0 0), (5, .int .i64 y1), (6, .ref (3, 13, 0) well_13.length), (7, .ref (3, 14, 0) all_14.length), (16, .sl p_0.fTargets.length (p_0.fTargets.flatMap cTarget)), (17, .int .i64 (p_0.fTargets.length : Int)), (18, .int .i64 (i18 : Int))], hL [((1, 3, 0), ⟨none, 0, [.int .i64 h_1.fRise, .int .i64 h_1.fFall, .sl h_1.fHosts.length (h_1.fHosts.flatMap cHost)]⟩), ((3, 13, 0), ⟨some (3, 1), well_13.length, well_13.flatMap cI⟩), ((3, 14, 0), ⟨some (3, 1), all_14.length, all_14.flatMap cI⟩)], 5⟩) p_0.fTargets.length (Up.bound 16 p_0.fTargets.length (p_0.fTargets.flatMap cTarget) (by simp only [go_sem]) (fun hb => ?_)) ?_
    · exact Up.to [(3, .loc (1, 3, 0) 0 0), (5, .int .i64 y1), (6, .ref (3, 13, 0) ([] : List Int).length), (7, .ref (3, 14, 0) ([] : List Int).length), (16, .sl p_0.fTargets.length (p_0.fTargets.flatMap cTarget)), (17, .int .i64 (p_0.fTargets.length : Int)), (18, .int .i64 ((0 : Nat) : Int))] [((1, 3, 0), ⟨none, 0, [.int .i64 h_1.fRise, .int .i64 h_1.fFall, .sl h_1.fHosts.length (h_1.fHosts.flatMap cHost)]⟩), ((3, 13, 0), ⟨some (3, 1), ([] : List Int).length, ([] : List Int).flatMap cI⟩), ((3, 14, 0), ⟨some (3, 1), ([] : List Int).length, ([] : List Int).flatMap cI⟩)] 5 ⟨_, 0, _, _, rfl, rg_0 _, hb, h, rfl⟩
    · rintro Q1 _ _ ⟨post18, i18, well_13, all_14, rfl, hl18, hb18, h, rfl⟩ hN1 hR1 hE1
      cases post18 with
      | nil =>
        rw [impl_candidatesOf_L1] at h
        simp only [go_sem, rg_nil hl18]
        refine pwp_plain rfl ?_
        simp only [go_sem, rg_nil hl18]
        refine hE1 _ _ ?_
        simp only [go_sem, rg_nil hl18]
        refine join_n ?_
        exact Up.cutS [((3, 13, 0), ⟨some (3, 1), well_13.length, well_13.flatMap cI⟩), ((3, 14, 0), ⟨some (3, 1), all_14.length, all_14.flatMap cI⟩)] [(6, .sl well_13.length (well_13.flatMap cI)), (7, .sl all_14.length (all_14.flatMap cI))] [] 6 (hJ _ ⟨well_13, all_14, h, rfl⟩)
      | cons e18 post18 =>
        rw [impl_candidatesOf_L1] at h
        simp only [go_sem, rg_cons hl18, rg_step hl18 hb18]
        refine pwp_plain rfl ?_
        simp only [go_sem, rg_cons hl18, rg_step hl18 hb18]
        refine UpC.here ?_
        refine pwp_plain rfl ?_
        simp only [go_sem, rg_cons hl18, rg_step hl18 hb18]
        refine evE_round hl18 cTarget_len (by decide) (fun rest => ?_)
        simp only [go_sem, rg_cons hl18, rg_step hl18 hb18]
        refine pwp_plain rfl ?_
        simp only [go_sem, rg_cons hl18, rg_step hl18 hb18]
        cases hg3 : (e18.fGroup != y1) with
        | true =>
          replace h := if_t hg3 h
          simp only [go_sem, rg_cons hl18, rg_step hl18 hb18]
          refine UpC.here ?_
          simp only [go_sem, rg_cons hl18, rg_step hl18 hb18]
          exact hN1 _ (Up.to [(3, .loc (1, 3, 0) 0 0), (5, .int .i64 y1), (6, .ref (3, 13, 0) well_13.length), (7, .ref (3, 14, 0) all_14.length), (16, .sl p_0.fTargets.length (p_0.fTargets.flatMap cTarget)), (17, .int .i64 (p_0.fTargets.length : Int)), (18, .int .i64 ((i18 + 1 : Nat) : Int))] [((1, 3, 0), ⟨none, 0, [.int .i64 h_1.fRise, .int .i64 h_1.fFall, .sl h_1.fHosts.length (h_1.fHosts.flatMap cHost)]⟩), ((3, 13, 0), ⟨some (3, 1), well_13.length, well_13.flatMap cI⟩), ((3, 14, 0), ⟨some (3, 1), all_14.length, all_14.flatMap cI⟩)] 5 ⟨post18.length, Nat.lt_succ_self _, post18, i18 + 1, well_13, all_14, rfl, rg_next hl18, hb18, h, rfl⟩)
        | false =>
          replace h := if_f hg3 h
          simp only [go_sem, rg_cons hl18, rg_step hl18 hb18]
          refine UpC.here ?_
          simp only [go_sem, rg_cons hl18, rg_step hl18 hb18]
          obtain ⟨x4, hx4, h⟩ := bind_i h
          refine evE_app hx4 cI_len (by decide) (by simp only [go_sem]) rfl rfl (by simp only [go_sem]; rfl) rfl rfl ?_
          simp only [go_sem, rg_cons hl18, rg_step hl18 hb18]
          obtain ⟨y5, hy5, h⟩ := bind_i h
          refine CallS.pcs (impl_isWell_ok hy5) rfl ?_
          simp only [go_sem, rg_cons hl18, rg_step hl18 hb18]
          cases hg6 : y5 with
          | true =>
            replace h := if_t hg6 h
            simp only [go_sem, rg_cons hl18, rg_step hl18 hb18]
            obtain ⟨x7, hx7, h⟩ := bind_i h
            refine evE_app hx7 cI_len (by decide) (by simp only [go_sem]) rfl rfl (by simp only [go_sem]; rfl) rfl rfl ?_
            simp only [go_sem, rg_cons hl18, rg_step hl18 hb18]
            refine UpC.here ?_
            simp only [go_sem, rg_cons hl18, rg_step hl18 hb18]
            exact hN1 _ (Up.to [(3, .loc (1, 3, 0) 0 0), (5, .int .i64 y1), (6, .ref (3, 13, 0) x7.length), (7, .ref (3, 14, 0) x4.length), (16, .sl p_0.fTargets.length (p_0.fTargets.flatMap cTarget)), (17, .int .i64 (p_0.fTargets.length : Int)), (18, .int .i64 ((i18 + 1 : Nat) : Int))] [((1, 3, 0), ⟨none, 0, [.int .i64 h_1.fRise, .int .i64 h_1.fFall, .sl h_1.fHosts.length (h_1.fHosts.flatMap cHost)]⟩), ((3, 13, 0), ⟨some (3, 1), x7.length, x7.flatMap cI⟩), ((3, 14, 0), ⟨some (3, 1), x4.length, x4.flatMap cI⟩)] 5 ⟨post18.length, Nat.lt_succ_self _, post18, i18 + 1, x7, x4, rfl, rg_next hl18, hb18, h, rfl⟩)
          | false =>
            replace h := if_f hg6 h
            simp only [go_sem, rg_cons hl18, rg_step hl18 hb18]
            refine UpC.here ?_
            simp only [go_sem, rg_cons hl18, rg_step hl18 hb18]
            exact hN1 _ (Up.to [(3, .loc (1, 3, 0) 0 0), (5, .int .i64 y1), (6, .ref (3, 13, 0) well_13.length), (7, .ref (3, 14, 0) x4.length), (16, .sl p_0.fTargets.length (p_0.fTargets.flatMap cTarget)), (17, .int .i64 (p_0.fTargets.length : Int)), (18, .int .i64 ((i18 + 1 : Nat) : Int))] [((1, 3, 0), ⟨none, 0, [.int .i64 h_1.fRise, .int .i64 h_1.fFall, .sl h_1.fHosts.length (h_1.fHosts.flatMap cHost)]⟩), ((3, 13, 0), ⟨some (3, 1), well_13.length, well_13.flatMap cI⟩), ((3, 14, 0), ⟨some (3, 1), x4.length, x4.flatMap cI⟩)] 5 ⟨post18.length, Nat.lt_succ_self _, post18, i18 + 1, well_13, x4, rfl, rg_next hl18, hb18, h, rfl⟩)
  · rintro _ ⟨well_6, all_7, h, rfl⟩
    rw [impl_candidatesOf_K1] at h
    simp only [go_sem]
    refine pwp_plain rfl ?_
    simp only [go_sem]
    cases hg2 : (decide (0 < (well_6.length : Int))) with
    | true =>
      replace h := if_t hg2 h
      replace h := Option.some.inj h
      subst h
      simp only [go_sem]
    | false =>
      replace h := if_f hg2 h
      simp only [go_sem]
      refine UpC.here ?_
      replace h := Option.some.inj h
      subst h
      simp only [go_sem]
theorem impl_candidatesOf_okf {p_0 : TPolicy} {h_1 : THealth} {r : (List Int)} (h : impl_candidatesOf p_0 h_1 = some r) : PCF prog 36 [.agg [.str p_0.fName, .sl p_0.fTargets.length (p_0.fTargets.flatMap cTarget)], .agg [.int .i64 h_1.fRise, .int .i64 h_1.fFall, .sl h_1.fHosts.length (h_1.fHosts.flatMap cHost)]] 3 1 r.length (r.flatMap cI) := by
  refine PCF.introU (rs := [.tmp 4]) func36 rfl rfl mx (by rfl) (by rfl) (by rw [ntmps36]; simp) (by decide) (by simp only [go_sem]) (by simp only [go_sem]) ?_
  rw [impl_candidatesOf] at h
  rw [pwp_start]
  simp only [go_sem, st0]
  obtain ⟨y1, hy1, h⟩ := bind_i h
  refine CallS.pcs (impl_groupOf_ok hy1) rfl ?_
  simp only [go_sem]
  refine pwp_join rfl (fun s => ∃ (well_6 : List Int) (all_7 : List Int), impl_candidatesOf_K1 well_6 all_7 = some r ∧ s = ⟨frL [(6, .ref (3, 13, 0) well_6.length), (7, .ref (3, 14, 0) all_7.length)], hL [((3, 13, 0), ⟨some (3, 1), well_6.length, well_6.flatMap cI⟩), ((3, 14, 0), ⟨some (3, 1), all_7.length, all_7.flatMap cI⟩)], 6⟩) (fun J hJ => ?_) ?_
  · simp only [go_sem]
    refine loopG_i (fun m s => ∃ (post18 : List TTarget) (i18 : Nat) (well_13 : List Int) (all_14 : List Int), m = post18.length ∧ Rg p_0.fTargets i18 post18 ∧ p_0.fTargets.length ≤ 9223372036854775807 ∧ impl_candidatesOf_L1 h_1 y1 post18 i18 well_13 all_14 = some r ∧ s = ⟨frL [(3, .loc (1, 3, 0) 0 0), (5, .int .i64 y1), (6, .ref (3, 13, 0) well_13.length), (7, .ref (3, 14, 0) all_14.length), (16, .sl p_0.fTargets.length (p_0.fTargets.flatMap cTarget)), (17, .int .i64 (p_0.fTargets.length : Int)), (18, .int .i64 (i18 : Int))], hL [((1, 3, 0), ⟨none, 0, [.int .i64 h_1.fRise, .int .i64 h_1.fFall, .sl h_1.fHosts.length (h_1.fHosts.flatMap cHost)]⟩), ((3, 13, 0), ⟨some (3, 1), well_13.length, well_13.flatMap cI⟩), ((3, 14, 0), ⟨some (3, 1), all_14.length, all_14.flatMap cI⟩)], 5⟩) p_0.fTargets.length (Up.bound 16 p_0.fTargets.length (p_0.fTargets.flatMap cTarget) (by simp only [go_sem]) (fun hb => ?_)) ?_
    · exact Up.to [(3, .loc (1, 3, 0) 0 0), (5, .int .i64 y1), (6, .ref (3, 13, 0) ([] : List Int).length), (7, .ref (3, 14, 0) ([] : List Int).length), (16, .sl p_0.fTargets.length (p_0.fTargets.flatMap cTarget)), (17, .int .i64 (p_0.fTargets.length : Int)), (18, .int .i64 ((0 : Nat) : Int))] [((1, 3, 0), ⟨none, 0, [.int .i64 h_1.fRise, .int .i64 h_1.fFall, .sl h_1.fHosts.length (h_1.fHosts.flatMap cHost)]⟩), ((3, 13, 0), ⟨some (3, 1), ([] : List Int).length, ([] : List Int).flatMap cI⟩), ((3, 14, 0), ⟨some (3, 1), ([] : List Int).length, ([] : List Int).flatMap cI⟩)] 5 ⟨_, 0, _, _, rfl, rg_0 _, hb, h, rfl⟩
    · rintro Q1 _ _ ⟨post18, i18, well_13, all_14, rfl, hl18, hb18, h, rfl⟩ hN1 hR1 hE1
      cases post18 with
      | nil =>
        rw [impl_candidatesOf_L1] at h
        simp only [go_sem, rg_nil hl18]
        refine pwp_plain rfl ?_
        simp only [go_sem, rg_nil hl18]
        refine hE1 _ _ ?_
        simp only [go_sem, rg_nil hl18]
        refine join_n ?_
        exact Up.to [(6, .ref (3, 13, 0) well_13.length), (7, .ref (3, 14, 0) all_14.length)] [((3, 13, 0), ⟨some (3, 1), well_13.length, well_13.flatMap cI⟩), ((3, 14, 0), ⟨some (3, 1), all_14.length, all_14.flatMap cI⟩)] 6 (hJ _ ⟨well_13, all_14, h, rfl⟩)
      | cons e18 post18 =>
        rw [impl_candidatesOf_L1] at h
        simp only [go_sem, rg_cons hl18, rg_step hl18 hb18]
        refine pwp_plain rfl ?_
        simp only [go_sem, rg_cons hl18, rg_step hl18 hb18]
        refine UpC.here ?_
        refine pwp_plain rfl ?_
        simp only [go_sem, rg_cons hl18, rg_step hl18 hb18]
        refine evE_round hl18 cTarget_len (by decide) (fun rest => ?_)
        simp only [go_sem, rg_cons hl18, rg_step hl18 hb18]
        refine pwp_plain rfl ?_
        simp only [go_sem, rg_cons hl18, rg_step hl18 hb18]
        cases hg3 : (e18.fGroup != y1) with
        | true =>
          replace h := if_t hg3 h
          simp only [go_sem, rg_cons hl18, rg_step hl18 hb18]
          refine UpC.here ?_
          simp only [go_sem, rg_cons hl18, rg_step hl18 hb18]
          exact hN1 _ (Up.to [(3, .loc (1, 3, 0) 0 0), (5, .int .i64 y1), (6, .ref (3, 13, 0) well_13.length), (7, .ref (3, 14, 0) all_14.length), (16, .sl p_0.fTargets.length (p_0.fTargets.flatMap cTarget)), (17, .int .i64 (p_0.fTargets.length : Int)), (18, .int .i64 ((i18 + 1 : Nat) : Int))] [((1, 3, 0), ⟨none, 0, [.int .i64 h_1.fRise, .int .i64 h_1.fFall, .sl h_1.fHosts.length (h_1.fHosts.flatMap cHost)]⟩), ((3, 13, 0), ⟨some (3, 1), well_13.length, well_13.flatMap cI⟩), ((3, 14, 0), ⟨some (3, 1), all_14.length, all_14.flatMap cI⟩)] 5 ⟨post18.length, Nat.lt_succ_self _, post18, i18 + 1, well_13, all_14, rfl, rg_next hl18, hb18, h, rfl⟩)
        | false =>
          replace h := if_f hg3 h
          simp only [go_sem, rg_cons hl18, rg_step hl18 hb18]
          refine UpC.here ?_
          simp only [go_sem, rg_cons hl18, rg_step hl18 hb18]
          obtain ⟨x4, hx4, h⟩ := bind_i h
          refine evE_app hx4 cI_len (by decide) (by simp only [go_sem]) rfl rfl (by simp only [go_sem]; rfl) rfl rfl ?_
          simp only [go_sem, rg_cons hl18, rg_step hl18 hb18]
          obtain ⟨y5, hy5, h⟩ := bind_i h
          refine CallS.pcs (impl_isWell_ok hy5) rfl ?_
          simp only [go_sem, rg_cons hl18, rg_step hl18 hb18]
          cases hg6 : y5 with
          | true =>
            replace h := if_t hg6 h
            simp only [go_sem, rg_cons hl18, rg_step hl18 hb18]
            obtain ⟨x7, hx7, h⟩ := bind_i h
            refine evE_app hx7 cI_len (by decide) (by simp only [go_sem]) rfl rfl (by simp only [go_sem]; rfl) rfl rfl ?_
            simp only [go_sem, rg_cons hl18, rg_step hl18 hb18]
            refine UpC.here ?_
            simp only [go_sem, rg_cons hl18, rg_step hl18 hb18]
            exact hN1 _ (Up.to [(3, .loc (1, 3, 0) 0 0), (5, .int .i64 y1), (6, .ref (3, 13, 0) x7.length), (7, .ref (3, 14, 0) x4.length), (16, .sl p_0.fTargets.length (p_0.fTargets.flatMap cTarget)), (17, .int .i64 (p_0.fTargets.length : Int)), (18, .int .i64 ((i18 + 1 : Nat) : Int))] [((1, 3, 0), ⟨none, 0, [.int .i64 h_1.fRise, .int .i64 h_1.fFall, .sl h_1.fHosts.length (h_1.fHosts.flatMap cHost)]⟩), ((3, 13, 0), ⟨some (3, 1), x7.length, x7.flatMap cI⟩), ((3, 14, 0), ⟨some (3, 1), x4.length, x4.flatMap cI⟩)] 5 ⟨post18.length, Nat.lt_succ_self _, post18, i18 + 1, x7, x4, rfl, rg_next hl18, hb18, h, rfl⟩)
          | false =>
            replace h := if_f hg6 h
            simp only [go_sem, rg_cons hl18, rg_step hl18 hb18]
            refine UpC.here ?_
            simp only [go_sem, rg_cons hl18, rg_step hl18 hb18]
            exact hN1 _ (Up.to [(3, .loc (1, 3, 0) 0 0), (5, .int .i64 y1), (6, .ref (3, 13, 0) well_13.length), (7, .ref (3, 14, 0) x4.length), (16, .sl p_0.fTargets.length (p_0.fTargets.flatMap cTarget)), (17, .int .i64 (p_0.fTargets.length : Int)), (18, .int .i64 ((i18 + 1 : Nat) : Int))] [((1, 3, 0), ⟨none, 0, [.int .i64 h_1.fRise, .int .i64 h_1.fFall, .sl h_1.fHosts.length (h_1.fHosts.flatMap cHost)]⟩), ((3, 13, 0), ⟨some (3, 1), well_13.length, well_13.flatMap cI⟩), ((3, 14, 0), ⟨some (3, 1), x4.length, x4.flatMap cI⟩)] 5 ⟨post18.length, Nat.lt_succ_self _, post18, i18 + 1, well_13, x4, rfl, rg_next hl18, hb18, h, rfl⟩)
  · rintro _ ⟨well_6, all_7, h, rfl⟩
    rw [impl_candidatesOf_K1] at h
    simp only [go_sem]
    refine pwp_plain rfl ?_
    simp only [go_sem]
    cases hg2 : (decide (0 < (well_6.length : Int))) with
    | true =>
      replace h := if_t hg2 h
      replace h := Option.some.inj h
      subst h
      simp only [go_sem]
      exact Up.here (retF_i (3, 13, 0) (by simp only [go_sem]) (by simp only [go_sem]))
    | false =>
      replace h := if_f hg2 h
      simp only [go_sem]
      refine UpC.here ?_
      replace h := Option.some.inj h
      subst h
      simp only [go_sem]
      exact Up.here (retF_i (3, 14, 0) (by simp only [go_sem]) (by simp only [go_sem]))

theorem impl_CandidatesOf_ok {p_0 : TPolicy} {h_1 : THealth} {r : ((List Int) × Bool)} (h : impl_CandidatesOf p_0 h_1 = some r) : PC prog 12 [.agg [.str p_0.fName, .sl p_0.fTargets.length (p_0.fTargets.flatMap cTarget)], .agg [.int .i64 h_1.fRise, .int .i64 h_1.fFall, .sl h_1.fHosts.length (h_1.fHosts.flatMap cHost)]] (.tup [.sl r.1.length (r.1.flatMap cI), .bool r.2]) := by
  refine PC.intro (rs := [.tmp 4, .tmp 5]) func12 rfl rfl mx (by rfl) (by rfl) (by rw [ntmps12]; simp) ?_
  rw [impl_CandidatesOf] at h
  rw [pwp_start]
  simp only [go_sem, st0]
  refine pwp_plain rfl ?_
  simp only [go_sem]
  obtain ⟨y1, hy1, h⟩ := bind_i h
  refine CallS.pcs (impl_GoodPolicy_ok hy1) rfl ?_
  simp only [go_sem]
  cases hg2 : (!y1) with
  | true =>
    replace h := if_t hg2 h
    replace h := Option.some.inj h
    subst h
    simp only [go_sem]
  | false =>
    replace h := if_f hg2 h
    simp only [go_sem]
    obtain ⟨y3, hy3, h⟩ := bind_i h
    refine CallS.pcs (impl_GoodHealth_ok hy3) rfl ?_
    simp only [go_sem]
    cases hg4 : (!y3) with
    | true =>
      replace h := if_t hg4 h
      replace h := Option.some.inj h
      subst h
      simp only [go_sem]
    | false =>
      replace h := if_f hg4 h
      simp only [go_sem]
      refine UpC.here ?_
      simp only [go_sem]
      obtain ⟨y5, hy5, h⟩ := bind_i h
      refine CallS.pcs (impl_candidatesOf_ok hy5) rfl ?_
      replace h := Option.some.inj h
      subst h
      simp only [go_sem]
theorem impl_CandidatesOf_gc {p_0 : TPolicy} {h_1 : THealth} {r : ((List Int) × Bool)} (h : impl_CandidatesOf p_0 h_1 = some r) : GC prog 12 [.agg [.str p_0.fName, .sl p_0.fTargets.length (p_0.fTargets.flatMap cTarget)], .agg [.int .i64 h_1.fRise, .int .i64 h_1.fFall, .sl h_1.fHosts.length (h_1.fHosts.flatMap cHost)]] [] (.tup [.ref (0, 0, 0) r.1.length, .bool r.2]) [⟨some (3, 1), r.1.length, r.1.flatMap cI⟩] := by
  refine GC.introU (rs := [.tmp 4, .tmp 5]) func12 rfl rfl mx (Static.mk' (by rfl) (by simp only [go_sem]) (by simp only [go_sem]) (by simp) (by simp only [go_sem]) (by simp only [go_sem])) (by rfl) (by rw [ntmps12]; simp) ?_
  rw [impl_CandidatesOf] at h
  rw [pwp_start]
  simp only [go_sem, st0H, holesL]
  refine pwp_plain rfl ?_
  simp only [go_sem]
  obtain ⟨y1, hy1, h⟩ := bind_i h
  refine CallS.pcs (impl_GoodPolicy_ok hy1) rfl ?_
  simp only [go_sem]
  cases hg2 : (!y1) with
  | true =>
    replace h := if_t hg2 h
    replace h := Option.some.inj h
    subst h
    simp only [go_sem]
    refine Up.own 4 3 1 (by simp only [go_sem]) (by decide) ?_
    exact Up.here (retG_i [(4, 4, 0)] [.ref (4, 4, 0) ([] : List Int).length, .bool false] rfl (by decide) (by decide) (by simp only [go_sem]) (by simp only [go_sem]) (by simp only [go_sem]))
  | false =>
    replace h := if_f hg2 h
    simp only [go_sem]
    obtain ⟨y3, hy3, h⟩ := bind_i h
    refine CallS.pcs (impl_GoodHealth_ok hy3) rfl ?_
    simp only [go_sem]
    cases hg4 : (!y3) with
    | true =>
      replace h := if_t hg4 h
      replace h := Option.some.inj h
      subst h
      simp only [go_sem]
      refine Up.own 4 3 1 (by simp only [go_sem]) (by decide) ?_
      exact Up.here (retG_i [(4, 4, 0)] [.ref (4, 4, 0) ([] : List Int).length, .bool false] rfl (by decide) (by decide) (by simp only [go_sem]) (by simp only [go_sem]) (by simp only [go_sem]))
    | false =>
      replace h := if_f hg4 h
      simp only [go_sem]
      refine UpC.here ?_
      simp only [go_sem]
      obtain ⟨y5, hy5, h⟩ := bind_i h
      refine CallS.pcfs (impl_candidatesOf_okf hy5) rfl ?_
      replace h := Option.some.inj h
      subst h
      simp only [go_sem]
      exact Up.here (retG_i [(3, 16, 0)] [.ref (3, 16, 0) y5.length, .bool true] rfl (by decide) (by decide) (by simp only [go_sem]) (by simp only [go_sem]) (by simp only [go_sem]))

theorem laws_eqIntS_ok {a_0 : (List Int)} {b_1 : (List Int)} {r : Bool} (h : laws_eqIntS a_0 b_1 = some r) : PC prog 13 [.sl a_0.length (a_0.flatMap cI), .sl b_1.length (b_1.flatMap cI)] (.bool r) := by
  refine PC.intro (rs := [.tmp 4]) func13 rfl rfl mx (by rfl) (by rfl) (by rw [ntmps13]; simp) ?_
  rw [laws_eqIntS] at h
  rw [pwp_start]
  simp only [go_sem, st0]
  refine pwp_plain rfl ?_
  simp only [go_sem]
  cases hg1 : ((a_0.length : Int) != (b_1.length : Int)) with
  | true =>
    replace h := if_t hg1 h
    replace h := Option.some.inj h
    subst h
    simp only [go_sem]
  | false =>
    replace h := if_f hg1 h
    simp only [go_sem]
    refine UpC.here ?_
    refine pwp_plain rfl ?_
    simp only [go_sem]
    refine loopG_i (fun m s => ∃ (i_5 : Int), laws_eqIntS_L1 a_0 b_1 m i_5 = some r ∧ s = ⟨frL [(0, .sl a_0.length (a_0.flatMap cI)), (1, .sl b_1.length (b_1.flatMap cI)), (5, .int .i64 i_5)], hL [], 4⟩) FU ?_ ?_
    · exact Up.to [(0, .sl a_0.length (a_0.flatMap cI)), (1, .sl b_1.length (b_1.flatMap cI)), (5, .int .i64 0)] [] 4 ⟨_, h, rfl⟩
    · rintro Q1 fu1 _ ⟨i_5, h, rfl⟩ hN1 hR1 hE1
      cases fu1 with
      | zero =>
        rw [laws_eqIntS_L1] at h; cases h
      | succ fu1 =>
        rw [laws_eqIntS_L1] at h
        simp only [go_sem]
        refine pwp_plain rfl ?_
        simp only [go_sem]
        cases hg2 : (decide (i_5 < (a_0.length : Int))) with
        | true =>
          replace h := if_t hg2 h
          simp only [go_sem]
          refine UpC.here ?_
          refine pwp_plain rfl ?_
          simp only [go_sem]
          obtain ⟨e3, he3, h⟩ := bind_i h
          refine evE_index he3 cI_len (by decide) (fun rest => ?_)
          simp only [go_sem]
          obtain ⟨e4, he4, h⟩ := bind_i h
          refine evE_index he4 cI_len (by decide) (fun rest => ?_)
          simp only [go_sem]
          refine lgEnd_pure (by simp) ?_
          cases hg5 : (e3 != e4) with
          | true =>
            replace h := if_t hg5 h
            try simp only [go_sem]
            refine hR1 _ ?_
            replace h := Option.some.inj h
            subst h
            simp only [go_sem]
          | false =>
            replace h := if_f hg5 h
            try simp only [go_sem]
            refine UpC.here ?_
            simp only [go_sem]
            exact hN1 _ (Up.to [(0, .sl a_0.length (a_0.flatMap cI)), (1, .sl b_1.length (b_1.flatMap cI)), (5, .int .i64 (IntKind.i64.wrap (i_5 + 1)))] [] 4 ⟨fu1, Nat.lt_succ_self _, (IntKind.i64.wrap (i_5 + 1)), h, rfl⟩)
        | false =>
          replace h := if_f hg2 h
          simp only [go_sem]
          refine hE1 _ _ ?_
          simp only [go_sem]
          refine UpC.here ?_
          replace h := Option.some.inj h
          subst h
          simp only [go_sem]

theorem laws_eqTarget_ok {a_0 : TTarget} {b_1 : TTarget} {r : Bool} (h : laws_eqTarget a_0 b_1 = some r) : PC prog 70 [.agg [.str a_0.fHost, .str a_0.fData, .int .i64 a_0.fGroup, .int .i64 a_0.fWeight], .agg [.str b_1.fHost, .str b_1.fData, .int .i64 b_1.fGroup, .int .i64 b_1.fWeight]] (.bool r) := by
  refine PC.intro (rs := [.tmp 4]) func70 rfl rfl mx (by rfl) (by rfl) (by rw [ntmps70]; simp) ?_
  rw [laws_eqTarget] at h
  rw [pwp_start]
  simp only [go_sem, st0]
  refine pwp_plain rfl ?_
  simp only [go_sem]
  cases hg1 : (!(a_0.fHost == b_1.fHost)) with
  | true =>
    replace h := if_t hg1 h
    replace h := Option.some.inj h
    subst h
    simp only [go_sem]
  | false =>
    replace h := if_f hg1 h
    simp only [go_sem]
    refine UpC.here ?_
    refine pwp_plain rfl ?_
    simp only [go_sem]
    cases hg2 : (!(a_0.fData == b_1.fData)) with
    | true =>
      replace h := if_t hg2 h
      replace h := Option.some.inj h
      subst h
      simp only [go_sem]
    | false =>
      replace h := if_f hg2 h
      simp only [go_sem]
      refine UpC.here ?_
      refine pwp_plain rfl ?_
      simp only [go_sem]
      cases hg3 : (a_0.fGroup != b_1.fGroup) with
      | true =>
        replace h := if_t hg3 h
        replace h := Option.some.inj h
        subst h
        simp only [go_sem]
      | false =>
        replace h := if_f hg3 h
        simp only [go_sem]
        refine UpC.here ?_
        refine pwp_plain rfl ?_
        simp only [go_sem]
        cases hg4 : (a_0.fWeight != b_1.fWeight) with
        | true =>
          replace h := if_t hg4 h
          replace h := Option.some.inj h
          subst h
          simp only [go_sem]
        | false =>
          replace h := if_f hg4 h
          simp only [go_sem]
          refine UpC.here ?_
          replace h := Option.some.inj h
          subst h
          simp only [go_sem]

theorem laws_eqTargetS_ok {a_0 : (List TTarget)} {b_1 : (List TTarget)} {r : Bool} (h : laws_eqTargetS a_0 b_1 = some r) : PC prog 37 [.sl a_0.length (a_0.flatMap cTarget), .sl b_1.length (b_1.flatMap cTarget)] (.bool r) := by
  refine PC.intro (rs := [.tmp 4]) func37 rfl rfl mx (by rfl) (by rfl) (by rw [ntmps37]; simp) ?_
  rw [laws_eqTargetS] at h
  rw [pwp_start]
  simp only [go_sem, st0]
  refine pwp_plain rfl ?_
  simp only [go_sem]
  cases hg1 : ((a_0.length : Int) != (b_1.length : Int)) with
  | true =>
    replace h := if_t hg1 h
    replace h := Option.some.inj h
    subst h
    simp only [go_sem]
  | false =>
    replace h := if_f hg1 h
    simp only [go_sem]
    refine UpC.here ?_
    refine pwp_plain rfl ?_
    simp only [go_sem]
    refine loopG_i (fun m s => ∃ (i_5 : Int), laws_eqTargetS_L1 a_0 b_1 m i_5 = some r ∧ s = ⟨frL [(0, .sl a_0.length (a_0.flatMap cTarget)), (1, .sl b_1.length (b_1.flatMap cTarget)), (5, .int .i64 i_5)], hL [], 4⟩) FU ?_ ?_
    · exact Up.to [(0, .sl a_0.length (a_0.flatMap cTarget)), (1, .sl b_1.length (b_1.flatMap cTarget)), (5, .int .i64 0)] [] 4 ⟨_, h, rfl⟩
    · rintro Q1 fu1 _ ⟨i_5, h, rfl⟩ hN1 hR1 hE1
      cases fu1 with
      | zero =>
        rw [laws_eqTargetS_L1] at h; cases h
      | succ fu1 =>
        rw [laws_eqTargetS_L1] at h
        simp only [go_sem]
        refine pwp_plain rfl ?_
        simp only [go_sem]
        cases hg2 : (decide (i_5 < (a_0.length : Int))) with
        | true =>
          replace h := if_t hg2 h
          simp only [go_sem]
          refine UpC.here ?_
          refine pwp_plain rfl ?_
          simp only [go_sem]
          obtain ⟨e3, he3, h⟩ := bind_i h
          refine evE_index he3 cTarget_len (by decide) (fun rest => ?_)
          simp only [go_sem]
          obtain ⟨e4, he4, h⟩ := bind_i h
          refine evE_index he4 cTarget_len (by decide) (fun rest => ?_)
          simp only [go_sem]
          obtain ⟨y5, hy5, h⟩ := bind_i h
          refine CallS.pcs (laws_eqTarget_ok hy5) rfl ?_
          simp only [go_sem]
          refine lgEnd_pure (by simp) ?_
          cases hg6 : (!y5) with
          | true =>
            replace h := if_t hg6 h
            try simp only [go_sem]
            refine hR1 _ ?_
            replace h := Option.some.inj h
            subst h
            simp only [go_sem]
          | false =>
            replace h := if_f hg6 h
            try simp only [go_sem]
            refine UpC.here ?_
            simp only [go_sem]
            exact hN1 _ (Up.to [(0, .sl a_0.length (a_0.flatMap cTarget)), (1, .sl b_1.length (b_1.flatMap cTarget)), (5, .int .i64 (IntKind.i64.wrap (i_5 + 1)))] [] 4 ⟨fu1, Nat.lt_succ_self _, (IntKind.i64.wrap (i_5 + 1)), h, rfl⟩)
        | false =>
          replace h := if_f hg2 h
          simp only [go_sem]
          refine hE1 _ _ ?_
          simp only [go_sem]
          refine UpC.here ?_
          replace h := Option.some.inj h
          subst h
          simp only [go_sem]

theorem laws_eqPolicy_ok {a_0 : TPolicy} {b_1 : TPolicy} {r : Bool} (h : laws_eqPolicy a_0 b_1 = some r) : PC prog 14 [.agg [.str a_0.fName, .sl a_0.fTargets.length (a_0.fTargets.flatMap cTarget)], .agg [.str b_1.fName, .sl b_1.fTargets.length (b_1.fTargets.flatMap cTarget)]] (.bool r) := by
  refine PC.intro (rs := [.tmp 4]) func14 rfl rfl mx (by rfl) (by rfl) (by rw [ntmps14]; simp) ?_
  rw [laws_eqPolicy] at h
  rw [pwp_start]
  simp only [go_sem, st0]
  refine pwp_plain rfl ?_
  simp only [go_sem]
  cases hg1 : (!(a_0.fName == b_1.fName)) with
  | true =>
    replace h := if_t hg1 h
    replace h := Option.some.inj h
    subst h
    simp only [go_sem]
  | false =>
    replace h := if_f hg1 h
    simp only [go_sem]
    refine UpC.here ?_
    refine pwp_plain rfl ?_
    simp only [go_sem]
    obtain ⟨y2, hy2, h⟩ := bind_i h
    refine CallS.pcs (laws_eqTargetS_ok hy2) rfl ?_
    simp only [go_sem]
    cases hg3 : (!y2) with
    | true =>
      replace h := if_t hg3 h
      replace h := Option.some.inj h
      subst h
      simp only [go_sem]
    | false =>
      replace h := if_f hg3 h
      simp only [go_sem]
      refine UpC.here ?_
      replace h := Option.some.inj h
      subst h
      simp only [go_sem]

theorem laws_eqHost_ok {a_0 : THost} {b_1 : THost} {r : Bool} (h : laws_eqHost a_0 b_1 = some r) : PC prog 71 [.agg [.str a_0.fName, .bool a_0.fUp, .int .i64 a_0.fRow], .agg [.str b_1.fName, .bool b_1.fUp, .int .i64 b_1.fRow]] (.bool r) := by
  refine PC.intro (rs := [.tmp 4]) func71 rfl rfl mx (by rfl) (by rfl) (by rw [ntmps71]; simp) ?_
  rw [laws_eqHost] at h
  rw [pwp_start]
  simp only [go_sem, st0]
  refine pwp_plain rfl ?_
  simp only [go_sem]
  cases hg1 : (!(a_0.fName == b_1.fName)) with
  | true =>
    replace h := if_t hg1 h
    replace h := Option.some.inj h
    subst h
    simp only [go_sem]
  | false =>
    replace h := if_f hg1 h
    simp only [go_sem]
    refine UpC.here ?_
    refine pwp_plain rfl ?_
    simp only [go_sem]
    cases hg2 : (!(a_0.fUp == b_1.fUp)) with
    | true =>
      replace h := if_t hg2 h
      replace h := Option.some.inj h
      subst h
      simp only [go_sem]
    | false =>
      replace h := if_f hg2 h
      simp only [go_sem]
      refine UpC.here ?_
      refine pwp_plain rfl ?_
      simp only [go_sem]
      cases hg3 : (a_0.fRow != b_1.fRow) with
      | true =>
        replace h := if_t hg3 h
        replace h := Option.some.inj h
        subst h
        simp only [go_sem]
      | false =>
        replace h := if_f hg3 h
        simp only [go_sem]
        refine UpC.here ?_
        replace h := Option.some.inj h
        subst h
        simp only [go_sem]

theorem laws_eqHostS_ok {a_0 : (List THost)} {b_1 : (List THost)} {r : Bool} (h : laws_eqHostS a_0 b_1 = some r) : PC prog 38 [.sl a_0.length (a_0.flatMap cHost), .sl b_1.length (b_1.flatMap cHost)] (.bool r) := by
  refine PC.intro (rs := [.tmp 4]) func38 rfl rfl mx (by rfl) (by rfl) (by rw [ntmps38]; simp) ?_
  rw [laws_eqHostS] at h
  rw [pwp_start]
  simp only [go_sem, st0]
  refine pwp_plain rfl ?_
  simp only [go_sem]
  cases hg1 : ((a_0.length : Int) != (b_1.length : Int)) with
  | true =>
    replace h := if_t hg1 h
    replace h := Option.some.inj h
    subst h
    simp only [go_sem]
  | false =>
    replace h := if_f hg1 h
    simp only [go_sem]
    refine UpC.here ?_
    refine pwp_plain rfl ?_
    simp only [go_sem]
    refine loopG_i (fun m s => ∃ (i_5 : Int), laws_eqHostS_L1 a_0 b_1 m i_5 = some r ∧ s = ⟨frL [(0, .sl a_0.length (a_0.flatMap cHost)), (1, .sl b_1.length (b_1.flatMap cHost)), (5, .int .i64 i_5)], hL [], 4⟩) FU ?_ ?_
    · exact Up.to [(0, .sl a_0.length (a_0.flatMap cHost)), (1, .sl b_1.length (b_1.flatMap cHost)), (5, .int .i64 0)] [] 4 ⟨_, h, rfl⟩
    · rintro Q1 fu1 _ ⟨i_5, h, rfl⟩ hN1 hR1 hE1
      cases fu1 with
      | zero =>
        rw [laws_eqHostS_L1] at h; cases h
      | succ fu1 =>
        rw [laws_eqHostS_L1] at h
        simp only [go_sem]
        refine pwp_plain rfl ?_
        simp only [go_sem]
        cases hg2 : (decide (i_5 < (a_0.length : Int))) with
        | true =>
          replace h := if_t hg2 h
          simp only [go_sem]
          refine UpC.here ?_
          refine pwp_plain rfl ?_
          simp only [go_sem]
          obtain ⟨e3, he3, h⟩ := bind_i h
          refine evE_index he3 cHost_len (by decide) (fun rest => ?_)
          simp only [go_sem]
          obtain ⟨e4, he4, h⟩ := bind_i h
          refine evE_index he4 cHost_len (by decide) (fun rest => ?_)
          simp only [go_sem]
          obtain ⟨y5, hy5, h⟩ := bind_i h
          refine CallS.pcs (laws_eqHost_ok hy5) rfl ?_
          simp only [go_sem]
          refine lgEnd_pure (by simp) ?_
          cases hg6 : (!y5) with
          | true =>
            replace h := if_t hg6 h
            try simp only [go_sem]
            refine hR1 _ ?_
            replace h := Option.some.inj h
            subst h
            simp only [go_sem]
          | false =>
            replace h := if_f hg6 h
            try simp only [go_sem]
            refine UpC.here ?_
            simp only [go_sem]
            exact hN1 _ (Up.to [(0, .sl a_0.length (a_0.flatMap cHost)), (1, .sl b_1.length (b_1.flatMap cHost)), (5, .int .i64 (IntKind.i64.wrap (i_5 + 1)))] [] 4 ⟨fu1, Nat.lt_succ_self _, (IntKind.i64.wrap (i_5 + 1)), h, rfl⟩)
        | false =>
          replace h := if_f hg2 h
          simp only [go_sem]
          refine hE1 _ _ ?_
          simp only [go_sem]
          refine UpC.here ?_
          replace h := Option.some.inj h
          subst h
          simp only [go_sem]

theorem laws_eqHealth_ok {a_0 : THealth} {b_1 : THealth} {r : Bool} (h : laws_eqHealth a_0 b_1 = some r) : PC prog 15 [.agg [.int .i64 a_0.fRise, .int .i64 a_0.fFall, .sl a_0.fHosts.length (a_0.fHosts.flatMap cHost)], .agg [.int .i64 b_1.fRise, .int .i64 b_1.fFall, .sl b_1.fHosts.length (b_1.fHosts.flatMap cHost)]] (.bool r) := by
  refine PC.intro (rs := [.tmp 4]) func15 rfl rfl mx (by rfl) (by rfl) (by rw [ntmps15]; simp) ?_
  rw [laws_eqHealth] at h
  rw [pwp_start]
  simp only [go_sem, st0]
  refine pwp_plain rfl ?_
  simp only [go_sem]
  cases hg1 : (a_0.fRise != b_1.fRise) with
  | true =>
    replace h := if_t hg1 h
    replace h := Option.some.inj h
    subst h
    simp only [go_sem]
  | false =>
    replace h := if_f hg1 h
    simp only [go_sem]
    refine UpC.here ?_
    refine pwp_plain rfl ?_
    simp only [go_sem]
    cases hg2 : (a_0.fFall != b_1.fFall) with
    | true =>
      replace h := if_t hg2 h
      replace h := Option.some.inj h
      subst h
      simp only [go_sem]
    | false =>
      replace h := if_f hg2 h
      simp only [go_sem]
      refine UpC.here ?_
      refine pwp_plain rfl ?_
      simp only [go_sem]
      obtain ⟨y3, hy3, h⟩ := bind_i h
      refine CallS.pcs (laws_eqHostS_ok hy3) rfl ?_
      simp only [go_sem]
      cases hg4 : (!y3) with
      | true =>
        replace h := if_t hg4 h
        replace h := Option.some.inj h
        subst h
        simp only [go_sem]
      | false =>
        replace h := if_f hg4 h
        simp only [go_sem]
        refine UpC.here ?_
        replace h := Option.some.inj h
        subst h
        simp only [go_sem]

theorem laws_markText_ok {k_0 : Int} {r : Str} (h : laws_markText k_0 = some r) : PC prog 72 [.int .i64 k_0] (.str r) := by
  refine PC.intro (rs := [.tmp 2]) func72 rfl rfl mx (by rfl) (by rfl) (by rw [ntmps72]; simp) ?_
  rw [laws_markText] at h
  rw [pwp_start]
  simp only [go_sem, st0]
  refine pwp_plain rfl ?_
  simp only [go_sem]
  cases hg1 : (decide (k_0 ≤ 0)) with
  | true =>
    replace h := if_t hg1 h
    replace h := Option.some.inj h
    subst h
    simp only [go_sem]
  | false =>
    replace h := if_f hg1 h
    simp only [go_sem]
    refine UpC.here ?_
    simp only [go_sem]
    refine pwp_join rfl (fun s => ∃ (out_3 : Str), laws_markText_K1 out_3 = some r ∧ s = ⟨frL [(3, .str out_3)], hL [], 5⟩) (fun J hJ => ?_) ?_
    · simp only [go_sem]
      refine loopG_i (fun m s => ∃ (k_0' : Int) (out_3 : Str), laws_markText_L1 k_0 m k_0' out_3 = some r ∧ s = ⟨frL [(0, .int .i64 k_0'), (3, .str out_3)], hL [], 4⟩) FU ?_ ?_
      · exact Up.to [(0, .int .i64 k_0), (3, .str ([] : Str))] [] 4 ⟨_, _, h, rfl⟩
      · rintro Q1 fu1 _ ⟨k_0', out_3, h, rfl⟩ hN1 hR1 hE1
        cases fu1 with
        | zero =>
          rw [laws_markText_L1] at h; cases h
        | succ fu1 =>
          rw [laws_markText_L1] at h
          simp only [go_sem]
          refine pwp_plain rfl ?_
          simp only [go_sem]
          cases hg3 : (decide (0 < k_0')) with
          | true =>
            replace h := if_t hg3 h
            simp only [go_sem]
            refine UpC.here ?_
            simp only [go_sem]
            obtain ⟨x4, hx4, h⟩ := bind_i h
            rw [show bytesOf [PV.int .u8 (IntKind.u8.wrap (IntKind.i64.wrap (48 + (k_0'.tmod 10))))] = some x4 from bytes_text (c := cU) (fun _ => rfl) hx4]
            simp only [go_sem]
            obtain ⟨x5, hx5, h⟩ := bind_i h
            refine evP_cat hx5 ?_
            simp only [go_sem]
            exact hN1 _ (Up.to [(0, .int .i64 (IntKind.i64.wrap (k_0'.tdiv 10))), (3, .str x5)] [] 4 ⟨fu1, Nat.lt_succ_self _, (IntKind.i64.wrap (k_0'.tdiv 10)), x5, h, rfl⟩)
          | false =>
            replace h := if_f hg3 h
            simp only [go_sem]
            refine hE1 _ _ ?_
            simp only [go_sem]
            refine join_n ?_
            exact Up.to [(3, .str out_3)] [] 5 (hJ _ ⟨out_3, h, rfl⟩)
    · rintro _ ⟨out_3, h, rfl⟩
      rw [laws_markText_K1] at h
      simp only [go_sem]
      obtain ⟨x2, hx2, h⟩ := bind_i h
      refine evP_cat hx2 ?_
      replace h := Option.some.inj h
      subst h
      simp only [go_sem]

theorem laws_markTargetS_gc {a_0 : (List TTarget)} {k_1 : Int} {r : (Int × (List TTarget))} (h : laws_markTargetS a_0 k_1 = some r) : GC prog 39 [.ref (0, 0, 0) a_0.length, .int .i64 k_1] [⟨some (70, 4), a_0.length, a_0.flatMap cTarget⟩] (.int .i64 r.1) [⟨some (70, 4), r.2.length, r.2.flatMap cTarget⟩] := by
  refine GC.introU (rs := [.tmp 4]) func39 rfl rfl mx (Static.mk' (by rfl) (by simp only [go_sem]) (by simp only [go_sem]) (by simp) (by simp only [go_sem]) (by simp only [go_sem])) (by rfl) (by rw [ntmps39]; simp) ?_
  rw [laws_markTargetS] at h
  rw [pwp_start]
  simp only [go_sem, st0H, holesL]
  refine pwp_plain rfl ?_
  simp only [go_sem]
  refine loopG_i (fun m s => ∃ (k_1' : Int) (i_5 : Int) (a_0' : List TTarget), laws_markTargetS_L1 a_0 k_1 m k_1' i_5 a_0' = some r ∧ s = ⟨frL [(0, .ref (0, 0, 0) a_0'.length), (1, .int .i64 k_1'), (5, .int .i64 i_5)], hL [((0, 0, 0), ⟨some (70, 4), a_0'.length, a_0'.flatMap cTarget⟩)], 3⟩) FU ?_ ?_
  · exact Up.to [(0, .ref (0, 0, 0) a_0.length), (1, .int .i64 k_1), (5, .int .i64 0)] [((0, 0, 0), ⟨some (70, 4), a_0.length, a_0.flatMap cTarget⟩)] 3 (h5 := by intro j; rcases j with _ | j <;> simp only [go_sem, hole]) ⟨_, _, _, h, rfl⟩
  · rintro Q1 fu1 _ ⟨k_1', i_5, a_0', h, rfl⟩ hN1 hR1 hE1
    cases fu1 with
    | zero =>
      rw [laws_markTargetS_L1] at h; cases h
    | succ fu1 =>
      rw [laws_markTargetS_L1] at h
      simp only [go_sem]
      refine pwp_plain rfl ?_
      simp only [go_sem]
      cases hg1 : (decide (i_5 < (a_0'.length : Int))) with
      | true =>
        replace h := if_t hg1 h
        simp only [go_sem]
        refine UpC.here ?_
        refine pwp_plain rfl ?_
        simp only [go_sem]
        obtain ⟨y2, hy2, h⟩ := bind_i h
        refine CallS.pcs (laws_markText_ok hy2) rfl ?_
        simp only [go_sem]
        obtain ⟨e3, he3, h⟩ := bind_i h
        refine evE_indexRef he3 (by simp only [go_sem]) ?_
        simp only [go_sem]
        obtain ⟨x4, hx4, h⟩ := bind_i h
        refine evE_putRow (x' := (⟨y2, e3.fData, e3.fGroup, e3.fWeight⟩ : TTarget)) he3 hx4 cTarget_len (by simp only [go_sem] <;> rfl) _ 0 (by decide) (by omega) rfl rfl rfl ?_
        simp only [go_sem, put?_len hx4]
        obtain ⟨y5, hy5, h⟩ := bind_i h
        refine CallS.pcs (laws_markText_ok hy5) rfl ?_
        simp only [go_sem, put?_len hx4]
        obtain ⟨e6, he6, h⟩ := bind_i h
        refine evE_indexRef he6 (by simp only [go_sem]) ?_
        simp only [go_sem, put?_len hx4]
        obtain ⟨x7, hx7, h⟩ := bind_i h
        refine evE_putRow (x' := (⟨e6.fHost, y5, e6.fGroup, e6.fWeight⟩ : TTarget)) he6 hx7 cTarget_len (by simp only [go_sem] <;> rfl) _ 1 (by decide) (by omega) rfl rfl rfl ?_
        simp only [go_sem, put?_len hx4, put?_len hx7]
        obtain ⟨e8, he8, h⟩ := bind_i h
        refine evE_indexRef he8 (by simp only [go_sem]) ?_
        simp only [go_sem, put?_len hx4, put?_len hx7]
        obtain ⟨x9, hx9, h⟩ := bind_i h
        refine evE_putRow (x' := (⟨e8.fHost, e8.fData, (IntKind.i64.wrap ((IntKind.i64.wrap (k_1' + 1)) + 1)), e8.fWeight⟩ : TTarget)) he8 hx9 cTarget_len (by simp only [go_sem] <;> rfl) _ 2 (by decide) (by omega) rfl rfl rfl ?_
        simp only [go_sem, put?_len hx4, put?_len hx7, put?_len hx9]
        obtain ⟨e10, he10, h⟩ := bind_i h
        refine evE_indexRef he10 (by simp only [go_sem]) ?_
        simp only [go_sem, put?_len hx4, put?_len hx7, put?_len hx9]
        obtain ⟨x11, hx11, h⟩ := bind_i h
        refine evE_putRow (x' := (⟨e10.fHost, e10.fData, e10.fGroup, (IntKind.i64.wrap ((IntKind.i64.wrap ((IntKind.i64.wrap (k_1' + 1)) + 1)) + 1))⟩ : TTarget)) he10 hx11 cTarget_len (by simp only [go_sem] <;> rfl) _ 3 (by decide) (by omega) rfl rfl rfl ?_
        simp only [go_sem, put?_len hx4, put?_len hx7, put?_len hx9, put?_len hx11]
        refine UpC.here ?_
        simp only [go_sem, put?_len hx4, put?_len hx7, put?_len hx9, put?_len hx11]
        exact hN1 _ (Up.to [(0, .ref (0, 0, 0) x11.length), (1, .int .i64 (IntKind.i64.wrap ((IntKind.i64.wrap ((IntKind.i64.wrap ((IntKind.i64.wrap (k_1' + 1)) + 1)) + 1)) + 1))), (5, .int .i64 (IntKind.i64.wrap (i_5 + 1)))] [((0, 0, 0), ⟨some (70, 4), x11.length, x11.flatMap cTarget⟩)] 3 (h5 := by intro j; rcases j with _ | j <;> simp only [go_sem, hole]) ⟨fu1, Nat.lt_succ_self _, (IntKind.i64.wrap ((IntKind.i64.wrap ((IntKind.i64.wrap ((IntKind.i64.wrap (k_1' + 1)) + 1)) + 1)) + 1)), (IntKind.i64.wrap (i_5 + 1)), x11, h, rfl⟩)
      | false =>
        replace h := if_f hg1 h
        simp only [go_sem]
        refine hE1 _ _ ?_
        simp only [go_sem]
        refine UpC.here ?_
        replace h := Option.some.inj h
        subst h
        simp only [go_sem]
        exact Up.here (retG_i [(0, 0, 0)] [.int .i64 k_1'] rfl (by decide) (by decide) (by simp only [go_sem]) (by simp only [go_sem]) (by simp only [go_sem]))

theorem laws_markPolicy_gc {a_0 : TPolicy} {k_1 : Int} {r : (Int × (List TTarget))} (h : laws_markPolicy a_0 k_1 = some r) : GC prog 16 [.agg [.str a_0.fName, .ref (0, 0, 0) a_0.fTargets.length], .int .i64 k_1] [⟨some (70, 4), a_0.fTargets.length, a_0.fTargets.flatMap cTarget⟩] (.int .i64 r.1) [⟨some (70, 4), r.2.length, r.2.flatMap cTarget⟩] := by
  refine GC.introU (rs := [.tmp 4]) func16 rfl rfl mx (Static.mk' (by rfl) (by simp only [go_sem]) (by simp only [go_sem]) (by simp) (by simp only [go_sem]) (by simp only [go_sem])) (by rfl) (by rw [ntmps16]; simp) ?_
  rw [laws_markPolicy] at h
  rw [pwp_start]
  simp only [go_sem, st0H, holesL]
  obtain ⟨y1, hy1, h⟩ := bind_i h
  refine CallS.turn (laws_markTargetS_gc hy1) [(0, 0, 0)] rfl rfl (by decide) (by simp only [go_sem]) (by simp only [go_sem]) ?_
  obtain ⟨u2, hu2, h⟩ := bind_i h
  replace h := Option.some.inj h
  subst h
  simp only [go_sem, same?_some hu2]
  exact Up.here (retG_i [(0, 0, 0)] [.int .i64 y1.1] rfl (by decide) (by decide) (by simp only [go_sem]) (by simp only [go_sem]) (by simp only [go_sem]))

theorem laws_markHostS_gc {a_0 : (List THost)} {k_1 : Int} {r : (Int × (List THost))} (h : laws_markHostS a_0 k_1 = some r) : GC prog 40 [.ref (0, 0, 0) a_0.length, .int .i64 k_1] [⟨some (89, 3), a_0.length, a_0.flatMap cHost⟩] (.int .i64 r.1) [⟨some (89, 3), r.2.length, r.2.flatMap cHost⟩] := by
  refine GC.introU (rs := [.tmp 4]) func40 rfl rfl mx (Static.mk' (by rfl) (by simp only [go_sem]) (by simp only [go_sem]) (by simp) (by simp only [go_sem]) (by simp only [go_sem])) (by rfl) (by rw [ntmps40]; simp) ?_
  rw [laws_markHostS] at h
  rw [pwp_start]
  simp only [go_sem, st0H, holesL]
  refine pwp_plain rfl ?_
  simp only [go_sem]
  refine loopG_i (fun m s => ∃ (k_1' : Int) (i_5 : Int) (a_0' : List THost), laws_markHostS_L1 a_0 k_1 m k_1' i_5 a_0' = some r ∧ s = ⟨frL [(0, .ref (0, 0, 0) a_0'.length), (1, .int .i64 k_1'), (5, .int .i64 i_5)], hL [((0, 0, 0), ⟨some (89, 3), a_0'.length, a_0'.flatMap cHost⟩)], 3⟩) FU ?_ ?_
  · exact Up.to [(0, .ref (0, 0, 0) a_0.length), (1, .int .i64 k_1), (5, .int .i64 0)] [((0, 0, 0), ⟨some (89, 3), a_0.length, a_0.flatMap cHost⟩)] 3 (h5 := by intro j; rcases j with _ | j <;> simp only [go_sem, hole]) ⟨_, _, _, h, rfl⟩
  · rintro Q1 fu1 _ ⟨k_1', i_5, a_0', h, rfl⟩ hN1 hR1 hE1
    cases fu1 with
    | zero =>
      rw [laws_markHostS_L1] at h; cases h
    | succ fu1 =>
      rw [laws_markHostS_L1] at h
      simp only [go_sem]
      refine pwp_plain rfl ?_
      simp only [go_sem]
      cases hg1 : (decide (i_5 < (a_0'.length : Int))) with
      | true =>
        replace h := if_t hg1 h
        simp only [go_sem]
        refine UpC.here ?_
        refine pwp_plain rfl ?_
        simp only [go_sem]
        obtain ⟨y2, hy2, h⟩ := bind_i h
        refine CallS.pcs (laws_markText_ok hy2) rfl ?_
        simp only [go_sem]
        obtain ⟨e3, he3, h⟩ := bind_i h
        refine evE_indexRef he3 (by simp only [go_sem]) ?_
        simp only [go_sem]
        obtain ⟨x4, hx4, h⟩ := bind_i h
        refine evE_putRow (x' := (⟨y2, e3.fUp, e3.fRow⟩ : THost)) he3 hx4 cHost_len (by simp only [go_sem] <;> rfl) _ 0 (by decide) (by omega) rfl rfl rfl ?_
        simp only [go_sem, put?_len hx4]
        obtain ⟨e5, he5, h⟩ := bind_i h
        refine evE_indexRef he5 (by simp only [go_sem]) ?_
        simp only [go_sem, put?_len hx4]
        obtain ⟨x6, hx6, h⟩ := bind_i h
        refine evE_putRow (x' := (⟨e5.fName, (((IntKind.i64.wrap (k_1' + 1)).tmod 3) == 0), e5.fRow⟩ : THost)) he5 hx6 cHost_len (by simp only [go_sem] <;> rfl) _ 1 (by decide) (by omega) rfl rfl rfl ?_
        simp only [go_sem, put?_len hx4, put?_len hx6]
        obtain ⟨e7, he7, h⟩ := bind_i h
        refine evE_indexRef he7 (by simp only [go_sem]) ?_
        simp only [go_sem, put?_len hx4, put?_len hx6]
        obtain ⟨x8, hx8, h⟩ := bind_i h
        refine evE_putRow (x' := (⟨e7.fName, e7.fUp, (IntKind.i64.wrap ((IntKind.i64.wrap (k_1' + 1)) + 1))⟩ : THost)) he7 hx8 cHost_len (by simp only [go_sem] <;> rfl) _ 2 (by decide) (by omega) rfl rfl rfl ?_
        simp only [go_sem, put?_len hx4, put?_len hx6, put?_len hx8]
        refine UpC.here ?_
        simp only [go_sem, put?_len hx4, put?_len hx6, put?_len hx8]
        exact hN1 _ (Up.to [(0, .ref (0, 0, 0) x8.length), (1, .int .i64 (IntKind.i64.wrap ((IntKind.i64.wrap ((IntKind.i64.wrap (k_1' + 1)) + 1)) + 1))), (5, .int .i64 (IntKind.i64.wrap (i_5 + 1)))] [((0, 0, 0), ⟨some (89, 3), x8.length, x8.flatMap cHost⟩)] 3 (h5 := by intro j; rcases j with _ | j <;> simp only [go_sem, hole]) ⟨fu1, Nat.lt_succ_self _, (IntKind.i64.wrap ((IntKind.i64.wrap ((IntKind.i64.wrap (k_1' + 1)) + 1)) + 1)), (IntKind.i64.wrap (i_5 + 1)), x8, h, rfl⟩)
      | false =>
        replace h := if_f hg1 h
        simp only [go_sem]
        refine hE1 _ _ ?_
        simp only [go_sem]
        refine UpC.here ?_
        replace h := Option.some.inj h
        subst h
        simp only [go_sem]
        exact Up.here (retG_i [(0, 0, 0)] [.int .i64 k_1'] rfl (by decide) (by decide) (by simp only [go_sem]) (by simp only [go_sem]) (by simp only [go_sem]))

theorem laws_markHealth_gc {a_0 : THealth} {k_1 : Int} {r : (Int × (List THost))} (h : laws_markHealth a_0 k_1 = some r) : GC prog 17 [.agg [.int .i64 a_0.fRise, .int .i64 a_0.fFall, .ref (0, 0, 0) a_0.fHosts.length], .int .i64 k_1] [⟨some (89, 3), a_0.fHosts.length, a_0.fHosts.flatMap cHost⟩] (.int .i64 r.1) [⟨some (89, 3), r.2.length, r.2.flatMap cHost⟩] := by
  refine GC.introU (rs := [.tmp 4]) func17 rfl rfl mx (Static.mk' (by rfl) (by simp only [go_sem]) (by simp only [go_sem]) (by simp) (by simp only [go_sem]) (by simp only [go_sem])) (by rfl) (by rw [ntmps17]; simp) ?_
  rw [laws_markHealth] at h
  rw [pwp_start]
  simp only [go_sem, st0H, holesL]
  obtain ⟨y1, hy1, h⟩ := bind_i h
  refine CallS.turn (laws_markHostS_gc hy1) [(0, 0, 0)] rfl rfl (by decide) (by simp only [go_sem]) (by simp only [go_sem]) ?_
  obtain ⟨u2, hu2, h⟩ := bind_i h
  replace h := Option.some.inj h
  subst h
  simp only [go_sem, same?_some hu2]
  exact Up.here (retG_i [(0, 0, 0)] [.int .i64 y1.1] rfl (by decide) (by decide) (by simp only [go_sem]) (by simp only [go_sem]) (by simp only [go_sem]))

theorem laws_markIntS_gc {a_0 : (List Int)} {k_1 : Int} {r : (Int × (List Int))} (h : laws_markIntS a_0 k_1 = some r) : GC prog 18 [.ref (0, 0, 0) a_0.length, .int .i64 k_1] [⟨some (3, 1), a_0.length, a_0.flatMap cI⟩] (.int .i64 r.1) [⟨some (3, 1), r.2.length, r.2.flatMap cI⟩] := by
  refine GC.introU (rs := [.tmp 4]) func18 rfl rfl mx (Static.mk' (by rfl) (by simp only [go_sem]) (by simp only [go_sem]) (by simp) (by simp only [go_sem]) (by simp only [go_sem])) (by rfl) (by rw [ntmps18]; simp) ?_
  rw [laws_markIntS] at h
  rw [pwp_start]
  simp only [go_sem, st0H, holesL]
  refine pwp_plain rfl ?_
  simp only [go_sem]
  refine loopG_i (fun m s => ∃ (k_1' : Int) (i_5 : Int) (a_0' : List Int), laws_markIntS_L1 a_0 k_1 m k_1' i_5 a_0' = some r ∧ s = ⟨frL [(0, .ref (0, 0, 0) a_0'.length), (1, .int .i64 k_1'), (5, .int .i64 i_5)], hL [((0, 0, 0), ⟨some (3, 1), a_0'.length, a_0'.flatMap cI⟩)], 3⟩) FU ?_ ?_
  · exact Up.to [(0, .ref (0, 0, 0) a_0.length), (1, .int .i64 k_1), (5, .int .i64 0)] [((0, 0, 0), ⟨some (3, 1), a_0.length, a_0.flatMap cI⟩)] 3 (h5 := by intro j; rcases j with _ | j <;> simp only [go_sem, hole]) ⟨_, _, _, h, rfl⟩
  · rintro Q1 fu1 _ ⟨k_1', i_5, a_0', h, rfl⟩ hN1 hR1 hE1
    cases fu1 with
    | zero =>
      rw [laws_markIntS_L1] at h; cases h
    | succ fu1 =>
      rw [laws_markIntS_L1] at h
      simp only [go_sem]
      refine pwp_plain rfl ?_
      simp only [go_sem]
      cases hg1 : (decide (i_5 < (a_0'.length : Int))) with
      | true =>
        replace h := if_t hg1 h
        simp only [go_sem]
        refine UpC.here ?_
        refine pwp_plain rfl ?_
        simp only [go_sem]
        obtain ⟨e2, he2, h⟩ := bind_i h
        refine evE_indexRef he2 (by simp only [go_sem]) ?_
        simp only [go_sem]
        obtain ⟨x3, hx3, h⟩ := bind_i h
        refine evE_storeRow (x := k_1') hx3 cI_len (by simp only [go_sem] <;> rfl) _ (by omega) rfl rfl rfl ?_
        simp only [go_sem, put?_len hx3]
        refine UpC.here ?_
        simp only [go_sem, put?_len hx3]
        exact hN1 _ (Up.to [(0, .ref (0, 0, 0) x3.length), (1, .int .i64 (IntKind.i64.wrap (k_1' + 1))), (5, .int .i64 (IntKind.i64.wrap (i_5 + 1)))] [((0, 0, 0), ⟨some (3, 1), x3.length, x3.flatMap cI⟩)] 3 (h5 := by intro j; rcases j with _ | j <;> simp only [go_sem, hole]) ⟨fu1, Nat.lt_succ_self _, (IntKind.i64.wrap (k_1' + 1)), (IntKind.i64.wrap (i_5 + 1)), x3, h, rfl⟩)
      | false =>
        replace h := if_f hg1 h
        simp only [go_sem]
        refine hE1 _ _ ?_
        simp only [go_sem]
        refine UpC.here ?_
        replace h := Option.some.inj h
        subst h
        simp only [go_sem]
        exact Up.here (retG_i [(0, 0, 0)] [.int .i64 k_1'] rfl (by decide) (by decide) (by simp only [go_sem]) (by simp only [go_sem]) (by simp only [go_sem]))

theorem laws_heldIntS_ok {a_0 : (List Int)} {k_1 : Int} {r : Int} (h : laws_heldIntS a_0 k_1 = some r) : PC prog 19 [.sl a_0.length (a_0.flatMap cI), .int .i64 k_1] (.int .i64 r) := by
  refine PC.intro (rs := [.tmp 4]) func19 rfl rfl mx (by rfl) (by rfl) (by rw [ntmps19]; simp) ?_
  rw [laws_heldIntS] at h
  rw [pwp_start]
  simp only [go_sem, st0]
  refine pwp_plain rfl ?_
  simp only [go_sem]
  refine loopG_i (fun m s => ∃ (k_1' : Int) (i_5 : Int), laws_heldIntS_L1 a_0 k_1 m k_1' i_5 = some r ∧ s = ⟨frL [(0, .sl a_0.length (a_0.flatMap cI)), (1, .int .i64 k_1'), (5, .int .i64 i_5)], hL [], 3⟩) FU ?_ ?_
  · exact Up.to [(0, .sl a_0.length (a_0.flatMap cI)), (1, .int .i64 k_1), (5, .int .i64 0)] [] 3 ⟨_, _, h, rfl⟩
  · rintro Q1 fu1 _ ⟨k_1', i_5, h, rfl⟩ hN1 hR1 hE1
    cases fu1 with
    | zero =>
      rw [laws_heldIntS_L1] at h; cases h
    | succ fu1 =>
      rw [laws_heldIntS_L1] at h
      simp only [go_sem]
      refine pwp_plain rfl ?_
      simp only [go_sem]
      cases hg1 : (decide (i_5 < (a_0.length : Int))) with
      | true =>
        replace h := if_t hg1 h
        simp only [go_sem]
        refine UpC.here ?_
        refine pwp_plain rfl ?_
        simp only [go_sem]
        refine pwp_plain rfl ?_
        simp only [go_sem]
        obtain ⟨e2, he2, h⟩ := bind_i h
        refine evE_index he2 cI_len (by decide) (fun rest => ?_)
        simp only [go_sem]
        cases hg3 : (e2 != k_1') with
        | true =>
          replace h := if_t hg3 h
          simp only [go_sem]
          refine hR1 _ ?_
          replace h := Option.some.inj h
          subst h
          simp only [go_sem]
        | false =>
          replace h := if_f hg3 h
          simp only [go_sem]
          refine UpC.here ?_
          simp only [go_sem]
          refine UpC.here ?_
          simp only [go_sem]
          exact hN1 _ (Up.to [(0, .sl a_0.length (a_0.flatMap cI)), (1, .int .i64 (IntKind.i64.wrap (k_1' + 1))), (5, .int .i64 (IntKind.i64.wrap (i_5 + 1)))] [] 3 ⟨fu1, Nat.lt_succ_self _, (IntKind.i64.wrap (k_1' + 1)), (IntKind.i64.wrap (i_5 + 1)), h, rfl⟩)
      | false =>
        replace h := if_f hg1 h
        simp only [go_sem]
        refine hE1 _ _ ?_
        simp only [go_sem]
        refine UpC.here ?_
        replace h := Option.some.inj h
        subst h
        simp only [go_sem]

theorem laws_FnExactCandidatesOf_ok {aP_0 : TPolicy} {aH_1 : THealth} {r : Bool} (h : laws_FnExactCandidatesOf aP_0 aH_1 = some r) : PC prog 3 [.agg [.str aP_0.fName, .sl aP_0.fTargets.length (aP_0.fTargets.flatMap cTarget)], .agg [.int .i64 aH_1.fRise, .int .i64 aH_1.fFall, .sl aH_1.fHosts.length (aH_1.fHosts.flatMap cHost)]] (.bool r) := by
  refine PC.intro (rs := [.tmp 4]) func3 rfl rfl mx (by rfl) (by rfl) (by rw [ntmps3]; simp) ?_
  rw [laws_FnExactCandidatesOf] at h
  rw [pwp_start]
  simp only [go_sem, st0]
  obtain ⟨y1, hy1, h⟩ := bind_i h
  refine CallS.pcs (laws_szPolicy_ok hy1) rfl ?_
  simp only [go_sem]
  refine pwp_plain rfl ?_
  simp only [go_sem]
  cases hg2 : (decide (y1 < 0)) with
  | true =>
    replace h := if_t hg2 h
    replace h := Option.some.inj h
    subst h
    simp only [go_sem]
  | false =>
    replace h := if_f hg2 h
    simp only [go_sem]
    refine UpC.to [(2, .loc (1, 2, 0) 0 0), (3, .loc (1, 3, 0) 0 0), (5, .int .i64 y1)] [((1, 2, 0), ⟨none, 0, [.str aP_0.fName, .sl aP_0.fTargets.length (aP_0.fTargets.flatMap cTarget)]⟩), ((1, 3, 0), ⟨none, 0, [.int .i64 aH_1.fRise, .int .i64 aH_1.fFall, .sl aH_1.fHosts.length (aH_1.fHosts.flatMap cHost)]⟩)] 5 ?_
    simp only [go_sem]
    obtain ⟨y3, hy3, h⟩ := bind_i h
    refine CallS.pcs (laws_szHealth_ok hy3) rfl ?_
    simp only [go_sem]
    refine pwp_plain rfl ?_
    simp only [go_sem]
    cases hg4 : (decide (y3 < 0)) with
    | true =>
      replace h := if_t hg4 h
      replace h := Option.some.inj h
      subst h
      simp only [go_sem]
    | false =>
      replace h := if_f hg4 h
      simp only [go_sem]
      refine UpC.to [(2, .loc (1, 2, 0) 0 0), (3, .loc (1, 3, 0) 0 0)] [((1, 2, 0), ⟨none, 0, [.str aP_0.fName, .sl aP_0.fTargets.length (aP_0.fTargets.flatMap cTarget)]⟩), ((1, 3, 0), ⟨none, 0, [.int .i64 aH_1.fRise, .int .i64 aH_1.fFall, .sl aH_1.fHosts.length (aH_1.fHosts.flatMap cHost)]⟩)] 7 ?_
      simp only [go_sem]
      obtain ⟨y5, hy5, h⟩ := bind_i h
      refine CallS.pcs (laws_toPolicy_ok hy5) rfl ?_
      simp only [go_sem]
      obtain ⟨y6, hy6, h⟩ := bind_i h
      refine CallS.pcs (laws_toHealth_ok hy6) rfl ?_
      simp only [go_sem]
      obtain ⟨y7, hy7, h⟩ := bind_i h
      refine CallS.pcs (spec_CandidatesOf_ok hy7) rfl ?_
      simp only [go_sem]
      refine lgEnd_pure (by simp) ?_
      try simp only [go_sem]
      obtain ⟨y8, hy8, h⟩ := bind_i h
      refine CallS.seeg (laws_toPolicy_gc hy8) (by simp only [go_sem]) (by simp only [go_sem]) ?_
      simp only [go_sem]
      obtain ⟨y9, hy9, h⟩ := bind_i h
      refine CallS.seeg (laws_toHealth_gc hy9) (by simp only [go_sem]) (by simp only [go_sem]) ?_
      simp only [go_sem]
      obtain ⟨y10, hy10, h⟩ := bind_i h
      refine CallS.seeg (impl_CandidatesOf_gc hy10) (by simp only [go_sem]) (by simp only [go_sem]) ?_
      simp only [go_sem]
      refine pwp_plain rfl ?_
      simp only [go_sem]
      obtain ⟨y11, hy11, h⟩ := bind_i h
      refine CallS.see (laws_eqIntS_ok hy11) (by simp only [go_sem]) (by simp only [go_sem]) ?_
      simp only [go_sem]
      cases hg12 : (!y11) with
      | true =>
        replace h := if_t hg12 h
        replace h := Option.some.inj h
        subst h
        simp only [go_sem]
      | false =>
        replace h := if_f hg12 h
        simp only [go_sem]
        cases hg13 : (!(y10.2 == y7.2)) with
        | true =>
          replace h := if_t hg13 h
          replace h := Option.some.inj h
          subst h
          simp only [go_sem]
        | false =>
          replace h := if_f hg13 h
          simp only [go_sem]
          refine UpC.to [(2, .loc (1, 2, 0) 0 0), (3, .loc (1, 3, 0) 0 0), (6, .sl y7.1.length (y7.1.flatMap cI)), (7, .bool y7.2), (8, .loc (8, 8, 0) 0 0), (9, .loc (9, 9, 0) 0 0), (10, .ref (10, 42, 0) y10.1.length), (11, .bool y10.2)] [((1, 2, 0), ⟨none, 0, [.str aP_0.fName, .sl aP_0.fTargets.length (aP_0.fTargets.flatMap cTarget)]⟩), ((1, 3, 0), ⟨none, 0, [.int .i64 aH_1.fRise, .int .i64 aH_1.fFall, .sl aH_1.fHosts.length (aH_1.fHosts.flatMap cHost)]⟩), ((8, 8, 0), ⟨none, 0, [.str y8.fName, .ref (8, 36, 0) y8.fTargets.length]⟩), ((8, 36, 0), ⟨some (70, 4), y8.fTargets.length, y8.fTargets.flatMap cTarget⟩), ((9, 9, 0), ⟨none, 0, [.int .i64 y9.fRise, .int .i64 y9.fFall, .ref (9, 38, 0) y9.fHosts.length]⟩), ((9, 38, 0), ⟨some (89, 3), y9.fHosts.length, y9.fHosts.flatMap cHost⟩), ((10, 42, 0), ⟨some (3, 1), y10.1.length, y10.1.flatMap cI⟩)] 12 ?_
          simp only [go_sem]
          refine pwp_plain rfl ?_
          simp only [go_sem]
          obtain ⟨y14, hy14, h⟩ := bind_i h
          refine CallS.pcs (laws_toPolicy_ok hy14) rfl ?_
          simp only [go_sem]
          obtain ⟨y15, hy15, h⟩ := bind_i h
          refine CallS.see (laws_eqPolicy_ok hy15) (by simp only [go_sem]) (by simp only [go_sem]) ?_
          simp only [go_sem]
          refine lgEnd_pure (by simp) ?_
          cases hg16 : (!y15) with
          | true =>
            replace h := if_t hg16 h
            replace h := Option.some.inj h
            subst h
            try simp only [go_sem]
          | false =>
            replace h := if_f hg16 h
            try simp only [go_sem]
            refine UpC.to [(2, .loc (1, 2, 0) 0 0), (3, .loc (1, 3, 0) 0 0), (6, .sl y7.1.length (y7.1.flatMap cI)), (7, .bool y7.2), (8, .loc (8, 8, 0) 0 0), (9, .loc (9, 9, 0) 0 0), (10, .ref (10, 42, 0) y10.1.length), (11, .bool y10.2)] [((1, 2, 0), ⟨none, 0, [.str aP_0.fName, .sl aP_0.fTargets.length (aP_0.fTargets.flatMap cTarget)]⟩), ((1, 3, 0), ⟨none, 0, [.int .i64 aH_1.fRise, .int .i64 aH_1.fFall, .sl aH_1.fHosts.length (aH_1.fHosts.flatMap cHost)]⟩), ((8, 8, 0), ⟨none, 0, [.str y8.fName, .ref (8, 36, 0) y8.fTargets.length]⟩), ((8, 36, 0), ⟨some (70, 4), y8.fTargets.length, y8.fTargets.flatMap cTarget⟩), ((9, 9, 0), ⟨none, 0, [.int .i64 y9.fRise, .int .i64 y9.fFall, .ref (9, 38, 0) y9.fHosts.length]⟩), ((9, 38, 0), ⟨some (89, 3), y9.fHosts.length, y9.fHosts.flatMap cHost⟩), ((10, 42, 0), ⟨some (3, 1), y10.1.length, y10.1.flatMap cI⟩)] 13 ?_
            simp only [go_sem]
            refine pwp_plain rfl ?_
            simp only [go_sem]
            obtain ⟨y17, hy17, h⟩ := bind_i h
            refine CallS.pcs (laws_toHealth_ok hy17) rfl ?_
            simp only [go_sem]
            obtain ⟨y18, hy18, h⟩ := bind_i h
            refine CallS.see (laws_eqHealth_ok hy18) (by simp only [go_sem]) (by simp only [go_sem]) ?_
            simp only [go_sem]
            refine lgEnd_pure (by simp) ?_
            cases hg19 : (!y18) with
            | true =>
              replace h := if_t hg19 h
              replace h := Option.some.inj h
              subst h
              try simp only [go_sem]
            | false =>
              replace h := if_f hg19 h
              try simp only [go_sem]
              refine UpC.to [(2, .loc (1, 2, 0) 0 0), (3, .loc (1, 3, 0) 0 0), (6, .sl y7.1.length (y7.1.flatMap cI)), (7, .bool y7.2), (8, .loc (8, 8, 0) 0 0), (9, .loc (9, 9, 0) 0 0), (10, .ref (10, 42, 0) y10.1.length), (11, .bool y10.2)] [((1, 2, 0), ⟨none, 0, [.str aP_0.fName, .sl aP_0.fTargets.length (aP_0.fTargets.flatMap cTarget)]⟩), ((1, 3, 0), ⟨none, 0, [.int .i64 aH_1.fRise, .int .i64 aH_1.fFall, .sl aH_1.fHosts.length (aH_1.fHosts.flatMap cHost)]⟩), ((8, 8, 0), ⟨none, 0, [.str y8.fName, .ref (8, 36, 0) y8.fTargets.length]⟩), ((8, 36, 0), ⟨some (70, 4), y8.fTargets.length, y8.fTargets.flatMap cTarget⟩), ((9, 9, 0), ⟨none, 0, [.int .i64 y9.fRise, .int .i64 y9.fFall, .ref (9, 38, 0) y9.fHosts.length]⟩), ((9, 38, 0), ⟨some (89, 3), y9.fHosts.length, y9.fHosts.flatMap cHost⟩), ((10, 42, 0), ⟨some (3, 1), y10.1.length, y10.1.flatMap cI⟩)] 14 ?_
              simp only [go_sem]
              obtain ⟨y20, hy20, h⟩ := bind_i h
              refine CallS.turn (laws_markPolicy_gc hy20) [(8, 36, 0)] rfl rfl (by decide) (by simp only [go_sem]) (by simp only [go_sem]) ?_
              obtain ⟨u21, hu21, h⟩ := bind_i h
              simp only [go_sem, same?_some hu21]
              obtain ⟨y22, hy22, h⟩ := bind_i h
              refine CallS.turn (laws_markHealth_gc hy22) [(9, 38, 0)] rfl rfl (by decide) (by simp only [go_sem]) (by simp only [go_sem]) ?_
              obtain ⟨u23, hu23, h⟩ := bind_i h
              simp only [go_sem, same?_some hu21, same?_some hu23]
              refine pwp_plain rfl ?_
              simp only [go_sem, same?_some hu21, same?_some hu23]
              cases hg24 : (decide (y22.1 < 0)) with
              | true =>
                replace h := if_t hg24 h
                replace h := Option.some.inj h
                subst h
                simp only [go_sem, same?_some hu21, same?_some hu23]
              | false =>
                replace h := if_f hg24 h
                simp only [go_sem, same?_some hu21, same?_some hu23]
                obtain ⟨y25, hy25, h⟩ := bind_i h
                refine CallS.see (laws_eqIntS_ok hy25) (by simp only [go_sem]) (by simp only [go_sem]) ?_
                simp only [go_sem, same?_some hu21, same?_some hu23]
                cases hg26 : (!y25) with
                | true =>
                  replace h := if_t hg26 h
                  replace h := Option.some.inj h
                  subst h
                  simp only [go_sem, same?_some hu21, same?_some hu23]
                | false =>
                  replace h := if_f hg26 h
                  simp only [go_sem, same?_some hu21, same?_some hu23]
                  cases hg27 : (!(y10.2 == y7.2)) with
                  | true =>
                    replace h := if_t hg27 h
                    replace h := Option.some.inj h
                    subst h
                    simp only [go_sem, same?_some hu21, same?_some hu23]
                  | false =>
                    replace h := if_f hg27 h
                    simp only [go_sem, same?_some hu21, same?_some hu23]
                    refine UpC.to [(2, .loc (1, 2, 0) 0 0), (3, .loc (1, 3, 0) 0 0), (6, .sl y7.1.length (y7.1.flatMap cI)), (7, .bool y7.2), (10, .ref (10, 42, 0) y10.1.length)] [((1, 2, 0), ⟨none, 0, [.str aP_0.fName, .sl aP_0.fTargets.length (aP_0.fTargets.flatMap cTarget)]⟩), ((1, 3, 0), ⟨none, 0, [.int .i64 aH_1.fRise, .int .i64 aH_1.fFall, .sl aH_1.fHosts.length (aH_1.fHosts.flatMap cHost)]⟩), ((10, 42, 0), ⟨some (3, 1), y10.1.length, y10.1.flatMap cI⟩)] 18 ?_
                    simp only [go_sem, same?_some hu21, same?_some hu23]
                    obtain ⟨y28, hy28, h⟩ := bind_i h
                    refine CallS.turn (laws_markIntS_gc hy28) [(10, 42, 0)] rfl rfl (by decide) (by simp only [go_sem]) (by simp only [go_sem]) ?_
                    obtain ⟨u29, hu29, h⟩ := bind_i h
                    simp only [go_sem, same?_some hu21, same?_some hu23, same?_some hu29]
                    obtain ⟨y30, hy30, h⟩ := bind_i h
                    refine CallS.see (laws_heldIntS_ok hy30) (by simp only [go_sem]) (by simp only [go_sem]) ?_
                    simp only [go_sem, same?_some hu21, same?_some hu23, same?_some hu29]
                    refine pwp_plain rfl ?_
                    simp only [go_sem, same?_some hu21, same?_some hu23, same?_some hu29]
                    cases hg31 : (decide (y30 < 0)) with
                    | true =>
                      replace h := if_t hg31 h
                      replace h := Option.some.inj h
                      subst h
                      simp only [go_sem, same?_some hu21, same?_some hu23, same?_some hu29]
                    | false =>
                      replace h := if_f hg31 h
                      simp only [go_sem, same?_some hu21, same?_some hu23, same?_some hu29]
                      refine UpC.to [(2, .loc (1, 2, 0) 0 0), (3, .loc (1, 3, 0) 0 0), (6, .sl y7.1.length (y7.1.flatMap cI)), (7, .bool y7.2), (10, .ref (10, 42, 0) y28.2.length), (13, .int .i64 y28.1), (14, .int .i64 y30)] [((1, 2, 0), ⟨none, 0, [.str aP_0.fName, .sl aP_0.fTargets.length (aP_0.fTargets.flatMap cTarget)]⟩), ((1, 3, 0), ⟨none, 0, [.int .i64 aH_1.fRise, .int .i64 aH_1.fFall, .sl aH_1.fHosts.length (aH_1.fHosts.flatMap cHost)]⟩), ((10, 42, 0), ⟨some (3, 1), y28.2.length, y28.2.flatMap cI⟩)] 23 ?_
                      simp only [go_sem, same?_some hu21, same?_some hu23, same?_some hu29]
                      refine pwp_plain rfl ?_
                      simp only [go_sem, same?_some hu21, same?_some hu23, same?_some hu29]
                      cases hg32 : (y30 != y28.1) with
                      | true =>
                        replace h := if_t hg32 h
                        replace h := Option.some.inj h
                        subst h
                        simp only [go_sem, same?_some hu21, same?_some hu23, same?_some hu29]
                      | false =>
                        replace h := if_f hg32 h
                        simp only [go_sem, same?_some hu21, same?_some hu23, same?_some hu29]
                        refine UpC.to [(2, .loc (1, 2, 0) 0 0), (3, .loc (1, 3, 0) 0 0), (6, .sl y7.1.length (y7.1.flatMap cI)), (7, .bool y7.2), (10, .ref (10, 42, 0) y28.2.length), (13, .int .i64 y28.1)] [((1, 2, 0), ⟨none, 0, [.str aP_0.fName, .sl aP_0.fTargets.length (aP_0.fTargets.flatMap cTarget)]⟩), ((1, 3, 0), ⟨none, 0, [.int .i64 aH_1.fRise, .int .i64 aH_1.fFall, .sl aH_1.fHosts.length (aH_1.fHosts.flatMap cHost)]⟩), ((10, 42, 0), ⟨some (3, 1), y28.2.length, y28.2.flatMap cI⟩)] 24 ?_
                        simp only [go_sem, same?_some hu21, same?_some hu23, same?_some hu29]
                        obtain ⟨y33, hy33, h⟩ := bind_i h
                        refine CallS.pcs (laws_toPolicy_ok hy33) rfl ?_
                        simp only [go_sem, same?_some hu21, same?_some hu23, same?_some hu29]
                        obtain ⟨y34, hy34, h⟩ := bind_i h
                        refine CallS.pcs (laws_toHealth_ok hy34) rfl ?_
                        simp only [go_sem, same?_some hu21, same?_some hu23, same?_some hu29]
                        obtain ⟨y35, hy35, h⟩ := bind_i h
                        refine CallS.pcs (impl_CandidatesOf_ok hy35) rfl ?_
                        simp only [go_sem, same?_some hu21, same?_some hu23, same?_some hu29]
                        refine lgEnd_pure (by simp) ?_
                        refine pwp_plain rfl ?_
                        try simp only [go_sem, same?_some hu21, same?_some hu23, same?_some hu29]
                        obtain ⟨y36, hy36, h⟩ := bind_i h
                        refine CallS.pcs (laws_eqIntS_ok hy36) rfl ?_
                        simp only [go_sem, same?_some hu21, same?_some hu23, same?_some hu29]
                        cases hg37 : (!y36) with
                        | true =>
                          replace h := if_t hg37 h
                          replace h := Option.some.inj h
                          subst h
                          simp only [go_sem, same?_some hu21, same?_some hu23, same?_some hu29]
                        | false =>
                          replace h := if_f hg37 h
                          simp only [go_sem, same?_some hu21, same?_some hu23, same?_some hu29]
                          cases hg38 : (!(y35.2 == y7.2)) with
                          | true =>
                            replace h := if_t hg38 h
                            replace h := Option.some.inj h
                            subst h
                            simp only [go_sem, same?_some hu21, same?_some hu23, same?_some hu29]
                          | false =>
                            replace h := if_f hg38 h
                            simp only [go_sem, same?_some hu21, same?_some hu23, same?_some hu29]
                            refine UpC.to [(10, .ref (10, 42, 0) y28.2.length), (13, .int .i64 y28.1)] [((10, 42, 0), ⟨some (3, 1), y28.2.length, y28.2.flatMap cI⟩)] 26 ?_
                            simp only [go_sem, same?_some hu21, same?_some hu23, same?_some hu29]
                            obtain ⟨y39, hy39, h⟩ := bind_i h
                            refine CallS.see (laws_heldIntS_ok hy39) (by simp only [go_sem]) (by simp only [go_sem]) ?_
                            simp only [go_sem, same?_some hu21, same?_some hu23, same?_some hu29]
                            refine pwp_plain rfl ?_
                            simp only [go_sem, same?_some hu21, same?_some hu23, same?_some hu29]
                            cases hg40 : (decide (y39 < 0)) with
                            | true =>
                              replace h := if_t hg40 h
                              replace h := Option.some.inj h
                              subst h
                              simp only [go_sem, same?_some hu21, same?_some hu23, same?_some hu29]
                            | false =>
                              replace h := if_f hg40 h
                              simp only [go_sem, same?_some hu21, same?_some hu23, same?_some hu29]
                              refine UpC.to [(13, .int .i64 y28.1), (14, .int .i64 y39)] [] 29 ?_
                              simp only [go_sem, same?_some hu21, same?_some hu23, same?_some hu29]
                              refine pwp_plain rfl ?_
                              simp only [go_sem, same?_some hu21, same?_some hu23, same?_some hu29]
                              cases hg41 : (y39 != y28.1) with
                              | true =>
                                replace h := if_t hg41 h
                                replace h := Option.some.inj h
                                subst h
                                simp only [go_sem, same?_some hu21, same?_some hu23, same?_some hu29]
                              | false =>
                                replace h := if_f hg41 h
                                simp only [go_sem, same?_some hu21, same?_some hu23, same?_some hu29]
                                refine UpC.to [] [] 30 ?_
                                replace h := Option.some.inj h
                                subst h
                                simp only [go_sem, same?_some hu21, same?_some hu23, same?_some hu29]

theorem spec_l12Total_ok {l_0 : (List Int)} {r : Int} (h : spec_l12Total l_0 = some r) : PC prog 41 [.sl l_0.length (l_0.flatMap cI)] (.int .i64 r) := by
  refine PC.intro (rs := [.tmp 2]) func41 rfl rfl mx (by rfl) (by rfl) (by rw [ntmps41]; simp) ?_
  rw [spec_l12Total] at h
  rw [pwp_start]
  simp only [go_sem, st0]
  refine pwp_plain rfl ?_
  simp only [go_sem]
  refine loopG_i (fun m s => ∃ (post8 : List Int) (i8 : Nat) (n_3 : Int), m = post8.length ∧ Rg l_0 i8 post8 ∧ l_0.length ≤ 9223372036854775807 ∧ spec_l12Total_L1 post8 i8 n_3 = some r ∧ s = ⟨frL [(3, .int .i64 n_3), (6, .sl l_0.length (l_0.flatMap cI)), (7, .int .i64 (l_0.length : Int)), (8, .int .i64 (i8 : Int))], hL [], 4⟩) l_0.length (Up.bound 6 l_0.length (l_0.flatMap cI) (by simp only [go_sem]) (fun hb => ?_)) ?_
  · exact Up.to [(3, .int .i64 0), (6, .sl l_0.length (l_0.flatMap cI)), (7, .int .i64 (l_0.length : Int)), (8, .int .i64 ((0 : Nat) : Int))] [] 4 ⟨_, 0, _, rfl, rg_0 _, hb, h, rfl⟩
  · rintro Q1 _ _ ⟨post8, i8, n_3, rfl, hl8, hb8, h, rfl⟩ hN1 hR1 hE1
    cases post8 with
    | nil =>
      rw [spec_l12Total_L1] at h
      simp only [go_sem, rg_nil hl8]
      refine pwp_plain rfl ?_
      simp only [go_sem, rg_nil hl8]
      refine hE1 _ _ ?_
      simp only [go_sem, rg_nil hl8]
      refine UpC.here ?_
      replace h := Option.some.inj h
      subst h
      simp only [go_sem, rg_nil hl8]
    | cons e8 post8 =>
      rw [spec_l12Total_L1] at h
      simp only [go_sem, rg_cons hl8, rg_step hl8 hb8]
      refine pwp_plain rfl ?_
      simp only [go_sem, rg_cons hl8, rg_step hl8 hb8]
      refine UpC.here ?_
      refine pwp_plain rfl ?_
      simp only [go_sem, rg_cons hl8, rg_step hl8 hb8]
      refine evE_round hl8 cI_len (by decide) (fun rest => ?_)
      simp only [go_sem, rg_cons hl8, rg_step hl8 hb8]
      refine UpC.here ?_
      simp only [go_sem, rg_cons hl8, rg_step hl8 hb8]
      exact hN1 _ (Up.to [(3, .int .i64 (IntKind.i64.wrap (n_3 + e8))), (6, .sl l_0.length (l_0.flatMap cI)), (7, .int .i64 (l_0.length : Int)), (8, .int .i64 ((i8 + 1 : Nat) : Int))] [] 4 ⟨post8.length, Nat.lt_succ_self _, post8, i8 + 1, (IntKind.i64.wrap (n_3 + e8)), rfl, rg_next hl8, hb8, h, rfl⟩)

theorem spec_SharesOf_ok {p_0 : TPolicy} {h_1 : THealth} {r : ((List Int) × Int × Bool)} (h : spec_SharesOf p_0 h_1 = some r) : PC prog 20 [.agg [.str p_0.fName, .sl p_0.fTargets.length (p_0.fTargets.flatMap cTarget)], .agg [.int .i64 h_1.fRise, .int .i64 h_1.fFall, .sl h_1.fHosts.length (h_1.fHosts.flatMap cHost)]] (.tup [.sl r.1.length (r.1.flatMap cI), .int .i64 r.2.1, .bool r.2.2]) := by
  refine PC.intro (rs := [.tmp 4, .tmp 5, .tmp 6]) func20 rfl rfl mx (by rfl) (by rfl) (by rw [ntmps20]; simp) ?_
  rw [spec_SharesOf] at h
  rw [pwp_start]
  simp only [go_sem, st0]
  refine pwp_plain rfl ?_
  simp only [go_sem]
  obtain ⟨y1, hy1, h⟩ := bind_i h
  refine CallS.pcs (spec_GoodPolicy_ok hy1) rfl ?_
  simp only [go_sem]
  cases hg2 : (!y1) with
  | true =>
    replace h := if_t hg2 h
    replace h := Option.some.inj h
    subst h
    simp only [go_sem]
  | false =>
    replace h := if_f hg2 h
    simp only [go_sem]
    obtain ⟨y3, hy3, h⟩ := bind_i h
    refine CallS.pcs (spec_GoodHealth_ok hy3) rfl ?_
    simp only [go_sem]
    cases hg4 : (!y3) with
    | true =>
      replace h := if_t hg4 h
      replace h := Option.some.inj h
      subst h
      simp only [go_sem]
    | false =>
      replace h := if_f hg4 h
      simp only [go_sem]
      refine UpC.here ?_
      simp only [go_sem]
      obtain ⟨x5, hx5, h⟩ := bind_i h
      refine evE_make (c := cI) hx5 rfl cI_len (by decide) rfl ?_
      simp only [go_sem]
      refine pwp_join rfl (fun s => ∃ (out_7 : List Int), spec_SharesOf_K1 out_7 = some r ∧ s = ⟨frL [(7, .sl out_7.length (out_7.flatMap cI))], hL [], 6⟩) (fun J hJ => ?_) ?_
      · simp only [go_sem]
        obtain ⟨y7, hy7, h⟩ := bind_i h
        refine CallS.pcs (spec_l14Candidates_ok hy7) rfl ?_
        simp only [go_sem]
        refine loopG_i (fun m s => ∃ (post26 : List Int) (i26 : Nat) (out_21 : List Int), m = post26.length ∧ Rg y7 i26 post26 ∧ y7.length ≤ 9223372036854775807 ∧ spec_SharesOf_L1 p_0 post26 i26 out_21 = some r ∧ s = ⟨frL [(2, .loc (1, 2, 0) 0 0), (7, .ref (3, 21, 0) out_21.length), (24, .sl y7.length (y7.flatMap cI)), (25, .int .i64 (y7.length : Int)), (26, .int .i64 (i26 : Int))], hL [((1, 2, 0), ⟨none, 0, [.str p_0.fName, .sl p_0.fTargets.length (p_0.fTargets.flatMap cTarget)]⟩), ((3, 21, 0), ⟨some (3, 1), out_21.length, out_21.flatMap cI⟩)], 5⟩) y7.length (Up.bound 24 y7.length (y7.flatMap cI) (by simp only [go_sem]) (fun hb => ?_)) ?_
        · exact Up.to [(2, .loc (1, 2, 0) 0 0), (7, .ref (3, 21, 0) x5.length), (24, .sl y7.length (y7.flatMap cI)), (25, .int .i64 (y7.length : Int)), (26, .int .i64 ((0 : Nat) : Int))] [((1, 2, 0), ⟨none, 0, [.str p_0.fName, .sl p_0.fTargets.length (p_0.fTargets.flatMap cTarget)]⟩), ((3, 21, 0), ⟨some (3, 1), x5.length, x5.flatMap cI⟩)] 5 ⟨_, 0, _, rfl, rg_0 _, hb, h, rfl⟩
        · rintro Q1 _ _ ⟨post26, i26, out_21, rfl, hl26, hb26, h, rfl⟩ hN1 hR1 hE1
          cases post26 with
          | nil =>
            rw [spec_SharesOf_L1] at h
            simp only [go_sem, rg_nil hl26]
            refine pwp_plain rfl ?_
            simp only [go_sem, rg_nil hl26]
            refine hE1 _ _ ?_
            simp only [go_sem, rg_nil hl26]
            refine join_n ?_
            exact Up.cutS [((3, 21, 0), ⟨some (3, 1), out_21.length, out_21.flatMap cI⟩)] [(7, .sl out_21.length (out_21.flatMap cI))] [] 6 (hJ _ ⟨out_21, h, rfl⟩)
          | cons e26 post26 =>
            rw [spec_SharesOf_L1] at h
            simp only [go_sem, rg_cons hl26, rg_step hl26 hb26]
            refine pwp_plain rfl ?_
            simp only [go_sem, rg_cons hl26, rg_step hl26 hb26]
            refine UpC.here ?_
            refine pwp_plain rfl ?_
            simp only [go_sem, rg_cons hl26, rg_step hl26 hb26]
            refine evE_round hl26 cI_len (by decide) (fun rest => ?_)
            simp only [go_sem, rg_cons hl26, rg_step hl26 hb26]
            obtain ⟨e8, he8, h⟩ := bind_i h
            refine evE_index he8 cTarget_len (by decide) (fun rest => ?_)
            simp only [go_sem, rg_cons hl26, rg_step hl26 hb26]
            obtain ⟨e9, he9, h⟩ := bind_i h
            refine evE_indexRef he9 (by simp only [go_sem]) ?_
            simp only [go_sem, rg_cons hl26, rg_step hl26 hb26]
            obtain ⟨x10, hx10, h⟩ := bind_i h
            refine evE_storeRow (x := e8.fWeight) hx10 cI_len (by simp only [go_sem] <;> rfl) _ (by omega) rfl rfl rfl ?_
            simp only [go_sem, rg_cons hl26, rg_step hl26 hb26, put?_len hx10]
            refine UpC.here ?_
            simp only [go_sem, rg_cons hl26, rg_step hl26 hb26, put?_len hx10]
            exact hN1 _ (Up.to [(2, .loc (1, 2, 0) 0 0), (7, .ref (3, 21, 0) x10.length), (24, .sl y7.length (y7.flatMap cI)), (25, .int .i64 (y7.length : Int)), (26, .int .i64 ((i26 + 1 : Nat) : Int))] [((1, 2, 0), ⟨none, 0, [.str p_0.fName, .sl p_0.fTargets.length (p_0.fTargets.flatMap cTarget)]⟩), ((3, 21, 0), ⟨some (3, 1), x10.length, x10.flatMap cI⟩)] 5 ⟨post26.length, Nat.lt_succ_self _, post26, i26 + 1, x10, rfl, rg_next hl26, hb26, h, rfl⟩)
      · rintro _ ⟨out_7, h, rfl⟩
        rw [spec_SharesOf_K1] at h
        simp only [go_sem]
        obtain ⟨y6, hy6, h⟩ := bind_i h
        refine CallS.pcs (spec_l12Total_ok hy6) rfl ?_
        replace h := Option.some.inj h
        subst h
        simp only [go_sem]

theorem impl_totalOf_ok {l_0 : (List Int)} {r : Int} (h : impl_totalOf l_0 = some r) : PC prog 42 [.sl l_0.length (l_0.flatMap cI)] (.int .i64 r) := by
  refine PC.intro (rs := [.tmp 2]) func42 rfl rfl mx (by rfl) (by rfl) (by rw [ntmps42]; simp) ?_
  rw [impl_totalOf] at h
  rw [pwp_start]
  simp only [go_sem, st0]
  refine pwp_plain rfl ?_
  simp only [go_sem]
  refine loopG_i (fun m s => ∃ (post8 : List Int) (i8 : Nat) (sum_3 : Int), m = post8.length ∧ Rg l_0 i8 post8 ∧ l_0.length ≤ 9223372036854775807 ∧ impl_totalOf_L1 post8 i8 sum_3 = some r ∧ s = ⟨frL [(3, .int .i64 sum_3), (6, .sl l_0.length (l_0.flatMap cI)), (7, .int .i64 (l_0.length : Int)), (8, .int .i64 (i8 : Int))], hL [], 4⟩) l_0.length (Up.bound 6 l_0.length (l_0.flatMap cI) (by simp only [go_sem]) (fun hb => ?_)) ?_
  · exact Up.to [(3, .int .i64 0), (6, .sl l_0.length (l_0.flatMap cI)), (7, .int .i64 (l_0.length : Int)), (8, .int .i64 ((0 : Nat) : Int))] [] 4 ⟨_, 0, _, rfl, rg_0 _, hb, h, rfl⟩
  · rintro Q1 _ _ ⟨post8, i8, sum_3, rfl, hl8, hb8, h, rfl⟩ hN1 hR1 hE1
    cases post8 with
    | nil =>
      rw [impl_totalOf_L1] at h
      simp only [go_sem, rg_nil hl8]
      refine pwp_plain rfl ?_
      simp only [go_sem, rg_nil hl8]
      refine hE1 _ _ ?_
      simp only [go_sem, rg_nil hl8]
      refine UpC.here ?_
      replace h := Option.some.inj h
      subst h
      simp only [go_sem, rg_nil hl8]
    | cons e8 post8 =>
      rw [impl_totalOf_L1] at h
      simp only [go_sem, rg_cons hl8, rg_step hl8 hb8]
      refine pwp_plain rfl ?_
      simp only [go_sem, rg_cons hl8, rg_step hl8 hb8]
      refine UpC.here ?_
      refine pwp_plain rfl ?_
      simp only [go_sem, rg_cons hl8, rg_step hl8 hb8]
      refine evE_round hl8 cI_len (by decide) (fun rest => ?_)
      simp only [go_sem, rg_cons hl8, rg_step hl8 hb8]
      refine UpC.here ?_
      simp only [go_sem, rg_cons hl8, rg_step hl8 hb8]
      exact hN1 _ (Up.to [(3, .int .i64 (IntKind.i64.wrap (sum_3 + e8))), (6, .sl l_0.length (l_0.flatMap cI)), (7, .int .i64 (l_0.length : Int)), (8, .int .i64 ((i8 + 1 : Nat) : Int))] [] 4 ⟨post8.length, Nat.lt_succ_self _, post8, i8 + 1, (IntKind.i64.wrap (sum_3 + e8)), rfl, rg_next hl8, hb8, h, rfl⟩)

theorem impl_SharesOf_ok {p_0 : TPolicy} {h_1 : THealth} {r : ((List Int) × Int × Bool)} (h : impl_SharesOf p_0 h_1 = some r) : PC prog 21 [.agg [.str p_0.fName, .sl p_0.fTargets.length (p_0.fTargets.flatMap cTarget)], .agg [.int .i64 h_1.fRise, .int .i64 h_1.fFall, .sl h_1.fHosts.length (h_1.fHosts.flatMap cHost)]] (.tup [.sl r.1.length (r.1.flatMap cI), .int .i64 r.2.1, .bool r.2.2]) := by
  refine PC.intro (rs := [.tmp 4, .tmp 5, .tmp 6]) func21 rfl rfl mx (by rfl) (by rfl) (by rw [ntmps21]; simp) ?_
  rw [impl_SharesOf] at h
  rw [pwp_start]
  simp only [go_sem, st0]
  refine pwp_plain rfl ?_
  simp only [go_sem]
  obtain ⟨y1, hy1, h⟩ := bind_i h
  refine CallS.pcs (impl_GoodPolicy_ok hy1) rfl ?_
  simp only [go_sem]
  cases hg2 : (!y1) with
  | true =>
    replace h := if_t hg2 h
    replace h := Option.some.inj h
    subst h
    simp only [go_sem]
  | false =>
    replace h := if_f hg2 h
    simp only [go_sem]
    obtain ⟨y3, hy3, h⟩ := bind_i h
    refine CallS.pcs (impl_GoodHealth_ok hy3) rfl ?_
    simp only [go_sem]
    cases hg4 : (!y3) with
    | true =>
      replace h := if_t hg4 h
      replace h := Option.some.inj h
      subst h
      simp only [go_sem]
    | false =>
      replace h := if_f hg4 h
      simp only [go_sem]
      refine UpC.here ?_
      simp only [go_sem]
      obtain ⟨x5, hx5, h⟩ := bind_i h
      refine evE_make (c := cI) hx5 rfl cI_len (by decide) rfl ?_
      simp only [go_sem]
      refine pwp_join rfl (fun s => ∃ (out_7 : List Int), impl_SharesOf_K1 out_7 = some r ∧ s = ⟨frL [(7, .sl out_7.length (out_7.flatMap cI))], hL [], 6⟩) (fun J hJ => ?_) ?_
      · simp only [go_sem]
        obtain ⟨y7, hy7, h⟩ := bind_i h
        refine CallS.pcs (impl_candidatesOf_ok hy7) rfl ?_
        simp only [go_sem]
        refine loopG_i (fun m s => ∃ (post26 : List Int) (i26 : Nat) (out_21 : List Int), m = post26.length ∧ Rg y7 i26 post26 ∧ y7.length ≤ 9223372036854775807 ∧ impl_SharesOf_L1 p_0 post26 i26 out_21 = some r ∧ s = ⟨frL [(2, .loc (1, 2, 0) 0 0), (7, .ref (3, 21, 0) out_21.length), (24, .sl y7.length (y7.flatMap cI)), (25, .int .i64 (y7.length : Int)), (26, .int .i64 (i26 : Int))], hL [((1, 2, 0), ⟨none, 0, [.str p_0.fName, .sl p_0.fTargets.length (p_0.fTargets.flatMap cTarget)]⟩), ((3, 21, 0), ⟨some (3, 1), out_21.length, out_21.flatMap cI⟩)], 5⟩) y7.length (Up.bound 24 y7.length (y7.flatMap cI) (by simp only [go_sem]) (fun hb => ?_)) ?_
        · exact Up.to [(2, .loc (1, 2, 0) 0 0), (7, .ref (3, 21, 0) x5.length), (24, .sl y7.length (y7.flatMap cI)), (25, .int .i64 (y7.length : Int)), (26, .int .i64 ((0 : Nat) : Int))] [((1, 2, 0), ⟨none, 0, [.str p_0.fName, .sl p_0.fTargets.length (p_0.fTargets.flatMap cTarget)]⟩), ((3, 21, 0), ⟨some (3, 1), x5.length, x5.flatMap cI⟩)] 5 ⟨_, 0, _, rfl, rg_0 _, hb, h, rfl⟩
        · rintro Q1 _ _ ⟨post26, i26, out_21, rfl, hl26, hb26, h, rfl⟩ hN1 hR1 hE1
          cases post26 with
          | nil =>
            rw [impl_SharesOf_L1] at h
            simp only [go_sem, rg_nil hl26]
            refine pwp_plain rfl ?_
            simp only [go_sem, rg_nil hl26]
            refine hE1 _ _ ?_
            simp only [go_sem, rg_nil hl26]
            refine join_n ?_
            exact Up.cutS [((3, 21, 0), ⟨some (3, 1), out_21.length, out_21.flatMap cI⟩)] [(7, .sl out_21.length (out_21.flatMap cI))] [] 6 (hJ _ ⟨out_21, h, rfl⟩)
          | cons e26 post26 =>
            rw [impl_SharesOf_L1] at h
            simp only [go_sem, rg_cons hl26, rg_step hl26 hb26]
            refine pwp_plain rfl ?_
            simp only [go_sem, rg_cons hl26, rg_step hl26 hb26]
            refine UpC.here ?_
            refine pwp_plain rfl ?_
            simp only [go_sem, rg_cons hl26, rg_step hl26 hb26]
            refine evE_round hl26 cI_len (by decide) (fun rest => ?_)
            simp only [go_sem, rg_cons hl26, rg_step hl26 hb26]
            obtain ⟨e8, he8, h⟩ := bind_i h
            refine evE_index he8 cTarget_len (by decide) (fun rest => ?_)
            simp only [go_sem, rg_cons hl26, rg_step hl26 hb26]
            obtain ⟨e9, he9, h⟩ := bind_i h
            refine evE_indexRef he9 (by simp only [go_sem]) ?_
            simp only [go_sem, rg_cons hl26, rg_step hl26 hb26]
            obtain ⟨x10, hx10, h⟩ := bind_i h
            refine evE_storeRow (x := e8.fWeight) hx10 cI_len (by simp only [go_sem] <;> rfl) _ (by omega) rfl rfl rfl ?_
            simp only [go_sem, rg_cons hl26, rg_step hl26 hb26, put?_len hx10]
            refine UpC.here ?_
            simp only [go_sem, rg_cons hl26, rg_step hl26 hb26, put?_len hx10]
            exact hN1 _ (Up.to [(2, .loc (1, 2, 0) 0 0), (7, .ref (3, 21, 0) x10.length), (24, .sl y7.length (y7.flatMap cI)), (25, .int .i64 (y7.length : Int)), (26, .int .i64 ((i26 + 1 : Nat) : Int))] [((1, 2, 0), ⟨none, 0, [.str p_0.fName, .sl p_0.fTargets.length (p_0.fTargets.flatMap cTarget)]⟩), ((3, 21, 0), ⟨some (3, 1), x10.length, x10.flatMap cI⟩)] 5 ⟨post26.length, Nat.lt_succ_self _, post26, i26 + 1, x10, rfl, rg_next hl26, hb26, h, rfl⟩)
      · rintro _ ⟨out_7, h, rfl⟩
        rw [impl_SharesOf_K1] at h
        simp only [go_sem]
        obtain ⟨y6, hy6, h⟩ := bind_i h
        refine CallS.pcs (impl_totalOf_ok hy6) rfl ?_
        replace h := Option.some.inj h
        subst h
        simp only [go_sem]
theorem impl_SharesOf_gc {p_0 : TPolicy} {h_1 : THealth} {r : ((List Int) × Int × Bool)} (h : impl_SharesOf p_0 h_1 = some r) : GC prog 21 [.agg [.str p_0.fName, .sl p_0.fTargets.length (p_0.fTargets.flatMap cTarget)], .agg [.int .i64 h_1.fRise, .int .i64 h_1.fFall, .sl h_1.fHosts.length (h_1.fHosts.flatMap cHost)]] [] (.tup [.ref (0, 0, 0) r.1.length, .int .i64 r.2.1, .bool r.2.2]) [⟨some (3, 1), r.1.length, r.1.flatMap cI⟩] := by
  refine GC.introU (rs := [.tmp 4, .tmp 5, .tmp 6]) func21 rfl rfl mx (Static.mk' (by rfl) (by simp only [go_sem]) (by simp only [go_sem]) (by simp) (by simp only [go_sem]) (by simp only [go_sem])) (by rfl) (by rw [ntmps21]; simp) ?_
  rw [impl_SharesOf] at h
  rw [pwp_start]
  simp only [go_sem, st0H, holesL]
  refine pwp_plain rfl ?_
  simp only [go_sem]
  obtain ⟨y1, hy1, h⟩ := bind_i h
  refine CallS.pcs (impl_GoodPolicy_ok hy1) rfl ?_
  simp only [go_sem]
  cases hg2 : (!y1) with
  | true =>
    replace h := if_t hg2 h
    replace h := Option.some.inj h
    subst h
    simp only [go_sem]
    refine Up.own 4 3 1 (by simp only [go_sem]) (by decide) ?_
    exact Up.here (retG_i [(4, 4, 0)] [.ref (4, 4, 0) ([] : List Int).length, .int .i64 0, .bool false] rfl (by decide) (by decide) (by simp only [go_sem]) (by simp only [go_sem]) (by simp only [go_sem]))
  | false =>
    replace h := if_f hg2 h
    simp only [go_sem]
    obtain ⟨y3, hy3, h⟩ := bind_i h
    refine CallS.pcs (impl_GoodHealth_ok hy3) rfl ?_
    simp only [go_sem]
    cases hg4 : (!y3) with
    | true =>
      replace h := if_t hg4 h
      replace h := Option.some.inj h
      subst h
      simp only [go_sem]
      refine Up.own 4 3 1 (by simp only [go_sem]) (by decide) ?_
      exact Up.here (retG_i [(4, 4, 0)] [.ref (4, 4, 0) ([] : List Int).length, .int .i64 0, .bool false] rfl (by decide) (by decide) (by simp only [go_sem]) (by simp only [go_sem]) (by simp only [go_sem]))
    | false =>
      replace h := if_f hg4 h
      simp only [go_sem]
      refine UpC.here ?_
      simp only [go_sem]
      obtain ⟨x5, hx5, h⟩ := bind_i h
      refine evE_make (c := cI) hx5 rfl cI_len (by decide) rfl ?_
      simp only [go_sem]
      refine pwp_join rfl (fun s => ∃ (out_7 : List Int), impl_SharesOf_K1 out_7 = some r ∧ s = ⟨frL [(7, .ref (3, 21, 0) out_7.length)], hL [((3, 21, 0), ⟨some (3, 1), out_7.length, out_7.flatMap cI⟩)], 6⟩) (fun J hJ => ?_) ?_
      · simp only [go_sem]
        obtain ⟨y7, hy7, h⟩ := bind_i h
        refine CallS.pcs (impl_candidatesOf_ok hy7) rfl ?_
        simp only [go_sem]
        refine loopG_i (fun m s => ∃ (post26 : List Int) (i26 : Nat) (out_21 : List Int), m = post26.length ∧ Rg y7 i26 post26 ∧ y7.length ≤ 9223372036854775807 ∧ impl_SharesOf_L1 p_0 post26 i26 out_21 = some r ∧ s = ⟨frL [(2, .loc (1, 2, 0) 0 0), (7, .ref (3, 21, 0) out_21.length), (24, .sl y7.length (y7.flatMap cI)), (25, .int .i64 (y7.length : Int)), (26, .int .i64 (i26 : Int))], hL [((1, 2, 0), ⟨none, 0, [.str p_0.fName, .sl p_0.fTargets.length (p_0.fTargets.flatMap cTarget)]⟩), ((3, 21, 0), ⟨some (3, 1), out_21.length, out_21.flatMap cI⟩)], 5⟩) y7.length (Up.bound 24 y7.length (y7.flatMap cI) (by simp only [go_sem]) (fun hb => ?_)) ?_
        · exact Up.to [(2, .loc (1, 2, 0) 0 0), (7, .ref (3, 21, 0) x5.length), (24, .sl y7.length (y7.flatMap cI)), (25, .int .i64 (y7.length : Int)), (26, .int .i64 ((0 : Nat) : Int))] [((1, 2, 0), ⟨none, 0, [.str p_0.fName, .sl p_0.fTargets.length (p_0.fTargets.flatMap cTarget)]⟩), ((3, 21, 0), ⟨some (3, 1), x5.length, x5.flatMap cI⟩)] 5 ⟨_, 0, _, rfl, rg_0 _, hb, h, rfl⟩
        · rintro Q1 _ _ ⟨post26, i26, out_21, rfl, hl26, hb26, h, rfl⟩ hN1 hR1 hE1
          cases post26 with
          | nil =>
            rw [impl_SharesOf_L1] at h
            simp only [go_sem, rg_nil hl26]
            refine pwp_plain rfl ?_
            simp only [go_sem, rg_nil hl26]
            refine hE1 _ _ ?_
            simp only [go_sem, rg_nil hl26]
            refine join_n ?_
            exact Up.to [(7, .ref (3, 21, 0) out_21.length)] [((3, 21, 0), ⟨some (3, 1), out_21.length, out_21.flatMap cI⟩)] 6 (hJ _ ⟨out_21, h, rfl⟩)
          | cons e26 post26 =>
            rw [impl_SharesOf_L1] at h
            simp only [go_sem, rg_cons hl26, rg_step hl26 hb26]
            refine pwp_plain rfl ?_
            simp only [go_sem, rg_cons hl26, rg_step hl26 hb26]
            refine UpC.here ?_
            refine pwp_plain rfl ?_
            simp only [go_sem, rg_cons hl26, rg_step hl26 hb26]
            refine evE_round hl26 cI_len (by decide) (fun rest => ?_)
            simp only [go_sem, rg_cons hl26, rg_step hl26 hb26]
            obtain ⟨e8, he8, h⟩ := bind_i h
            refine evE_index he8 cTarget_len (by decide) (fun rest => ?_)
            simp only [go_sem, rg_cons hl26, rg_step hl26 hb26]
            obtain ⟨e9, he9, h⟩ := bind_i h
            refine evE_indexRef he9 (by simp only [go_sem]) ?_
            simp only [go_sem, rg_cons hl26, rg_step hl26 hb26]
            obtain ⟨x10, hx10, h⟩ := bind_i h
            refine evE_storeRow (x := e8.fWeight) hx10 cI_len (by simp only [go_sem] <;> rfl) _ (by omega) rfl rfl rfl ?_
            simp only [go_sem, rg_cons hl26, rg_step hl26 hb26, put?_len hx10]
            refine UpC.here ?_
            simp only [go_sem, rg_cons hl26, rg_step hl26 hb26, put?_len hx10]
            exact hN1 _ (Up.to [(2, .loc (1, 2, 0) 0 0), (7, .ref (3, 21, 0) x10.length), (24, .sl y7.length (y7.flatMap cI)), (25, .int .i64 (y7.length : Int)), (26, .int .i64 ((i26 + 1 : Nat) : Int))] [((1, 2, 0), ⟨none, 0, [.str p_0.fName, .sl p_0.fTargets.length (p_0.fTargets.flatMap cTarget)]⟩), ((3, 21, 0), ⟨some (3, 1), x10.length, x10.flatMap cI⟩)] 5 ⟨post26.length, Nat.lt_succ_self _, post26, i26 + 1, x10, rfl, rg_next hl26, hb26, h, rfl⟩)
      · rintro _ ⟨out_7, h, rfl⟩
        rw [impl_SharesOf_K1] at h
        simp only [go_sem]
        obtain ⟨y6, hy6, h⟩ := bind_i h
        refine CallS.see (impl_totalOf_ok hy6) (by simp only [go_sem]) (by simp only [go_sem]) ?_
        replace h := Option.some.inj h
        subst h
        simp only [go_sem]
        exact Up.here (retG_i [(3, 21, 0)] [.ref (3, 21, 0) out_7.length, .int .i64 y6, .bool true] rfl (by decide) (by decide) (by simp only [go_sem]) (by simp only [go_sem]) (by simp only [go_sem]))

theorem laws_FnExactSharesOf_ok {aP_0 : TPolicy} {aH_1 : THealth} {r : Bool} (h : laws_FnExactSharesOf aP_0 aH_1 = some r) : PC prog 4 [.agg [.str aP_0.fName, .sl aP_0.fTargets.length (aP_0.fTargets.flatMap cTarget)], .agg [.int .i64 aH_1.fRise, .int .i64 aH_1.fFall, .sl aH_1.fHosts.length (aH_1.fHosts.flatMap cHost)]] (.bool r) := by
  refine PC.intro (rs := [.tmp 4]) func4 rfl rfl mx (by rfl) (by rfl) (by rw [ntmps4]; simp) ?_
  rw [laws_FnExactSharesOf] at h
  rw [pwp_start]
  simp only [go_sem, st0]
  obtain ⟨y1, hy1, h⟩ := bind_i h
  refine CallS.pcs (laws_szPolicy_ok hy1) rfl ?_
  simp only [go_sem]
  refine pwp_plain rfl ?_
  simp only [go_sem]
  cases hg2 : (decide (y1 < 0)) with
  | true =>
    replace h := if_t hg2 h
    replace h := Option.some.inj h
    subst h
    simp only [go_sem]
  | false =>
    replace h := if_f hg2 h
    simp only [go_sem]
    refine UpC.to [(2, .loc (1, 2, 0) 0 0), (3, .loc (1, 3, 0) 0 0), (5, .int .i64 y1)] [((1, 2, 0), ⟨none, 0, [.str aP_0.fName, .sl aP_0.fTargets.length (aP_0.fTargets.flatMap cTarget)]⟩), ((1, 3, 0), ⟨none, 0, [.int .i64 aH_1.fRise, .int .i64 aH_1.fFall, .sl aH_1.fHosts.length (aH_1.fHosts.flatMap cHost)]⟩)] 5 ?_
    simp only [go_sem]
    obtain ⟨y3, hy3, h⟩ := bind_i h
    refine CallS.pcs (laws_szHealth_ok hy3) rfl ?_
    simp only [go_sem]
    refine pwp_plain rfl ?_
    simp only [go_sem]
    cases hg4 : (decide (y3 < 0)) with
    | true =>
      replace h := if_t hg4 h
      replace h := Option.some.inj h
      subst h
      simp only [go_sem]
    | false =>
      replace h := if_f hg4 h
      simp only [go_sem]
      refine UpC.to [(2, .loc (1, 2, 0) 0 0), (3, .loc (1, 3, 0) 0 0)] [((1, 2, 0), ⟨none, 0, [.str aP_0.fName, .sl aP_0.fTargets.length (aP_0.fTargets.flatMap cTarget)]⟩), ((1, 3, 0), ⟨none, 0, [.int .i64 aH_1.fRise, .int .i64 aH_1.fFall, .sl aH_1.fHosts.length (aH_1.fHosts.flatMap cHost)]⟩)] 7 ?_
      simp only [go_sem]
      obtain ⟨y5, hy5, h⟩ := bind_i h
      refine CallS.pcs (laws_toPolicy_ok hy5) rfl ?_
      simp only [go_sem]
      obtain ⟨y6, hy6, h⟩ := bind_i h
      refine CallS.pcs (laws_toHealth_ok hy6) rfl ?_
      simp only [go_sem]
      obtain ⟨y7, hy7, h⟩ := bind_i h
      refine CallS.pcs (spec_SharesOf_ok hy7) rfl ?_
      simp only [go_sem]
      refine lgEnd_pure (by simp) ?_
      try simp only [go_sem]
      obtain ⟨y8, hy8, h⟩ := bind_i h
      refine CallS.seeg (laws_toPolicy_gc hy8) (by simp only [go_sem]) (by simp only [go_sem]) ?_
      simp only [go_sem]
      obtain ⟨y9, hy9, h⟩ := bind_i h
      refine CallS.seeg (laws_toHealth_gc hy9) (by simp only [go_sem]) (by simp only [go_sem]) ?_
      simp only [go_sem]
      obtain ⟨y10, hy10, h⟩ := bind_i h
      refine CallS.seeg (impl_SharesOf_gc hy10) (by simp only [go_sem]) (by simp only [go_sem]) ?_
      simp only [go_sem]
      refine pwp_plain rfl ?_
      simp only [go_sem]
      obtain ⟨y11, hy11, h⟩ := bind_i h
      refine CallS.see (laws_eqIntS_ok hy11) (by simp only [go_sem]) (by simp only [go_sem]) ?_
      simp only [go_sem]
      cases hg12 : (!y11) with
      | true =>
        replace h := if_t hg12 h
        replace h := Option.some.inj h
        subst h
        simp only [go_sem]
      | false =>
        replace h := if_f hg12 h
        simp only [go_sem]
        cases hg13 : (y10.2.1 != y7.2.1) with
        | true =>
          replace h := if_t hg13 h
          replace h := Option.some.inj h
          subst h
          simp only [go_sem]
        | false =>
          replace h := if_f hg13 h
          simp only [go_sem]
          cases hg14 : (!(y10.2.2 == y7.2.2)) with
          | true =>
            replace h := if_t hg14 h
            replace h := Option.some.inj h
            subst h
            simp only [go_sem]
          | false =>
            replace h := if_f hg14 h
            simp only [go_sem]
            refine UpC.to [(2, .loc (1, 2, 0) 0 0), (3, .loc (1, 3, 0) 0 0), (6, .sl y7.1.length (y7.1.flatMap cI)), (7, .int .i64 y7.2.1), (8, .bool y7.2.2), (9, .loc (8, 9, 0) 0 0), (10, .loc (9, 10, 0) 0 0), (11, .ref (10, 46, 0) y10.1.length), (12, .int .i64 y10.2.1), (13, .bool y10.2.2)] [((1, 2, 0), ⟨none, 0, [.str aP_0.fName, .sl aP_0.fTargets.length (aP_0.fTargets.flatMap cTarget)]⟩), ((1, 3, 0), ⟨none, 0, [.int .i64 aH_1.fRise, .int .i64 aH_1.fFall, .sl aH_1.fHosts.length (aH_1.fHosts.flatMap cHost)]⟩), ((8, 9, 0), ⟨none, 0, [.str y8.fName, .ref (8, 40, 0) y8.fTargets.length]⟩), ((8, 40, 0), ⟨some (70, 4), y8.fTargets.length, y8.fTargets.flatMap cTarget⟩), ((9, 10, 0), ⟨none, 0, [.int .i64 y9.fRise, .int .i64 y9.fFall, .ref (9, 42, 0) y9.fHosts.length]⟩), ((9, 42, 0), ⟨some (89, 3), y9.fHosts.length, y9.fHosts.flatMap cHost⟩), ((10, 46, 0), ⟨some (3, 1), y10.1.length, y10.1.flatMap cI⟩)] 12 ?_
            simp only [go_sem]
            refine pwp_plain rfl ?_
            simp only [go_sem]
            obtain ⟨y15, hy15, h⟩ := bind_i h
            refine CallS.pcs (laws_toPolicy_ok hy15) rfl ?_
            simp only [go_sem]
            obtain ⟨y16, hy16, h⟩ := bind_i h
            refine CallS.see (laws_eqPolicy_ok hy16) (by simp only [go_sem]) (by simp only [go_sem]) ?_
            simp only [go_sem]
            refine lgEnd_pure (by simp) ?_
            cases hg17 : (!y16) with
            | true =>
              replace h := if_t hg17 h
              replace h := Option.some.inj h
              subst h
              try simp only [go_sem]
            | false =>
              replace h := if_f hg17 h
              try simp only [go_sem]
              refine UpC.to [(2, .loc (1, 2, 0) 0 0), (3, .loc (1, 3, 0) 0 0), (6, .sl y7.1.length (y7.1.flatMap cI)), (7, .int .i64 y7.2.1), (8, .bool y7.2.2), (9, .loc (8, 9, 0) 0 0), (10, .loc (9, 10, 0) 0 0), (11, .ref (10, 46, 0) y10.1.length), (12, .int .i64 y10.2.1), (13, .bool y10.2.2)] [((1, 2, 0), ⟨none, 0, [.str aP_0.fName, .sl aP_0.fTargets.length (aP_0.fTargets.flatMap cTarget)]⟩), ((1, 3, 0), ⟨none, 0, [.int .i64 aH_1.fRise, .int .i64 aH_1.fFall, .sl aH_1.fHosts.length (aH_1.fHosts.flatMap cHost)]⟩), ((8, 9, 0), ⟨none, 0, [.str y8.fName, .ref (8, 40, 0) y8.fTargets.length]⟩), ((8, 40, 0), ⟨some (70, 4), y8.fTargets.length, y8.fTargets.flatMap cTarget⟩), ((9, 10, 0), ⟨none, 0, [.int .i64 y9.fRise, .int .i64 y9.fFall, .ref (9, 42, 0) y9.fHosts.length]⟩), ((9, 42, 0), ⟨some (89, 3), y9.fHosts.length, y9.fHosts.flatMap cHost⟩), ((10, 46, 0), ⟨some (3, 1), y10.1.length, y10.1.flatMap cI⟩)] 13 ?_
              simp only [go_sem]
              refine pwp_plain rfl ?_
              simp only [go_sem]
              obtain ⟨y18, hy18, h⟩ := bind_i h
              refine CallS.pcs (laws_toHealth_ok hy18) rfl ?_
              simp only [go_sem]
              obtain ⟨y19, hy19, h⟩ := bind_i h
              refine CallS.see (laws_eqHealth_ok hy19) (by simp only [go_sem]) (by simp only [go_sem]) ?_
              simp only [go_sem]
              refine lgEnd_pure (by simp) ?_
              cases hg20 : (!y19) with
              | true =>
                replace h := if_t hg20 h
                replace h := Option.some.inj h
                subst h
                try simp only [go_sem]
              | false =>
                replace h := if_f hg20 h
                try simp only [go_sem]
                refine UpC.to [(2, .loc (1, 2, 0) 0 0), (3, .loc (1, 3, 0) 0 0), (6, .sl y7.1.length (y7.1.flatMap cI)), (7, .int .i64 y7.2.1), (8, .bool y7.2.2), (9, .loc (8, 9, 0) 0 0), (10, .loc (9, 10, 0) 0 0), (11, .ref (10, 46, 0) y10.1.length), (12, .int .i64 y10.2.1), (13, .bool y10.2.2)] [((1, 2, 0), ⟨none, 0, [.str aP_0.fName, .sl aP_0.fTargets.length (aP_0.fTargets.flatMap cTarget)]⟩), ((1, 3, 0), ⟨none, 0, [.int .i64 aH_1.fRise, .int .i64 aH_1.fFall, .sl aH_1.fHosts.length (aH_1.fHosts.flatMap cHost)]⟩), ((8, 9, 0), ⟨none, 0, [.str y8.fName, .ref (8, 40, 0) y8.fTargets.length]⟩), ((8, 40, 0), ⟨some (70, 4), y8.fTargets.length, y8.fTargets.flatMap cTarget⟩), ((9, 10, 0), ⟨none, 0, [.int .i64 y9.fRise, .int .i64 y9.fFall, .ref (9, 42, 0) y9.fHosts.length]⟩), ((9, 42, 0), ⟨some (89, 3), y9.fHosts.length, y9.fHosts.flatMap cHost⟩), ((10, 46, 0), ⟨some (3, 1), y10.1.length, y10.1.flatMap cI⟩)] 14 ?_
                simp only [go_sem]
                obtain ⟨y21, hy21, h⟩ := bind_i h
                refine CallS.turn (laws_markPolicy_gc hy21) [(8, 40, 0)] rfl rfl (by decide) (by simp only [go_sem]) (by simp only [go_sem]) ?_
                obtain ⟨u22, hu22, h⟩ := bind_i h
                simp only [go_sem, same?_some hu22]
                obtain ⟨y23, hy23, h⟩ := bind_i h
                refine CallS.turn (laws_markHealth_gc hy23) [(9, 42, 0)] rfl rfl (by decide) (by simp only [go_sem]) (by simp only [go_sem]) ?_
                obtain ⟨u24, hu24, h⟩ := bind_i h
                simp only [go_sem, same?_some hu22, same?_some hu24]
                refine pwp_plain rfl ?_
                simp only [go_sem, same?_some hu22, same?_some hu24]
                cases hg25 : (decide (y23.1 < 0)) with
                | true =>
                  replace h := if_t hg25 h
                  replace h := Option.some.inj h
                  subst h
                  simp only [go_sem, same?_some hu22, same?_some hu24]
                | false =>
                  replace h := if_f hg25 h
                  simp only [go_sem, same?_some hu22, same?_some hu24]
                  obtain ⟨y26, hy26, h⟩ := bind_i h
                  refine CallS.see (laws_eqIntS_ok hy26) (by simp only [go_sem]) (by simp only [go_sem]) ?_
                  simp only [go_sem, same?_some hu22, same?_some hu24]
                  cases hg27 : (!y26) with
                  | true =>
                    replace h := if_t hg27 h
                    replace h := Option.some.inj h
                    subst h
                    simp only [go_sem, same?_some hu22, same?_some hu24]
                  | false =>
                    replace h := if_f hg27 h
                    simp only [go_sem, same?_some hu22, same?_some hu24]
                    cases hg28 : (y10.2.1 != y7.2.1) with
                    | true =>
                      replace h := if_t hg28 h
                      replace h := Option.some.inj h
                      subst h
                      simp only [go_sem, same?_some hu22, same?_some hu24]
                    | false =>
                      replace h := if_f hg28 h
                      simp only [go_sem, same?_some hu22, same?_some hu24]
                      cases hg29 : (!(y10.2.2 == y7.2.2)) with
                      | true =>
                        replace h := if_t hg29 h
                        replace h := Option.some.inj h
                        subst h
                        simp only [go_sem, same?_some hu22, same?_some hu24]
                      | false =>
                        replace h := if_f hg29 h
                        simp only [go_sem, same?_some hu22, same?_some hu24]
                        refine UpC.to [(2, .loc (1, 2, 0) 0 0), (3, .loc (1, 3, 0) 0 0), (6, .sl y7.1.length (y7.1.flatMap cI)), (7, .int .i64 y7.2.1), (8, .bool y7.2.2), (11, .ref (10, 46, 0) y10.1.length)] [((1, 2, 0), ⟨none, 0, [.str aP_0.fName, .sl aP_0.fTargets.length (aP_0.fTargets.flatMap cTarget)]⟩), ((1, 3, 0), ⟨none, 0, [.int .i64 aH_1.fRise, .int .i64 aH_1.fFall, .sl aH_1.fHosts.length (aH_1.fHosts.flatMap cHost)]⟩), ((10, 46, 0), ⟨some (3, 1), y10.1.length, y10.1.flatMap cI⟩)] 18 ?_
                        simp only [go_sem, same?_some hu22, same?_some hu24]
                        obtain ⟨y30, hy30, h⟩ := bind_i h
                        refine CallS.turn (laws_markIntS_gc hy30) [(10, 46, 0)] rfl rfl (by decide) (by simp only [go_sem]) (by simp only [go_sem]) ?_
                        obtain ⟨u31, hu31, h⟩ := bind_i h
                        simp only [go_sem, same?_some hu22, same?_some hu24, same?_some hu31]
                        obtain ⟨y32, hy32, h⟩ := bind_i h
                        refine CallS.see (laws_heldIntS_ok hy32) (by simp only [go_sem]) (by simp only [go_sem]) ?_
                        simp only [go_sem, same?_some hu22, same?_some hu24, same?_some hu31]
                        refine pwp_plain rfl ?_
                        simp only [go_sem, same?_some hu22, same?_some hu24, same?_some hu31]
                        cases hg33 : (decide (y32 < 0)) with
                        | true =>
                          replace h := if_t hg33 h
                          replace h := Option.some.inj h
                          subst h
                          simp only [go_sem, same?_some hu22, same?_some hu24, same?_some hu31]
                        | false =>
                          replace h := if_f hg33 h
                          simp only [go_sem, same?_some hu22, same?_some hu24, same?_some hu31]
                          refine UpC.to [(2, .loc (1, 2, 0) 0 0), (3, .loc (1, 3, 0) 0 0), (6, .sl y7.1.length (y7.1.flatMap cI)), (7, .int .i64 y7.2.1), (8, .bool y7.2.2), (11, .ref (10, 46, 0) y30.2.length), (15, .int .i64 y30.1), (16, .int .i64 y32)] [((1, 2, 0), ⟨none, 0, [.str aP_0.fName, .sl aP_0.fTargets.length (aP_0.fTargets.flatMap cTarget)]⟩), ((1, 3, 0), ⟨none, 0, [.int .i64 aH_1.fRise, .int .i64 aH_1.fFall, .sl aH_1.fHosts.length (aH_1.fHosts.flatMap cHost)]⟩), ((10, 46, 0), ⟨some (3, 1), y30.2.length, y30.2.flatMap cI⟩)] 23 ?_
                          simp only [go_sem, same?_some hu22, same?_some hu24, same?_some hu31]
                          refine pwp_plain rfl ?_
                          simp only [go_sem, same?_some hu22, same?_some hu24, same?_some hu31]
                          cases hg34 : (y32 != y30.1) with
                          | true =>
                            replace h := if_t hg34 h
                            replace h := Option.some.inj h
                            subst h
                            simp only [go_sem, same?_some hu22, same?_some hu24, same?_some hu31]
                          | false =>
                            replace h := if_f hg34 h
                            simp only [go_sem, same?_some hu22, same?_some hu24, same?_some hu31]
                            refine UpC.to [(2, .loc (1, 2, 0) 0 0), (3, .loc (1, 3, 0) 0 0), (6, .sl y7.1.length (y7.1.flatMap cI)), (7, .int .i64 y7.2.1), (8, .bool y7.2.2), (11, .ref (10, 46, 0) y30.2.length), (15, .int .i64 y30.1)] [((1, 2, 0), ⟨none, 0, [.str aP_0.fName, .sl aP_0.fTargets.length (aP_0.fTargets.flatMap cTarget)]⟩), ((1, 3, 0), ⟨none, 0, [.int .i64 aH_1.fRise, .int .i64 aH_1.fFall, .sl aH_1.fHosts.length (aH_1.fHosts.flatMap cHost)]⟩), ((10, 46, 0), ⟨some (3, 1), y30.2.length, y30.2.flatMap cI⟩)] 24 ?_
                            simp only [go_sem, same?_some hu22, same?_some hu24, same?_some hu31]
                            obtain ⟨y35, hy35, h⟩ := bind_i h
                            refine CallS.pcs (laws_toPolicy_ok hy35) rfl ?_
                            simp only [go_sem, same?_some hu22, same?_some hu24, same?_some hu31]
                            obtain ⟨y36, hy36, h⟩ := bind_i h
                            refine CallS.pcs (laws_toHealth_ok hy36) rfl ?_
                            simp only [go_sem, same?_some hu22, same?_some hu24, same?_some hu31]
                            obtain ⟨y37, hy37, h⟩ := bind_i h
                            refine CallS.pcs (impl_SharesOf_ok hy37) rfl ?_
                            simp only [go_sem, same?_some hu22, same?_some hu24, same?_some hu31]
                            refine lgEnd_pure (by simp) ?_
                            refine pwp_plain rfl ?_
                            try simp only [go_sem, same?_some hu22, same?_some hu24, same?_some hu31]
                            obtain ⟨y38, hy38, h⟩ := bind_i h
                            refine CallS.pcs (laws_eqIntS_ok hy38) rfl ?_
                            simp only [go_sem, same?_some hu22, same?_some hu24, same?_some hu31]
                            cases hg39 : (!y38) with
                            | true =>
                              replace h := if_t hg39 h
                              replace h := Option.some.inj h
                              subst h
                              simp only [go_sem, same?_some hu22, same?_some hu24, same?_some hu31]
                            | false =>
                              replace h := if_f hg39 h
                              simp only [go_sem, same?_some hu22, same?_some hu24, same?_some hu31]
                              cases hg40 : (y37.2.1 != y7.2.1) with
                              | true =>
                                replace h := if_t hg40 h
                                replace h := Option.some.inj h
                                subst h
                                simp only [go_sem, same?_some hu22, same?_some hu24, same?_some hu31]
                              | false =>
                                replace h := if_f hg40 h
                                simp only [go_sem, same?_some hu22, same?_some hu24, same?_some hu31]
                                cases hg41 : (!(y37.2.2 == y7.2.2)) with
                                | true =>
                                  replace h := if_t hg41 h
                                  replace h := Option.some.inj h
                                  subst h
                                  simp only [go_sem, same?_some hu22, same?_some hu24, same?_some hu31]
                                | false =>
                                  replace h := if_f hg41 h
                                  simp only [go_sem, same?_some hu22, same?_some hu24, same?_some hu31]
                                  refine UpC.to [(11, .ref (10, 46, 0) y30.2.length), (15, .int .i64 y30.1)] [((10, 46, 0), ⟨some (3, 1), y30.2.length, y30.2.flatMap cI⟩)] 26 ?_
                                  simp only [go_sem, same?_some hu22, same?_some hu24, same?_some hu31]
                                  obtain ⟨y42, hy42, h⟩ := bind_i h
                                  refine CallS.see (laws_heldIntS_ok hy42) (by simp only [go_sem]) (by simp only [go_sem]) ?_
                                  simp only [go_sem, same?_some hu22, same?_some hu24, same?_some hu31]
                                  refine pwp_plain rfl ?_
                                  simp only [go_sem, same?_some hu22, same?_some hu24, same?_some hu31]
                                  cases hg43 : (decide (y42 < 0)) with
                                  | true =>
                                    replace h := if_t hg43 h
                                    replace h := Option.some.inj h
                                    subst h
                                    simp only [go_sem, same?_some hu22, same?_some hu24, same?_some hu31]
                                  | false =>
                                    replace h := if_f hg43 h
                                    simp only [go_sem, same?_some hu22, same?_some hu24, same?_some hu31]
                                    refine UpC.to [(15, .int .i64 y30.1), (16, .int .i64 y42)] [] 29 ?_
                                    simp only [go_sem, same?_some hu22, same?_some hu24, same?_some hu31]
                                    refine pwp_plain rfl ?_
                                    simp only [go_sem, same?_some hu22, same?_some hu24, same?_some hu31]
                                    cases hg44 : (y42 != y30.1) with
                                    | true =>
                                      replace h := if_t hg44 h
                                      replace h := Option.some.inj h
                                      subst h
                                      simp only [go_sem, same?_some hu22, same?_some hu24, same?_some hu31]
                                    | false =>
                                      replace h := if_f hg44 h
                                      simp only [go_sem, same?_some hu22, same?_some hu24, same?_some hu31]
                                      refine UpC.to [] [] 30 ?_
                                      replace h := Option.some.inj h
                                      subst h
                                      simp only [go_sem, same?_some hu22, same?_some hu24, same?_some hu31]

theorem spec_l9Counter_ok {n_0 : Int} {r : Bool} (h : spec_l9Counter n_0 = some r) : PC prog 43 [.int .i64 n_0] (.bool r) := by
  refine PC.intro (rs := [.tmp 2]) func43 rfl rfl mx (by rfl) (by rfl) (by rw [ntmps43]; simp) ?_
  rw [spec_l9Counter] at h
  rw [pwp_start]
  simp only [go_sem, st0]
  obtain ⟨y1, hy1, h⟩ := bind_i h
  refine CallS.pcs (spec_l1In_ok hy1) rfl ?_
  replace h := Option.some.inj h
  subst h
  simp only [go_sem]

theorem spec_GoodWeights_ok {l_0 : (List Int)} {r : Bool} (h : spec_GoodWeights l_0 = some r) : PC prog 73 [.sl l_0.length (l_0.flatMap cI)] (.bool r) := by
  refine PC.intro (rs := [.tmp 2]) func73 rfl rfl mx (by rfl) (by rfl) (by rw [ntmps73]; simp) ?_
  rw [spec_GoodWeights] at h
  rw [pwp_start]
  simp only [go_sem, st0]
  refine pwp_join rfl (fun s => ∃ (sum_3 : Int), spec_GoodWeights_K1 l_0 sum_3 = some r ∧ s = ⟨frL [(0, .sl l_0.length (l_0.flatMap cI)), (3, .int .i64 sum_3)], hL [], 5⟩) (fun J hJ => ?_) ?_
  · simp only [go_sem]
    refine loopG_i (fun m s => ∃ (post8 : List Int) (i8 : Nat) (sum_3 : Int), m = post8.length ∧ Rg l_0 i8 post8 ∧ l_0.length ≤ 9223372036854775807 ∧ spec_GoodWeights_L1 l_0 post8 i8 sum_3 = some r ∧ s = ⟨frL [(0, .sl l_0.length (l_0.flatMap cI)), (3, .int .i64 sum_3), (6, .sl l_0.length (l_0.flatMap cI)), (7, .int .i64 (l_0.length : Int)), (8, .int .i64 (i8 : Int))], hL [], 4⟩) l_0.length (Up.bound 6 l_0.length (l_0.flatMap cI) (by simp only [go_sem]) (fun hb => ?_)) ?_
    · exact Up.to [(0, .sl l_0.length (l_0.flatMap cI)), (3, .int .i64 0), (6, .sl l_0.length (l_0.flatMap cI)), (7, .int .i64 (l_0.length : Int)), (8, .int .i64 ((0 : Nat) : Int))] [] 4 ⟨_, 0, _, rfl, rg_0 _, hb, h, rfl⟩
    · rintro Q1 _ _ ⟨post8, i8, sum_3, rfl, hl8, hb8, h, rfl⟩ hN1 hR1 hE1
      cases post8 with
      | nil =>
        rw [spec_GoodWeights_L1] at h
        simp only [go_sem, rg_nil hl8]
        refine pwp_plain rfl ?_
        simp only [go_sem, rg_nil hl8]
        refine hE1 _ _ ?_
        simp only [go_sem, rg_nil hl8]
        refine join_n ?_
        exact Up.to [(0, .sl l_0.length (l_0.flatMap cI)), (3, .int .i64 sum_3)] [] 5 (hJ _ ⟨sum_3, h, rfl⟩)
      | cons e8 post8 =>
        rw [spec_GoodWeights_L1] at h
        simp only [go_sem, rg_cons hl8, rg_step hl8 hb8]
        refine pwp_plain rfl ?_
        simp only [go_sem, rg_cons hl8, rg_step hl8 hb8]
        refine UpC.here ?_
        refine pwp_plain rfl ?_
        simp only [go_sem, rg_cons hl8, rg_step hl8 hb8]
        refine evE_round hl8 cI_len (by decide) (fun rest => ?_)
        simp only [go_sem, rg_cons hl8, rg_step hl8 hb8]
        refine pwp_plain rfl ?_
        simp only [go_sem, rg_cons hl8, rg_step hl8 hb8]
        obtain ⟨y3, hy3, h⟩ := bind_i h
        refine CallS.pcs (spec_l1In_ok hy3) rfl ?_
        simp only [go_sem, rg_cons hl8, rg_step hl8 hb8]
        cases hg4 : (!y3) with
        | true =>
          replace h := if_t hg4 h
          simp only [go_sem, rg_cons hl8, rg_step hl8 hb8]
          refine hR1 _ ?_
          replace h := Option.some.inj h
          subst h
          simp only [go_sem, rg_cons hl8, rg_step hl8 hb8]
        | false =>
          replace h := if_f hg4 h
          simp only [go_sem, rg_cons hl8, rg_step hl8 hb8]
          refine UpC.here ?_
          simp only [go_sem, rg_cons hl8, rg_step hl8 hb8]
          refine UpC.here ?_
          simp only [go_sem, rg_cons hl8, rg_step hl8 hb8]
          exact hN1 _ (Up.to [(0, .sl l_0.length (l_0.flatMap cI)), (3, .int .i64 (IntKind.i64.wrap (sum_3 + e8))), (6, .sl l_0.length (l_0.flatMap cI)), (7, .int .i64 (l_0.length : Int)), (8, .int .i64 ((i8 + 1 : Nat) : Int))] [] 4 ⟨post8.length, Nat.lt_succ_self _, post8, i8 + 1, (IntKind.i64.wrap (sum_3 + e8)), rfl, rg_next hl8, hb8, h, rfl⟩)
  · rintro _ ⟨sum_3, h, rfl⟩
    rw [spec_GoodWeights_K1] at h
    simp only [go_sem]
    obtain ⟨y1, hy1, h⟩ := bind_i h
    refine CallS.pcs (spec_l1In_ok hy1) rfl ?_
    simp only [go_sem]
    cases hg2 : y1 with
    | true =>
      replace h := if_t hg2 h
      replace h := Option.some.inj h
      subst h
      simp only [go_sem]
    | false =>
      replace h := if_f hg2 h
      replace h := Option.some.inj h
      subst h
      simp only [go_sem]

theorem spec_AliasOf_ok {l_0 : (List Int)} {r : ((List TColumn) × Bool)} (h : spec_AliasOf l_0 = some r) : PC prog 44 [.sl l_0.length (l_0.flatMap cI)] (.tup [.sl r.1.length (r.1.flatMap cColumn), .bool r.2]) := by
  refine PC.intro (rs := [.tmp 2, .tmp 3]) func44 rfl rfl mx (by rfl) (by rfl) (by rw [ntmps44]; simp) ?_
  rw [spec_AliasOf] at h
  rw [pwp_start]
  simp only [go_sem, st0]
  refine pwp_plain rfl ?_
  simp only [go_sem]
  obtain ⟨y1, hy1, h⟩ := bind_i h
  refine CallS.pcs (spec_GoodWeights_ok hy1) rfl ?_
  simp only [go_sem]
  cases hg2 : (!y1) with
  | true =>
    replace h := if_t hg2 h
    replace h := Option.some.inj h
    subst h
    simp only [go_sem]
  | false =>
    replace h := if_f hg2 h
    simp only [go_sem]
    refine UpC.to [(0, .sl l_0.length (l_0.flatMap cI))] [] 3 ?_
    simp only [go_sem]
    obtain ⟨y3, hy3, h⟩ := bind_i h
    refine CallS.pcs (spec_l12Total_ok hy3) rfl ?_
    simp only [go_sem]
    obtain ⟨x4, hx4, h⟩ := bind_i h
    refine evE_make (c := cI) hx4 rfl cI_len (by decide) rfl ?_
    simp only [go_sem]
    obtain ⟨x5, hx5, h⟩ := bind_i h
    refine evE_make (c := cB) hx5 rfl cB_len (by decide) rfl ?_
    simp only [go_sem]
    obtain ⟨x6, hx6, h⟩ := bind_i h
    refine evE_make (c := cColumn) hx6 rfl cColumn_len (by decide) rfl ?_
    simp only [go_sem]
    refine pwp_join rfl (fun s => ∃ (left_6 : List Int) (out_8 : List TColumn), spec_AliasOf_K1 y3 x5 left_6 out_8 = some r ∧ s = ⟨frL [(5, .int .i64 y3), (6, .ref (5, 22, 0) left_6.length), (7, .ref (6, 24, 0) x5.length), (8, .ref (7, 26, 0) out_8.length)], hL [((5, 22, 0), ⟨some (3, 1), left_6.length, left_6.flatMap cI⟩), ((6, 24, 0), ⟨some (4, 1), x5.length, x5.flatMap cB⟩), ((7, 26, 0), ⟨some (108, 2), out_8.length, out_8.flatMap cColumn⟩)], 10⟩) (fun J hJ => ?_) ?_
    · simp only [go_sem]
      refine loopG_i (fun m s => ∃ (post29 : List Int) (i29 : Nat) (left_22 : List Int) (out_26 : List TColumn), m = post29.length ∧ Rg l_0 i29 post29 ∧ l_0.length ≤ 9223372036854775807 ∧ spec_AliasOf_L3 l_0 y3 x5 post29 i29 left_22 out_26 = some r ∧ s = ⟨frL [(4, .int .i64 (l_0.length : Int)), (5, .int .i64 y3), (6, .ref (5, 22, 0) left_22.length), (7, .ref (6, 24, 0) x5.length), (8, .ref (7, 26, 0) out_26.length), (27, .sl l_0.length (l_0.flatMap cI)), (28, .int .i64 (l_0.length : Int)), (29, .int .i64 (i29 : Int))], hL [((5, 22, 0), ⟨some (3, 1), left_22.length, left_22.flatMap cI⟩), ((6, 24, 0), ⟨some (4, 1), x5.length, x5.flatMap cB⟩), ((7, 26, 0), ⟨some (108, 2), out_26.length, out_26.flatMap cColumn⟩)], 9⟩) l_0.length (Up.bound 27 l_0.length (l_0.flatMap cI) (by simp only [go_sem]) (fun hb => ?_)) ?_
      · exact Up.to [(4, .int .i64 (l_0.length : Int)), (5, .int .i64 y3), (6, .ref (5, 22, 0) x4.length), (7, .ref (6, 24, 0) x5.length), (8, .ref (7, 26, 0) x6.length), (27, .sl l_0.length (l_0.flatMap cI)), (28, .int .i64 (l_0.length : Int)), (29, .int .i64 ((0 : Nat) : Int))] [((5, 22, 0), ⟨some (3, 1), x4.length, x4.flatMap cI⟩), ((6, 24, 0), ⟨some (4, 1), x5.length, x5.flatMap cB⟩), ((7, 26, 0), ⟨some (108, 2), x6.length, x6.flatMap cColumn⟩)] 9 ⟨_, 0, _, _, rfl, rg_0 _, hb, h, rfl⟩
      · rintro Q3 _ _ ⟨post29, i29, left_22, out_26, rfl, hl29, hb29, h, rfl⟩ hN3 hR3 hE3
        cases post29 with
        | nil =>
          rw [spec_AliasOf_L3] at h
          simp only [go_sem, rg_nil hl29]
          refine pwp_plain rfl ?_
          simp only [go_sem, rg_nil hl29]
          refine hE3 _ _ ?_
          simp only [go_sem, rg_nil hl29]
          refine join_n ?_
          exact Up.to [(5, .int .i64 y3), (6, .ref (5, 22, 0) left_22.length), (7, .ref (6, 24, 0) x5.length), (8, .ref (7, 26, 0) out_26.length)] [((5, 22, 0), ⟨some (3, 1), left_22.length, left_22.flatMap cI⟩), ((6, 24, 0), ⟨some (4, 1), x5.length, x5.flatMap cB⟩), ((7, 26, 0), ⟨some (108, 2), out_26.length, out_26.flatMap cColumn⟩)] 10 (hJ _ ⟨left_22, out_26, h, rfl⟩)
        | cons e29 post29 =>
          rw [spec_AliasOf_L3] at h
          simp only [go_sem, rg_cons hl29, rg_step hl29 hb29]
          refine pwp_plain rfl ?_
          simp only [go_sem, rg_cons hl29, rg_step hl29 hb29]
          refine UpC.to [(4, .int .i64 (l_0.length : Int)), (5, .int .i64 y3), (6, .ref (5, 22, 0) left_22.length), (7, .ref (6, 24, 0) x5.length), (8, .ref (7, 26, 0) out_26.length), (27, .sl l_0.length (l_0.flatMap cI)), (28, .int .i64 (l_0.length : Int)), (29, .int .i64 (i29 : Int))] [((5, 22, 0), ⟨some (3, 1), left_22.length, left_22.flatMap cI⟩), ((6, 24, 0), ⟨some (4, 1), x5.length, x5.flatMap cB⟩), ((7, 26, 0), ⟨some (108, 2), out_26.length, out_26.flatMap cColumn⟩)] 10 ?_
          simp only [go_sem, rg_cons hl29, rg_step hl29 hb29]
          refine pwp_plain rfl ?_
          simp only [go_sem, rg_cons hl29, rg_step hl29 hb29]
          refine evE_round hl29 cI_len (by decide) (fun rest => ?_)
          simp only [go_sem, rg_cons hl29, rg_step hl29 hb29]
          obtain ⟨e27, he27, h⟩ := bind_i h
          refine evE_indexRef he27 (by simp only [go_sem]) ?_
          simp only [go_sem, rg_cons hl29, rg_step hl29 hb29]
          obtain ⟨x28, hx28, h⟩ := bind_i h
          refine evE_storeRow (x := (IntKind.i64.wrap (e29 * (l_0.length : Int)))) hx28 cI_len (by simp only [go_sem] <;> rfl) _ (by omega) rfl rfl rfl ?_
          simp only [go_sem, rg_cons hl29, rg_step hl29 hb29, put?_len hx28]
          obtain ⟨e29, he29, h⟩ := bind_i h
          refine evE_indexRef he29 (by simp only [go_sem]) ?_
          simp only [go_sem, rg_cons hl29, rg_step hl29 hb29, put?_len hx28]
          obtain ⟨x30, hx30, h⟩ := bind_i h
          refine evE_storeRow (x := (⟨y3, (i29 : Int)⟩ : TColumn)) hx30 cColumn_len (by simp only [go_sem] <;> rfl) _ (by omega) rfl rfl rfl ?_
          simp only [go_sem, rg_cons hl29, rg_step hl29 hb29, put?_len hx28, put?_len hx30]
          refine UpC.to [(4, .int .i64 (l_0.length : Int)), (5, .int .i64 y3), (6, .ref (5, 22, 0) x28.length), (7, .ref (6, 24, 0) x5.length), (8, .ref (7, 26, 0) x30.length), (27, .sl l_0.length (l_0.flatMap cI)), (28, .int .i64 (l_0.length : Int)), (29, .int .i64 (i29 : Int))] [((5, 22, 0), ⟨some (3, 1), x28.length, x28.flatMap cI⟩), ((6, 24, 0), ⟨some (4, 1), x5.length, x5.flatMap cB⟩), ((7, 26, 0), ⟨some (108, 2), x30.length, x30.flatMap cColumn⟩)] 13 ?_
          simp only [go_sem, rg_cons hl29, rg_step hl29 hb29, put?_len hx28, put?_len hx30]
          exact hN3 _ (Up.to [(4, .int .i64 (l_0.length : Int)), (5, .int .i64 y3), (6, .ref (5, 22, 0) x28.length), (7, .ref (6, 24, 0) x5.length), (8, .ref (7, 26, 0) x30.length), (27, .sl l_0.length (l_0.flatMap cI)), (28, .int .i64 (l_0.length : Int)), (29, .int .i64 ((i29 + 1 : Nat) : Int))] [((5, 22, 0), ⟨some (3, 1), x28.length, x28.flatMap cI⟩), ((6, 24, 0), ⟨some (4, 1), x5.length, x5.flatMap cB⟩), ((7, 26, 0), ⟨some (108, 2), x30.length, x30.flatMap cColumn⟩)] 9 ⟨post29.length, Nat.lt_succ_self _, post29, i29 + 1, x28, x30, rfl, rg_next hl29, hb29, h, rfl⟩)
    · rintro _ ⟨left_6, out_8, h, rfl⟩
      rw [spec_AliasOf_K1] at h
      simp only [go_sem]
      refine loopG_i (fun m s => ∃ (left_22 : List Int) (done_24 : List Bool) (out_26 : List TColumn), spec_AliasOf_L1 y3 m left_22 done_24 out_26 = some r ∧ s = ⟨frL [(5, .int .i64 y3), (6, .ref (5, 22, 0) left_22.length), (7, .ref (6, 24, 0) done_24.length), (8, .ref (7, 26, 0) out_26.length)], hL [((5, 22, 0), ⟨some (3, 1), left_22.length, left_22.flatMap cI⟩), ((6, 24, 0), ⟨some (4, 1), done_24.length, done_24.flatMap cB⟩), ((7, 26, 0), ⟨some (108, 2), out_26.length, out_26.flatMap cColumn⟩)], 10⟩) FU ?_ ?_
      · exact Up.to [(5, .int .i64 y3), (6, .ref (5, 22, 0) left_6.length), (7, .ref (6, 24, 0) x5.length), (8, .ref (7, 26, 0) out_8.length)] [((5, 22, 0), ⟨some (3, 1), left_6.length, left_6.flatMap cI⟩), ((6, 24, 0), ⟨some (4, 1), x5.length, x5.flatMap cB⟩), ((7, 26, 0), ⟨some (108, 2), out_8.length, out_8.flatMap cColumn⟩)] 10 ⟨_, _, _, h, rfl⟩
      · rintro Q1 fu1 _ ⟨left_22, done_24, out_26, h, rfl⟩ hN1 hR1 hE1
        cases fu1 with
        | zero =>
          rw [spec_AliasOf_L1] at h; cases h
        | succ fu1 =>
          rw [spec_AliasOf_L1] at h
          simp only [go_sem]
          refine pwp_join rfl (fun s => ∃ (small_11 : Int) (great_12 : Int), spec_AliasOf_K2 y3 left_22 done_24 out_26 (spec_AliasOf_L1 y3 fu1) small_11 great_12 = some r ∧ s = ⟨frL [(5, .int .i64 y3), (6, .ref (5, 22, 0) left_22.length), (7, .ref (6, 24, 0) done_24.length), (8, .ref (7, 26, 0) out_26.length), (11, .int .i64 small_11), (12, .int .i64 great_12)], hL [((5, 22, 0), ⟨some (3, 1), left_22.length, left_22.flatMap cI⟩), ((6, 24, 0), ⟨some (4, 1), done_24.length, done_24.flatMap cB⟩), ((7, 26, 0), ⟨some (108, 2), out_26.length, out_26.flatMap cColumn⟩)], 14⟩) (fun J hJ => ?_) ?_
          · simp only [go_sem]
            refine loopG_i (fun m s => ∃ (small_11 : Int) (great_12 : Int) (v_49 : Int), spec_AliasOf_L2 y3 left_22 done_24 out_26 (spec_AliasOf_L1 y3 fu1) m small_11 great_12 v_49 = some r ∧ s = ⟨frL [(5, .int .i64 y3), (6, .ref (5, 22, 0) left_22.length), (7, .ref (6, 24, 0) done_24.length), (8, .ref (7, 26, 0) out_26.length), (11, .int .i64 small_11), (12, .int .i64 great_12), (48, .int .i64 (left_22.length : Int)), (49, .int .i64 v_49)], hL [((5, 22, 0), ⟨some (3, 1), left_22.length, left_22.flatMap cI⟩), ((6, 24, 0), ⟨some (4, 1), done_24.length, done_24.flatMap cB⟩), ((7, 26, 0), ⟨some (108, 2), out_26.length, out_26.flatMap cColumn⟩)], 13⟩) FU ?_ ?_
            · exact Up.to [(5, .int .i64 y3), (6, .ref (5, 22, 0) left_22.length), (7, .ref (6, 24, 0) done_24.length), (8, .ref (7, 26, 0) out_26.length), (11, .int .i64 (-1)), (12, .int .i64 (-1)), (48, .int .i64 (left_22.length : Int)), (49, .int .i64 0)] [((5, 22, 0), ⟨some (3, 1), left_22.length, left_22.flatMap cI⟩), ((6, 24, 0), ⟨some (4, 1), done_24.length, done_24.flatMap cB⟩), ((7, 26, 0), ⟨some (108, 2), out_26.length, out_26.flatMap cColumn⟩)] 13 ⟨_, _, _, h, rfl⟩
            · rintro Q2 fu2 _ ⟨small_11, great_12, v_49, h, rfl⟩ hN2 hR2 hE2
              cases fu2 with
              | zero =>
                rw [spec_AliasOf_L2] at h; cases h
              | succ fu2 =>
                rw [spec_AliasOf_L2] at h
                simp only [go_sem]
                refine pwp_plain rfl ?_
                simp only [go_sem]
                cases hg18 : (decide (v_49 < (left_22.length : Int))) with
                | true =>
                  replace h := if_t hg18 h
                  simp only [go_sem]
                  refine UpC.to [(5, .int .i64 y3), (6, .ref (5, 22, 0) left_22.length), (7, .ref (6, 24, 0) done_24.length), (8, .ref (7, 26, 0) out_26.length), (11, .int .i64 small_11), (12, .int .i64 great_12), (48, .int .i64 (left_22.length : Int)), (49, .int .i64 v_49)] [((5, 22, 0), ⟨some (3, 1), left_22.length, left_22.flatMap cI⟩), ((6, 24, 0), ⟨some (4, 1), done_24.length, done_24.flatMap cB⟩), ((7, 26, 0), ⟨some (108, 2), out_26.length, out_26.flatMap cColumn⟩)] 14 ?_
                  simp only [go_sem]
                  refine pwp_plain rfl ?_
                  simp only [go_sem]
                  refine pwp_plain rfl ?_
                  simp only [go_sem]
                  obtain ⟨e19, he19, h⟩ := bind_i h
                  refine evE_indexRef he19 (by simp only [go_sem]) ?_
                  simp only [go_sem]
                  refine evE_loadRow he19 cB_len (by simp only [go_sem] <;> rfl) _ 0 (by decide) (by omega) rfl ?_
                  simp only [go_sem]
                  cases hg20 : e19 with
                  | true =>
                    replace h := if_t hg20 h
                    simp only [go_sem]
                    refine UpC.to [(5, .int .i64 y3), (6, .ref (5, 22, 0) left_22.length), (7, .ref (6, 24, 0) done_24.length), (8, .ref (7, 26, 0) out_26.length), (11, .int .i64 small_11), (12, .int .i64 great_12), (48, .int .i64 (left_22.length : Int)), (49, .int .i64 v_49)] [((5, 22, 0), ⟨some (3, 1), left_22.length, left_22.flatMap cI⟩), ((6, 24, 0), ⟨some (4, 1), done_24.length, done_24.flatMap cB⟩), ((7, 26, 0), ⟨some (108, 2), out_26.length, out_26.flatMap cColumn⟩)] 16 ?_
                    simp only [go_sem]
                    exact hN2 _ (Up.to [(5, .int .i64 y3), (6, .ref (5, 22, 0) left_22.length), (7, .ref (6, 24, 0) done_24.length), (8, .ref (7, 26, 0) out_26.length), (11, .int .i64 small_11), (12, .int .i64 great_12), (48, .int .i64 (left_22.length : Int)), (49, .int .i64 (IntKind.i64.wrap (v_49 + 1)))] [((5, 22, 0), ⟨some (3, 1), left_22.length, left_22.flatMap cI⟩), ((6, 24, 0), ⟨some (4, 1), done_24.length, done_24.flatMap cB⟩), ((7, 26, 0), ⟨some (108, 2), out_26.length, out_26.flatMap cColumn⟩)] 13 ⟨fu2, Nat.lt_succ_self _, small_11, great_12, (IntKind.i64.wrap (v_49 + 1)), h, rfl⟩)
                  | false =>
                    replace h := if_f hg20 h
                    simp only [go_sem]
                    refine UpC.to [(5, .int .i64 y3), (6, .ref (5, 22, 0) left_22.length), (7, .ref (6, 24, 0) done_24.length), (8, .ref (7, 26, 0) out_26.length), (11, .int .i64 small_11), (12, .int .i64 great_12), (13, .int .i64 v_49), (48, .int .i64 (left_22.length : Int)), (49, .int .i64 v_49)] [((5, 22, 0), ⟨some (3, 1), left_22.length, left_22.flatMap cI⟩), ((6, 24, 0), ⟨some (4, 1), done_24.length, done_24.flatMap cB⟩), ((7, 26, 0), ⟨some (108, 2), out_26.length, out_26.flatMap cColumn⟩)] 16 ?_
                    simp only [go_sem]
                    refine pwp_join rfl (fun s => ∃ (small_11' : Int), spec_AliasOf_K3 y3 left_22 small_11 great_12 v_49 (spec_AliasOf_L2 y3 left_22 done_24 out_26 (spec_AliasOf_L1 y3 fu1) fu2) small_11' = some r ∧ s = ⟨frL [(5, .int .i64 y3), (6, .ref (5, 22, 0) left_22.length), (7, .ref (6, 24, 0) done_24.length), (8, .ref (7, 26, 0) out_26.length), (11, .int .i64 small_11'), (12, .int .i64 great_12), (13, .int .i64 v_49), (48, .int .i64 (left_22.length : Int)), (49, .int .i64 v_49)], hL [((5, 22, 0), ⟨some (3, 1), left_22.length, left_22.flatMap cI⟩), ((6, 24, 0), ⟨some (4, 1), done_24.length, done_24.flatMap cB⟩), ((7, 26, 0), ⟨some (108, 2), out_26.length, out_26.flatMap cColumn⟩)], 18⟩) (fun J hJ => ?_) ?_
                    · simp only [go_sem]
                      obtain ⟨e24, he24, h⟩ := bind_i h
                      refine evE_indexRef he24 (by simp only [go_sem]) ?_
                      simp only [go_sem]
                      refine evE_loadRow he24 cI_len (by simp only [go_sem] <;> rfl) _ 0 (by decide) (by omega) rfl ?_
                      simp only [go_sem]
                      cases hg25 : (decide (e24 < y3)) with
                      | true =>
                        replace h := if_t hg25 h
                        simp only [go_sem]
                        cases hg26 : (decide (small_11 < 0)) with
                        | true =>
                          replace h := if_t hg26 h
                          simp only [go_sem]
                          refine join_n ?_
                          exact Up.to [(5, .int .i64 y3), (6, .ref (5, 22, 0) left_22.length), (7, .ref (6, 24, 0) done_24.length), (8, .ref (7, 26, 0) out_26.length), (11, .int .i64 v_49), (12, .int .i64 great_12), (13, .int .i64 v_49), (48, .int .i64 (left_22.length : Int)), (49, .int .i64 v_49)] [((5, 22, 0), ⟨some (3, 1), left_22.length, left_22.flatMap cI⟩), ((6, 24, 0), ⟨some (4, 1), done_24.length, done_24.flatMap cB⟩), ((7, 26, 0), ⟨some (108, 2), out_26.length, out_26.flatMap cColumn⟩)] 18 (hJ _ ⟨v_49, h, rfl⟩)
                        | false =>
                          replace h := if_f hg26 h
                          simp only [go_sem]
                          refine join_n ?_
                          exact Up.to [(5, .int .i64 y3), (6, .ref (5, 22, 0) left_22.length), (7, .ref (6, 24, 0) done_24.length), (8, .ref (7, 26, 0) out_26.length), (11, .int .i64 small_11), (12, .int .i64 great_12), (13, .int .i64 v_49), (48, .int .i64 (left_22.length : Int)), (49, .int .i64 v_49)] [((5, 22, 0), ⟨some (3, 1), left_22.length, left_22.flatMap cI⟩), ((6, 24, 0), ⟨some (4, 1), done_24.length, done_24.flatMap cB⟩), ((7, 26, 0), ⟨some (108, 2), out_26.length, out_26.flatMap cColumn⟩)] 18 (hJ _ ⟨small_11, h, rfl⟩)
                      | false =>
                        replace h := if_f hg25 h
                        simp only [go_sem]
                        refine join_n ?_
                        exact Up.to [(5, .int .i64 y3), (6, .ref (5, 22, 0) left_22.length), (7, .ref (6, 24, 0) done_24.length), (8, .ref (7, 26, 0) out_26.length), (11, .int .i64 small_11), (12, .int .i64 great_12), (13, .int .i64 v_49), (48, .int .i64 (left_22.length : Int)), (49, .int .i64 v_49)] [((5, 22, 0), ⟨some (3, 1), left_22.length, left_22.flatMap cI⟩), ((6, 24, 0), ⟨some (4, 1), done_24.length, done_24.flatMap cB⟩), ((7, 26, 0), ⟨some (108, 2), out_26.length, out_26.flatMap cColumn⟩)] 18 (hJ _ ⟨small_11, h, rfl⟩)
                    · rintro _ ⟨small_11', h, rfl⟩
                      rw [spec_AliasOf_K3] at h
                      simp only [go_sem]
                      obtain ⟨e21, he21, h⟩ := bind_i h
                      refine evE_indexRef he21 (by simp only [go_sem]) ?_
                      simp only [go_sem]
                      refine evE_loadRow he21 cI_len (by simp only [go_sem] <;> rfl) _ 0 (by decide) (by omega) rfl ?_
                      simp only [go_sem]
                      cases hg22 : (decide (y3 < e21)) with
                      | true =>
                        replace h := if_t hg22 h
                        simp only [go_sem]
                        cases hg23 : (decide (great_12 < 0)) with
                        | true =>
                          replace h := if_t hg23 h
                          simp only [go_sem]
                          refine UpC.to [(5, .int .i64 y3), (6, .ref (5, 22, 0) left_22.length), (7, .ref (6, 24, 0) done_24.length), (8, .ref (7, 26, 0) out_26.length), (11, .int .i64 small_11'), (12, .int .i64 v_49), (48, .int .i64 (left_22.length : Int)), (49, .int .i64 v_49)] [((5, 22, 0), ⟨some (3, 1), left_22.length, left_22.flatMap cI⟩), ((6, 24, 0), ⟨some (4, 1), done_24.length, done_24.flatMap cB⟩), ((7, 26, 0), ⟨some (108, 2), out_26.length, out_26.flatMap cColumn⟩)] 20 ?_
                          simp only [go_sem]
                          exact hN2 _ (Up.to [(5, .int .i64 y3), (6, .ref (5, 22, 0) left_22.length), (7, .ref (6, 24, 0) done_24.length), (8, .ref (7, 26, 0) out_26.length), (11, .int .i64 small_11'), (12, .int .i64 v_49), (48, .int .i64 (left_22.length : Int)), (49, .int .i64 (IntKind.i64.wrap (v_49 + 1)))] [((5, 22, 0), ⟨some (3, 1), left_22.length, left_22.flatMap cI⟩), ((6, 24, 0), ⟨some (4, 1), done_24.length, done_24.flatMap cB⟩), ((7, 26, 0), ⟨some (108, 2), out_26.length, out_26.flatMap cColumn⟩)] 13 ⟨fu2, Nat.lt_succ_self _, small_11', v_49, (IntKind.i64.wrap (v_49 + 1)), h, rfl⟩)
                        | false =>
                          replace h := if_f hg23 h
                          simp only [go_sem]
                          refine UpC.to [(5, .int .i64 y3), (6, .ref (5, 22, 0) left_22.length), (7, .ref (6, 24, 0) done_24.length), (8, .ref (7, 26, 0) out_26.length), (11, .int .i64 small_11'), (12, .int .i64 great_12), (48, .int .i64 (left_22.length : Int)), (49, .int .i64 v_49)] [((5, 22, 0), ⟨some (3, 1), left_22.length, left_22.flatMap cI⟩), ((6, 24, 0), ⟨some (4, 1), done_24.length, done_24.flatMap cB⟩), ((7, 26, 0), ⟨some (108, 2), out_26.length, out_26.flatMap cColumn⟩)] 19 ?_
                          simp only [go_sem]
                          exact hN2 _ (Up.to [(5, .int .i64 y3), (6, .ref (5, 22, 0) left_22.length), (7, .ref (6, 24, 0) done_24.length), (8, .ref (7, 26, 0) out_26.length), (11, .int .i64 small_11'), (12, .int .i64 great_12), (48, .int .i64 (left_22.length : Int)), (49, .int .i64 (IntKind.i64.wrap (v_49 + 1)))] [((5, 22, 0), ⟨some (3, 1), left_22.length, left_22.flatMap cI⟩), ((6, 24, 0), ⟨some (4, 1), done_24.length, done_24.flatMap cB⟩), ((7, 26, 0), ⟨some (108, 2), out_26.length, out_26.flatMap cColumn⟩)] 13 ⟨fu2, Nat.lt_succ_self _, small_11', great_12, (IntKind.i64.wrap (v_49 + 1)), h, rfl⟩)
                      | false =>
                        replace h := if_f hg22 h
                        simp only [go_sem]
                        refine UpC.to [(5, .int .i64 y3), (6, .ref (5, 22, 0) left_22.length), (7, .ref (6, 24, 0) done_24.length), (8, .ref (7, 26, 0) out_26.length), (11, .int .i64 small_11'), (12, .int .i64 great_12), (48, .int .i64 (left_22.length : Int)), (49, .int .i64 v_49)] [((5, 22, 0), ⟨some (3, 1), left_22.length, left_22.flatMap cI⟩), ((6, 24, 0), ⟨some (4, 1), done_24.length, done_24.flatMap cB⟩), ((7, 26, 0), ⟨some (108, 2), out_26.length, out_26.flatMap cColumn⟩)] 19 ?_
                        simp only [go_sem]
                        exact hN2 _ (Up.to [(5, .int .i64 y3), (6, .ref (5, 22, 0) left_22.length), (7, .ref (6, 24, 0) done_24.length), (8, .ref (7, 26, 0) out_26.length), (11, .int .i64 small_11'), (12, .int .i64 great_12), (48, .int .i64 (left_22.length : Int)), (49, .int .i64 (IntKind.i64.wrap (v_49 + 1)))] [((5, 22, 0), ⟨some (3, 1), left_22.length, left_22.flatMap cI⟩), ((6, 24, 0), ⟨some (4, 1), done_24.length, done_24.flatMap cB⟩), ((7, 26, 0), ⟨some (108, 2), out_26.length, out_26.flatMap cColumn⟩)] 13 ⟨fu2, Nat.lt_succ_self _, small_11', great_12, (IntKind.i64.wrap (v_49 + 1)), h, rfl⟩)
                | false =>
                  replace h := if_f hg18 h
                  simp only [go_sem]
                  refine hE2 _ _ ?_
                  simp only [go_sem]
                  refine join_n ?_
                  exact Up.to [(5, .int .i64 y3), (6, .ref (5, 22, 0) left_22.length), (7, .ref (6, 24, 0) done_24.length), (8, .ref (7, 26, 0) out_26.length), (11, .int .i64 small_11), (12, .int .i64 great_12)] [((5, 22, 0), ⟨some (3, 1), left_22.length, left_22.flatMap cI⟩), ((6, 24, 0), ⟨some (4, 1), done_24.length, done_24.flatMap cB⟩), ((7, 26, 0), ⟨some (108, 2), out_26.length, out_26.flatMap cColumn⟩)] 14 (hJ _ ⟨small_11, great_12, h, rfl⟩)
          · rintro _ ⟨small_11, great_12, h, rfl⟩
            rw [spec_AliasOf_K2] at h
            simp only [go_sem]
            refine pwp_plain rfl ?_
            simp only [go_sem]
            cases hg7 : (decide (small_11 < 0)) with
            | true =>
              replace h := if_t hg7 h
              simp only [go_sem]
              refine hR1 _ ?_
              replace h := Option.some.inj h
              subst h
              simp only [go_sem]
            | false =>
              replace h := if_f hg7 h
              simp only [go_sem]
              cases hg8 : (decide (great_12 < 0)) with
              | true =>
                replace h := if_t hg8 h
                simp only [go_sem]
                refine hR1 _ ?_
                replace h := Option.some.inj h
                subst h
                simp only [go_sem]
              | false =>
                replace h := if_f hg8 h
                simp only [go_sem]
                refine UpC.to [(5, .int .i64 y3), (6, .ref (5, 22, 0) left_22.length), (7, .ref (6, 24, 0) done_24.length), (8, .ref (7, 26, 0) out_26.length), (11, .int .i64 small_11), (12, .int .i64 great_12)] [((5, 22, 0), ⟨some (3, 1), left_22.length, left_22.flatMap cI⟩), ((6, 24, 0), ⟨some (4, 1), done_24.length, done_24.flatMap cB⟩), ((7, 26, 0), ⟨some (108, 2), out_26.length, out_26.flatMap cColumn⟩)] 15 ?_
                simp only [go_sem]
                obtain ⟨e9, he9, h⟩ := bind_i h
                refine evE_indexRef he9 (by simp only [go_sem]) ?_
                simp only [go_sem]
                refine evE_loadRow he9 cI_len (by simp only [go_sem] <;> rfl) _ 0 (by decide) (by omega) rfl ?_
                simp only [go_sem]
                obtain ⟨e10, he10, h⟩ := bind_i h
                refine evE_indexRef he10 (by simp only [go_sem]) ?_
                simp only [go_sem]
                obtain ⟨x11, hx11, h⟩ := bind_i h
                refine evE_storeRow (x := (⟨e9, great_12⟩ : TColumn)) hx11 cColumn_len (by simp only [go_sem] <;> rfl) _ (by omega) rfl rfl rfl ?_
                simp only [go_sem, put?_len hx11]
                obtain ⟨e12, he12, h⟩ := bind_i h
                refine evE_indexRef he12 (by simp only [go_sem]) ?_
                simp only [go_sem, put?_len hx11]
                refine evE_loadRow he12 cI_len (by simp only [go_sem] <;> rfl) _ 0 (by decide) (by omega) rfl ?_
                simp only [go_sem, put?_len hx11]
                obtain ⟨e13, he13, h⟩ := bind_i h
                refine evE_indexRef he13 (by simp only [go_sem]) ?_
                simp only [go_sem, put?_len hx11]
                refine evE_loadRow he13 cI_len (by simp only [go_sem] <;> rfl) _ 0 (by decide) (by omega) rfl ?_
                simp only [go_sem, put?_len hx11]
                obtain ⟨e14, he14, h⟩ := bind_i h
                refine evE_indexRef he14 (by simp only [go_sem]) ?_
                simp only [go_sem, put?_len hx11]
                obtain ⟨x15, hx15, h⟩ := bind_i h
                refine evE_storeRow (x := (IntKind.i64.wrap (e12 - (IntKind.i64.wrap (y3 - e13))))) hx15 cI_len (by simp only [go_sem] <;> rfl) _ (by omega) rfl rfl rfl ?_
                simp only [go_sem, put?_len hx11, put?_len hx15]
                refine lgEnd_dec (by rfl) ?_
                try simp only [go_sem, put?_len hx11, put?_len hx15]
                obtain ⟨e16, he16, h⟩ := bind_i h
                refine evE_indexRef he16 (by simp only [go_sem]) ?_
                simp only [go_sem, put?_len hx11, put?_len hx15]
                obtain ⟨x17, hx17, h⟩ := bind_i h
                refine evE_storeRow (x := true) hx17 cB_len (by simp only [go_sem] <;> rfl) _ (by omega) rfl rfl rfl ?_
                simp only [go_sem, put?_len hx11, put?_len hx15, put?_len hx17]
                exact hN1 _ (Up.to [(5, .int .i64 y3), (6, .ref (5, 22, 0) x15.length), (7, .ref (6, 24, 0) x17.length), (8, .ref (7, 26, 0) x11.length)] [((5, 22, 0), ⟨some (3, 1), x15.length, x15.flatMap cI⟩), ((6, 24, 0), ⟨some (4, 1), x17.length, x17.flatMap cB⟩), ((7, 26, 0), ⟨some (108, 2), x11.length, x11.flatMap cColumn⟩)] 10 ⟨fu1, Nat.lt_succ_self _, x15, x17, x11, h, rfl⟩)

theorem spec_GoodAlias_ok {l_0 : (List TColumn)} {r : Bool} (h : spec_GoodAlias l_0 = some r) : PC prog 102 [.sl l_0.length (l_0.flatMap cColumn)] (.bool r) := by
  refine PC.intro (rs := [.tmp 2]) func102 rfl rfl mx (by rfl) (by rfl) (by rw [ntmps102]; simp) ?_
  rw [spec_GoodAlias] at h
  rw [pwp_start]
  simp only [go_sem, st0]
  refine pwp_join rfl (fun s => spec_GoodAlias_K1 l_0 = some r ∧ s = ⟨frL [(0, .sl l_0.length (l_0.flatMap cColumn))], hL [], 4⟩) (fun J hJ => ?_) ?_
  · simp only [go_sem]
    refine loopG_i (fun m s => ∃ (post7 : List TColumn) (i7 : Nat), m = post7.length ∧ Rg l_0 i7 post7 ∧ l_0.length ≤ 9223372036854775807 ∧ spec_GoodAlias_L1 l_0 post7 i7 = some r ∧ s = ⟨frL [(0, .sl l_0.length (l_0.flatMap cColumn)), (5, .sl l_0.length (l_0.flatMap cColumn)), (6, .int .i64 (l_0.length : Int)), (7, .int .i64 (i7 : Int))], hL [], 3⟩) l_0.length (Up.bound 5 l_0.length (l_0.flatMap cColumn) (by simp only [go_sem]) (fun hb => ?_)) ?_
    · exact Up.to [(0, .sl l_0.length (l_0.flatMap cColumn)), (5, .sl l_0.length (l_0.flatMap cColumn)), (6, .int .i64 (l_0.length : Int)), (7, .int .i64 ((0 : Nat) : Int))] [] 3 ⟨_, 0, rfl, rg_0 _, hb, h, rfl⟩
    · rintro Q1 _ _ ⟨post7, i7, rfl, hl7, hb7, h, rfl⟩ hN1 hR1 hE1
      cases post7 with
      | nil =>
        rw [spec_GoodAlias_L1] at h
        simp only [go_sem, rg_nil hl7]
        refine pwp_plain rfl ?_
        simp only [go_sem, rg_nil hl7]
        refine hE1 _ _ ?_
        simp only [go_sem, rg_nil hl7]
        refine join_n ?_
        exact Up.to [(0, .sl l_0.length (l_0.flatMap cColumn))] [] 4 (hJ _ ⟨h, rfl⟩)
      | cons e7 post7 =>
        rw [spec_GoodAlias_L1] at h
        simp only [go_sem, rg_cons hl7, rg_step hl7 hb7]
        refine pwp_plain rfl ?_
        simp only [go_sem, rg_cons hl7, rg_step hl7 hb7]
        refine UpC.here ?_
        refine pwp_plain rfl ?_
        simp only [go_sem, rg_cons hl7, rg_step hl7 hb7]
        refine evE_round hl7 cColumn_len (by decide) (fun rest => ?_)
        simp only [go_sem, rg_cons hl7, rg_step hl7 hb7]
        cases hg2 : (decide (e7.fKeep < 0)) with
        | true =>
          replace h := if_t hg2 h
          simp only [go_sem, rg_cons hl7, rg_step hl7 hb7]
          refine hR1 _ ?_
          replace h := Option.some.inj h
          subst h
          simp only [go_sem, rg_cons hl7, rg_step hl7 hb7]
        | false =>
          replace h := if_f hg2 h
          simp only [go_sem, rg_cons hl7, rg_step hl7 hb7]
          obtain ⟨y3, hy3, h⟩ := bind_i h
          refine CallS.pcs (spec_l1In_ok hy3) rfl ?_
          simp only [go_sem, rg_cons hl7, rg_step hl7 hb7]
          cases hg4 : (!y3) with
          | true =>
            replace h := if_t hg4 h
            simp only [go_sem, rg_cons hl7, rg_step hl7 hb7]
            refine hR1 _ ?_
            replace h := Option.some.inj h
            subst h
            simp only [go_sem, rg_cons hl7, rg_step hl7 hb7]
          | false =>
            replace h := if_f hg4 h
            simp only [go_sem, rg_cons hl7, rg_step hl7 hb7]
            refine UpC.here ?_
            simp only [go_sem, rg_cons hl7, rg_step hl7 hb7]
            exact hN1 _ (Up.to [(0, .sl l_0.length (l_0.flatMap cColumn)), (5, .sl l_0.length (l_0.flatMap cColumn)), (6, .int .i64 (l_0.length : Int)), (7, .int .i64 ((i7 + 1 : Nat) : Int))] [] 3 ⟨post7.length, Nat.lt_succ_self _, post7, i7 + 1, rfl, rg_next hl7, hb7, h, rfl⟩)
  · rintro _ ⟨h, rfl⟩
    rw [spec_GoodAlias_K1] at h
    simp only [go_sem]
    obtain ⟨y1, hy1, h⟩ := bind_i h
    refine CallS.pcs (spec_l1In_ok hy1) rfl ?_
    replace h := Option.some.inj h
    subst h
    simp only [go_sem]

theorem spec_l12Fits_ok {l_0 : (List TColumn)} {total_1 : Int} {r : Bool} (h : spec_l12Fits l_0 total_1 = some r) : PC prog 74 [.sl l_0.length (l_0.flatMap cColumn), .int .i64 total_1] (.bool r) := by
  refine PC.intro (rs := [.tmp 4]) func74 rfl rfl mx (by rfl) (by rfl) (by rw [ntmps74]; simp) ?_
  rw [spec_l12Fits] at h
  rw [pwp_start]
  simp only [go_sem, st0]
  refine pwp_join rfl (fun s => spec_l12Fits_K1 l_0 total_1 = some r ∧ s = ⟨frL [(0, .sl l_0.length (l_0.flatMap cColumn)), (1, .int .i64 total_1)], hL [], 4⟩) (fun J hJ => ?_) ?_
  · simp only [go_sem]
    refine loopG_i (fun m s => ∃ (post9 : List TColumn) (i9 : Nat), m = post9.length ∧ Rg l_0 i9 post9 ∧ l_0.length ≤ 9223372036854775807 ∧ spec_l12Fits_L1 l_0 total_1 post9 i9 = some r ∧ s = ⟨frL [(0, .sl l_0.length (l_0.flatMap cColumn)), (1, .int .i64 total_1), (7, .sl l_0.length (l_0.flatMap cColumn)), (8, .int .i64 (l_0.length : Int)), (9, .int .i64 (i9 : Int))], hL [], 3⟩) l_0.length (Up.bound 7 l_0.length (l_0.flatMap cColumn) (by simp only [go_sem]) (fun hb => ?_)) ?_
    · exact Up.to [(0, .sl l_0.length (l_0.flatMap cColumn)), (1, .int .i64 total_1), (7, .sl l_0.length (l_0.flatMap cColumn)), (8, .int .i64 (l_0.length : Int)), (9, .int .i64 ((0 : Nat) : Int))] [] 3 ⟨_, 0, rfl, rg_0 _, hb, h, rfl⟩
    · rintro Q1 _ _ ⟨post9, i9, rfl, hl9, hb9, h, rfl⟩ hN1 hR1 hE1
      cases post9 with
      | nil =>
        rw [spec_l12Fits_L1] at h
        simp only [go_sem, rg_nil hl9]
        refine pwp_plain rfl ?_
        simp only [go_sem, rg_nil hl9]
        refine hE1 _ _ ?_
        simp only [go_sem, rg_nil hl9]
        refine join_n ?_
        exact Up.to [(0, .sl l_0.length (l_0.flatMap cColumn)), (1, .int .i64 total_1)] [] 4 (hJ _ ⟨h, rfl⟩)
      | cons e9 post9 =>
        rw [spec_l12Fits_L1] at h
        simp only [go_sem, rg_cons hl9, rg_step hl9 hb9]
        refine pwp_plain rfl ?_
        simp only [go_sem, rg_cons hl9, rg_step hl9 hb9]
        refine UpC.here ?_
        refine pwp_plain rfl ?_
        simp only [go_sem, rg_cons hl9, rg_step hl9 hb9]
        refine evE_round hl9 cColumn_len (by decide) (fun rest => ?_)
        simp only [go_sem, rg_cons hl9, rg_step hl9 hb9]
        cases hg4 : (decide (total_1 < e9.fKeep)) with
        | true =>
          replace h := if_t hg4 h
          simp only [go_sem, rg_cons hl9, rg_step hl9 hb9]
          refine hR1 _ ?_
          replace h := Option.some.inj h
          subst h
          simp only [go_sem, rg_cons hl9, rg_step hl9 hb9]
        | false =>
          replace h := if_f hg4 h
          simp only [go_sem, rg_cons hl9, rg_step hl9 hb9]
          refine UpC.here ?_
          simp only [go_sem, rg_cons hl9, rg_step hl9 hb9]
          exact hN1 _ (Up.to [(0, .sl l_0.length (l_0.flatMap cColumn)), (1, .int .i64 total_1), (7, .sl l_0.length (l_0.flatMap cColumn)), (8, .int .i64 (l_0.length : Int)), (9, .int .i64 ((i9 + 1 : Nat) : Int))] [] 3 ⟨post9.length, Nat.lt_succ_self _, post9, i9 + 1, rfl, rg_next hl9, hb9, h, rfl⟩)
  · rintro _ ⟨h, rfl⟩
    rw [spec_l12Fits_K1] at h
    simp only [go_sem]
    obtain ⟨y1, hy1, h⟩ := bind_i h
    refine CallS.pcs (spec_GoodAlias_ok hy1) rfl ?_
    simp only [go_sem]
    cases hg2 : y1 with
    | true =>
      replace h := if_t hg2 h
      simp only [go_sem]
      obtain ⟨y3, hy3, h⟩ := bind_i h
      refine CallS.pcs (spec_l1In_ok hy3) rfl ?_
      replace h := Option.some.inj h
      subst h
      simp only [go_sem]
    | false =>
      replace h := if_f hg2 h
      replace h := Option.some.inj h
      subst h
      simp only [go_sem]

theorem spec_PickBy_ok {l_0 : (List TColumn)} {total_1 : Int} {draw_2 : Int} {r : (Int × Bool)} (h : spec_PickBy l_0 total_1 draw_2 = some r) : PC prog 45 [.sl l_0.length (l_0.flatMap cColumn), .int .i64 total_1, .int .i64 draw_2] (.tup [.int .i64 r.1, .bool r.2]) := by
  refine PC.intro (rs := [.tmp 6, .tmp 7]) func45 rfl rfl mx (by rfl) (by rfl) (by rw [ntmps45]; simp) ?_
  rw [spec_PickBy] at h
  rw [pwp_start]
  simp only [go_sem, st0]
  refine pwp_plain rfl ?_
  simp only [go_sem]
  obtain ⟨y1, hy1, h⟩ := bind_i h
  refine CallS.pcs (spec_l12Fits_ok hy1) rfl ?_
  simp only [go_sem]
  cases hg2 : (!y1) with
  | true =>
    replace h := if_t hg2 h
    replace h := Option.some.inj h
    subst h
    simp only [go_sem]
  | false =>
    replace h := if_f hg2 h
    simp only [go_sem]
    obtain ⟨y3, hy3, h⟩ := bind_i h
    refine CallS.pcs (spec_l1In_ok hy3) rfl ?_
    simp only [go_sem]
    cases hg4 : (!y3) with
    | true =>
      replace h := if_t hg4 h
      replace h := Option.some.inj h
      subst h
      simp only [go_sem]
    | false =>
      replace h := if_f hg4 h
      simp only [go_sem]
      refine UpC.here ?_
      simp only [go_sem]
      obtain ⟨u5, hu5, h⟩ := bind_i h
      rw [if_neg (nz?_some hu5)]
      simp only [go_sem]
      refine pwp_plain rfl ?_
      simp only [go_sem]
      obtain ⟨u6, hu6, h⟩ := bind_i h
      rw [if_neg (nz?_some hu6)]
      simp only [go_sem]
      obtain ⟨e7, he7, h⟩ := bind_i h
      refine evE_index he7 cColumn_len (by decide) (fun rest => ?_)
      simp only [go_sem]
      refine lgEnd_pure (by simp) ?_
      cases hg8 : (decide ((draw_2.tmod total_1) < e7.fKeep)) with
      | true =>
        replace h := if_t hg8 h
        replace h := Option.some.inj h
        subst h
        try simp only [go_sem]
      | false =>
        replace h := if_f hg8 h
        try simp only [go_sem]
        refine UpC.here ?_
        simp only [go_sem]
        obtain ⟨e9, he9, h⟩ := bind_i h
        refine evE_index he9 cColumn_len (by decide) (fun rest => ?_)
        replace h := Option.some.inj h
        subst h
        simp only [go_sem]

theorem spec_ChooseTarget_ok {p_0 : TPolicy} {h_1 : THealth} {draw_2 : Int} {r : (Int × Bool)} (h : spec_ChooseTarget p_0 h_1 draw_2 = some r) : PC prog 22 [.agg [.str p_0.fName, .sl p_0.fTargets.length (p_0.fTargets.flatMap cTarget)], .agg [.int .i64 h_1.fRise, .int .i64 h_1.fFall, .sl h_1.fHosts.length (h_1.fHosts.flatMap cHost)], .int .i64 draw_2] (.tup [.int .i64 r.1, .bool r.2]) := by
  refine PC.intro (rs := [.tmp 6, .tmp 7]) func22 rfl rfl mx (by rfl) (by rfl) (by rw [ntmps22]; simp) ?_
  rw [spec_ChooseTarget] at h
  rw [pwp_start]
  simp only [go_sem, st0]
  refine pwp_plain rfl ?_
  simp only [go_sem]
  obtain ⟨y1, hy1, h⟩ := bind_i h
  refine CallS.pcs (spec_GoodPolicy_ok hy1) rfl ?_
  simp only [go_sem]
  cases hg2 : (!y1) with
  | true =>
    replace h := if_t hg2 h
    replace h := Option.some.inj h
    subst h
    simp only [go_sem]
  | false =>
    replace h := if_f hg2 h
    simp only [go_sem]
    obtain ⟨y3, hy3, h⟩ := bind_i h
    refine CallS.pcs (spec_GoodHealth_ok hy3) rfl ?_
    simp only [go_sem]
    cases hg4 : (!y3) with
    | true =>
      replace h := if_t hg4 h
      replace h := Option.some.inj h
      subst h
      simp only [go_sem]
    | false =>
      replace h := if_f hg4 h
      simp only [go_sem]
      obtain ⟨y5, hy5, h⟩ := bind_i h
      refine CallS.pcs (spec_l9Counter_ok hy5) rfl ?_
      simp only [go_sem]
      cases hg6 : (!y5) with
      | true =>
        replace h := if_t hg6 h
        replace h := Option.some.inj h
        subst h
        simp only [go_sem]
      | false =>
        replace h := if_f hg6 h
        simp only [go_sem]
        refine UpC.to [(2, .int .i64 draw_2), (3, .loc (1, 3, 0) 0 0), (4, .loc (1, 4, 0) 0 0)] [((1, 3, 0), ⟨none, 0, [.str p_0.fName, .sl p_0.fTargets.length (p_0.fTargets.flatMap cTarget)]⟩), ((1, 4, 0), ⟨none, 0, [.int .i64 h_1.fRise, .int .i64 h_1.fFall, .sl h_1.fHosts.length (h_1.fHosts.flatMap cHost)]⟩)] 3 ?_
        simp only [go_sem]
        obtain ⟨y7, hy7, h⟩ := bind_i h
        refine CallS.pcs (spec_l14Candidates_ok hy7) rfl ?_
        simp only [go_sem]
        refine pwp_join rfl (fun s => ∃ (weights_9 : List Int), spec_ChooseTarget_K1 draw_2 y7 weights_9 = some r ∧ s = ⟨frL [(2, .int .i64 draw_2), (8, .sl y7.length (y7.flatMap cI)), (9, .sl weights_9.length (weights_9.flatMap cI))], hL [], 8⟩) (fun J hJ => ?_) ?_
        · simp only [go_sem]
          refine loopG_i (fun m s => ∃ (post35 : List Int) (i35 : Nat) (weights_9 : List Int), m = post35.length ∧ Rg y7 i35 post35 ∧ y7.length ≤ 9223372036854775807 ∧ spec_ChooseTarget_L1 p_0 draw_2 y7 post35 i35 weights_9 = some r ∧ s = ⟨frL [(2, .int .i64 draw_2), (3, .loc (1, 3, 0) 0 0), (8, .sl y7.length (y7.flatMap cI)), (9, .ref (6, 9, 0) weights_9.length), (33, .sl y7.length (y7.flatMap cI)), (34, .int .i64 (y7.length : Int)), (35, .int .i64 (i35 : Int))], hL [((1, 3, 0), ⟨none, 0, [.str p_0.fName, .sl p_0.fTargets.length (p_0.fTargets.flatMap cTarget)]⟩), ((6, 9, 0), ⟨some (3, 1), weights_9.length, weights_9.flatMap cI⟩)], 7⟩) y7.length (Up.bound 33 y7.length (y7.flatMap cI) (by simp only [go_sem]) (fun hb => ?_)) ?_
          · refine Up.own 9 3 1 (by simp only [go_sem]) (by decide) ?_
            exact Up.to [(2, .int .i64 draw_2), (3, .loc (1, 3, 0) 0 0), (8, .sl y7.length (y7.flatMap cI)), (9, .ref (6, 9, 0) ([] : List Int).length), (33, .sl y7.length (y7.flatMap cI)), (34, .int .i64 (y7.length : Int)), (35, .int .i64 ((0 : Nat) : Int))] [((1, 3, 0), ⟨none, 0, [.str p_0.fName, .sl p_0.fTargets.length (p_0.fTargets.flatMap cTarget)]⟩), ((6, 9, 0), ⟨some (3, 1), ([] : List Int).length, ([] : List Int).flatMap cI⟩)] 7 ⟨_, 0, _, rfl, rg_0 _, hb, h, rfl⟩
          · rintro Q1 _ _ ⟨post35, i35, weights_9, rfl, hl35, hb35, h, rfl⟩ hN1 hR1 hE1
            cases post35 with
            | nil =>
              rw [spec_ChooseTarget_L1] at h
              simp only [go_sem, rg_nil hl35]
              refine pwp_plain rfl ?_
              simp only [go_sem, rg_nil hl35]
              refine hE1 _ _ ?_
              simp only [go_sem, rg_nil hl35]
              refine join_n ?_
              exact Up.cutS [((6, 9, 0), ⟨some (3, 1), weights_9.length, weights_9.flatMap cI⟩)] [(2, .int .i64 draw_2), (8, .sl y7.length (y7.flatMap cI)), (9, .sl weights_9.length (weights_9.flatMap cI))] [] 8 (hJ _ ⟨weights_9, h, rfl⟩)
            | cons e35 post35 =>
              rw [spec_ChooseTarget_L1] at h
              simp only [go_sem, rg_cons hl35, rg_step hl35 hb35]
              refine pwp_plain rfl ?_
              simp only [go_sem, rg_cons hl35, rg_step hl35 hb35]
              refine UpC.to [(2, .int .i64 draw_2), (3, .loc (1, 3, 0) 0 0), (8, .sl y7.length (y7.flatMap cI)), (9, .ref (6, 9, 0) weights_9.length), (33, .sl y7.length (y7.flatMap cI)), (34, .int .i64 (y7.length : Int)), (35, .int .i64 (i35 : Int))] [((1, 3, 0), ⟨none, 0, [.str p_0.fName, .sl p_0.fTargets.length (p_0.fTargets.flatMap cTarget)]⟩), ((6, 9, 0), ⟨some (3, 1), weights_9.length, weights_9.flatMap cI⟩)] 8 ?_
              simp only [go_sem, rg_cons hl35, rg_step hl35 hb35]
              refine pwp_plain rfl ?_
              simp only [go_sem, rg_cons hl35, rg_step hl35 hb35]
              refine evE_round hl35 cI_len (by decide) (fun rest => ?_)
              simp only [go_sem, rg_cons hl35, rg_step hl35 hb35]
              obtain ⟨e14, he14, h⟩ := bind_i h
              refine evE_index he14 cTarget_len (by decide) (fun rest => ?_)
              simp only [go_sem, rg_cons hl35, rg_step hl35 hb35]
              obtain ⟨x15, hx15, h⟩ := bind_i h
              refine evE_app hx15 cI_len (by decide) (by simp only [go_sem]) rfl rfl (by simp only [go_sem]; rfl) rfl rfl ?_
              simp only [go_sem, rg_cons hl35, rg_step hl35 hb35]
              refine UpC.to [(2, .int .i64 draw_2), (3, .loc (1, 3, 0) 0 0), (8, .sl y7.length (y7.flatMap cI)), (9, .ref (6, 9, 0) x15.length), (33, .sl y7.length (y7.flatMap cI)), (34, .int .i64 (y7.length : Int)), (35, .int .i64 (i35 : Int))] [((1, 3, 0), ⟨none, 0, [.str p_0.fName, .sl p_0.fTargets.length (p_0.fTargets.flatMap cTarget)]⟩), ((6, 9, 0), ⟨some (3, 1), x15.length, x15.flatMap cI⟩)] 10 ?_
              simp only [go_sem, rg_cons hl35, rg_step hl35 hb35]
              exact hN1 _ (Up.to [(2, .int .i64 draw_2), (3, .loc (1, 3, 0) 0 0), (8, .sl y7.length (y7.flatMap cI)), (9, .ref (6, 9, 0) x15.length), (33, .sl y7.length (y7.flatMap cI)), (34, .int .i64 (y7.length : Int)), (35, .int .i64 ((i35 + 1 : Nat) : Int))] [((1, 3, 0), ⟨none, 0, [.str p_0.fName, .sl p_0.fTargets.length (p_0.fTargets.flatMap cTarget)]⟩), ((6, 9, 0), ⟨some (3, 1), x15.length, x15.flatMap cI⟩)] 7 ⟨post35.length, Nat.lt_succ_self _, post35, i35 + 1, x15, rfl, rg_next hl35, hb35, h, rfl⟩)
        · rintro _ ⟨weights_9, h, rfl⟩
          rw [spec_ChooseTarget_K1] at h
          simp only [go_sem]
          obtain ⟨y8, hy8, h⟩ := bind_i h
          refine CallS.pcs (spec_AliasOf_ok hy8) rfl ?_
          simp only [go_sem]
          obtain ⟨y9, hy9, h⟩ := bind_i h
          refine CallS.pcs (spec_l12Total_ok hy9) rfl ?_
          simp only [go_sem]
          obtain ⟨u10, hu10, h⟩ := bind_i h
          rw [if_neg (nz?_some hu10)]
          simp only [go_sem]
          obtain ⟨y11, hy11, h⟩ := bind_i h
          refine CallS.pcs (spec_PickBy_ok hy11) rfl ?_
          simp only [go_sem]
          refine pwp_plain rfl ?_
          simp only [go_sem]
          cases hg12 : (!y11.2) with
          | true =>
            replace h := if_t hg12 h
            replace h := Option.some.inj h
            subst h
            simp only [go_sem]
          | false =>
            replace h := if_f hg12 h
            simp only [go_sem]
            refine UpC.to [(8, .sl y7.length (y7.flatMap cI)), (15, .int .i64 y11.1)] [] 12 ?_
            simp only [go_sem]
            obtain ⟨e13, he13, h⟩ := bind_i h
            refine evE_index he13 cI_len (by decide) (fun rest => ?_)
            replace h := Option.some.inj h
            subst h
            simp only [go_sem]

theorem impl_isCounter_ok {n_0 : Int} {r : Bool} (h : impl_isCounter n_0 = some r) : PC prog 46 [.int .i64 n_0] (.bool r) := by
  refine PC.intro (rs := [.tmp 2]) func46 rfl rfl mx (by rfl) (by rfl) (by rw [ntmps46]; simp) ?_
  rw [impl_isCounter] at h
  rw [pwp_start]
  simp only [go_sem, st0]
  obtain ⟨y1, hy1, h⟩ := bind_i h
  refine CallS.pcs (impl_within_ok hy1) rfl ?_
  replace h := Option.some.inj h
  subst h
  simp only [go_sem]

theorem impl_aliasOf_1_ok {n_0 : Int} {c_0 : Int} {r : Bool} (h : impl_aliasOf_1 n_0 c_0 = some r) : PC prog 76 [.int .i64 n_0, .ptr [.int .i64 c_0]] (.bool r) := by
  refine PC.intro (rs := [.tmp 3]) func76 rfl rfl mx (by rfl) (by rfl) (by rw [ntmps76]; simp) ?_
  rw [impl_aliasOf_1] at h
  rw [pwp_start]
  replace h := Option.some.inj h
  subst h
  simp only [go_sem, st0]

theorem slices_IndexFunc_int_int_ok {s_0 : (List Int)} {f_1 : Int → Option Bool} {g_1 : Nat} {caps_1 : List PV} (hc1 : canonL caps_1 = true) (hF1 : ∀ q0 q, f_1 q0 = some q → PC prog g_1 (.int .i64 q0 :: caps_1) (.bool q)) {r : Int} (h : slices_IndexFunc_int_int s_0 f_1 = some r) : PC prog 75 [.sl s_0.length (s_0.flatMap cI), .fn g_1 caps_1] (.int .i64 r) := by
  refine PC.intro (rs := [.tmp 4]) func75 rfl rfl mx (by rfl) (by rfl) (by rw [ntmps75]; simp) ?_
  rw [slices_IndexFunc_int_int] at h
  rw [pwp_start]
  simp only [go_sem, st0]
  refine pwp_plain rfl ?_
  simp only [go_sem]
  refine loopG_i (fun m s => ∃ (v_8 : Int), slices_IndexFunc_int_int_L1 s_0 f_1 m v_8 = some r ∧ s = ⟨frL [(0, .sl s_0.length (s_0.flatMap cI)), (1, .fn g_1 caps_1), (7, .int .i64 (s_0.length : Int)), (8, .int .i64 v_8)], hL [], 3⟩) FU ?_ ?_
  · exact Up.to [(0, .sl s_0.length (s_0.flatMap cI)), (1, .fn g_1 caps_1), (7, .int .i64 (s_0.length : Int)), (8, .int .i64 0)] [] 3 (h3 := by simp only [go_sem, inNL_settled _ _ (canonL_settled _ hc1)]) ⟨_, h, rfl⟩
  · rintro Q1 fu1 _ ⟨v_8, h, rfl⟩ hN1 hR1 hE1
    cases fu1 with
    | zero =>
      rw [slices_IndexFunc_int_int_L1] at h; cases h
    | succ fu1 =>
      rw [slices_IndexFunc_int_int_L1] at h
      simp only [go_sem]
      refine pwp_plain rfl ?_
      simp only [go_sem]
      cases hg1 : (decide (v_8 < (s_0.length : Int))) with
      | true =>
        replace h := if_t hg1 h
        simp only [go_sem]
        refine UpC.here ?_
        refine pwp_plain rfl ?_
        simp only [go_sem]
        obtain ⟨e2, he2, h⟩ := bind_i h
        refine evE_index he2 cI_len (by decide) (fun rest => ?_)
        simp only [go_sem]
        obtain ⟨y3, hy3, h⟩ := bind_i h
        refine CallS.pcs (hF1 _ _ hy3) (by simp only [go_sem, hc1]) ?_
        simp only [go_sem]
        cases hg4 : y3 with
        | true =>
          replace h := if_t hg4 h
          simp only [go_sem]
          refine hR1 _ ?_
          replace h := Option.some.inj h
          subst h
          simp only [go_sem]
        | false =>
          replace h := if_f hg4 h
          simp only [go_sem]
          refine UpC.here ?_
          simp only [go_sem]
          exact hN1 _ (Up.to [(0, .sl s_0.length (s_0.flatMap cI)), (1, .fn g_1 caps_1), (7, .int .i64 (s_0.length : Int)), (8, .int .i64 (IntKind.i64.wrap (v_8 + 1)))] [] 3 (h3 := by simp only [go_sem, inNL_settled _ _ (canonL_settled _ hc1)]) ⟨fu1, Nat.lt_succ_self _, (IntKind.i64.wrap (v_8 + 1)), h, rfl⟩)
      | false =>
        replace h := if_f hg1 h
        simp only [go_sem]
        refine hE1 _ _ ?_
        simp only [go_sem]
        refine UpC.here ?_
        replace h := Option.some.inj h
        subst h
        simp only [go_sem]

theorem impl_aliasOf_ok {l_0 : (List Int)} {r : (List TColumn)} (h : impl_aliasOf l_0 = some r) : PC prog 48 [.sl l_0.length (l_0.flatMap cI)] (.sl r.length (r.flatMap cColumn)) := by
  refine PC.intro (rs := [.tmp 2]) func48 rfl rfl mx (by rfl) (by rfl) (by rw [ntmps48]; simp) ?_
  rw [impl_aliasOf] at h
  rw [pwp_start]
  simp only [go_sem, st0]
  obtain ⟨y1, hy1, h⟩ := bind_i h
  refine CallS.pcs (impl_totalOf_ok hy1) rfl ?_
  simp only [go_sem]
  refine pwp_join rfl (fun s => ∃ (left_4 : List Int) (out_5 : List TColumn), impl_aliasOf_K1 l_0 y1 left_4 out_5 = some r ∧ s = ⟨frL [(0, .sl l_0.length (l_0.flatMap cI)), (3, .loc (2, 3, 0) 0 0), (4, .ref (3, 15, 0) left_4.length), (5, .ref (4, 16, 0) out_5.length)], hL [((2, 3, 0), ⟨none, 0, [.int .i64 y1]⟩), ((3, 15, 0), ⟨some (3, 1), left_4.length, left_4.flatMap cI⟩), ((4, 16, 0), ⟨some (108, 2), out_5.length, out_5.flatMap cColumn⟩)], 7⟩) (fun J hJ => ?_) ?_
  · simp only [go_sem]
    refine loopG_i (fun m s => ∃ (post19 : List Int) (i19 : Nat) (left_15 : List Int) (out_16 : List TColumn), m = post19.length ∧ Rg l_0 i19 post19 ∧ l_0.length ≤ 9223372036854775807 ∧ impl_aliasOf_L3 l_0 y1 post19 i19 left_15 out_16 = some r ∧ s = ⟨frL [(0, .sl l_0.length (l_0.flatMap cI)), (3, .loc (2, 3, 0) 0 0), (4, .ref (3, 15, 0) left_15.length), (5, .ref (4, 16, 0) out_16.length), (17, .sl l_0.length (l_0.flatMap cI)), (18, .int .i64 (l_0.length : Int)), (19, .int .i64 (i19 : Int))], hL [((2, 3, 0), ⟨none, 0, [.int .i64 y1]⟩), ((3, 15, 0), ⟨some (3, 1), left_15.length, left_15.flatMap cI⟩), ((4, 16, 0), ⟨some (108, 2), out_16.length, out_16.flatMap cColumn⟩)], 6⟩) l_0.length (Up.bound 17 l_0.length (l_0.flatMap cI) (by simp only [go_sem]) (fun hb => ?_)) ?_
    · exact Up.to [(0, .sl l_0.length (l_0.flatMap cI)), (3, .loc (2, 3, 0) 0 0), (4, .ref (3, 15, 0) ([] : List Int).length), (5, .ref (4, 16, 0) ([] : List TColumn).length), (17, .sl l_0.length (l_0.flatMap cI)), (18, .int .i64 (l_0.length : Int)), (19, .int .i64 ((0 : Nat) : Int))] [((2, 3, 0), ⟨none, 0, [.int .i64 y1]⟩), ((3, 15, 0), ⟨some (3, 1), ([] : List Int).length, ([] : List Int).flatMap cI⟩), ((4, 16, 0), ⟨some (108, 2), ([] : List TColumn).length, ([] : List TColumn).flatMap cColumn⟩)] 6 ⟨_, 0, _, _, rfl, rg_0 _, hb, h, rfl⟩
    · rintro Q3 _ _ ⟨post19, i19, left_15, out_16, rfl, hl19, hb19, h, rfl⟩ hN3 hR3 hE3
      cases post19 with
      | nil =>
        rw [impl_aliasOf_L3] at h
        simp only [go_sem, rg_nil hl19]
        refine pwp_plain rfl ?_
        simp only [go_sem, rg_nil hl19]
        refine hE3 _ _ ?_
        simp only [go_sem, rg_nil hl19]
        refine join_n ?_
        exact Up.to [(0, .sl l_0.length (l_0.flatMap cI)), (3, .loc (2, 3, 0) 0 0), (4, .ref (3, 15, 0) left_15.length), (5, .ref (4, 16, 0) out_16.length)] [((2, 3, 0), ⟨none, 0, [.int .i64 y1]⟩), ((3, 15, 0), ⟨some (3, 1), left_15.length, left_15.flatMap cI⟩), ((4, 16, 0), ⟨some (108, 2), out_16.length, out_16.flatMap cColumn⟩)] 7 (hJ _ ⟨left_15, out_16, h, rfl⟩)
      | cons e19 post19 =>
        rw [impl_aliasOf_L3] at h
        simp only [go_sem, rg_cons hl19, rg_step hl19 hb19]
        refine pwp_plain rfl ?_
        simp only [go_sem, rg_cons hl19, rg_step hl19 hb19]
        refine UpC.to [(0, .sl l_0.length (l_0.flatMap cI)), (3, .loc (2, 3, 0) 0 0), (4, .ref (3, 15, 0) left_15.length), (5, .ref (4, 16, 0) out_16.length), (17, .sl l_0.length (l_0.flatMap cI)), (18, .int .i64 (l_0.length : Int)), (19, .int .i64 (i19 : Int))] [((2, 3, 0), ⟨none, 0, [.int .i64 y1]⟩), ((3, 15, 0), ⟨some (3, 1), left_15.length, left_15.flatMap cI⟩), ((4, 16, 0), ⟨some (108, 2), out_16.length, out_16.flatMap cColumn⟩)] 7 ?_
        simp only [go_sem, rg_cons hl19, rg_step hl19 hb19]
        refine pwp_plain rfl ?_
        simp only [go_sem, rg_cons hl19, rg_step hl19 hb19]
        refine evE_round hl19 cI_len (by decide) (fun rest => ?_)
        simp only [go_sem, rg_cons hl19, rg_step hl19 hb19]
        obtain ⟨x19, hx19, h⟩ := bind_i h
        refine evE_app hx19 cI_len (by decide) (by simp only [go_sem]) rfl rfl (by simp only [go_sem]; rfl) rfl rfl ?_
        simp only [go_sem, rg_cons hl19, rg_step hl19 hb19]
        obtain ⟨x20, hx20, h⟩ := bind_i h
        refine evE_app hx20 cColumn_len (by decide) (by simp only [go_sem]) rfl rfl (by simp only [go_sem]; rfl) rfl rfl ?_
        simp only [go_sem, rg_cons hl19, rg_step hl19 hb19]
        refine UpC.to [(0, .sl l_0.length (l_0.flatMap cI)), (3, .loc (2, 3, 0) 0 0), (4, .ref (3, 15, 0) x19.length), (5, .ref (4, 16, 0) x20.length), (17, .sl l_0.length (l_0.flatMap cI)), (18, .int .i64 (l_0.length : Int)), (19, .int .i64 (i19 : Int))] [((2, 3, 0), ⟨none, 0, [.int .i64 y1]⟩), ((3, 15, 0), ⟨some (3, 1), x19.length, x19.flatMap cI⟩), ((4, 16, 0), ⟨some (108, 2), x20.length, x20.flatMap cColumn⟩)] 10 ?_
        simp only [go_sem, rg_cons hl19, rg_step hl19 hb19]
        exact hN3 _ (Up.to [(0, .sl l_0.length (l_0.flatMap cI)), (3, .loc (2, 3, 0) 0 0), (4, .ref (3, 15, 0) x19.length), (5, .ref (4, 16, 0) x20.length), (17, .sl l_0.length (l_0.flatMap cI)), (18, .int .i64 (l_0.length : Int)), (19, .int .i64 ((i19 + 1 : Nat) : Int))] [((2, 3, 0), ⟨none, 0, [.int .i64 y1]⟩), ((3, 15, 0), ⟨some (3, 1), x19.length, x19.flatMap cI⟩), ((4, 16, 0), ⟨some (108, 2), x20.length, x20.flatMap cColumn⟩)] 6 ⟨post19.length, Nat.lt_succ_self _, post19, i19 + 1, x19, x20, rfl, rg_next hl19, hb19, h, rfl⟩)
  · rintro _ ⟨left_4, out_5, h, rfl⟩
    rw [impl_aliasOf_K1] at h
    simp only [go_sem]
    obtain ⟨x2, hx2, h⟩ := bind_i h
    refine evE_make (c := cB) hx2 rfl cB_len (by decide) rfl ?_
    simp only [go_sem]
    refine loopG_i (fun m s => ∃ (left_15 : List Int) (out_16 : List TColumn) (done_40 : List Bool), impl_aliasOf_L1 y1 m left_15 out_16 done_40 = some r ∧ s = ⟨frL [(3, .loc (2, 3, 0) 0 0), (4, .ref (3, 15, 0) left_15.length), (5, .ref (4, 16, 0) out_16.length), (8, .ref (7, 40, 0) done_40.length)], hL [((2, 3, 0), ⟨none, 0, [.int .i64 y1]⟩), ((3, 15, 0), ⟨some (3, 1), left_15.length, left_15.flatMap cI⟩), ((4, 16, 0), ⟨some (108, 2), out_16.length, out_16.flatMap cColumn⟩), ((7, 40, 0), ⟨some (4, 1), done_40.length, done_40.flatMap cB⟩)], 8⟩) FU ?_ ?_
    · exact Up.to [(3, .loc (2, 3, 0) 0 0), (4, .ref (3, 15, 0) left_4.length), (5, .ref (4, 16, 0) out_5.length), (8, .ref (7, 40, 0) x2.length)] [((2, 3, 0), ⟨none, 0, [.int .i64 y1]⟩), ((3, 15, 0), ⟨some (3, 1), left_4.length, left_4.flatMap cI⟩), ((4, 16, 0), ⟨some (108, 2), out_5.length, out_5.flatMap cColumn⟩), ((7, 40, 0), ⟨some (4, 1), x2.length, x2.flatMap cB⟩)] 8 ⟨_, _, _, h, rfl⟩
    · rintro Q1 fu1 _ ⟨left_15, out_16, done_40, h, rfl⟩ hN1 hR1 hE1
      cases fu1 with
      | zero =>
        rw [impl_aliasOf_L1] at h; cases h
      | succ fu1 =>
        rw [impl_aliasOf_L1] at h
        simp only [go_sem]
        refine pwp_join rfl (fun s => ∃ (low_9 : Int), impl_aliasOf_K2 y1 left_15 out_16 done_40 (impl_aliasOf_L1 y1 fu1) low_9 = some r ∧ s = ⟨frL [(3, .loc (2, 3, 0) 0 0), (4, .ref (3, 15, 0) left_15.length), (5, .ref (4, 16, 0) out_16.length), (8, .ref (7, 40, 0) done_40.length), (9, .int .i64 low_9)], hL [((2, 3, 0), ⟨none, 0, [.int .i64 y1]⟩), ((3, 15, 0), ⟨some (3, 1), left_15.length, left_15.flatMap cI⟩), ((4, 16, 0), ⟨some (108, 2), out_16.length, out_16.flatMap cColumn⟩), ((7, 40, 0), ⟨some (4, 1), done_40.length, done_40.flatMap cB⟩)], 14⟩) (fun J hJ => ?_) ?_
        · simp only [go_sem]
          refine loopG_i (fun m s => ∃ (v_43 : Int), impl_aliasOf_L2 y1 left_15 out_16 done_40 (impl_aliasOf_L1 y1 fu1) m v_43 = some r ∧ s = ⟨frL [(3, .loc (2, 3, 0) 0 0), (4, .ref (3, 15, 0) left_15.length), (5, .ref (4, 16, 0) out_16.length), (8, .ref (7, 40, 0) done_40.length), (9, .int .i64 (-1)), (41, .ref (3, 15, 0) left_15.length), (42, .int .i64 (left_15.length : Int)), (43, .int .i64 v_43)], hL [((2, 3, 0), ⟨none, 0, [.int .i64 y1]⟩), ((3, 15, 0), ⟨some (3, 1), left_15.length, left_15.flatMap cI⟩), ((4, 16, 0), ⟨some (108, 2), out_16.length, out_16.flatMap cColumn⟩), ((7, 40, 0), ⟨some (4, 1), done_40.length, done_40.flatMap cB⟩)], 10⟩) FU ?_ ?_
          · exact Up.to [(3, .loc (2, 3, 0) 0 0), (4, .ref (3, 15, 0) left_15.length), (5, .ref (4, 16, 0) out_16.length), (8, .ref (7, 40, 0) done_40.length), (9, .int .i64 (-1)), (41, .ref (3, 15, 0) left_15.length), (42, .int .i64 (left_15.length : Int)), (43, .int .i64 0)] [((2, 3, 0), ⟨none, 0, [.int .i64 y1]⟩), ((3, 15, 0), ⟨some (3, 1), left_15.length, left_15.flatMap cI⟩), ((4, 16, 0), ⟨some (108, 2), out_16.length, out_16.flatMap cColumn⟩), ((7, 40, 0), ⟨some (4, 1), done_40.length, done_40.flatMap cB⟩)] 10 ⟨_, h, rfl⟩
          · rintro Q2 fu2 _ ⟨v_43, h, rfl⟩ hN2 hR2 hE2
            cases fu2 with
            | zero =>
              rw [impl_aliasOf_L2] at h; cases h
            | succ fu2 =>
              rw [impl_aliasOf_L2] at h
              simp only [go_sem]
              refine pwp_plain rfl ?_
              simp only [go_sem]
              cases hg14 : (decide (v_43 < (left_15.length : Int))) with
              | true =>
                replace h := if_t hg14 h
                simp only [go_sem]
                refine UpC.to [(3, .loc (2, 3, 0) 0 0), (4, .ref (3, 15, 0) left_15.length), (5, .ref (4, 16, 0) out_16.length), (8, .ref (7, 40, 0) done_40.length), (9, .int .i64 (-1)), (41, .ref (3, 15, 0) left_15.length), (42, .int .i64 (left_15.length : Int)), (43, .int .i64 v_43)] [((2, 3, 0), ⟨none, 0, [.int .i64 y1]⟩), ((3, 15, 0), ⟨some (3, 1), left_15.length, left_15.flatMap cI⟩), ((4, 16, 0), ⟨some (108, 2), out_16.length, out_16.flatMap cColumn⟩), ((7, 40, 0), ⟨some (4, 1), done_40.length, done_40.flatMap cB⟩)] 11 ?_
                simp only [go_sem]
                refine pwp_plain rfl ?_
                simp only [go_sem]
                obtain ⟨e15, he15, h⟩ := bind_i h
                refine evE_indexRef he15 (by simp only [go_sem]) ?_
                simp only [go_sem]
                refine evE_loadRow he15 cI_len (by simp only [go_sem] <;> rfl) _ 0 (by decide) (by omega) rfl ?_
                simp only [go_sem]
                obtain ⟨e16, he16, h⟩ := bind_i h
                refine evE_indexRef he16 (by simp only [go_sem]) ?_
                simp only [go_sem]
                refine evE_loadRow he16 cB_len (by simp only [go_sem] <;> rfl) _ 0 (by decide) (by omega) rfl ?_
                simp only [go_sem]
                cases hg17 : (!e16) with
                | true =>
                  replace h := if_t hg17 h
                  simp only [go_sem]
                  cases hg18 : (decide (e15 < y1)) with
                  | true =>
                    replace h := if_t hg18 h
                    simp only [go_sem]
                    refine hE2 _ _ ?_
                    simp only [go_sem]
                    refine join_n ?_
                    exact Up.to [(3, .loc (2, 3, 0) 0 0), (4, .ref (3, 15, 0) left_15.length), (5, .ref (4, 16, 0) out_16.length), (8, .ref (7, 40, 0) done_40.length), (9, .int .i64 v_43)] [((2, 3, 0), ⟨none, 0, [.int .i64 y1]⟩), ((3, 15, 0), ⟨some (3, 1), left_15.length, left_15.flatMap cI⟩), ((4, 16, 0), ⟨some (108, 2), out_16.length, out_16.flatMap cColumn⟩), ((7, 40, 0), ⟨some (4, 1), done_40.length, done_40.flatMap cB⟩)] 14 (hJ _ ⟨v_43, h, rfl⟩)
                  | false =>
                    replace h := if_f hg18 h
                    simp only [go_sem]
                    refine UpC.to [(3, .loc (2, 3, 0) 0 0), (4, .ref (3, 15, 0) left_15.length), (5, .ref (4, 16, 0) out_16.length), (8, .ref (7, 40, 0) done_40.length), (9, .int .i64 (-1)), (41, .ref (3, 15, 0) left_15.length), (42, .int .i64 (left_15.length : Int)), (43, .int .i64 v_43)] [((2, 3, 0), ⟨none, 0, [.int .i64 y1]⟩), ((3, 15, 0), ⟨some (3, 1), left_15.length, left_15.flatMap cI⟩), ((4, 16, 0), ⟨some (108, 2), out_16.length, out_16.flatMap cColumn⟩), ((7, 40, 0), ⟨some (4, 1), done_40.length, done_40.flatMap cB⟩)] 13 ?_
                    simp only [go_sem]
                    exact hN2 _ (Up.to [(3, .loc (2, 3, 0) 0 0), (4, .ref (3, 15, 0) left_15.length), (5, .ref (4, 16, 0) out_16.length), (8, .ref (7, 40, 0) done_40.length), (9, .int .i64 (-1)), (41, .ref (3, 15, 0) left_15.length), (42, .int .i64 (left_15.length : Int)), (43, .int .i64 (IntKind.i64.wrap (v_43 + 1)))] [((2, 3, 0), ⟨none, 0, [.int .i64 y1]⟩), ((3, 15, 0), ⟨some (3, 1), left_15.length, left_15.flatMap cI⟩), ((4, 16, 0), ⟨some (108, 2), out_16.length, out_16.flatMap cColumn⟩), ((7, 40, 0), ⟨some (4, 1), done_40.length, done_40.flatMap cB⟩)] 10 ⟨fu2, Nat.lt_succ_self _, (IntKind.i64.wrap (v_43 + 1)), h, rfl⟩)
                | false =>
                  replace h := if_f hg17 h
                  simp only [go_sem]
                  refine UpC.to [(3, .loc (2, 3, 0) 0 0), (4, .ref (3, 15, 0) left_15.length), (5, .ref (4, 16, 0) out_16.length), (8, .ref (7, 40, 0) done_40.length), (9, .int .i64 (-1)), (41, .ref (3, 15, 0) left_15.length), (42, .int .i64 (left_15.length : Int)), (43, .int .i64 v_43)] [((2, 3, 0), ⟨none, 0, [.int .i64 y1]⟩), ((3, 15, 0), ⟨some (3, 1), left_15.length, left_15.flatMap cI⟩), ((4, 16, 0), ⟨some (108, 2), out_16.length, out_16.flatMap cColumn⟩), ((7, 40, 0), ⟨some (4, 1), done_40.length, done_40.flatMap cB⟩)] 13 ?_
                  simp only [go_sem]
                  exact hN2 _ (Up.to [(3, .loc (2, 3, 0) 0 0), (4, .ref (3, 15, 0) left_15.length), (5, .ref (4, 16, 0) out_16.length), (8, .ref (7, 40, 0) done_40.length), (9, .int .i64 (-1)), (41, .ref (3, 15, 0) left_15.length), (42, .int .i64 (left_15.length : Int)), (43, .int .i64 (IntKind.i64.wrap (v_43 + 1)))] [((2, 3, 0), ⟨none, 0, [.int .i64 y1]⟩), ((3, 15, 0), ⟨some (3, 1), left_15.length, left_15.flatMap cI⟩), ((4, 16, 0), ⟨some (108, 2), out_16.length, out_16.flatMap cColumn⟩), ((7, 40, 0), ⟨some (4, 1), done_40.length, done_40.flatMap cB⟩)] 10 ⟨fu2, Nat.lt_succ_self _, (IntKind.i64.wrap (v_43 + 1)), h, rfl⟩)
              | false =>
                replace h := if_f hg14 h
                simp only [go_sem]
                refine hE2 _ _ ?_
                simp only [go_sem]
                refine join_n ?_
                exact Up.to [(3, .loc (2, 3, 0) 0 0), (4, .ref (3, 15, 0) left_15.length), (5, .ref (4, 16, 0) out_16.length), (8, .ref (7, 40, 0) done_40.length), (9, .int .i64 (-1))] [((2, 3, 0), ⟨none, 0, [.int .i64 y1]⟩), ((3, 15, 0), ⟨some (3, 1), left_15.length, left_15.flatMap cI⟩), ((4, 16, 0), ⟨some (108, 2), out_16.length, out_16.flatMap cColumn⟩), ((7, 40, 0), ⟨some (4, 1), done_40.length, done_40.flatMap cB⟩)] 14 (hJ _ ⟨(-1), h, rfl⟩)
        · rintro _ ⟨low_9, h, rfl⟩
          rw [impl_aliasOf_K2] at h
          simp only [go_sem]
          refine pwp_plain rfl ?_
          simp only [go_sem]
          cases hg3 : (decide (low_9 < 0)) with
          | true =>
            replace h := if_t hg3 h
            simp only [go_sem]
            refine hR1 _ ?_
            replace h := Option.some.inj h
            subst h
            simp only [go_sem]
          | false =>
            replace h := if_f hg3 h
            simp only [go_sem]
            refine UpC.to [(3, .loc (2, 3, 0) 0 0), (4, .ref (3, 15, 0) left_15.length), (5, .ref (4, 16, 0) out_16.length), (8, .ref (7, 40, 0) done_40.length), (9, .int .i64 low_9)] [((2, 3, 0), ⟨none, 0, [.int .i64 y1]⟩), ((3, 15, 0), ⟨some (3, 1), left_15.length, left_15.flatMap cI⟩), ((4, 16, 0), ⟨some (108, 2), out_16.length, out_16.flatMap cColumn⟩), ((7, 40, 0), ⟨some (4, 1), done_40.length, done_40.flatMap cB⟩)] 15 ?_
            simp only [go_sem]
            obtain ⟨y4, hy4, h⟩ := bind_i h
            refine CallS.see (slices_IndexFunc_int_int_ok (g_1 := 76) (caps_1 := [.ptr [.int .i64 y1]]) rfl (fun _ _ hq => impl_aliasOf_1_ok hq) hy4) (by simp only [go_sem]) (by simp only [go_sem]) ?_
            simp only [go_sem]
            obtain ⟨e5, he5, h⟩ := bind_i h
            refine evE_indexRef he5 (by simp only [go_sem]) ?_
            simp only [go_sem]
            refine evE_loadRow he5 cI_len (by simp only [go_sem] <;> rfl) _ 0 (by decide) (by omega) rfl ?_
            simp only [go_sem]
            obtain ⟨e6, he6, h⟩ := bind_i h
            refine evE_indexRef he6 (by simp only [go_sem]) ?_
            simp only [go_sem]
            obtain ⟨x7, hx7, h⟩ := bind_i h
            refine evE_storeRow (x := (⟨e5, y4⟩ : TColumn)) hx7 cColumn_len (by simp only [go_sem] <;> rfl) _ (by omega) rfl rfl rfl ?_
            simp only [go_sem, put?_len hx7]
            obtain ⟨e8, he8, h⟩ := bind_i h
            refine evE_indexRef he8 (by simp only [go_sem]) ?_
            simp only [go_sem, put?_len hx7]
            refine evE_loadRow he8 cI_len (by simp only [go_sem] <;> rfl) _ 0 (by decide) (by omega) rfl ?_
            simp only [go_sem, put?_len hx7]
            obtain ⟨e9, he9, h⟩ := bind_i h
            refine evE_indexRef he9 (by simp only [go_sem]) ?_
            simp only [go_sem, put?_len hx7]
            refine evE_loadRow he9 cI_len (by simp only [go_sem] <;> rfl) _ 0 (by decide) (by omega) rfl ?_
            simp only [go_sem, put?_len hx7]
            obtain ⟨e10, he10, h⟩ := bind_i h
            refine evE_indexRef he10 (by simp only [go_sem]) ?_
            simp only [go_sem, put?_len hx7]
            obtain ⟨x11, hx11, h⟩ := bind_i h
            refine evE_storeRow (x := (IntKind.i64.wrap (e8 - (IntKind.i64.wrap (y1 - e9))))) hx11 cI_len (by simp only [go_sem] <;> rfl) _ (by omega) rfl rfl rfl ?_
            simp only [go_sem, put?_len hx7, put?_len hx11]
            refine lgEnd_dec (by rfl) ?_
            try simp only [go_sem, put?_len hx7, put?_len hx11]
            obtain ⟨e12, he12, h⟩ := bind_i h
            refine evE_indexRef he12 (by simp only [go_sem]) ?_
            simp only [go_sem, put?_len hx7, put?_len hx11]
            obtain ⟨x13, hx13, h⟩ := bind_i h
            refine evE_storeRow (x := true) hx13 cB_len (by simp only [go_sem] <;> rfl) _ (by omega) rfl rfl rfl ?_
            simp only [go_sem, put?_len hx7, put?_len hx11, put?_len hx13]
            exact hN1 _ (Up.to [(3, .loc (2, 3, 0) 0 0), (4, .ref (3, 15, 0) x11.length), (5, .ref (4, 16, 0) x7.length), (8, .ref (7, 40, 0) x13.length)] [((2, 3, 0), ⟨none, 0, [.int .i64 y1]⟩), ((3, 15, 0), ⟨some (3, 1), x11.length, x11.flatMap cI⟩), ((4, 16, 0), ⟨some (108, 2), x7.length, x7.flatMap cColumn⟩), ((7, 40, 0), ⟨some (4, 1), x13.length, x13.flatMap cB⟩)] 8 ⟨fu1, Nat.lt_succ_self _, x11, x7, x13, h, rfl⟩)

theorem impl_pickBy_ok {l_0 : (List TColumn)} {total_1 : Int} {draw_2 : Int} {r : Int} (h : impl_pickBy l_0 total_1 draw_2 = some r) : PC prog 47 [.sl l_0.length (l_0.flatMap cColumn), .int .i64 total_1, .int .i64 draw_2] (.int .i64 r) := by
  refine PC.intro (rs := [.tmp 6]) func47 rfl rfl mx (by rfl) (by rfl) (by rw [ntmps47]; simp) ?_
  rw [impl_pickBy] at h
  rw [pwp_start]
  simp only [go_sem, st0]
  obtain ⟨u1, hu1, h⟩ := bind_i h
  rw [if_neg (nz?_some hu1)]
  simp only [go_sem]
  refine pwp_plain rfl ?_
  simp only [go_sem]
  obtain ⟨u2, hu2, h⟩ := bind_i h
  rw [if_neg (nz?_some hu2)]
  simp only [go_sem]
  obtain ⟨e3, he3, h⟩ := bind_i h
  refine evE_index he3 cColumn_len (by decide) (fun rest => ?_)
  simp only [go_sem]
  refine lgEnd_pure (by simp) ?_
  cases hg4 : (decide ((draw_2.tmod total_1) < e3.fKeep)) with
  | true =>
    replace h := if_t hg4 h
    replace h := Option.some.inj h
    subst h
    try simp only [go_sem]
  | false =>
    replace h := if_f hg4 h
    try simp only [go_sem]
    refine UpC.here ?_
    simp only [go_sem]
    obtain ⟨e5, he5, h⟩ := bind_i h
    refine evE_index he5 cColumn_len (by decide) (fun rest => ?_)
    replace h := Option.some.inj h
    subst h
    simp only [go_sem]

theorem impl_ChooseTarget_ok {p_0 : TPolicy} {h_1 : THealth} {draw_2 : Int} {r : (Int × Bool)} (h : impl_ChooseTarget p_0 h_1 draw_2 = some r) : PC prog 23 [.agg [.str p_0.fName, .sl p_0.fTargets.length (p_0.fTargets.flatMap cTarget)], .agg [.int .i64 h_1.fRise, .int .i64 h_1.fFall, .sl h_1.fHosts.length (h_1.fHosts.flatMap cHost)], .int .i64 draw_2] (.tup [.int .i64 r.1, .bool r.2]) := by
  refine PC.intro (rs := [.tmp 6, .tmp 7]) func23 rfl rfl mx (by rfl) (by rfl) (by rw [ntmps23]; simp) ?_
  rw [impl_ChooseTarget] at h
  rw [pwp_start]
  simp only [go_sem, st0]
  refine pwp_plain rfl ?_
  simp only [go_sem]
  obtain ⟨y1, hy1, h⟩ := bind_i h
  refine CallS.pcs (impl_GoodPolicy_ok hy1) rfl ?_
  simp only [go_sem]
  cases hg2 : (!y1) with
  | true =>
    replace h := if_t hg2 h
    replace h := Option.some.inj h
    subst h
    simp only [go_sem]
  | false =>
    replace h := if_f hg2 h
    simp only [go_sem]
    obtain ⟨y3, hy3, h⟩ := bind_i h
    refine CallS.pcs (impl_GoodHealth_ok hy3) rfl ?_
    simp only [go_sem]
    cases hg4 : (!y3) with
    | true =>
      replace h := if_t hg4 h
      replace h := Option.some.inj h
      subst h
      simp only [go_sem]
    | false =>
      replace h := if_f hg4 h
      simp only [go_sem]
      obtain ⟨y5, hy5, h⟩ := bind_i h
      refine CallS.pcs (impl_isCounter_ok hy5) rfl ?_
      simp only [go_sem]
      cases hg6 : (!y5) with
      | true =>
        replace h := if_t hg6 h
        replace h := Option.some.inj h
        subst h
        simp only [go_sem]
      | false =>
        replace h := if_f hg6 h
        simp only [go_sem]
        refine UpC.to [(2, .int .i64 draw_2), (3, .loc (1, 3, 0) 0 0), (4, .loc (1, 4, 0) 0 0)] [((1, 3, 0), ⟨none, 0, [.str p_0.fName, .sl p_0.fTargets.length (p_0.fTargets.flatMap cTarget)]⟩), ((1, 4, 0), ⟨none, 0, [.int .i64 h_1.fRise, .int .i64 h_1.fFall, .sl h_1.fHosts.length (h_1.fHosts.flatMap cHost)]⟩)] 3 ?_
        simp only [go_sem]
        obtain ⟨y7, hy7, h⟩ := bind_i h
        refine CallS.pcs (impl_candidatesOf_ok hy7) rfl ?_
        simp only [go_sem]
        refine pwp_join rfl (fun s => ∃ (weights_9 : List Int), impl_ChooseTarget_K1 draw_2 y7 weights_9 = some r ∧ s = ⟨frL [(2, .int .i64 draw_2), (8, .sl y7.length (y7.flatMap cI)), (9, .sl weights_9.length (weights_9.flatMap cI))], hL [], 7⟩) (fun J hJ => ?_) ?_
        · simp only [go_sem]
          refine loopG_i (fun m s => ∃ (post32 : List Int) (i32 : Nat) (weights_29 : List Int), m = post32.length ∧ Rg y7 i32 post32 ∧ y7.length ≤ 9223372036854775807 ∧ impl_ChooseTarget_L1 p_0 draw_2 y7 post32 i32 weights_29 = some r ∧ s = ⟨frL [(2, .int .i64 draw_2), (3, .loc (1, 3, 0) 0 0), (8, .sl y7.length (y7.flatMap cI)), (9, .ref (4, 29, 0) weights_29.length), (30, .sl y7.length (y7.flatMap cI)), (31, .int .i64 (y7.length : Int)), (32, .int .i64 (i32 : Int))], hL [((1, 3, 0), ⟨none, 0, [.str p_0.fName, .sl p_0.fTargets.length (p_0.fTargets.flatMap cTarget)]⟩), ((4, 29, 0), ⟨some (3, 1), weights_29.length, weights_29.flatMap cI⟩)], 6⟩) y7.length (Up.bound 30 y7.length (y7.flatMap cI) (by simp only [go_sem]) (fun hb => ?_)) ?_
          · exact Up.to [(2, .int .i64 draw_2), (3, .loc (1, 3, 0) 0 0), (8, .sl y7.length (y7.flatMap cI)), (9, .ref (4, 29, 0) ([] : List Int).length), (30, .sl y7.length (y7.flatMap cI)), (31, .int .i64 (y7.length : Int)), (32, .int .i64 ((0 : Nat) : Int))] [((1, 3, 0), ⟨none, 0, [.str p_0.fName, .sl p_0.fTargets.length (p_0.fTargets.flatMap cTarget)]⟩), ((4, 29, 0), ⟨some (3, 1), ([] : List Int).length, ([] : List Int).flatMap cI⟩)] 6 ⟨_, 0, _, rfl, rg_0 _, hb, h, rfl⟩
          · rintro Q1 _ _ ⟨post32, i32, weights_29, rfl, hl32, hb32, h, rfl⟩ hN1 hR1 hE1
            cases post32 with
            | nil =>
              rw [impl_ChooseTarget_L1] at h
              simp only [go_sem, rg_nil hl32]
              refine pwp_plain rfl ?_
              simp only [go_sem, rg_nil hl32]
              refine hE1 _ _ ?_
              simp only [go_sem, rg_nil hl32]
              refine join_n ?_
              exact Up.cutS [((4, 29, 0), ⟨some (3, 1), weights_29.length, weights_29.flatMap cI⟩)] [(2, .int .i64 draw_2), (8, .sl y7.length (y7.flatMap cI)), (9, .sl weights_29.length (weights_29.flatMap cI))] [] 7 (hJ _ ⟨weights_29, h, rfl⟩)
            | cons e32 post32 =>
              rw [impl_ChooseTarget_L1] at h
              simp only [go_sem, rg_cons hl32, rg_step hl32 hb32]
              refine pwp_plain rfl ?_
              simp only [go_sem, rg_cons hl32, rg_step hl32 hb32]
              refine UpC.to [(2, .int .i64 draw_2), (3, .loc (1, 3, 0) 0 0), (8, .sl y7.length (y7.flatMap cI)), (9, .ref (4, 29, 0) weights_29.length), (30, .sl y7.length (y7.flatMap cI)), (31, .int .i64 (y7.length : Int)), (32, .int .i64 (i32 : Int))] [((1, 3, 0), ⟨none, 0, [.str p_0.fName, .sl p_0.fTargets.length (p_0.fTargets.flatMap cTarget)]⟩), ((4, 29, 0), ⟨some (3, 1), weights_29.length, weights_29.flatMap cI⟩)] 7 ?_
              simp only [go_sem, rg_cons hl32, rg_step hl32 hb32]
              refine pwp_plain rfl ?_
              simp only [go_sem, rg_cons hl32, rg_step hl32 hb32]
              refine evE_round hl32 cI_len (by decide) (fun rest => ?_)
              simp only [go_sem, rg_cons hl32, rg_step hl32 hb32]
              obtain ⟨e13, he13, h⟩ := bind_i h
              refine evE_index he13 cTarget_len (by decide) (fun rest => ?_)
              simp only [go_sem, rg_cons hl32, rg_step hl32 hb32]
              obtain ⟨x14, hx14, h⟩ := bind_i h
              refine evE_app hx14 cI_len (by decide) (by simp only [go_sem]) rfl rfl (by simp only [go_sem]; rfl) rfl rfl ?_
              simp only [go_sem, rg_cons hl32, rg_step hl32 hb32]
              refine UpC.to [(2, .int .i64 draw_2), (3, .loc (1, 3, 0) 0 0), (8, .sl y7.length (y7.flatMap cI)), (9, .ref (4, 29, 0) x14.length), (30, .sl y7.length (y7.flatMap cI)), (31, .int .i64 (y7.length : Int)), (32, .int .i64 (i32 : Int))] [((1, 3, 0), ⟨none, 0, [.str p_0.fName, .sl p_0.fTargets.length (p_0.fTargets.flatMap cTarget)]⟩), ((4, 29, 0), ⟨some (3, 1), x14.length, x14.flatMap cI⟩)] 9 ?_
              simp only [go_sem, rg_cons hl32, rg_step hl32 hb32]
              exact hN1 _ (Up.to [(2, .int .i64 draw_2), (3, .loc (1, 3, 0) 0 0), (8, .sl y7.length (y7.flatMap cI)), (9, .ref (4, 29, 0) x14.length), (30, .sl y7.length (y7.flatMap cI)), (31, .int .i64 (y7.length : Int)), (32, .int .i64 ((i32 + 1 : Nat) : Int))] [((1, 3, 0), ⟨none, 0, [.str p_0.fName, .sl p_0.fTargets.length (p_0.fTargets.flatMap cTarget)]⟩), ((4, 29, 0), ⟨some (3, 1), x14.length, x14.flatMap cI⟩)] 6 ⟨post32.length, Nat.lt_succ_self _, post32, i32 + 1, x14, rfl, rg_next hl32, hb32, h, rfl⟩)
        · rintro _ ⟨weights_9, h, rfl⟩
          rw [impl_ChooseTarget_K1] at h
          simp only [go_sem]
          obtain ⟨y8, hy8, h⟩ := bind_i h
          refine CallS.pcs (impl_totalOf_ok hy8) rfl ?_
          simp only [go_sem]
          obtain ⟨y9, hy9, h⟩ := bind_i h
          refine CallS.pcs (impl_aliasOf_ok hy9) rfl ?_
          simp only [go_sem]
          obtain ⟨u10, hu10, h⟩ := bind_i h
          rw [if_neg (nz?_some hu10)]
          simp only [go_sem]
          obtain ⟨y11, hy11, h⟩ := bind_i h
          refine CallS.pcs (impl_pickBy_ok hy11) rfl ?_
          simp only [go_sem]
          obtain ⟨e12, he12, h⟩ := bind_i h
          refine evE_index he12 cI_len (by decide) (fun rest => ?_)
          simp only [go_sem]
          refine lgEnd_pure (by simp) ?_
          replace h := Option.some.inj h
          subst h
          try simp only [go_sem]


end Go.Proofs.YthcmcjkljjfccaaGreatDoor.Abs
