/-
  Each function of this program computes its plain function: the contracts, part 3.
-/
import Derived.Test.YthcmcjkljjfccaaGreatDoorWalk2
set_option linter.unusedVariables false
set_option linter.unusedSimpArgs false
set_option linter.unusedVariables false
set_option linter.unusedSimpArgs false
set_option maxRecDepth 20000
set_option maxHeartbeats 1600000
namespace Go.Proofs.YthcmcjkljjfccaaGreatDoor.Abs
open Go Go.Proofs.Tryz
theorem laws_FnExactChooseTarget_ok {aP_0 : TPolicy} {aH_1 : THealth} {aDraw_2 : Int} {r : Bool} (h : laws_FnExactChooseTarget aP_0 aH_1 aDraw_2 = some r) : PC prog 5 [.agg [.str aP_0.fName, .sl aP_0.fTargets.length (aP_0.fTargets.flatMap cTarget)], .agg [.int .i64 aH_1.fRise, .int .i64 aH_1.fFall, .sl aH_1.fHosts.length (aH_1.fHosts.flatMap cHost)], .int .i64 aDraw_2] (.bool r) := by
  refine PC.intro (rs := [.tmp 6]) func5 rfl rfl mx (by rfl) (by rfl) (by rw [ntmps5]; simp) ?_
  rw [laws_FnExactChooseTarget] at h
  rw [pwp_start]
  simp only [go_sem, st0]
  obtain ⟨y1, hy1, h⟩ := bind_i h
  refine CallS.pcs (laws_szPolicy_ok hy1) rfl ?_
  simp only [go_sem]
  refine pwp_plain rfl ?_
  simp only [go_sem]
  cases hg2 : (decide (y1 < 0)) with
  | true =>
    replace h := if_t hg2 h
    replace h := Option.some.inj h
    subst h
    simp only [go_sem]
  | false =>
    replace h := if_f hg2 h
    simp only [go_sem]
    refine UpC.to [(2, .int .i64 aDraw_2), (3, .loc (1, 3, 0) 0 0), (4, .loc (1, 4, 0) 0 0), (7, .int .i64 y1)] [((1, 3, 0), ⟨none, 0, [.str aP_0.fName, .sl aP_0.fTargets.length (aP_0.fTargets.flatMap cTarget)]⟩), ((1, 4, 0), ⟨none, 0, [.int .i64 aH_1.fRise, .int .i64 aH_1.fFall, .sl aH_1.fHosts.length (aH_1.fHosts.flatMap cHost)]⟩)] 5 ?_
    simp only [go_sem]
    obtain ⟨y3, hy3, h⟩ := bind_i h
    refine CallS.pcs (laws_szHealth_ok hy3) rfl ?_
    simp only [go_sem]
    refine pwp_plain rfl ?_
    simp only [go_sem]
    cases hg4 : (decide (y3 < 0)) with
    | true =>
      replace h := if_t hg4 h
      replace h := Option.some.inj h
      subst h
      simp only [go_sem]
    | false =>
      replace h := if_f hg4 h
      simp only [go_sem]
      refine UpC.to [(2, .int .i64 aDraw_2), (3, .loc (1, 3, 0) 0 0), (4, .loc (1, 4, 0) 0 0)] [((1, 3, 0), ⟨none, 0, [.str aP_0.fName, .sl aP_0.fTargets.length (aP_0.fTargets.flatMap cTarget)]⟩), ((1, 4, 0), ⟨none, 0, [.int .i64 aH_1.fRise, .int .i64 aH_1.fFall, .sl aH_1.fHosts.length (aH_1.fHosts.flatMap cHost)]⟩)] 7 ?_
      simp only [go_sem]
      obtain ⟨y5, hy5, h⟩ := bind_i h
      refine CallS.pcs (laws_toPolicy_ok hy5) rfl ?_
      simp only [go_sem]
      obtain ⟨y6, hy6, h⟩ := bind_i h
      refine CallS.pcs (laws_toHealth_ok hy6) rfl ?_
      simp only [go_sem]
      obtain ⟨y7, hy7, h⟩ := bind_i h
      refine CallS.pcs (spec_ChooseTarget_ok hy7) rfl ?_
      simp only [go_sem]
      refine lgEnd_pure (by simp) ?_
      try simp only [go_sem]
      obtain ⟨y8, hy8, h⟩ := bind_i h
      refine CallS.seeg (laws_toPolicy_gc hy8) (by simp only [go_sem]) (by simp only [go_sem]) ?_
      simp only [go_sem]
      obtain ⟨y9, hy9, h⟩ := bind_i h
      refine CallS.seeg (laws_toHealth_gc hy9) (by simp only [go_sem]) (by simp only [go_sem]) ?_
      simp only [go_sem]
      obtain ⟨y10, hy10, h⟩ := bind_i h
      refine CallS.see (impl_ChooseTarget_ok hy10) (by simp only [go_sem]) (by simp only [go_sem]) ?_
      simp only [go_sem]
      refine pwp_plain rfl ?_
      simp only [go_sem]
      cases hg11 : (y10.1 != y7.1) with
      | true =>
        replace h := if_t hg11 h
        replace h := Option.some.inj h
        subst h
        simp only [go_sem]
      | false =>
        replace h := if_f hg11 h
        simp only [go_sem]
        cases hg12 : (!(y10.2 == y7.2)) with
        | true =>
          replace h := if_t hg12 h
          replace h := Option.some.inj h
          subst h
          simp only [go_sem]
        | false =>
          replace h := if_f hg12 h
          simp only [go_sem]
          refine UpC.to [(3, .loc (1, 3, 0) 0 0), (4, .loc (1, 4, 0) 0 0), (10, .loc (8, 10, 0) 0 0), (11, .loc (9, 11, 0) 0 0)] [((1, 3, 0), ⟨none, 0, [.str aP_0.fName, .sl aP_0.fTargets.length (aP_0.fTargets.flatMap cTarget)]⟩), ((1, 4, 0), ⟨none, 0, [.int .i64 aH_1.fRise, .int .i64 aH_1.fFall, .sl aH_1.fHosts.length (aH_1.fHosts.flatMap cHost)]⟩), ((8, 10, 0), ⟨none, 0, [.str y8.fName, .ref (8, 34, 0) y8.fTargets.length]⟩), ((8, 34, 0), ⟨some (70, 4), y8.fTargets.length, y8.fTargets.flatMap cTarget⟩), ((9, 11, 0), ⟨none, 0, [.int .i64 y9.fRise, .int .i64 y9.fFall, .ref (9, 36, 0) y9.fHosts.length]⟩), ((9, 36, 0), ⟨some (89, 3), y9.fHosts.length, y9.fHosts.flatMap cHost⟩)] 12 ?_
          simp only [go_sem]
          refine pwp_plain rfl ?_
          simp only [go_sem]
          obtain ⟨y13, hy13, h⟩ := bind_i h
          refine CallS.pcs (laws_toPolicy_ok hy13) rfl ?_
          simp only [go_sem]
          obtain ⟨y14, hy14, h⟩ := bind_i h
          refine CallS.see (laws_eqPolicy_ok hy14) (by simp only [go_sem]) (by simp only [go_sem]) ?_
          simp only [go_sem]
          refine lgEnd_pure (by simp) ?_
          cases hg15 : (!y14) with
          | true =>
            replace h := if_t hg15 h
            replace h := Option.some.inj h
            subst h
            try simp only [go_sem]
          | false =>
            replace h := if_f hg15 h
            try simp only [go_sem]
            refine UpC.to [(4, .loc (1, 4, 0) 0 0), (11, .loc (9, 11, 0) 0 0)] [((1, 4, 0), ⟨none, 0, [.int .i64 aH_1.fRise, .int .i64 aH_1.fFall, .sl aH_1.fHosts.length (aH_1.fHosts.flatMap cHost)]⟩), ((9, 11, 0), ⟨none, 0, [.int .i64 y9.fRise, .int .i64 y9.fFall, .ref (9, 36, 0) y9.fHosts.length]⟩), ((9, 36, 0), ⟨some (89, 3), y9.fHosts.length, y9.fHosts.flatMap cHost⟩)] 13 ?_
            simp only [go_sem]
            refine pwp_plain rfl ?_
            simp only [go_sem]
            obtain ⟨y16, hy16, h⟩ := bind_i h
            refine CallS.pcs (laws_toHealth_ok hy16) rfl ?_
            simp only [go_sem]
            obtain ⟨y17, hy17, h⟩ := bind_i h
            refine CallS.see (laws_eqHealth_ok hy17) (by simp only [go_sem]) (by simp only [go_sem]) ?_
            simp only [go_sem]
            refine lgEnd_pure (by simp) ?_
            cases hg18 : (!y17) with
            | true =>
              replace h := if_t hg18 h
              replace h := Option.some.inj h
              subst h
              try simp only [go_sem]
            | false =>
              replace h := if_f hg18 h
              try simp only [go_sem]
              refine UpC.to [] [] 14 ?_
              replace h := Option.some.inj h
              subst h
              simp only [go_sem]

theorem spec_AnswerOf_ok {p_0 : TPolicy} {h_1 : THealth} {draw_2 : Int} {r : (TRecord × Bool)} (h : spec_AnswerOf p_0 h_1 draw_2 = some r) : PC prog 24 [.agg [.str p_0.fName, .sl p_0.fTargets.length (p_0.fTargets.flatMap cTarget)], .agg [.int .i64 h_1.fRise, .int .i64 h_1.fFall, .sl h_1.fHosts.length (h_1.fHosts.flatMap cHost)], .int .i64 draw_2] (.tup [.agg [.str r.1.fName, .int .i64 r.1.fType, .int .i64 r.1.fTtl, .str r.1.fData], .bool r.2]) := by
  refine PC.intro (rs := [.cell 6 54, .tmp 7]) func24 rfl rfl mx (by rfl) (by rfl) (by rw [ntmps24]; simp) ?_
  rw [spec_AnswerOf] at h
  rw [pwp_start]
  simp only [go_sem, st0]
  obtain ⟨y1, hy1, h⟩ := bind_i h
  refine CallS.pcs (spec_ChooseTarget_ok hy1) rfl ?_
  simp only [go_sem]
  refine pwp_plain rfl ?_
  simp only [go_sem]
  cases hg2 : (!y1.2) with
  | true =>
    replace h := if_t hg2 h
    replace h := Option.some.inj h
    subst h
    simp only [go_sem]
  | false =>
    replace h := if_f hg2 h
    simp only [go_sem]
    refine UpC.here ?_
    simp only [go_sem]
    obtain ⟨e3, he3, h⟩ := bind_i h
    refine evE_index he3 cTarget_len (by decide) (fun rest => ?_)
    simp only [go_sem]
    refine lgEnd_dec (by rfl) ?_
    replace h := Option.some.inj h
    subst h
    try simp only [go_sem]

theorem impl_AnswerOf_ok {p_0 : TPolicy} {h_1 : THealth} {draw_2 : Int} {r : (TRecord × Bool)} (h : impl_AnswerOf p_0 h_1 draw_2 = some r) : PC prog 25 [.agg [.str p_0.fName, .sl p_0.fTargets.length (p_0.fTargets.flatMap cTarget)], .agg [.int .i64 h_1.fRise, .int .i64 h_1.fFall, .sl h_1.fHosts.length (h_1.fHosts.flatMap cHost)], .int .i64 draw_2] (.tup [.agg [.str r.1.fName, .int .i64 r.1.fType, .int .i64 r.1.fTtl, .str r.1.fData], .bool r.2]) := by
  refine PC.intro (rs := [.cell 6 54, .tmp 7]) func25 rfl rfl mx (by rfl) (by rfl) (by rw [ntmps25]; simp) ?_
  rw [impl_AnswerOf] at h
  rw [pwp_start]
  simp only [go_sem, st0]
  obtain ⟨y1, hy1, h⟩ := bind_i h
  refine CallS.pcs (impl_ChooseTarget_ok hy1) rfl ?_
  simp only [go_sem]
  refine pwp_plain rfl ?_
  simp only [go_sem]
  cases hg2 : (!y1.2) with
  | true =>
    replace h := if_t hg2 h
    replace h := Option.some.inj h
    subst h
    simp only [go_sem]
  | false =>
    replace h := if_f hg2 h
    simp only [go_sem]
    refine UpC.here ?_
    simp only [go_sem]
    obtain ⟨e3, he3, h⟩ := bind_i h
    refine evE_index he3 cTarget_len (by decide) (fun rest => ?_)
    simp only [go_sem]
    refine lgEnd_dec (by rfl) ?_
    replace h := Option.some.inj h
    subst h
    try simp only [go_sem]

theorem laws_eqRecord_ok {a_0 : TRecord} {b_1 : TRecord} {r : Bool} (h : laws_eqRecord a_0 b_1 = some r) : PC prog 26 [.agg [.str a_0.fName, .int .i64 a_0.fType, .int .i64 a_0.fTtl, .str a_0.fData], .agg [.str b_1.fName, .int .i64 b_1.fType, .int .i64 b_1.fTtl, .str b_1.fData]] (.bool r) := by
  refine PC.intro (rs := [.tmp 4]) func26 rfl rfl mx (by rfl) (by rfl) (by rw [ntmps26]; simp) ?_
  rw [laws_eqRecord] at h
  rw [pwp_start]
  simp only [go_sem, st0]
  refine pwp_plain rfl ?_
  simp only [go_sem]
  cases hg1 : (!(a_0.fName == b_1.fName)) with
  | true =>
    replace h := if_t hg1 h
    replace h := Option.some.inj h
    subst h
    simp only [go_sem]
  | false =>
    replace h := if_f hg1 h
    simp only [go_sem]
    refine UpC.here ?_
    refine pwp_plain rfl ?_
    simp only [go_sem]
    cases hg2 : (a_0.fType != b_1.fType) with
    | true =>
      replace h := if_t hg2 h
      replace h := Option.some.inj h
      subst h
      simp only [go_sem]
    | false =>
      replace h := if_f hg2 h
      simp only [go_sem]
      refine UpC.here ?_
      refine pwp_plain rfl ?_
      simp only [go_sem]
      cases hg3 : (a_0.fTtl != b_1.fTtl) with
      | true =>
        replace h := if_t hg3 h
        replace h := Option.some.inj h
        subst h
        simp only [go_sem]
      | false =>
        replace h := if_f hg3 h
        simp only [go_sem]
        refine UpC.here ?_
        refine pwp_plain rfl ?_
        simp only [go_sem]
        cases hg4 : (!(a_0.fData == b_1.fData)) with
        | true =>
          replace h := if_t hg4 h
          replace h := Option.some.inj h
          subst h
          simp only [go_sem]
        | false =>
          replace h := if_f hg4 h
          simp only [go_sem]
          refine UpC.here ?_
          replace h := Option.some.inj h
          subst h
          simp only [go_sem]

theorem laws_FnExactAnswerOf_ok {aP_0 : TPolicy} {aH_1 : THealth} {aDraw_2 : Int} {r : Bool} (h : laws_FnExactAnswerOf aP_0 aH_1 aDraw_2 = some r) : PC prog 6 [.agg [.str aP_0.fName, .sl aP_0.fTargets.length (aP_0.fTargets.flatMap cTarget)], .agg [.int .i64 aH_1.fRise, .int .i64 aH_1.fFall, .sl aH_1.fHosts.length (aH_1.fHosts.flatMap cHost)], .int .i64 aDraw_2] (.bool r) := by
  refine PC.intro (rs := [.tmp 6]) func6 rfl rfl mx (by rfl) (by rfl) (by rw [ntmps6]; simp) ?_
  rw [laws_FnExactAnswerOf] at h
  rw [pwp_start]
  simp only [go_sem, st0]
  obtain ⟨y1, hy1, h⟩ := bind_i h
  refine CallS.pcs (laws_szPolicy_ok hy1) rfl ?_
  simp only [go_sem]
  refine pwp_plain rfl ?_
  simp only [go_sem]
  cases hg2 : (decide (y1 < 0)) with
  | true =>
    replace h := if_t hg2 h
    replace h := Option.some.inj h
    subst h
    simp only [go_sem]
  | false =>
    replace h := if_f hg2 h
    simp only [go_sem]
    refine UpC.to [(2, .int .i64 aDraw_2), (3, .loc (1, 3, 0) 0 0), (4, .loc (1, 4, 0) 0 0), (7, .int .i64 y1)] [((1, 3, 0), ⟨none, 0, [.str aP_0.fName, .sl aP_0.fTargets.length (aP_0.fTargets.flatMap cTarget)]⟩), ((1, 4, 0), ⟨none, 0, [.int .i64 aH_1.fRise, .int .i64 aH_1.fFall, .sl aH_1.fHosts.length (aH_1.fHosts.flatMap cHost)]⟩)] 5 ?_
    simp only [go_sem]
    obtain ⟨y3, hy3, h⟩ := bind_i h
    refine CallS.pcs (laws_szHealth_ok hy3) rfl ?_
    simp only [go_sem]
    refine pwp_plain rfl ?_
    simp only [go_sem]
    cases hg4 : (decide (y3 < 0)) with
    | true =>
      replace h := if_t hg4 h
      replace h := Option.some.inj h
      subst h
      simp only [go_sem]
    | false =>
      replace h := if_f hg4 h
      simp only [go_sem]
      refine UpC.to [(2, .int .i64 aDraw_2), (3, .loc (1, 3, 0) 0 0), (4, .loc (1, 4, 0) 0 0)] [((1, 3, 0), ⟨none, 0, [.str aP_0.fName, .sl aP_0.fTargets.length (aP_0.fTargets.flatMap cTarget)]⟩), ((1, 4, 0), ⟨none, 0, [.int .i64 aH_1.fRise, .int .i64 aH_1.fFall, .sl aH_1.fHosts.length (aH_1.fHosts.flatMap cHost)]⟩)] 7 ?_
      simp only [go_sem]
      obtain ⟨y5, hy5, h⟩ := bind_i h
      refine CallS.pcs (laws_toPolicy_ok hy5) rfl ?_
      simp only [go_sem]
      obtain ⟨y6, hy6, h⟩ := bind_i h
      refine CallS.pcs (laws_toHealth_ok hy6) rfl ?_
      simp only [go_sem]
      obtain ⟨y7, hy7, h⟩ := bind_i h
      refine CallS.pcs (spec_AnswerOf_ok hy7) rfl ?_
      simp only [go_sem]
      refine lgEnd_dec (by rfl) ?_
      try simp only [go_sem]
      obtain ⟨y8, hy8, h⟩ := bind_i h
      refine CallS.seeg (laws_toPolicy_gc hy8) (by simp only [go_sem]) (by simp only [go_sem]) ?_
      simp only [go_sem]
      obtain ⟨y9, hy9, h⟩ := bind_i h
      refine CallS.seeg (laws_toHealth_gc hy9) (by simp only [go_sem]) (by simp only [go_sem]) ?_
      simp only [go_sem]
      obtain ⟨y10, hy10, h⟩ := bind_i h
      refine CallS.see (impl_AnswerOf_ok hy10) (by simp only [go_sem]) (by simp only [go_sem]) ?_
      simp only [go_sem]
      refine pwp_plain rfl ?_
      simp only [go_sem]
      obtain ⟨y11, hy11, h⟩ := bind_i h
      refine CallS.pcs (laws_eqRecord_ok hy11) rfl ?_
      simp only [go_sem]
      cases hg12 : (!y11) with
      | true =>
        replace h := if_t hg12 h
        replace h := Option.some.inj h
        subst h
        simp only [go_sem]
      | false =>
        replace h := if_f hg12 h
        simp only [go_sem]
        cases hg13 : (!(y10.2 == y7.2)) with
        | true =>
          replace h := if_t hg13 h
          replace h := Option.some.inj h
          subst h
          simp only [go_sem]
        | false =>
          replace h := if_f hg13 h
          simp only [go_sem]
          refine UpC.to [(3, .loc (1, 3, 0) 0 0), (4, .loc (1, 4, 0) 0 0), (10, .loc (8, 10, 0) 0 0), (11, .loc (9, 11, 0) 0 0)] [((1, 3, 0), ⟨none, 0, [.str aP_0.fName, .sl aP_0.fTargets.length (aP_0.fTargets.flatMap cTarget)]⟩), ((1, 4, 0), ⟨none, 0, [.int .i64 aH_1.fRise, .int .i64 aH_1.fFall, .sl aH_1.fHosts.length (aH_1.fHosts.flatMap cHost)]⟩), ((8, 10, 0), ⟨none, 0, [.str y8.fName, .ref (8, 34, 0) y8.fTargets.length]⟩), ((8, 34, 0), ⟨some (70, 4), y8.fTargets.length, y8.fTargets.flatMap cTarget⟩), ((9, 11, 0), ⟨none, 0, [.int .i64 y9.fRise, .int .i64 y9.fFall, .ref (9, 36, 0) y9.fHosts.length]⟩), ((9, 36, 0), ⟨some (89, 3), y9.fHosts.length, y9.fHosts.flatMap cHost⟩)] 12 ?_
          simp only [go_sem]
          refine pwp_plain rfl ?_
          simp only [go_sem]
          obtain ⟨y14, hy14, h⟩ := bind_i h
          refine CallS.pcs (laws_toPolicy_ok hy14) rfl ?_
          simp only [go_sem]
          obtain ⟨y15, hy15, h⟩ := bind_i h
          refine CallS.see (laws_eqPolicy_ok hy15) (by simp only [go_sem]) (by simp only [go_sem]) ?_
          simp only [go_sem]
          refine lgEnd_pure (by simp) ?_
          cases hg16 : (!y15) with
          | true =>
            replace h := if_t hg16 h
            replace h := Option.some.inj h
            subst h
            try simp only [go_sem]
          | false =>
            replace h := if_f hg16 h
            try simp only [go_sem]
            refine UpC.to [(4, .loc (1, 4, 0) 0 0), (11, .loc (9, 11, 0) 0 0)] [((1, 4, 0), ⟨none, 0, [.int .i64 aH_1.fRise, .int .i64 aH_1.fFall, .sl aH_1.fHosts.length (aH_1.fHosts.flatMap cHost)]⟩), ((9, 11, 0), ⟨none, 0, [.int .i64 y9.fRise, .int .i64 y9.fFall, .ref (9, 36, 0) y9.fHosts.length]⟩), ((9, 36, 0), ⟨some (89, 3), y9.fHosts.length, y9.fHosts.flatMap cHost⟩)] 13 ?_
            simp only [go_sem]
            refine pwp_plain rfl ?_
            simp only [go_sem]
            obtain ⟨y17, hy17, h⟩ := bind_i h
            refine CallS.pcs (laws_toHealth_ok hy17) rfl ?_
            simp only [go_sem]
            obtain ⟨y18, hy18, h⟩ := bind_i h
            refine CallS.see (laws_eqHealth_ok hy18) (by simp only [go_sem]) (by simp only [go_sem]) ?_
            simp only [go_sem]
            refine lgEnd_pure (by simp) ?_
            cases hg19 : (!y18) with
            | true =>
              replace h := if_t hg19 h
              replace h := Option.some.inj h
              subst h
              try simp only [go_sem]
            | false =>
              replace h := if_f hg19 h
              try simp only [go_sem]
              refine UpC.to [] [] 14 ?_
              replace h := Option.some.inj h
              subst h
              simp only [go_sem]

end Go.Proofs.YthcmcjkljjfccaaGreatDoor.Abs
