/- The law AnswerSimple: a walk. -/
import Derived.Test.YtpncekdhigappaaDoorP35
import Derived.Test.YtpncekdhigappaaDoorP29
import Derived.Test.YtpncekdhigappaaDoorP15
import Derived.Test.YtpncekdhigappaaDoorP30
import Derived.Test.YtpncekdhigappaaDoorP22
import Derived.OpenShut
namespace Go.Proofs.YtpncekdhigappaaDoor.AnswerSimple
set_option linter.unusedVariables false
set_option linter.unusedSimpArgs false
open Go.RowKit Mem Sim Opn Hd Str Rq An
set_option maxRecDepth 100000 in
set_option maxHeartbeats 8000000 in
theorem law_ (c : Int) (s : ByteArray) (hc : (Lit.int .i64 c).wf = true) (hs : s.size ≤ maxLen) : PCalls Tryd.prog 3 [.v (.int .i64 c), .v (.string s)] (.v (.bool true)) := by
  have c0 := awake_
  by_cases hl : 3000 < s.size
  · refine pcalls_of Tryd.func3 rfl rfl Tryd.ntmps3 rfl ?_
    repeat' (first | (refine rg 0 ?_; refine oAs ?_; refine oN ?_) | (refine rg 1 ?_; refine oMv ?_; refine sp (po_len_str rfl rfl (tyR rfl)) ?_; refine oCm ?_; refine oN ?_) | (refine rg 2 ?_; refine oC (c0) rfl .nil ?_; refine oAs ?_; refine oN ?_) | refine gc ?_ | refine ct ?_ | refine cf ?_ | refine swp_cond rfl (fun hc => ?_) (fun hc => ?_) | refine rq rfl (rt .nil) ?_)
    rfl
  · have c1 := simple_ c s (by omega)
    unfold simpT at c1
    have z0 := same0_
    by_cases hm : mayA (simpA c s) = true
    · rw [hm, if_pos rfl] at c1
      have hin : 200 ≤ c ∧ c ≤ 599 ∧ s.size ≤ 1024 := by
        by_cases h1 : 200 ≤ c
        · by_cases h2 : c ≤ 599
          · by_cases h3 : s.size ≤ 1024
            · exact ⟨h1, h2, h3⟩
            · rw [mayA_no (.inr (.inr (by omega)))] at hm; cases hm
          · rw [mayA_no (.inr (.inl (by omega)))] at hm; cases hm
        · rw [mayA_no (.inl (by omega))] at hm; cases hm
      obtain ⟨h1, h2, h3⟩ := hin
      have c2 := refMayA_ (simpA c s) (by simp [simpA]) (fun h hh => by
        simp [simpA] at hh; subst hh
        exact ⟨cl_okA, by have := digitsP_size s.size; show (digitsP s.size).size ≤ maxLen; unfold maxLen; omega⟩) (by simp [simpA]; have := toList_len s; omega)
      rw [hm] at c2
      unfold ansT simpA at c1 c2
      have e1 : (!decide (c = c)) = false := by simp
      have e2 : (!decide (bs s.toList = s)) = false := by rw [bs_list]; simp
      have e3 : (!decide (clS = ⟨#[99, 111, 110, 116, 101, 110, 116, 45, 108, 101, 110, 103, 116, 104]⟩)) = false := by decide
      have e4 : (!decide ((([⟨clS, digitsP s.size⟩] : List Pl.Head).map headT).length = (1 : Int))) = false := rfl
      have hmk : (([⟨clS, digitsP s.size⟩] : List Pl.Head).map headT)[0]? = some (headT ⟨clS, digitsP s.size⟩) := rfl
      have hml : (([⟨clS, digitsP s.size⟩] : List Pl.Head).map headT).length = 1 := rfl
      unfold headT at hmk
      refine pcalls_of Tryd.func3 rfl rfl Tryd.ntmps3 rfl ?_
      repeat' (first | (refine rg 0 ?_; refine oAs ?_; refine oN ?_) | (refine rg 1 ?_; refine oMv ?_; refine sp (po_len_str rfl rfl (tyR rfl)) ?_; refine oCm ?_; refine oN ?_) | (refine rg 3 ?_; refine oMv ?_; refine oMv ?_; (first | refine oC (c0) rfl (ac (ac .nil)) ?_ | refine oC (c1) rfl (ac (ac .nil)) ?_ | refine oC (c2) rfl (ac (ac .nil)) ?_); refine oMv ?_; refine oEx ?_; refine oEx ?_; refine sal str26 ?_; refine oS ?_; refine oAs ?_; refine oN ?_) | (refine rg 4 ?_; refine oMv ?_; refine oCm ?_; refine oMv ?_; (first | refine oMv ?_ | refine oK ?_ | ((refine ssp (fun hc => ?_) (fun hc => ?_)) <;> first | refine oMv ?_ | refine oK ?_)) <;> (first | refine oCm ?_ | refine oK ?_) <;> (first | refine oPt ?_ | refine oPf ?_) <;> (refine oMv ?_) <;> (first | refine oMv ?_ | refine oK ?_ | ((refine ssp (fun hc => ?_) (fun hc => ?_)) <;> first | refine oMv ?_ | refine oK ?_)) <;> (first | refine sp (po_len_str rfl rfl (tyR rfl)) ?_ | refine oK ?_) <;> (first | refine oCm ?_ | refine oK ?_) <;> (first | refine oPt ?_ | refine oPf ?_) <;> (refine oN ?_)) | (refine rg 6 ?_; refine oMv ?_; refine oCm ?_; refine oMv ?_; (first | refine oFb ?_ | refine oFd ?_ | refine oK ?_ | ((refine ssp (fun hc => ?_) (fun hc => ?_)) <;> first | refine oFb ?_ | refine oFd ?_ | refine oK ?_)) <;> (first | refine oLb ?_ | refine oLd ?_ | refine oK ?_) <;> (first | refine oMv ?_ | refine oK ?_) <;> (first | refine oCm ?_ | refine oK ?_) <;> (first | refine oPt ?_ | refine oPf ?_) <;> (refine oMv ?_) <;> (first | refine oFb ?_ | refine oFd ?_ | refine oK ?_ | ((refine ssp (fun hc => ?_) (fun hc => ?_)) <;> first | refine oFb ?_ | refine oFd ?_ | refine oK ?_)) <;> (first | refine oLb ?_ | refine oLd ?_ | refine oK ?_) <;> (first | refine sp (po_bytes_str rfl rfl (by first | exact .t _ | exact .own rfl (by first | rfl | assumption | omega | (simp; done) | (simp; omega) | (simp at *; omega)) | exact .nil _ | exact .emp _) byt24 (tyR rfl)) ?_ | refine oK ?_) <;> (first | refine oMv ?_ | refine oK ?_) <;> (first | refine sp (po_str rfl rfl rfl rfl) ?_ | refine oK ?_) <;> (first | refine oPt ?_ | refine oPf ?_) <;> (refine oMv ?_) <;> (first | refine oFb ?_ | refine oFd ?_ | refine oK ?_ | ((refine ssp (fun hc => ?_) (fun hc => ?_)) <;> first | refine oFb ?_ | refine oFd ?_ | refine oK ?_)) <;> (first | refine oLb ?_ | refine oLd ?_ | refine oK ?_) <;> (first | refine sp (pln rfl (tyS rfl)) ?_ | refine oK ?_) <;> (first | refine oCm ?_ | refine oK ?_) <;> (first | refine oPt ?_ | refine oPf ?_) <;> (refine oMv ?_) <;> (first | refine oFb ?_ | refine oFd ?_ | refine oK ?_ | ((refine ssp (fun hc => ?_) (fun hc => ?_)) <;> first | refine oFb ?_ | refine oFd ?_ | refine oK ?_)) <;> (first | refine oLb ?_ | refine oLd ?_ | refine oK ?_) <;> (first | refine sp (pix rfl (tyS rfl)) ?_ | refine oK ?_) <;> (first | refine oFb ?_ | refine oFd ?_ | refine oK ?_) <;> (first | refine oLb ?_ | refine oLd ?_ | refine oK ?_) <;> (first | refine sp (po_str rfl rfl rfl rfl) ?_ | refine oK ?_) <;> (first | refine oPt ?_ | refine oPf ?_) <;> (refine oN ?_)) | (refine rg 8 ?_; (first | refine sp (po_load_bx_agg rfl rfl (tyT rfl) rfl (vc (vc (vc .nil))) rfl) ?_ | refine sp (po_load_agg rfl rfl (tyT rfl) rfl rfl) ?_); (first | refine oC (c0) rfl (ac .nil) ?_ | refine oC (c1) rfl (ac .nil) ?_ | refine oC (c2) rfl (ac .nil) ?_); refine oMv ?_; (first | refine oC (c0) rfl .nil ?_ | refine oC (c1) rfl .nil ?_ | refine oC (c2) rfl .nil ?_ | refine oK ?_ | ((refine ssp (fun hc => ?_) (fun hc => ?_)) <;> first | refine oC (c0) rfl .nil ?_ | refine oC (c1) rfl .nil ?_ | refine oC (c2) rfl .nil ?_ | refine oK ?_)) <;> (first | refine oPt ?_ | refine oPf ?_) <;> (refine oAs ?_) <;> (refine oN ?_)) | refine gc ?_ | refine ct ?_ | refine cf ?_ | refine swp_cond rfl (fun hc => ?_) (fun hc => ?_) | refine rq rfl (rt .nil) ?_)
      rfl
    · have hm : mayA (simpA c s) = false := by simpa using hm
      rw [hm, if_neg (by simp)] at c1
      have hout : c < 200 ∨ (200 ≤ c ∧ 599 < c) ∨ (200 ≤ c ∧ c ≤ 599 ∧ 1024 < s.size) := by
        by_cases h1 : 200 ≤ c
        · by_cases h2 : c ≤ 599
          · by_cases h3 : s.size ≤ 1024
            · rw [mayA_simp h1 h2 h3] at hm; cases hm
            · exact .inr (.inr ⟨h1, h2, by omega⟩)
          · exact .inr (.inl ⟨h1, by omega⟩)
        · exact .inl (by omega)
      unfold ansT0 at c1 z0
      refine pcalls_of Tryd.func3 rfl rfl Tryd.ntmps3 rfl ?_
      rcases hout with h1 | ⟨h1, h2⟩ | ⟨h1, h2, h3⟩
      all_goals
        repeat' (first | (refine rg 0 ?_; refine oAs ?_; refine oN ?_) | (refine rg 1 ?_; refine oMv ?_; refine sp (po_len_str rfl rfl (tyR rfl)) ?_; refine oCm ?_; refine oN ?_) | (refine rg 3 ?_; refine oMv ?_; refine oMv ?_; (first | refine oC (c0) rfl (ac (ac .nil)) ?_ | refine oC (c1) rfl (ac (ac .nil)) ?_ | refine oC (z0) rfl (ac (ac .nil)) ?_); refine oMv ?_; refine oEx ?_; refine oEx ?_; refine sal str26 ?_; refine oS ?_; refine oAs ?_; refine oN ?_) | (refine rg 4 ?_; refine oMv ?_; refine oCm ?_; refine oMv ?_; (first | refine oMv ?_ | refine oK ?_ | ((refine ssp (fun hc => ?_) (fun hc => ?_)) <;> first | refine oMv ?_ | refine oK ?_)) <;> (first | refine oCm ?_ | refine oK ?_) <;> (first | refine oPt ?_ | refine oPf ?_) <;> (refine oMv ?_) <;> (first | refine oMv ?_ | refine oK ?_ | ((refine ssp (fun hc => ?_) (fun hc => ?_)) <;> first | refine oMv ?_ | refine oK ?_)) <;> (first | refine sp (po_len_str rfl rfl (tyR rfl)) ?_ | refine oK ?_) <;> (first | refine oCm ?_ | refine oK ?_) <;> (first | refine oPt ?_ | refine oPf ?_) <;> (refine oN ?_)) | (refine rg 5 ?_; refine oMv ?_; refine oCm ?_; refine oMv ?_; (first | refine sp (po_load_bx_agg rfl rfl (tyT rfl) rfl (vc (vc (vc .nil))) rfl) ?_ | refine sp (po_load_agg rfl rfl (tyT rfl) rfl rfl) ?_ | refine oK ?_ | ((refine ssp (fun hc => ?_) (fun hc => ?_)) <;> first | refine sp (po_load_bx_agg rfl rfl (tyT rfl) rfl (vc (vc (vc .nil))) rfl) ?_ | refine sp (po_load_agg rfl rfl (tyT rfl) rfl rfl) ?_ | refine oK ?_)) <;> (first | refine sp (po_buildS str26 rfl .nil rfl) ?_ | refine oK ?_) <;> (first | refine oC (c0) rfl (ac (ac .nil)) ?_ | refine oC (c1) rfl (ac (ac .nil)) ?_ | refine oC (z0) rfl (ac (ac .nil)) ?_ | refine oK ?_) <;> (first | refine oPt ?_ | refine oPf ?_) <;> (refine oMv ?_) <;> (first | refine oC (c0) rfl .nil ?_ | refine oC (c1) rfl .nil ?_ | refine oC (z0) rfl .nil ?_ | refine oK ?_ | ((refine ssp (fun hc => ?_) (fun hc => ?_)) <;> first | refine oC (c0) rfl .nil ?_ | refine oC (c1) rfl .nil ?_ | refine oC (z0) rfl .nil ?_ | refine oK ?_)) <;> (first | refine oPt ?_ | refine oPf ?_) <;> (refine oAs ?_) <;> (refine oN ?_)) | refine gc ?_ | refine ct ?_ | refine cf ?_ | refine swp_cond rfl (fun hc => ?_) (fun hc => ?_) | refine rq rfl (rt .nil) ?_)
        rfl
end Go.Proofs.YtpncekdhigappaaDoor.AnswerSimple
