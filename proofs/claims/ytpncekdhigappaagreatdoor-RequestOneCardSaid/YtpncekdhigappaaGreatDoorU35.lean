/- Merged by bundles.py: SimOr3, SimOa, Rel10, Tabs. -/
import Derived.Test.YtpncekdhigappaaGreatDoorU30
import Derived.Test.YtpncekdhigappaaGreatDoorU31
import Derived.Test.YtpncekdhigappaaGreatDoorU34
import Derived.Test.YtpncekdhigappaaGreatDoorU21
import Derived.Test.YtpncekdhigappaaGreatDoorU28
import Derived.Test.YtpncekdhigappaaGreatDoorU13
import Derived.Test.YtpncekdhigappaaGreatDoorU10
import Derived.Test.YtpncekdhigappaaGreatDoorU5
import Derived.Lib.AppendStr
import Derived.Test.YtpncekdhigappaaGreatDoorU12
import Derived.Test.YtpncekdhigappaaGreatDoorU20
import Derived.Test.YtpncekdhigappaaGreatDoorU17
import Derived.OpenShut
import Derived.Test.YtpncekdhigappaaGreatDoorU24
import Derived.Test.YtpncekdhigappaaGreatDoorRows
import Derived.Lib.LaidU8
import Derived.MakeChecks
/- Requests: the document's answer: one of bytes, the same, what may be: walks. -/
namespace Go.Proofs.YtpncekdhigappaaGreatDoor.Ro
set_option linter.unusedVariables false
set_option linter.unusedSimpArgs false
open Go.RowKit Mem Sim Opn Hd Str Pth Rq
theorem sane_hyp {r : PRaw} (h : sane r) : An.RawOk r ∧ r.start.size ≤ 100000 ∧ ∀ v ∈ valsOf hostS r.heads, v.size ≤ 200000 := by
  refine ⟨An.sane_ok h, by have := h.1; omega, fun v hv => ?_⟩
  obtain ⟨_, h2⟩ := h
  unfold fitsP Hd.mayL at h2
  simp only [Bool.and_eq_true, decide_eq_true_eq] at h2
  obtain ⟨⟨⟨_, h3, h4⟩, h5⟩, _⟩ := h2
  unfold valsOf at hv
  obtain ⟨x, hx, rfl⟩ := List.mem_map.1 hv
  have := good_size ((List.all_eq_true.1 h4) x (List.mem_filter.1 hx).1)
  omega
theorem one2_ (l : List UInt8) (hl : l.length ≤ 50000) : PCalls Tryz.prog 36 [.sl 1 (l.map byteT)] (oneT l) := one_ l hl fun r hr => sane_hyp (An.rawsL_sane l r hr)
set_option maxRecDepth 100000 in
set_option maxHeartbeats 4000000 in
theorem refOne_ (l : List UInt8) (hl : l.length ≤ 50000) : PCalls Tryz.prog 37 [.sl 1 (l.map byteT)] (oneT l) := by
  have hs := An.rawsL_sane l
  obtain ⟨a1, a2, a3⟩ := all_feed l.length [] l (Nat.le_refl _)
  have c1 := refAllM_ l (by omega)
  rw [← rd0_idl] at a1 a2 a3
  unfold allT at c1
  generalize allM l.length [] l = M at *
  obtain ⟨x, al, e⟩ := M
  simp only at c1 a1 a2 a3
  by_cases he : e = 0
  · subst he
    cases al with
    | false =>
      have hR : rawsL l = ([], 2) := by unfold rawsL; rw [a1, a3]; simp
      have hT : oneT l = .tup [.agg reqT0, .v (.int .i64 2)] := by unfold oneT oneR; rw [hR]; simp
      rw [hT]
      refine pcalls_of Tryz.func37 rfl rfl Tryz.ntmps37 rfl ?_
      repeat' (first | (refine rg 0 ?_; refine sal str57 ?_; refine aq0 ?_) | (refine rg 1 ?_; refine oMv ?_; refine oC (c1) rfl (ac .nil) ?_; refine aq51 ?_) | refine rg 2 (aq22 ?_) | refine rg 4 (aq210 ?_) | (refine rg 5 ?_; refine sp (po_buildS str57 rfl .nil rfl) ?_; refine aq54 ?_) | refine gc ?_ | refine ct ?_ | refine cf ?_ | refine sc ?_ ?_ <;> intro hc | refine rq rfl (.cell rfl rfl (tyT rfl) (vc (vc (vc (vc (vc (vc (vc .nil))))))) rfl (rt .nil)) ?_)
      rfl
    | true =>
      have hR : rawsL l = (x, 0) := by unfold rawsL; rw [a1, a2, a3]; simp
      rw [hR] at hs
      match x, hs, c1, hR with
      | [], _, c1, hR =>
        have hT : oneT l = .tup [.agg reqT0, .v (.int .i64 2)] := by unfold oneT oneR; rw [hR]; simp
        rw [hT]
        have e2 : (!decide ((([] : List PRaw).map rawT).length = (1 : Int))) = true := rfl
        refine pcalls_of Tryz.func37 rfl rfl Tryz.ntmps37 rfl ?_
        repeat' (first | (refine rg 0 ?_; refine sal str57 ?_; refine aq0 ?_) | (refine rg 1 ?_; refine oMv ?_; refine oC (c1) rfl (ac .nil) ?_; refine aq51 ?_) | refine rg 2 (aq22 ?_) | refine rg 4 (aq211 ?_) | (refine rg 5 ?_; refine sp (po_buildS str57 rfl .nil rfl) ?_; refine aq54 ?_) | refine gc ?_ | refine ct ?_ | refine cf ?_ | refine sc ?_ ?_ <;> intro hc | refine rq rfl (.cell rfl rfl (tyT rfl) (vc (vc (vc (vc (vc (vc (vc .nil))))))) rfl (rt .nil)) ?_)
        rfl
      | [r], hs, c1, hR =>
        obtain ⟨k1, k2, k3⟩ := sane_hyp (hs r (by simp))
        have c2 := refOf_ r k1 k2 k3
        have e2 : (!decide ((([r].map rawT).length : Int) = 1)) = false := rfl
        refine pcalls_of Tryz.func37 rfl rfl Tryz.ntmps37 rfl ?_
        cases ho : ofR r with
        | none =>
          have hT : oneT l = .tup [.agg reqT0, .v (.int .i64 2)] := by unfold oneT oneR; rw [hR]; simp [ho]
          rw [hT]
          rw [ho] at c2
          unfold refOfT rawT reqT0 at c2
          dsimp only at c2
          clear hR ho hT hs k1 k2 k3 a1 a2 a3
          repeat' (first | (refine rg 0 ?_; refine sal str57 ?_; refine aq0 ?_) | (refine rg 1 ?_; refine oMv ?_; refine oC (c1) rfl (ac .nil) ?_; refine aq51 ?_) | refine rg 2 (aq22 ?_) | refine rg 4 (aq211 ?_) | (refine rg 6 (aq170 ?_); (first | refine oC (c1) rfl (ac .nil) ?_ | refine oC (c2) rfl (ac .nil) ?_); refine aq29 ?_; refine sal str57 ?_; refine aq54 ?_) | refine rg 7 (aq34 ?_) | (refine rg 8 ?_; refine sp (po_buildS str57 rfl .nil rfl) ?_; refine aq54 ?_) | refine gc ?_ | refine ct ?_ | refine cf ?_ | refine sc ?_ ?_ <;> intro hc | refine rq rfl (.cell rfl rfl (tyT rfl) (vc (vc (vc (vc (vc (vc (vc .nil))))))) rfl (rt .nil)) ?_)
          rfl
        | some y =>
          have hT : oneT l = .tup [.agg (reqT y), .v (.int .i64 0)] := by unfold oneT oneR; rw [hR]; simp [ho]
          rw [hT]
          rw [ho] at c2
          unfold refOfT rawT reqT at c2
          dsimp only at c2
          clear hR ho hT hs k1 k2 k3 a1 a2 a3
          repeat' (first | (refine rg 0 ?_; refine sal str57 ?_; refine aq0 ?_) | (refine rg 1 ?_; refine oMv ?_; refine oC (c1) rfl (ac .nil) ?_; refine aq51 ?_) | refine rg 2 (aq22 ?_) | refine rg 4 (aq211 ?_) | (refine rg 6 (aq170 ?_); (first | refine oC (c1) rfl (ac .nil) ?_ | refine oC (c2) rfl (ac .nil) ?_); refine aq29 ?_; refine sal str57 ?_; refine aq54 ?_) | refine rg 7 (aq34 ?_) | refine rg 9 (aq178 ?_) | refine gc ?_ | refine ct ?_ | refine cf ?_ | refine sc ?_ ?_ <;> intro hc | refine rq rfl (.cell rfl rfl (tyT rfl) (vc (vc (vc (vc (vc (vc (vc .nil))))))) rfl (rt .nil)) ?_)
          rfl
      | r :: r2 :: q, _, c1, hR =>
        have hT : oneT l = .tup [.agg reqT0, .v (.int .i64 2)] := by unfold oneT oneR; rw [hR]; simp
        rw [hT]
        have e2 : (!decide ((((r :: r2 :: q).map rawT).length : Int) = 1)) = true := by
          rw [decide_eq_false (by simp; omega)]; rfl
        refine pcalls_of Tryz.func37 rfl rfl Tryz.ntmps37 rfl ?_
        repeat' (first | (refine rg 0 ?_; refine sal str57 ?_; refine aq0 ?_) | (refine rg 1 ?_; refine oMv ?_; refine oC (c1) rfl (ac .nil) ?_; refine aq51 ?_) | refine rg 2 (aq22 ?_) | refine rg 4 (aq211 ?_) | (refine rg 5 ?_; refine sp (po_buildS str57 rfl .nil rfl) ?_; refine aq54 ?_) | refine gc ?_ | refine ct ?_ | refine cf ?_ | refine sc ?_ ?_ <;> intro hc | refine rq rfl (.cell rfl rfl (tyT rfl) (vc (vc (vc (vc (vc (vc (vc .nil))))))) rfl (rt .nil)) ?_)
        rfl
  · have hR : rawsL l = ([], e) := by unfold rawsL; rw [a1, if_pos he]
    have hT : oneT l = .tup [.agg reqT0, .v (.int .i64 e)] := by unfold oneT oneR; rw [hR, if_pos (show (e : Int) ≠ 0 from he)]
    rw [hT]
    have e1 : (!decide (e = 0)) = true := by rw [decide_eq_false he]; rfl
    refine pcalls_of Tryz.func37 rfl rfl Tryz.ntmps37 rfl ?_
    repeat' (first | (refine rg 0 ?_; refine sal str57 ?_; refine aq0 ?_) | (refine rg 1 ?_; refine oMv ?_; refine oC (c1) rfl (ac .nil) ?_; refine aq51 ?_) | refine rg 2 (aq22 ?_) | (refine rg 3 ?_; refine sp (po_buildS str57 rfl .nil rfl) ?_; refine aq66 ?_) | refine gc ?_ | refine ct ?_ | refine cf ?_ | refine sc ?_ ?_ <;> intro hc | refine rq rfl (.cell rfl rfl (tyT rfl) (vc (vc (vc (vc (vc (vc (vc .nil))))))) rfl (rt .nil)) ?_)
    rfl
set_option maxRecDepth 100000 in
set_option maxHeartbeats 4000000 in
theorem refSameR_ (a b : PReq) (ha : a.heads.length ≤ 1000) : PCalls Tryz.prog 38 [.agg (reqT a), .agg (reqT b)] (.v (.bool (sameR a b))) := by
  have c1 := An.refSameG_ a.heads b.heads ha
  unfold sameR
  generalize decide (a.heads = b.heads) = e6 at *
  refine pcalls_of Tryz.func38 rfl rfl Tryz.ntmps38 rfl ?_
  cases h1 : decide (a.method = b.method) with
  | false =>
    repeat' (first | refine rg 0 (aq119 ?_) | (refine rg 1 (aq188 ?_) <;> (first | refine sp (po_bytes_str rfl rfl (by first | exact .t _ | exact .own rfl (by rfl) | exact .nil _ | exact .emp _) byt23 (tyR rfl)) ?_ | refine oK ?_) <;> refine aq124 ?_ <;> (first | refine sp (po_bytes_str rfl rfl (by first | exact .t _ | exact .own rfl (by rfl) | exact .nil _ | exact .emp _) byt23 (tyR rfl)) ?_ | refine oK ?_) <;> refine aq125 ?_) | refine gc ?_ | refine ct ?_ | refine cf ?_ | refine sc ?_ ?_ <;> intro hc | refine rq rfl (rt .nil) ?_)
    rfl
  | true =>
    cases h2 : decide (a.target = b.target) with
    | false =>
      repeat' (first | refine rg 0 (aq119 ?_) | (refine rg 1 (aq189 ?_) <;> (first | refine sp (po_bytes_str rfl rfl (by first | exact .t _ | exact .own rfl (by rfl) | exact .nil _ | exact .emp _) byt23 (tyR rfl)) ?_ | refine oK ?_) <;> refine aq124 ?_ <;> (first | refine sp (po_bytes_str rfl rfl (by first | exact .t _ | exact .own rfl (by rfl) | exact .nil _ | exact .emp _) byt23 (tyR rfl)) ?_ | refine oK ?_) <;> refine aq125 ?_) | refine gc ?_ | refine ct ?_ | refine cf ?_ | refine sc ?_ ?_ <;> intro hc | refine rq rfl (rt .nil) ?_)
      rfl
    | true =>
      cases h3 : decide (a.path = b.path) with
      | false =>
        repeat' (first | refine rg 0 (aq119 ?_) | (refine rg 1 (aq190 ?_) <;> (first | refine sp (po_bytes_str rfl rfl (by first | exact .t _ | exact .own rfl (by rfl) | exact .nil _ | exact .emp _) byt23 (tyR rfl)) ?_ | refine oK ?_) <;> refine aq124 ?_ <;> (first | refine sp (po_bytes_str rfl rfl (by first | exact .t _ | exact .own rfl (by rfl) | exact .nil _ | exact .emp _) byt23 (tyR rfl)) ?_ | refine oK ?_) <;> refine aq125 ?_) | refine gc ?_ | refine ct ?_ | refine cf ?_ | refine sc ?_ ?_ <;> intro hc | refine rq rfl (rt .nil) ?_)
        rfl
      | true =>
        cases h4 : decide (a.query = b.query) with
        | false =>
          repeat' (first | refine rg 0 (aq119 ?_) | (refine rg 1 (aq191 ?_) <;> (first | refine sp (po_bytes_str rfl rfl (by first | exact .t _ | exact .own rfl (by rfl) | exact .nil _ | exact .emp _) byt23 (tyR rfl)) ?_ | refine oK ?_) <;> refine aq124 ?_ <;> (first | refine sp (po_bytes_str rfl rfl (by first | exact .t _ | exact .own rfl (by rfl) | exact .nil _ | exact .emp _) byt23 (tyR rfl)) ?_ | refine oK ?_) <;> refine aq125 ?_) | refine gc ?_ | refine ct ?_ | refine cf ?_ | refine sc ?_ ?_ <;> intro hc | refine rq rfl (rt .nil) ?_)
          rfl
        | true =>
          cases h5 : decide (a.host = b.host) with
          | false =>
            repeat' (first | refine rg 0 (aq119 ?_) | (refine rg 1 (aq192 ?_) <;> (first | refine sp (po_bytes_str rfl rfl (by first | exact .t _ | exact .own rfl (by rfl) | exact .nil _ | exact .emp _) byt23 (tyR rfl)) ?_ | refine oK ?_) <;> refine aq124 ?_ <;> (first | refine sp (po_bytes_str rfl rfl (by first | exact .t _ | exact .own rfl (by rfl) | exact .nil _ | exact .emp _) byt23 (tyR rfl)) ?_ | refine oK ?_) <;> refine aq125 ?_) | refine gc ?_ | refine ct ?_ | refine cf ?_ | refine sc ?_ ?_ <;> intro hc | refine rq rfl (rt .nil) ?_)
            rfl
          | true =>
            cases e6 with
            | false =>
              repeat' (first | refine rg 0 (aq119 ?_) | (refine rg 1 (aq193 ?_) <;> refine oC (c1) rfl (ac (ac .nil)) ?_ <;> refine aq123 ?_ <;> (first | refine sp (po_bytes_str rfl rfl (by first | exact .t _ | exact .own rfl (by rfl) | exact .nil _ | exact .emp _) byt23 (tyR rfl)) ?_ | refine oK ?_) <;> refine aq124 ?_ <;> (first | refine sp (po_bytes_str rfl rfl (by first | exact .t _ | exact .own rfl (by rfl) | exact .nil _ | exact .emp _) byt23 (tyR rfl)) ?_ | refine oK ?_) <;> refine aq125 ?_) | refine gc ?_ | refine ct ?_ | refine cf ?_ | refine sc ?_ ?_ <;> intro hc | refine rq rfl (rt .nil) ?_)
              rfl
            | true =>
              repeat' (first | refine rg 0 (aq119 ?_) | (refine rg 1 (aq193 ?_) <;> refine oC (c1) rfl (ac (ac .nil)) ?_ <;> refine aq121 ?_ <;> refine sp (po_bytes_str rfl rfl (by exact .t _) byt23 (tyR rfl)) ?_ <;> refine aq40 ?_ <;> refine sp (po_bytes_str rfl rfl (by exact .t _) byt23 (tyR rfl)) ?_ <;> refine aq122 ?_) | refine gc ?_ | refine ct ?_ | refine cf ?_ | refine sc ?_ ?_ <;> intro hc | refine rq rfl (rt .nil) ?_)
              rfl
set_option maxRecDepth 100000 in
set_option maxHeartbeats 2000000 in
theorem refSame0_ : PCalls Tryz.prog 38 [.agg reqT0, .agg reqT0] (.v (.bool true)) := by
  have c1 := same_ [] (by simp)
  refine pcalls_of Tryz.func38 rfl rfl Tryz.ntmps38 rfl ?_
  repeat' (first | refine rg 0 (aq119 ?_) | (refine rg 1 (aq193 ?_) <;> refine oC (c1) rfl (ac (ac .nil)) ?_ <;> refine aq121 ?_ <;> refine sp (po_bytes_str (l := []) rfl rfl (.nil 1) byt23' rfl) ?_ <;> refine aq40 ?_ <;> refine sp (po_bytes_str (l := []) rfl rfl (.nil 1) byt23' rfl) ?_ <;> refine aq122 ?_) | refine gc ?_ | refine ct ?_ | refine cf ?_ | refine sc ?_ ?_ <;> intro hc | refine rq rfl (rt .nil) ?_)
  rfl
def sameW (a b : PRaw) : Bool := decide (a.start = b.start) && (decide (a.heads = b.heads) && decide (bs a.body = bs b.body))
theorem sameW_refl (a : PRaw) : sameW a a = true := by unfold sameW; simp
set_option maxRecDepth 100000 in
set_option maxHeartbeats 2000000 in
theorem sameRaw_ (a b : PRaw) (ha : a.heads.length ≤ 1000) : PCalls Tryz.prog 68 [.agg (rawT a), .agg (rawT b)] (.v (.bool (sameW a b))) := by
  have c1 := An.refSameG_ a.heads b.heads ha
  unfold sameW
  generalize decide (a.heads = b.heads) = e6 at *
  unfold rawT
  refine pcalls_of Tryz.func68 rfl rfl Tryz.ntmps68 rfl ?_
  cases h1 : decide (a.start = b.start) with
  | false =>
    repeat' (first | refine rg 0 (aq119 ?_) | (refine rg 1 ?_; refine oFb ?_; refine oLb ?_; refine oFb ?_; refine oLb ?_; refine sp (po_str rfl rfl rfl rfl) ?_; refine oMv ?_; (first | refine oFb ?_ | refine oFd ?_ | refine oK ?_); (first | refine oLb ?_ | refine oLd ?_ | refine oK ?_); (first | refine oFb ?_ | refine oFd ?_ | refine oK ?_); (first | refine oLb ?_ | refine oLd ?_ | refine oK ?_); refine oK ?_; (first | refine oPt ?_ | refine oPf ?_); refine oMv ?_; (first | refine oFb ?_ | refine oFd ?_ | refine oK ?_); (first | refine oLb ?_ | refine oLd ?_ | refine oK ?_) <;> (first | refine sp (po_bytes_str rfl rfl (by first | exact .t _ | exact .own rfl (by rfl) | exact .nil _ | exact .emp _) byt23 (tyR rfl)) ?_ | refine oK ?_) <;> refine aq124 ?_ <;> (first | refine sp (po_bytes_str rfl rfl (by first | exact .t _ | exact .own rfl (by rfl) | exact .nil _ | exact .emp _) byt23 (tyR rfl)) ?_ | refine oK ?_) <;> refine aq125 ?_) | refine gc ?_ | refine ct ?_ | refine cf ?_ | refine sc ?_ ?_ <;> intro hc | refine rq rfl (rt .nil) ?_)
    rfl
  | true =>
    cases e6 with
    | false =>
      repeat' (first | refine rg 0 (aq119 ?_) | (refine rg 1 (aq216 ?_) <;> refine oC (c1) rfl (ac (ac .nil)) ?_ <;> refine aq123 ?_ <;> (first | refine sp (po_bytes_str rfl rfl (by first | exact .t _ | exact .own rfl (by rfl) | exact .nil _ | exact .emp _) byt23 (tyR rfl)) ?_ | refine oK ?_) <;> refine aq124 ?_ <;> (first | refine sp (po_bytes_str rfl rfl (by first | exact .t _ | exact .own rfl (by rfl) | exact .nil _ | exact .emp _) byt23 (tyR rfl)) ?_ | refine oK ?_) <;> refine aq125 ?_) | refine gc ?_ | refine ct ?_ | refine cf ?_ | refine sc ?_ ?_ <;> intro hc | refine rq rfl (rt .nil) ?_)
      rfl
    | true =>
      repeat' (first | refine rg 0 (aq119 ?_) | (refine rg 1 (aq216 ?_) <;> refine oC (c1) rfl (ac (ac .nil)) ?_ <;> refine aq121 ?_ <;> refine sp (po_bytes_str rfl rfl (by exact .t _) byt23 (tyR rfl)) ?_ <;> refine aq40 ?_ <;> refine sp (po_bytes_str rfl rfl (by exact .t _) byt23 (tyR rfl)) ?_ <;> refine aq122 ?_) | refine gc ?_ | refine ct ?_ | refine cf ?_ | refine sc ?_ ?_ <;> intro hc | refine rq rfl (rt .nil) ?_)
      rfl
theorem raw_at {l : List PRaw} {k : Nat} (h : k < l.length) : (l.map rawT)[k]? = some (rawT l[k]) := by
  rw [List.getElem?_map, List.getElem?_eq_getElem h]; rfl
set_option maxRecDepth 100000 in
set_option maxHeartbeats 2000000 in
theorem sameRaws_ (a : List PRaw) (ha : ∀ r ∈ a, r.heads.length ≤ 1000) (hl : a.length ≤ 1000000) : PCalls Tryz.prog 33 [.sl 3 (a.map rawT), .sl 3 (a.map rawT)] (.v (.bool true)) := by
  have hm : (a.map rawT).length = a.length := List.length_map _
  have e0 : (!decide (((a.map rawT).length : Int) = ((a.map rawT).length : Int))) = false := by simp
  refine pcalls_of Tryz.func33 rfl rfl Tryz.ntmps33 rfl ?_
  repeat' (first | refine rg 0 (aq0 ?_) | refine rg 1 (aq74 ?_) | refine rg 3 (aq0 ?_) | refine gc ?_ | refine ct ?_ | refine cf ?_ | refine sc ?_ ?_ <;> intro hc | refine rq rfl (rt .nil) ?_)
  refine swp_for (fun k => ⟨[(0, .t (.sl 3 (a.map rawT))), (1, .t (.sl 3 (a.map rawT))), (5, .t (.v (.int .i64 (k : Int))))], [], []⟩) (fun _ => True) a.length (weak_sub (.cons rfl rfl rfl (.cons rfl rfl rfl (.cons rfl rfl rfl .nil))) .nil .nil) trivial ?_
  intro k hk _
  by_cases hlt : k < a.length
  · have c1 := sameRaw_ a[k] a[k] (ha _ (List.getElem_mem hlt))
    rw [sameW_refl] at c1
    have hr := raw_at hlt
    unfold rawT at c1 hr
    repeat' (first | refine for_next hlt (weak_sub (.cons rfl rfl rfl (.cons rfl rfl rfl (.cons rfl rfl rfl .nil))) .nil .nil) trivial | refine rg 4 (aq1 ?_) | (refine rd 6 ?_; refine dMv ?_; refine dMv ?_; refine dp (pix rfl (tyS rfl)) ?_; (first | refine dp (po_load_bx_agg rfl rfl (tyT rfl) rfl (vc (vc (vc .nil))) rfl) ?_ | refine dp (po_load_agg rfl rfl (tyT rfl) rfl rfl) ?_); refine dMv ?_; refine dMv ?_; refine dp (pix rfl (tyS rfl)) ?_; (first | refine dp (po_load_bx_agg rfl rfl (tyT rfl) rfl (vc (vc (vc .nil))) rfl) ?_ | refine dp (po_load_agg rfl rfl (tyT rfl) rfl rfl) ?_); refine dC (c1) rfl (ac (ac .nil)) ?_; refine dp (po_not rfl rfl) ?_; refine dN ?_; refine oN ?_) | refine rg 5 (aq3 ?_) | refine gc ?_ | refine ct ?_ | refine cf ?_)
  · repeat' (first | refine rg 4 (aq1 ?_) | refine rg 8 (aq0 ?_) | refine gc ?_ | refine ct ?_ | refine cf ?_ | refine sc ?_ ?_ <;> intro hc | refine rq rfl (rt .nil) ?_)
    rfl
end Go.Proofs.YtpncekdhigappaaGreatDoor.Ro

/- Requests: the chapter's examples: a walk. -/
namespace Go.Proofs.YtpncekdhigappaaGreatDoor.Ro
set_option linter.unusedVariables false
set_option linter.unusedSimpArgs false
open Go.RowKit Mem Sim Opn Hd Str Pth Rq
def w1 : L8 := [71, 69, 84, 32, 47, 97, 47, 47, 98, 63, 120, 32, 72, 84, 84, 80, 47, 49, 46, 49, 13, 10, 72, 111, 115, 116, 58, 32, 65, 46, 98, 13, 10, 13, 10]
def w2 : L8 := [80, 79, 83, 84, 32, 47, 32, 72, 84, 84, 80, 47, 49, 46, 49, 13, 10, 72, 111, 115, 116, 58, 32, 97, 13, 10, 84, 114, 97, 110, 115, 102, 101, 114, 45, 69, 110, 99, 111, 100, 105, 110, 103, 58, 32, 99, 104, 117, 110, 107, 101, 100, 13, 10, 13, 10, 51, 13, 10, 97, 98, 99, 13, 10, 48, 13, 10, 13, 10]
def w3 : L8 := [80, 79, 83, 84, 32, 47, 32, 72, 84, 84, 80, 47, 49, 46, 49, 13, 10, 72, 111, 115, 116, 58, 32, 97, 13, 10, 84, 114, 97, 110, 115, 102, 101, 114, 45, 69, 110, 99, 111, 100, 105, 110, 103, 58, 32, 99, 104, 117, 110, 107, 101, 100, 13, 10, 67, 111, 110, 116, 101, 110, 116, 45, 76, 101, 110, 103, 116, 104, 58, 32, 51, 13, 10, 13, 10, 51, 13, 10, 97, 98, 99, 13, 10, 48, 13, 10, 13, 10]
def w4 : L8 := [71, 69, 84, 32, 47, 32, 72, 84, 84, 80, 47, 49, 46, 49, 10, 72, 111, 115, 116, 58, 32, 97, 13, 10, 13, 10]
def w5 : L8 := [67, 79, 78, 78, 69, 67, 84, 32, 97, 46, 98, 58, 56, 48, 32, 72, 84, 84, 80, 47, 49, 46, 49, 13, 10, 72, 111, 115, 116, 58, 32, 97, 46, 98, 58, 56, 48, 13, 10, 13, 10]
def h1 : Pl.Head := ⟨hostS, ⟨#[65, 46, 98]⟩⟩
def h2 : Pl.Head := ⟨hostS, ⟨#[97]⟩⟩
def h5 : Pl.Head := ⟨hostS, ⟨#[97, 46, 98, 58, 56, 48]⟩⟩
def x1 : PReq := ⟨⟨#[71, 69, 84]⟩, ⟨#[47, 97, 47, 47, 98, 63, 120]⟩, ⟨#[47, 97, 47, 98]⟩, ⟨#[120]⟩, ⟨#[97, 46, 98]⟩, [h1], []⟩
def x2 : PReq := ⟨⟨#[80, 79, 83, 84]⟩, ⟨#[47]⟩, ⟨#[47]⟩, ⟨#[]⟩, ⟨#[97]⟩, [h2, ⟨teS, chS⟩], [97, 98, 99]⟩
def x5 : PReq := ⟨⟨#[67, 79, 78, 78, 69, 67, 84]⟩, ⟨#[97, 46, 98, 58, 56, 48]⟩, ⟨#[]⟩, ⟨#[]⟩, ⟨#[97, 46, 98, 58, 56, 48]⟩, [h5], []⟩
def r1 : PRaw := ⟨⟨#[71, 69, 84, 32, 47, 97, 47, 47, 98, 63, 120, 32, 72, 84, 84, 80, 47, 49, 46, 49]⟩, [h1], []⟩
def r2 : PRaw := ⟨⟨#[80, 79, 83, 84, 32, 47, 32, 72, 84, 84, 80, 47, 49, 46, 49]⟩, [h2, ⟨teS, chS⟩], [97, 98, 99]⟩
def r5 : PRaw := ⟨⟨#[67, 79, 78, 78, 69, 67, 84, 32, 97, 46, 98, 58, 56, 48, 32, 72, 84, 84, 80, 47, 49, 46, 49]⟩, [h5], []⟩
theorem k1 : rawsL w1 = ([r1], 0) := by kernel_rfl
theorem k2 : rawsL w2 = ([r2], 0) := by kernel_rfl
theorem k3 : rawsL w3 = ([], 2) := by kernel_rfl
theorem k4 : rawsL w4 = ([], 2) := by kernel_rfl
theorem k5 : rawsL w5 = ([r5], 0) := by kernel_rfl
theorem o1 : ofR r1 = some x1 := by kernel_rfl
theorem o2 : ofR r2 = some x2 := by kernel_rfl
theorem o5 : ofR r5 = some x5 := by kernel_rfl
theorem of1 {l : L8} {r : PRaw} {x : PReq} (h : rawsL l = ([r], 0)) (ho : ofR r = some x) : oneT l = .tup [.agg (reqT x), .v (.int .i64 0)] := by
  unfold oneT oneR; rw [h, if_neg (fun e => e rfl)]
  dsimp only
  rw [ho]
theorem of0 {l : L8} (h : rawsL l = ([], 2)) : oneT l = .tup [.agg reqT0, .v (.int .i64 2)] := by
  unfold oneT oneR; rw [h, if_pos (by decide)]
set_option maxRecDepth 100000 in
set_option maxHeartbeats 4000000 in
theorem awake_ : PCalls Tryz.prog 30 [] (.v (.bool true)) := by
  have c1 := one2_ w1 (by decide)
  have c2 := one2_ w2 (by decide)
  have c3 := one2_ w3 (by decide)
  have c4 := one2_ w4 (by decide)
  have c5 := one2_ w5 (by decide)
  rw [of1 k1 o1] at c1
  rw [of1 k2 o2] at c2
  rw [of0 k3] at c3
  rw [of0 k4] at c4
  rw [of1 k5 o5] at c5
  unfold reqT at c1 c2 c5
  unfold reqT0 at c3 c4
  refine pcalls_of Tryz.func30 rfl rfl Tryz.ntmps30 rfl ?_
  repeat' (first | refine rg 0 (aq0 ?_) | (refine rg 1 ?_; refine sops_cb1 (.free rfl rfl) rfl rfl (tyE rfl) (dc (dc (dc (dc (dc (dc (dc (dc (dc (dc (dc (dc (dc (dc (dc (dc (dc (dc (dc (dc (dc (dc (dc (dc (dc (dc (dc (dc (dc (dc (dc (dc (dc (dc (dc (.nil _)))))))))))))))))))))))))))))))))))) rfl rfl rfl ?_; refine sops_cb2 (.free rfl rfl) rfl rfl rfl rfl byt23 rfl ?_; refine oC (c1) rfl (ac .nil) ?_; refine aq29 ?_; refine sal str57 ?_; refine aq54 ?_) | (refine rg 2 ?_; refine sops_cb1 (.free rfl rfl) rfl rfl (tyE rfl) (dc (dc (dc (dc (dc (dc (dc (dc (dc (dc (dc (dc (dc (dc (dc (dc (dc (dc (dc (dc (dc (dc (dc (dc (dc (dc (dc (dc (dc (dc (dc (dc (dc (dc (dc (dc (dc (dc (dc (dc (dc (dc (dc (dc (dc (dc (dc (dc (dc (dc (dc (dc (dc (dc (dc (dc (dc (dc (dc (dc (dc (dc (dc (dc (dc (dc (dc (dc (dc (.nil _)))))))))))))))))))))))))))))))))))))))))))))))))))))))))))))))))))))) rfl rfl rfl ?_; refine sops_cb2 (.free rfl rfl) rfl rfl rfl rfl byt23 rfl ?_; (first | refine oC (c1) rfl (ac .nil) ?_ | refine oC (c2) rfl (ac .nil) ?_); refine aq29 ?_; refine sal str57 ?_; refine aq54 ?_) | (refine rg 3 ?_; refine sops_cb1 (.free rfl rfl) rfl rfl (tyE rfl) (dc (dc (dc (dc (dc (dc (dc (dc (dc (dc (dc (dc (dc (dc (dc (dc (dc (dc (dc (dc (dc (dc (dc (dc (dc (dc (dc (dc (dc (dc (dc (dc (dc (dc (dc (dc (dc (dc (dc (dc (dc (dc (dc (dc (dc (dc (dc (dc (dc (dc (dc (dc (dc (dc (dc (dc (dc (dc (dc (dc (dc (dc (dc (dc (dc (dc (dc (dc (dc (dc (dc (dc (dc (dc (dc (dc (dc (dc (dc (dc (dc (dc (dc (dc (dc (dc (dc (dc (.nil _))))))))))))))))))))))))))))))))))))))))))))))))))))))))))))))))))))))))))))))))))))))))) rfl rfl rfl ?_; refine sops_cb2 (.free rfl rfl) rfl rfl rfl rfl byt23 rfl ?_; (first | refine oC (c1) rfl (ac .nil) ?_ | refine oC (c2) rfl (ac .nil) ?_ | refine oC (c3) rfl (ac .nil) ?_); refine aq29 ?_; refine sal str57 ?_; refine aq54 ?_) | (refine rg 4 ?_; refine sops_cb1 (.free rfl rfl) rfl rfl (tyE rfl) (dc (dc (dc (dc (dc (dc (dc (dc (dc (dc (dc (dc (dc (dc (dc (dc (dc (dc (dc (dc (dc (dc (dc (dc (dc (dc (.nil _))))))))))))))))))))))))))) rfl rfl rfl ?_; refine sops_cb2 (.free rfl rfl) rfl rfl rfl rfl byt23 rfl ?_; (first | refine oC (c1) rfl (ac .nil) ?_ | refine oC (c2) rfl (ac .nil) ?_ | refine oC (c3) rfl (ac .nil) ?_ | refine oC (c4) rfl (ac .nil) ?_); refine aq29 ?_; refine sal str57 ?_; refine aq54 ?_) | (refine rg 5 ?_; refine sops_cb1 (.free rfl rfl) rfl rfl (tyE rfl) (dc (dc (dc (dc (dc (dc (dc (dc (dc (dc (dc (dc (dc (dc (dc (dc (dc (dc (dc (dc (dc (dc (dc (dc (dc (dc (dc (dc (dc (dc (dc (dc (dc (dc (dc (dc (dc (dc (dc (dc (dc (.nil _)))))))))))))))))))))))))))))))))))))))))) rfl rfl rfl ?_; refine sops_cb2 (.free rfl rfl) rfl rfl rfl rfl byt23 rfl ?_; (first | refine oC (c1) rfl (ac .nil) ?_ | refine oC (c2) rfl (ac .nil) ?_ | refine oC (c3) rfl (ac .nil) ?_ | refine oC (c4) rfl (ac .nil) ?_ | refine oC (c5) rfl (ac .nil) ?_); refine aq29 ?_; refine sal str57 ?_; refine aq54 ?_) | (refine rg 6 ?_; refine oMv ?_; refine oCm ?_; refine oMv ?_; refine oFb ?_ <;> refine oLb ?_ <;> refine sp (po_str rfl rfl rfl rfl) ?_ <;> refine oPt ?_ <;> refine oMv ?_ <;> refine oFb ?_ <;> refine oLb ?_ <;> refine sp (po_str rfl rfl rfl rfl) ?_ <;> refine oPt ?_ <;> refine oMv ?_ <;> refine oFb ?_ <;> refine oLb ?_ <;> refine sp (po_str rfl rfl rfl rfl) ?_ <;> refine oPt ?_ <;> refine oMv ?_ <;> refine oMv ?_ <;> refine oCm ?_ <;> refine oPt ?_ <;> refine oMv ?_ <;> refine oFb ?_ <;> refine oLb ?_ <;> refine sp (po_bytes_str (l := [97, 98, 99]) rfl rfl (.t _) byt23' rfl) ?_ <;> refine sp (po_str rfl rfl rfl rfl) ?_ <;> refine oPt ?_ <;> refine oMv ?_ <;> refine oMv ?_ <;> refine oCm ?_ <;> refine oPt ?_ <;> refine oMv ?_ <;> refine oMv ?_ <;> refine oCm ?_ <;> refine oPt ?_ <;> refine oMv ?_ <;> refine oMv ?_ <;> refine oCm ?_ <;> refine oPt ?_ <;> refine oMv ?_ <;> refine oFb ?_ <;> refine oLb ?_ <;> refine sp (po_str rfl rfl rfl rfl) ?_ <;> refine oPt ?_ <;> refine oMv ?_ <;> refine oFb ?_ <;> refine oLb ?_ <;> refine sp (po_str rfl rfl rfl rfl) ?_ <;> refine oPt ?_ <;> refine oAs ?_ <;> refine oN ?_) | refine gc ?_ | refine ct ?_ | refine cf ?_ | refine sc ?_ ?_ <;> intro hc | refine rq rfl (rt .nil) ?_)
  rfl
end Go.Proofs.YtpncekdhigappaaGreatDoor.Ro

/- Answers, messages, requests: in memory, opened, as trees of data. -/
namespace Go.Proofs.YtpncekdhigappaaGreatDoor.Rq
set_option linter.unusedVariables false
set_option linter.unusedSimpArgs false
open Go.RowKit Go.WideShapes Go.ChangeShapes Go.Joins Mem Sim Opn Hd An
def ByteC : Rel UInt8 := fun _ _ b cs => cs = [.int .u8 (b.toNat : Int)]
theorem one_byte : Tryz.prog.cellsOf 5 = 1 := by kernel_rfl
theorem one_int : Tryz.prog.cellsOf 3 = 1 := by kernel_rfl
theorem byte_opens : Opens 5 ByteC := by
  intro H enc w base spare held fuel cs x h
  obtain ⟨n, rfl, _, hw⟩ := DataW.trod_int Tryz.underlying5 h
  have hb := bounds_u8 hw
  refine ⟨UInt8.ofNat n.toNat, ?_⟩
  unfold ByteC
  rw [UInt8.toNat_ofNat']
  congr 2; omega
theorem bytes_opens : Opens 23 (SliceC ByteC 1) := opens_slice (R := ByteC) Tryz.underlying23 one_byte (by omega) byte_opens
theorem ints_opens : Opens 43 (SliceC (IntC .i64) 1) := opens_slice (R := IntC .i64) Tryz.underlying43 one_int (by omega) (opens_int Tryz.underlying3)
theorem byte_bwd {B : Nat} {w : World} (x : UInt8) (cs : List Value) (h : ByteC B w x cs) : CellsAre (allm w) (byteT x) cs := by
  obtain rfl := h
  exact cellsAre_cons (.v _) rfl (cellsAre_nil _)
def intT (n : Int) : List T := [.v (.int .i64 n)]
theorem int_bwd' {B : Nat} {w : World} (x : Int) (cs : List Value) (h : IntC .i64 B w x cs) : CellsAre (allm w) (intT x) cs := by
  obtain ⟨rfl, _⟩ := h
  exact cellsAre_cons (.v _) rfl (cellsAre_nil _)
theorem sl_bwdA {α : Type} {R : Mem.Rel α} {enc : α → List T} {sz B : Nat} {w : World} {A : Option Addr} {xs : List α} {cap : Nat} (hsz : ∀ x, (enc x).length = sz) (hR : ∀ x cs, R B w x cs → CellsAre (allm w) (enc x) cs) (hA : SliceAt R sz B w A xs) (h1 : xs.length ≤ cap) (h2 : cap ≤ maxLen) : TR (allm w) (.sl sz (xs.map enc)) (.slice A xs.length cap) :=
  tr_rows_bwd (allm w) hA h1 h2 hsz (fun x _ cs hr => hR x cs hr) (fun b o v _ h => h)
theorem sl_ok {α : Type} {R : Mem.Rel α} {sz B : Nat} {w : World} {A : Option Addr} {xs : List α} {ok : α → Prop} (hR : ∀ B w x cs, R B w x cs → ok x) (hA : SliceAt R sz B w A xs) : ∀ x ∈ xs, ok x := fun x hx => by
  obtain ⟨k, hk⟩ := List.getElem?_of_mem hx
  obtain ⟨b, off, cs, _, _, _, _, hr⟩ := hA k x hk
  exact hR _ _ _ _ hr
end Go.Proofs.YtpncekdhigappaaGreatDoor.Rq

/- utf8's tables: that they lie in memory, from what a row lays. -/
namespace Go.Proofs.YtpncekdhigappaaGreatDoor.Mp
set_option linter.unusedVariables false
set_option linter.unusedSimpArgs false
open Go.RowKit Mem Sim Go.Lib
theorem lays260 : Lays.n260 Tryz.prog rho where
  mixed := lays230.mixed
  f260 := lays230.f260
  t0 := lays230.t0
  a0 := lays230.a0
  z0 := lays230.z0
  v0 := lays230.v0
  t3 := lays230.t3
  a3 := lays230.a3
  z3 := lays230.z3
  v3 := lays230.v3
  t4 := lays230.t4
  a4 := lays230.a4
  z4 := lays230.z4
  v4 := lays230.v4
  t5 := lays230.t5
  a5 := lays230.a5
  z5 := lays230.z5
  v5 := lays230.v5
  t9 := lays230.t9
  a9 := lays230.a9
  z9 := lays230.z9
  v9 := lays230.v9
  t21 := lays230.t21
  a21 := lays230.a21
  z21 := lays230.z21
  v21 := lays230.v21
  t46 := lays230.t46
  a46 := lays230.a46
  z46 := lays230.z46
  v46 := lays230.v46
  t119 := lays230.t119
  a119 := lays230.a119
  z119 := lays230.z119
  t138 := lays230.t138
  a138 := lays230.a138
  z138 := lays230.z138
  v138 := lays230.v138
  t139 := lays230.t139
  a139 := lays230.a139
  z139 := lays230.z139
  v139 := lays230.v139
  g3 := lays230.g3
  g4 := lays230.g4
theorem u8extra : U8Extra Tryz.prog rho where
  n3 := by kernel_rfl
  n4 := by kernel_rfl
  y3 := by kernel_rfl
  y4 := by kernel_rfl
  c5 := by kernel_rfl
  c119 := by kernel_rfl
  c138 := by kernel_rfl
theorem tabs_law {w : World} (h : laidMetH Tryz.prog [("unicode/utf8.acceptRanges", Rows.laid_unicode_utf8_acceptRanges), ("unicode/utf8.first", Rows.laid_unicode_utf8_first)] w) : GT (allm w) := by
  have h2 : laidMet Tryz.prog [("unicode/utf8.acceptRanges", Rows.laid_unicode_utf8_acceptRanges), ("unicode/utf8.first", Rows.laid_unicode_utf8_first)] w := by
    rw [MakeChecks.laidMetH_plain _ _ _ (by kernel_rfl)] at h; exact h
  have e1 : (Rows.laid_unicode_utf8_first : DataW Unit) = firstData := by kernel_rfl
  have e2 : (Rows.laid_unicode_utf8_acceptRanges : DataW Unit) = acceptData := by kernel_rfl
  have r1 := laidMet.reads h2 (n := "unicode/utf8.first") (d := firstData) (by rw [← e1]; simp)
  have r2 := laidMet.reads h2 (n := "unicode/utf8.acceptRanges") (d := acceptData) (by rw [← e2]; simp)
  obtain ⟨t1, t2⟩ := utf8Tabs_of_reads lays260 u8extra r1 r2
  intro b o v hv
  unfold tabC at hv
  split at hv
  · rename_i hb
    split at hv
    · rename_i ho
      injection hv with hv; subst hv hb
      exact t1 o ho
    · cases hv
  · split at hv
    · rename_i hb
      split at hv
      · rename_i ho
        injection hv with hv; subst hv hb
        obtain ⟨u1, u2⟩ := t2 (o / 2) (by omega)
        split
        · rename_i h0
          rw [show 2 * (o / 2) = o by omega] at u1
          exact u1
        · rename_i h0
          rw [show 2 * (o / 2) + 1 = o by omega] at u2
          exact u2
      · cases hv
    · cases hv
end Go.Proofs.YtpncekdhigappaaGreatDoor.Mp
