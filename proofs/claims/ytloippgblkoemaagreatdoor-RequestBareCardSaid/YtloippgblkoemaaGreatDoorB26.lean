/- Merged by bundles.py: SimJn, SimPath9a, SimAn4, SimAn5, SimAn6, SimOf3, SimOf3b. -/
import Derived.Test.YtloippgblkoemaaGreatDoorB11
import Derived.Test.YtloippgblkoemaaGreatDoorB25
import Derived.Test.YtloippgblkoemaaGreatDoorB0
import Derived.Test.YtloippgblkoemaaGreatDoorB13
import Derived.Test.YtloippgblkoemaaGreatDoorB21
import Derived.Test.YtloippgblkoemaaGreatDoorB24
/- A logic of states: ways that meet again. -/
namespace Go.Proofs.YtloippgblkoemaaGreatDoor.Sim
set_option linter.unusedVariables false
set_option linter.unusedSimpArgs false
open Go.RowKit Mem
def joinF (N : Nat) (st' : St) (Q : Exit → St → Prop) : Exit → St → Prop
  | .normal, s => Weak N s st'
  | e, s => Q e s
structure JoinQ (N : Nat) (st' : St) (Q : Exit → St → Prop) (e : Exit) (s : St) : Prop where
  go : joinF N st' Q e s
section
variable {P : Program} {N : Nat} {Q : Exit → St → Prop} {st : St} {x y : Code}
theorem swp_joinQ {c : Code} (st' : St) (h : SWp P N c (JoinQ N st' Q) st) (k : Q .normal st') : SWp P N c Q st :=
  swp_join (st' := st') (swp_mono h fun e s hq => by
    cases e <;> exact hq.go) k
theorem join_go {st' s : St} (h : Weak N s st') : JoinQ N st' Q .normal s := ⟨h⟩
end
end Go.Proofs.YtloippgblkoemaaGreatDoor.Sim

/- Targets: the document's answer, what is said by %: its pieces, walked. -/
namespace Go.Proofs.YtloippgblkoemaaGreatDoor.Pth
set_option linter.unusedVariables false
set_option linter.unusedSimpArgs false
open Go.RowKit Mem Sim Opn Str Hd
def fR (id : Nat) : Code → Option Code
  | .region i l b => if i = id then some (.region i l b) else none
  | .seq x y => match fR id x with
    | some c => some c
    | none => fR id y
  | .block _ c => fR id c
  | .loop c => fR id c
  | .scope c => fR id c
  | .cond _ x y => match fR id x with
    | some c => some c
    | none => fR id y
  | _ => none
def bodyOf (f : Func) : Code := f.body.getD .skip
end Go.Proofs.YtloippgblkoemaaGreatDoor.Pth

/- Answers: a text's beginning; is a text plain; walks. -/
namespace Go.Proofs.YtloippgblkoemaaGreatDoor.An
set_option linter.unusedVariables false
set_option linter.unusedSimpArgs false
open Go.RowKit Mem Sim Opn Hd Str Rq
set_option maxRecDepth 100000 in
theorem write1_ (c : Nat) : PCalls Tryz.prog 55 [.v (.int .i32 (c : Int))] (.v (.bool (oddR c))) := by
  have h2 : decide (126 < (c : Int)) = decide (126 < c) := by by_cases h : 126 < c <;> simp [h] <;> omega
  unfold oddR
  refine pcalls_of Tryz.func55 rfl rfl Tryz.ntmps55 rfl ?_
  by_cases h : c < 32
  · rw [decide_eq_true h]
    repeat' (first | refine rg 0 (aq0 ?_) | refine rg 1 (aq110 ?_) | refine gc ?_ | refine ct ?_ | refine cf ?_ | refine sc ?_ ?_ <;> intro hc | refine rq rfl (rt .nil) ?_)
    rfl
  · rw [decide_eq_false h]
    repeat' (first | refine rg 0 (aq0 ?_) | refine rg 1 (aq111 ?_) | refine gc ?_ | refine ct ?_ | refine cf ?_ | refine sc ?_ ?_ <;> intro hc | refine rq rfl (rt .nil) ?_)
    rw [← h2]; rfl
end Go.Proofs.YtloippgblkoemaaGreatDoor.An

/- Answers: is a text plain; a number of three digits; walks. -/
namespace Go.Proofs.YtloippgblkoemaaGreatDoor.An
set_option linter.unusedVariables false
set_option linter.unusedSimpArgs false
open Go.RowKit Mem Sim Opn Hd Str Rq
def oddAt (s : ByteArray) : Int := if plainP s then -1 else (s.toList.findIdx oddB : Int)
theorem even_rune {s : ByteArray} {k : Nat} (h : k < s.size) (hd : evenB s[k] = true) : Utf8.decode s k = ((s[k]).toNat, 1) ∧ oddR s[k].toNat = false := by
  unfold evenB oddB at hd
  have hd : oddR s[k].toNat = false := by simpa using hd
  have h2 := hd
  unfold oddR at h2
  simp at h2
  exact ⟨decode_ascii s k h (by omega), hd⟩
theorem odd_rune {s : ByteArray} {k : Nat} (h : k < s.size) (hd : evenB s[k] = false) : oddR (Utf8.decode s k).1 = true := by
  unfold evenB oddB at hd
  have hd : oddR s[k].toNat = true := by simpa using hd
  by_cases ha : s[k].toNat < 128
  · rw [decode_ascii s k h ha]; exact hd
  · have := (decode_high s k h (by omega)).1
    unfold oddR; simp; omega
theorem oddAt_at {s : ByteArray} {k : Nat} (hk : k < s.size) (hI : (s.toList.take k).all evenB = true) (hd : evenB s[k] = false) : oddAt s = (k : Int) := by
  have hl := toList_len s
  have h1 : plainP s = false := all_bad hk hd
  unfold oddAt
  rw [h1, if_neg (by simp)]
  have : s.toList.findIdx oddB = k := by
    rw [List.findIdx_eq (by omega)]
    refine ⟨?_, fun j hj => ?_⟩
    · rw [toList_at s hk]; unfold evenB at hd; simpa using hd
    · have h2 := (List.all_eq_true.1 hI) (s.toList[j]'(by omega)) (List.mem_of_getElem? (by rw [List.getElem?_take_of_lt hj]; exact List.getElem?_eq_getElem (by omega)))
      unfold evenB at h2; simpa using h2
  rw [this]
set_option maxRecDepth 100000 in
set_option maxHeartbeats 2000000 in
theorem indexFunc_ (F : FuncId) (hF : ∀ c : Nat, PCalls Tryz.prog F ([.v (.int .i32 (c : Int))] ++ []) (.v (.bool (oddR c)))) (s : ByteArray) (hs : s.size ≤ maxLen) : PCalls Tryz.prog 74 [.v (.string s), .clo F [], .v (.bool true)] (.v (.int .i64 (oddAt s))) := by
  unfold maxLen at hs
  refine pcalls_of Tryz.func74 rfl rfl Tryz.ntmps74 rfl ?_
  repeat' (first | refine rg 0 (aq0 ?_) | refine rg 1 (aq48 ?_) | refine gc ?_ | refine ct ?_ | refine cf ?_ | refine sc ?_ ?_ <;> intro hc | refine rq rfl (rt .nil) ?_)
  refine swp_for (fun k => ⟨[(1, .t (.clo F [])), (2, .t (.v (.bool true))), (10, .bp 1000 0)], [(1000, itC s k)], []⟩) (fun k => (s.toList.take k).all evenB = true) s.size (weak_sub (.cons rfl rfl rfl (.cons rfl rfl rfl (.cons rfl rfl rfl .nil))) (.cons rfl rfl rfl .nil) .nil) rfl ?_
  intro k hk hI
  by_cases hlt : k < s.size
  · have hK := hF (Utf8.decode s k).1
    cases hd : evenB s[k] with
    | true =>
      obtain ⟨hdec, ho⟩ := even_rune hlt hd
      rw [hdec] at hK
      rw [ho] at hK
      repeat' (first | refine for_next hlt (weak_sub (.cons rfl rfl rfl (.cons rfl rfl rfl (.cons rfl rfl rfl .nil))) (.cons rfl rfl rfl .nil) .nil) (all_snoc hI hlt hd) | refine rg 2 (aq28 ?_) | refine rg 3 (aq109 ?_) | (refine rg 4 (aq15 ?_); refine sp (po_call_clo rfl rfl (ac .nil) (hK)) ?_; refine oMv ?_; refine sp (po_boolq rfl rfl rfl (by kernel_rfl) (by exact .inl rfl)) ?_; refine oN ?_) | refine gc ?_ | refine ct ?_ | refine cf ?_)
    | false =>
      have ho := odd_rune hlt hd
      rw [ho] at hK
      rw [oddAt_at hlt hI hd]
      generalize hdec : Utf8.decode s k = ck at hK
      obtain ⟨c, w⟩ := ck
      repeat' (first | refine rg 2 (aq28 ?_) | refine rg 3 (aq109 ?_) | (refine rg 4 (aq15 ?_); refine sp (po_call_clo rfl rfl (ac .nil) (hK)) ?_; refine oMv ?_; refine sp (po_boolq rfl rfl rfl (by kernel_rfl) (by exact .inl rfl)) ?_; refine oN ?_) | refine rg 5 (aq4 ?_) | refine gc ?_ | refine ct ?_ | refine cf ?_ | refine sc ?_ ?_ <;> intro hc | refine rq rfl (rt .nil) ?_)
      rfl
  · obtain rfl : k = s.size := by omega
    rw [take_full s (Nat.lt_irrefl _)] at hI
    have e1 : oddAt s = -1 := by unfold oddAt plainP; rw [hI]; rfl
    rw [e1]
    repeat' (first | refine rg 2 (aq30 ?_) | refine rg 6 (aq0 ?_) | refine gc ?_ | refine ct ?_ | refine cf ?_ | refine sc ?_ ?_ <;> intro hc | refine rq rfl (rt .nil) ?_)
    rfl
set_option maxRecDepth 100000 in
theorem indexFunc2_ (F : FuncId) (hF : ∀ c : Nat, PCalls Tryz.prog F ([.v (.int .i32 (c : Int))] ++ []) (.v (.bool (oddR c)))) (s : ByteArray) (hs : s.size ≤ maxLen) : PCalls Tryz.prog 49 [.v (.string s), .clo F []] (.v (.int .i64 (oddAt s))) := by
  have c1 := indexFunc_ F hF s hs
  refine pcalls_of Tryz.func49 rfl rfl Tryz.ntmps49 rfl ?_
  repeat' (first | refine rg 0 (aq0 ?_) | (refine rg 1 (aq15 ?_); refine oC (c1) rfl (ac (ac (ac .nil))) ?_; refine aq0 ?_) | refine gc ?_ | refine ct ?_ | refine cf ?_ | refine sc ?_ ?_ <;> intro hc | refine rq rfl (rt .nil) ?_)
  rfl
set_option maxRecDepth 100000 in
theorem containsFunc_ (F : FuncId) (hF : ∀ c : Nat, PCalls Tryz.prog F ([.v (.int .i32 (c : Int))] ++ []) (.v (.bool (oddR c)))) (s : ByteArray) (hs : s.size ≤ maxLen) : PCalls Tryz.prog 29 [.v (.string s), .clo F []] (.v (.bool (!plainP s))) := by
  have c1 := indexFunc2_ F hF s hs
  have e : (!plainP s) = decide (0 ≤ oddAt s) := by
    unfold oddAt
    cases plainP s <;> simp
  rw [e]
  refine pcalls_of Tryz.func29 rfl rfl Tryz.ntmps29 rfl ?_
  repeat' (first | refine rg 0 (aq0 ?_) | (refine rg 1 (aq15 ?_); refine oC (c1) rfl (ac (ac .nil)) ?_; refine aq43 ?_) | refine gc ?_ | refine ct ?_ | refine cf ?_ | refine sc ?_ ?_ <;> intro hc | refine rq rfl (rt .nil) ?_)
  rfl
end Go.Proofs.YtloippgblkoemaaGreatDoor.An

/- Answers: of a message; walks. -/
namespace Go.Proofs.YtloippgblkoemaaGreatDoor.An
set_option linter.unusedVariables false
set_option linter.unusedSimpArgs false
open Go.RowKit Mem Sim Opn Hd Str Rq
set_option maxRecDepth 100000 in
set_option maxHeartbeats 1000000 in
theorem cloneBytesV (rows : List (List T)) (hbd : rows.length * 1 ≤ 140737488355328) (hmx : rows.length ≤ maxLen) : LCalls Tryz.prog 28 [.t (.sl 1 rows)] [] [] (.own 101 rows.length) [] [(101, ⟨5, 1, rows⟩)] := by
  have hbd' : 0 + rows.length * 1 ≤ 140737488355328 := by omega
  refine lcalls_of Tryz.func28 rfl rfl Tryz.ntmps28 rfl ?_
  repeat' (first | refine rg 0 (aq0 ?_) | (refine rg 1 ?_; refine oMv ?_; refine sops_isnil (.free rfl rfl) rfl rfl rfl rfl (.t _) (tyS rfl) (fun b hnil => ?_); refine oN ?_) | refine gc ?_ | refine ct ?_ | refine cf ?_ | refine sc ?_ ?_ <;> intro hc | refine rq rfl (rt .nil) ?_)
  · obtain rfl := hnil hc
    repeat' (first | refine then_go ?_ | refine swp_seq ?_ | refine swp_ret_weak (weak_own0 (i := 101) 5 1 (s := 2) rfl rfl) ?_ | refine rg 2 (aq0 ?_) | refine swp_ret ?_ | refine swp_skip ?_ | refine swp_block ?_ | refine swp_exit ?_ | refine block_go ?_ | refine block_exit ?_ | refine block_far rfl ?_ | refine block_ret ?_ | refine then_ret ?_ | refine then_exit ?_ | refine for_ret ?_ | refine for_exit ?_ | refine ct ?_ | refine cf ?_ | refine sc ?_ ?_ <;> intro hc | exact retl1 (by exact .inr rfl) rfl (.tmp rfl rfl .nil) rfl .nil (.cons rfl (by rfl) .nil))
  · repeat' (first | (refine rg 3 ?_; refine sops_build0i 101 (.free rfl rfl) rfl rfl rfl (tyE rfl) rfl ?_; refine oMv ?_; refine sap rfl (tyE rfl) ?_; refine oAs ?_; refine oN ?_) | refine gc ?_ | refine ct ?_ | refine cf ?_ | refine sc ?_ ?_ <;> intro hc | refine retl (by exact .inr rfl) rfl (.tmp rfl rfl .nil) ?_ rfl .nil (.cons rfl (by rfl) .nil))
    rfl
structure RawOk (r : PRaw) : Prop where
  hn : r.heads.length ≤ 1000
  hh : ∀ h ∈ r.heads, okHead h
  hb : r.body.length ≤ 100000
  hs : r.start.size ≤ maxLen
end Go.Proofs.YtloippgblkoemaaGreatDoor.An

/- Requests: of a message: a walk. -/
namespace Go.Proofs.YtloippgblkoemaaGreatDoor.Ro
set_option linter.unusedVariables false
set_option linter.unusedSimpArgs false
open Go.RowKit Mem Sim Opn Hd Str Pth Rq
set_option maxRecDepth 100000 in
theorem split_ (s : ByteArray) (c : UInt8) (hs : s.size ≤ 1000000) : PCalls Tryz.prog 59 [.v (.string s), .v (.string ⟨#[c]⟩)] (.sl 1 ((splC c s.toList).map Pth.strT)) := by
  have c0 := genSplit_ s c hs
  refine pcalls_of Tryz.func59 rfl rfl Tryz.ntmps59 rfl ?_
  repeat' (first | refine rg 0 (aq0 ?_) | (refine rg 1 (aq15 ?_); refine oC (c0) rfl (ac (ac (ac (ac .nil)))) ?_; refine aq0 ?_) | refine gc ?_ | refine ct ?_ | refine cf ?_ | refine sc ?_ ?_ <;> intro hc | refine rq rfl (rt .nil) ?_)
  rfl
set_option maxRecDepth 100000 in
set_option maxHeartbeats 1000000 in
theorem ownRawP_ (r : PRaw) (hn : r.heads.length ≤ 1000) (hbd : r.body.length ≤ 1000000) : PCalls Tryz.prog 66 [.agg (rawT r)] (.agg (rawT r)) := by
  have hm1 : (r.heads.map headT).length = r.heads.length := List.length_map _
  have hm2 : (r.body.map byteT).length = r.body.length := List.length_map _
  have c1 := cloneHeads 100 (.inl rfl) (r.heads.map headT) (by rw [hm1]; omega) (by rw [hm1]; unfold maxLen; omega)
  have c2 := An.cloneBytesV (r.body.map byteT) (by rw [hm2]; omega) (by rw [hm2]; unfold maxLen; omega)
  refine pcalls_of Tryz.func66 rfl rfl Tryz.ntmps66 rfl ?_
  repeat' (first | (refine rg 0 ?_; refine sbx ?_; refine sal str25 ?_; refine oN ?_) | ((refine swp_any (id := 1) [[], [], [100], [], [], [101], [], [1], [], [1]] [[], [], [], [100], [100], [], [101], [], [], []] mixed (by kernel_rfl) ?_) <;> refine yp (fun _ _ => po_field_bx rfl rfl (tyF rfl)) ?_ <;> refine yp (fun _ _ => po_load_bx rfl rfl (tyT rfl) rfl rfl) ?_ <;> (refine sany_eff [] [(100, _)] (.free rfl rfl) rfl rfl (fun _ _ hb ho => e_lcall (c1) (fun i => i) (fun i => i) rfl (by ((repeat' (first | exact .nil | refine .cons rfl rfl rfl ?_)) <;> fail)) .nil .nil rfl rfl (by ((repeat' (exact .nil)) <;> fail)) (by ((repeat' (first | exact .nil | refine .old rfl ?_ | refine .new (ho _ rfl rfl) ?_)) <;> fail)) .nil) ?_) <;> refine yp (fun _ _ => po_field_bx rfl rfl (tyF rfl)) ?_ <;> refine yp (fun _ _ => po_load_bx rfl rfl (tyT rfl) rfl rfl) ?_ <;> (first | refine sany_eff [] [(101, _)] (.free rfl rfl) rfl rfl (fun _ _ hb ho => e_lcall (c1) (fun i => i) (fun i => i) rfl (by first | ((repeat' (first | exact .nil | refine .cons rfl rfl rfl ?_ | refine .vw rfl (by first | exact .t _ | exact .own rfl (by rfl) | exact .nil _ | exact .emp _ | exact .fn _) ?_)) <;> fail) | fail) .nil .nil rfl rfl (by first | ((repeat' (first | exact .nil | refine .old rfl ?_ | refine .new (hb _ rfl rfl) ?_)) <;> fail) | fail) (by first | ((repeat' (first | exact .nil | refine .old rfl ?_ | refine .new (ho _ rfl rfl) ?_)) <;> fail) | fail) .nil) ?_ | refine sany_eff [] [(101, _)] (.free rfl rfl) rfl rfl (fun _ _ hb ho => e_lcall (c2) (fun i => i) (fun i => i) rfl (by ((repeat' (first | exact .nil | refine .cons rfl rfl rfl ?_)) <;> fail)) .nil .nil rfl rfl (by ((repeat' (exact .nil)) <;> fail)) (by ((repeat' (first | exact .nil | refine .old rfl ?_ | refine .new (ho _ rfl rfl) ?_)) <;> fail)) .nil) ?_) <;> refine yp (fun _ _ => po_field_bx rfl rfl (tyF rfl)) ?_ <;> refine sany_eff [(1, _)] [] (.free rfl rfl) rfl rfl (fun _ _ _ _ => e_store rfl rfl rfl rfl rfl rfl (tyT rfl) rfl rfl) ?_ <;> refine yp (fun _ _ => po_field_bx rfl rfl (tyF rfl)) ?_ <;> refine sany_eff [(1, _)] [] (.free rfl rfl) rfl rfl (fun _ _ _ _ => e_store rfl rfl rfl rfl rfl rfl (tyT rfl) rfl rfl) ?_ <;> refine sany_nil ?_) | (refine rg 2 ?_; (refine sp (po_load_bx_agg rfl rfl (tyT rfl) rfl (vc (vc (vc .nil))) rfl) ?_); refine oS ?_; refine oN ?_) | refine gc ?_ | refine ct ?_ | refine cf ?_ | refine sc ?_ ?_ <;> intro hc | refine rq rfl (.cell rfl rfl (tyT rfl) (vc (vc (vc .nil))) rfl .nil) ?_)
  rfl
def reqT (x : PReq) : List T := [.v (.string x.method), .v (.string x.target), .v (.string x.path), .v (.string x.query), .v (.string x.host), headsT x.heads, .sl 1 (x.body.map byteT)]
def reqT0 : List T := [.v (.string ⟨#[]⟩), .v (.string ⟨#[]⟩), .v (.string ⟨#[]⟩), .v (.string ⟨#[]⟩), .v (.string ⟨#[]⟩), .v (.slice none 0 0), .v (.slice none 0 0)]
def ofT (o : Option PReq) : T := match o with
  | some x => .tup [.agg (reqT x), .v (.int .i64 0)]
  | none => .tup [.agg reqT0, .v (.int .i64 2)]
theorem bs_httpL (v : L8) : decide (bs v = ⟨#[72, 84, 84, 80, 47, 49, 46, 49]⟩) = decide (v = httpL) := bs_dec v httpL
theorem bs_connL (v : L8) : decide (bs v = ⟨#[67, 79, 78, 78, 69, 67, 84]⟩) = decide (v = connL) := bs_dec v connL
abbrev s0A : A := .t (.v (.string ⟨#[]⟩))
abbrev nlA : A := .t (.v (.slice none 0 0))
abbrev bxP (r : PRaw) : List (Nat × List A) := [(1, [.t (.v (.string r.start)), .t (headsT r.heads), .t (.sl 1 (r.body.map byteT))]), (2, [s0A, s0A, s0A, s0A, s0A, nlA, nlA])]
def condP (ps : List L8) (vs : List ByteArray) : Bool := match ps, vs with
  | [m, _, v], [h] => !(methB m && (decide (v = httpL) && hostB (h.toList.map lowU)))
  | _, _ => true
theorem condP_3 {ps : List L8} {vs : List ByteArray} (h : ps.length ≠ 3) : condP ps vs = true := by
  unfold condP
  split
  · exact absurd rfl h
  · rfl
theorem condP_1 {ps : List L8} {vs : List ByteArray} (h : vs.length ≠ 1) : condP ps vs = true := by
  unfold condP
  split
  · exact absurd rfl h
  · rfl
abbrev tmP (ps : List L8) (vs : List ByteArray) : List (Nat × A) := [(1, .bp 1 0), (2, .bp 2 0), (4, .t (.sl 1 (ps.map Pth.strT))), (5, .t (.sl 1 (vs.map Hd.strT)))]
set_option maxRecDepth 100000 in
set_option maxHeartbeats 4000000 in
theorem r3_ {c : Code} (hc : fR 3 (bodyOf Tryz.f38) = some c) {Q : Exit → St → Prop} (r : PRaw) (ps : List L8) (vs : List ByteArray) (hps : ∀ p ∈ ps, p.length ≤ 100000) (hvs : ∀ v ∈ vs, v.size ≤ 200000) (b : Bool) (hb : condP ps vs = b) (h : Q .normal ⟨(45, .t (.v (.bool b))) :: tmP ps vs, bxP r, []⟩) : SWp Tryz.prog 96 c Q ⟨tmP ps vs, bxP r, []⟩ := by
  obtain rfl := Option.some.inj hc
  clear hc
  refine swp_joinQ _ ?_ h
  clear h
  by_cases h3 : ps.length = 3
  · obtain ⟨m, t, v, rfl⟩ : ∃ m t v, ps = [m, t, v] := by
      match ps, h3 with
      | [m, t, v], _ => exact ⟨m, t, v, rfl⟩
    have e0 : (!decide (((List.map Pth.strT [m, t, v]).length : Int) = 3)) = false := rfl
    have c3 := method_ (bs m) (by have := hps m (by simp); rw [bs_size]; omega)
    rw [bs_toList] at c3
    have e3 := bs_httpL v
    clear hps h3
    by_cases h1 : vs.length = 1
    · obtain ⟨w, rfl⟩ : ∃ w, vs = [w] := by
        match vs, h1 with
        | [w], _ => exact ⟨w, rfl⟩
      have e1 : (!decide (((List.map Hd.strT [w]).length : Int) = 1)) = false := rfl
      unfold condP at hb
      dsimp only at hb
      have hz := hvs w (by simp)
      clear hvs h1
      have c4 := small_ w (by omega)
      have hmap := (host_map w.toList).1
      have hml := Mp.map_len _ w.toList (Nat.le_refl _)
      rw [toList_len] at hml
      have c5 := mayHost_ (bs (Lib.mapD Mp.lowR w.toList)) (by rw [bs_size]; omega)
      rw [bs_toList, hmap] at c5
      clear hmap hml hz
      generalize methB m = b1 at *
      generalize hostB (w.toList.map lowU) = b3 at *
      generalize bs (Lib.mapD Mp.lowR w.toList) = sm at *
      generalize decide (v = httpL) = b2 at *
      subst hb
      cases b1 with
      | false =>
        repeat' (first | refine gc ?_ | refine join_go (weak_sub (.cons rfl rfl rfl (.cons rfl rfl rfl (.cons rfl rfl rfl (.cons rfl rfl rfl (.cons rfl rfl rfl .nil))))) (.cons rfl rfl rfl (.cons rfl rfl rfl .nil)) .nil) | (refine rg 3 (aq118 ?_) <;> refine oC (c3) rfl (ac .nil) ?_ <;> refine aq119 ?_ <;> (first | refine oC (c3) rfl (ac .nil) ?_ | refine oK ?_) <;> (first | refine oC (c3) rfl (ac .nil) ?_ | refine oK ?_) <;> refine aq112 ?_))
      | true =>
        cases b2 with
        | false =>
          have e4 : (!decide (bs v = ⟨#[72, 84, 84, 80, 47, 49, 46, 49]⟩)) = true := by rw [e3]; rfl
          repeat' (first | refine gc ?_ | refine join_go (weak_sub (.cons rfl rfl rfl (.cons rfl rfl rfl (.cons rfl rfl rfl (.cons rfl rfl rfl (.cons rfl rfl rfl .nil))))) (.cons rfl rfl rfl (.cons rfl rfl rfl .nil)) .nil) | (refine rg 3 (aq118 ?_) <;> refine oC (c3) rfl (ac .nil) ?_ <;> refine aq120 ?_ <;> (first | refine oC (c3) rfl (ac .nil) ?_ | refine oK ?_) <;> (first | refine oC (c3) rfl (ac .nil) ?_ | refine oK ?_) <;> refine aq112 ?_))
        | true =>
          have e4 : (!decide (bs v = ⟨#[72, 84, 84, 80, 47, 49, 46, 49]⟩)) = false := by rw [e3]; rfl
          cases b3 with
          | false =>
            repeat' (first | refine gc ?_ | refine join_go (weak_sub (.cons rfl rfl rfl (.cons rfl rfl rfl (.cons rfl rfl rfl (.cons rfl rfl rfl (.cons rfl rfl rfl .nil))))) (.cons rfl rfl rfl (.cons rfl rfl rfl .nil)) .nil) | (refine rg 3 (aq118 ?_) <;> refine oC (c3) rfl (ac .nil) ?_ <;> refine aq121 ?_ <;> (first | refine oC (c3) rfl (ac .nil) ?_ | refine oC (c4) rfl (ac .nil) ?_) <;> (first | refine oC (c3) rfl (ac .nil) ?_ | refine oC (c4) rfl (ac .nil) ?_ | refine oC (c5) rfl (ac .nil) ?_) <;> refine aq114 ?_))
          | true =>
            repeat' (first | refine gc ?_ | refine join_go (weak_sub (.cons rfl rfl rfl (.cons rfl rfl rfl (.cons rfl rfl rfl (.cons rfl rfl rfl (.cons rfl rfl rfl .nil))))) (.cons rfl rfl rfl (.cons rfl rfl rfl .nil)) .nil) | (refine rg 3 (aq118 ?_) <;> refine oC (c3) rfl (ac .nil) ?_ <;> refine aq121 ?_ <;> (first | refine oC (c3) rfl (ac .nil) ?_ | refine oC (c4) rfl (ac .nil) ?_) <;> (first | refine oC (c3) rfl (ac .nil) ?_ | refine oC (c4) rfl (ac .nil) ?_ | refine oC (c5) rfl (ac .nil) ?_) <;> refine aq114 ?_))
    · rw [condP_1 h1] at hb
      subst hb
      have e5 : (!decide (((vs.map Hd.strT).length : Int) = 1)) = true := by rw [List.length_map, decide_eq_false (by omega)]; rfl
      clear hvs
      generalize methB m = b1 at *
      cases b1 with
      | false =>
        repeat' (first | refine gc ?_ | refine join_go (weak_sub (.cons rfl rfl rfl (.cons rfl rfl rfl (.cons rfl rfl rfl (.cons rfl rfl rfl (.cons rfl rfl rfl .nil))))) (.cons rfl rfl rfl (.cons rfl rfl rfl .nil)) .nil) | (refine rg 3 (aq118 ?_) <;> refine oC (c3) rfl (ac .nil) ?_ <;> refine aq119 ?_ <;> (first | refine oC (c3) rfl (ac .nil) ?_ | refine oK ?_) <;> (first | refine oC (c3) rfl (ac .nil) ?_ | refine oK ?_) <;> refine aq112 ?_))
      | true =>
        cases e6 : decide (v = httpL) with
        | false =>
          have e4 : (!decide (bs v = ⟨#[72, 84, 84, 80, 47, 49, 46, 49]⟩)) = true := by rw [e3, e6]; rfl
          repeat' (first | refine gc ?_ | refine join_go (weak_sub (.cons rfl rfl rfl (.cons rfl rfl rfl (.cons rfl rfl rfl (.cons rfl rfl rfl (.cons rfl rfl rfl .nil))))) (.cons rfl rfl rfl (.cons rfl rfl rfl .nil)) .nil) | (refine rg 3 (aq118 ?_) <;> refine oC (c3) rfl (ac .nil) ?_ <;> refine aq120 ?_ <;> (first | refine oC (c3) rfl (ac .nil) ?_ | refine oK ?_) <;> (first | refine oC (c3) rfl (ac .nil) ?_ | refine oK ?_) <;> refine aq112 ?_))
        | true =>
          have e4 : (!decide (bs v = ⟨#[72, 84, 84, 80, 47, 49, 46, 49]⟩)) = false := by rw [e3, e6]; rfl
          repeat' (first | refine gc ?_ | refine join_go (weak_sub (.cons rfl rfl rfl (.cons rfl rfl rfl (.cons rfl rfl rfl (.cons rfl rfl rfl (.cons rfl rfl rfl .nil))))) (.cons rfl rfl rfl (.cons rfl rfl rfl .nil)) .nil) | (refine rg 3 (aq118 ?_) <;> refine oC (c3) rfl (ac .nil) ?_ <;> refine sp (po_not rfl rfl) ?_ <;> (first | refine oPt ?_ | refine oPf ?_) <;> refine oMv ?_ <;> refine oMv ?_ <;> refine sp (pix rfl (tyS rfl)) ?_ <;> (first | refine oLb ?_ | refine oLd ?_) <;> refine sp (po_str rfl rfl rfl rfl) ?_ <;> (first | refine oPt ?_ | refine oPf ?_) <;> refine oMv ?_ <;> refine oMv ?_ <;> refine sp (pln rfl (tyS rfl)) ?_ <;> refine oCm ?_ <;> (first | refine oPt ?_ | refine oPf ?_) <;> refine oMv ?_ <;> (first | refine oMv ?_ | refine oK ?_) <;> (first | refine sp (pix rfl (tyS rfl)) ?_ | refine oK ?_) <;> (first | refine oLb ?_ | refine oLd ?_ | refine oK ?_) <;> (first | refine oC (c3) rfl (ac .nil) ?_ | refine oK ?_) <;> (first | refine oC (c3) rfl (ac .nil) ?_ | refine oK ?_) <;> refine aq112 ?_))
  · rw [condP_3 h3] at hb
    subst hb
    have e1 : (!decide (((ps.map Pth.strT).length : Int) = 3)) = true := by rw [List.length_map, decide_eq_false (by omega)]; rfl
    clear hps hvs
    repeat' (first | refine gc ?_ | refine join_go (weak_sub (.cons rfl rfl rfl (.cons rfl rfl rfl (.cons rfl rfl rfl (.cons rfl rfl rfl (.cons rfl rfl rfl .nil))))) (.cons rfl rfl rfl (.cons rfl rfl rfl .nil)) .nil) | (refine rg 3 ?_; refine oMv ?_; refine sp (pln rfl (tyS rfl)) ?_; refine oCm ?_; refine oMv ?_; (first | refine oMv ?_ | refine oK ?_) <;> (first | refine sp (pix rfl (tyS rfl)) ?_ | refine oK ?_) <;> (first | refine oLb ?_ | refine oLd ?_ | refine oK ?_) <;> refine oK ?_ <;> (first | refine sp (po_not rfl rfl) ?_ | refine oK ?_) <;> refine oPt ?_ <;> refine oMv ?_ <;> (first | refine oMv ?_ | refine oK ?_) <;> (first | refine sp (pix rfl (tyS rfl)) ?_ | refine oK ?_) <;> (first | refine oLb ?_ | refine oLd ?_ | refine oK ?_) <;> (first | refine sp (po_str rfl rfl rfl rfl) ?_ | refine oK ?_) <;> refine oPt ?_ <;> refine oMv ?_ <;> (first | refine oMv ?_ | refine oK ?_) <;> (first | refine sp (pln rfl (tyS rfl)) ?_ | refine oK ?_) <;> (first | refine oCm ?_ | refine oK ?_) <;> refine oPt ?_ <;> refine oMv ?_ <;> (first | refine oMv ?_ | refine oK ?_) <;> (first | refine sp (pix rfl (tyS rfl)) ?_ | refine oK ?_) <;> (first | refine oLb ?_ | refine oLd ?_ | refine oK ?_) <;> refine oK ?_ <;> refine oK ?_ <;> (first | refine sp (po_not rfl rfl) ?_ | refine oK ?_) <;> refine oPt ?_ <;> refine oN ?_))
abbrev bxQ (r : PRaw) (m t p q h : ByteArray) : List (Nat × List A) := (6, [.t (.v (.string m)), .t (.v (.string t)), .t (.v (.string p)), .t (.v (.string q)), .t (.v (.string h)), nlA, nlA]) :: bxP r
set_option maxRecDepth 100000 in
set_option maxHeartbeats 4000000 in
theorem r5_ {c : Code} (hc : fR 5 (bodyOf Tryz.f38) = some c) {Q : Exit → St → Prop} (r : PRaw) (m t v : L8) (w sm : ByteArray) (c4 : PCalls Tryz.prog 63 [.v (.string w)] (.v (.string sm))) (h : Q .normal ⟨[(1, .bp 1 0), (2, .bp 2 0), (6, .bp 6 0)], bxQ r (bs m) (bs t) ⟨#[]⟩ ⟨#[]⟩ sm, []⟩) : SWp Tryz.prog 96 c Q ⟨tmP [m, t, v] [w], bxP r, []⟩ := by
  obtain rfl := Option.some.inj hc
  clear hc
  refine swp_joinQ _ ?_ h
  clear h
  repeat' (first | refine gc ?_ | refine join_go (weak_sub (.cons rfl rfl rfl (.cons rfl rfl rfl (.cons rfl rfl rfl .nil))) (.cons rfl rfl rfl (.cons rfl rfl rfl (.cons rfl rfl rfl .nil))) .nil) | ((refine swp_any (id := 5) [[], [], [], [], [], [], [], [], [], [], [], [6], [6]] [[6], [6], [6], [6], [6], [6], [6], [6], [6], [6], [6], [], []] mixed (by kernel_rfl) ?_) <;> refine yp (fun _ _ => po_move rfl rfl) ?_ <;> (first | refine yp (fun _ _ => po_index_own rfl rfl rfl (by rfl) rfl (tyS rfl) (by rfl) (by first | assumption | omega)) ?_ | refine yp (fun _ _ => pix rfl (tyS rfl)) ?_) <;> (first | refine yp (fun _ _ => po_load_bx rfl rfl (tyT rfl) rfl rfl) ?_ | refine yp (fun _ _ => po_load rfl rfl (tyT rfl) rfl) ?_) <;> refine yp (fun _ _ => po_move rfl rfl) ?_ <;> (first | refine yp (fun _ _ => po_index_own rfl rfl rfl (by rfl) rfl (tyS rfl) (by rfl) (by first | assumption | omega)) ?_ | refine yp (fun _ _ => pix rfl (tyS rfl)) ?_) <;> (first | refine yp (fun _ _ => po_load_bx rfl rfl (tyT rfl) rfl rfl) ?_ | refine yp (fun _ _ => po_load rfl rfl (tyT rfl) rfl) ?_) <;> refine yp (fun _ _ => po_move rfl rfl) ?_ <;> (first | refine yp (fun _ _ => po_index_own rfl rfl rfl (by rfl) rfl (tyS rfl) (by rfl) (by first | assumption | omega)) ?_ | refine yp (fun _ _ => pix rfl (tyS rfl)) ?_) <;> (first | refine yp (fun _ _ => po_load_bx rfl rfl (tyT rfl) rfl rfl) ?_ | refine yp (fun _ _ => po_load rfl rfl (tyT rfl) rfl) ?_) <;> refine yp (fun _ _ => po_call (c4) rfl (ac .nil)) ?_ <;> (refine yp (fun _ _ => po_buildS str39 rfl (pc (pc (pc .nil))) rfl) ?_) <;> refine sany_eff [(6, _)] [] (.free rfl rfl) rfl rfl (fun _ _ hb _ => e_allocS str39 rfl (hb 6 rfl rfl)) ?_ <;> refine sany_eff [(6, _)] [] (.free rfl rfl) rfl rfl (fun _ _ _ _ => e_store rfl rfl rfl rfl rfl rfl (tyT rfl) rfl rfl) ?_ <;> refine sany_nil ?_))
set_option maxRecDepth 100000 in
set_option maxHeartbeats 4000000 in
theorem r15_ {c : Code} (hc : fR 15 (bodyOf Tryz.f38) = some c) {Q : Exit → St → Prop} (r : PRaw) (m t p q w : ByteArray) (h : Q .normal ⟨[(1, .bp 1 0), (2, .bp 2 0), (6, .bp 6 0)], (6, [.t (.v (.string m)), .t (.v (.string t)), .t (.v (.string p)), .t (.v (.string q)), .t (.v (.string w)), .t (headsT r.heads), .t (.sl 1 (r.body.map byteT))]) :: bxP r, []⟩) : SWp Tryz.prog 96 c Q ⟨[(1, .bp 1 0), (2, .bp 2 0), (6, .bp 6 0)], bxQ r m t p q w, []⟩ := by
  obtain rfl := Option.some.inj hc
  clear hc
  refine swp_joinQ _ ?_ h
  clear h
  repeat' (first | refine gc ?_ | refine join_go (weak_sub (.cons rfl rfl rfl (.cons rfl rfl rfl (.cons rfl rfl rfl .nil))) (.cons rfl rfl rfl (.cons rfl rfl rfl (.cons rfl rfl rfl .nil))) .nil) | ((refine swp_any (id := 15) [[], [], [], [], [], [6], [], [6]] [[], [], [6], [6], [], [], [], []] mixed (by kernel_rfl) ?_) <;> refine yp (fun _ _ => po_field_bx rfl rfl (tyF rfl)) ?_ <;> refine yp (fun _ _ => po_load_bx rfl rfl (tyT rfl) rfl rfl) ?_ <;> refine yp (fun _ _ => po_field_bx rfl rfl (tyF rfl)) ?_ <;> refine yp (fun _ _ => po_load_bx rfl rfl (tyT rfl) rfl rfl) ?_ <;> refine yp (fun _ _ => po_field_bx rfl rfl (tyF rfl)) ?_ <;> refine sany_eff [(6, _)] [] (.free rfl rfl) rfl rfl (fun _ _ _ _ => e_store rfl rfl rfl rfl rfl rfl (tyT rfl) rfl rfl) ?_ <;> refine yp (fun _ _ => po_field_bx rfl rfl (tyF rfl)) ?_ <;> refine sany_eff [(6, _)] [] (.free rfl rfl) rfl rfl (fun _ _ _ _ => e_store rfl rfl rfl rfl rfl rfl (tyT rfl) rfl rfl) ?_ <;> refine sany_nil ?_))
end Go.Proofs.YtloippgblkoemaaGreatDoor.Ro

/- Requests: of a message: a walk. -/
namespace Go.Proofs.YtloippgblkoemaaGreatDoor.Ro
set_option linter.unusedVariables false
set_option linter.unusedSimpArgs false
open Go.RowKit Mem Sim Opn Hd Str Pth Rq
theorem ofR_cond {r : PRaw} (h : condP (splC 32 r.start.toList) (valsOf hostS r.heads) = true) : ofR r = none := by
  unfold condP at h
  split at h
  · rename_i m t v w h1 h2
    rw [ofR_ok h1 h2]
    unfold of3
    cases hq : (methB m && (decide (v = httpL) && hostB (w.toList.map lowU))) with
    | false => rfl
    | true => rw [hq] at h; cases h
  · rename_i hn
    unfold ofR
    split
    · rename_i m t v w h1 h2
      exact absurd (hn m t v w h1 h2) id
    · rfl
theorem ofR_go {r : PRaw} (h : condP (splC 32 r.start.toList) (valsOf hostS r.heads) = false) : ∃ m t v w, splC 32 r.start.toList = [m, t, v] ∧ valsOf hostS r.heads = [w] ∧ hostB (w.toList.map lowU) = true ∧ ofR r = (targL m t).map fun q => ⟨bs m, bs t, bs q.1, bs q.2, bs (w.toList.map lowU), r.heads, r.body⟩ := by
  unfold condP at h
  split at h
  · rename_i m t v w h1 h2
    have hq : (methB m && (decide (v = httpL) && hostB (w.toList.map lowU))) = true := by
      cases hq : (methB m && (decide (v = httpL) && hostB (w.toList.map lowU))) with
      | false => rw [hq] at h; cases h
      | true => rfl
    refine ⟨m, t, v, w, h1, h2, ?_, ?_⟩
    · simp only [Bool.and_eq_true] at hq; exact hq.2.2
    · rw [ofR_ok h1 h2]; unfold of3; rw [if_pos hq]; rfl
  · cases h
set_option maxRecDepth 100000 in
set_option maxHeartbeats 4000000 in
theorem of_ (r : PRaw) (hr : An.RawOk r) (hs : r.start.size ≤ 100000) (hv : ∀ v ∈ valsOf hostS r.heads, v.size ≤ 200000) : PCalls Tryz.prog 38 [.agg (rawT r)] (ofT (ofR r)) := by
  obtain ⟨hn, _, hb, _⟩ := hr
  have hl := toList_len r.start
  have c1 := split_ r.start 32 (by omega)
  have c2 := all_ hostS r.heads hn
  have co := ownRawP_ r hn (by omega)
  have hpl : ∀ p ∈ splC 32 r.start.toList, p.length ≤ 100000 := fun p hp => by have := splC_part 32 r.start.toList p hp; omega
  have hcond := @ofR_cond r
  have hgo := @ofR_go r
  unfold rawT at co ⊢
  refine pcalls_of Tryz.func38 rfl rfl Tryz.ntmps38 rfl ?_
  generalize ofR r = res at *
  generalize splC 32 r.start.toList = ps at *
  generalize valsOf hostS r.heads = vs at *
  cases hc : condP ps vs with
  | true =>
    rw [hcond hc]
    clear hcond hgo co
    repeat' (first | refine then_go ?_ | refine swp_seq ?_ | refine swp_weak (weak_sub (.cons rfl rfl rfl (.cons rfl rfl rfl (.cons rfl rfl rfl (.cons rfl rfl rfl .nil)))) (.cons rfl rfl rfl (.cons rfl rfl rfl .nil)) .nil) (r3_ rfl r ps vs hpl hv true hc ?_) | (refine rg 0 ?_; refine sbx ?_; refine sal str39 ?_; refine aq0 ?_) | (refine rg 1 (aq38 ?_); refine oC (c1) rfl (ac (ac .nil)) ?_; refine aq0 ?_) | (refine rg 2 (aq38 ?_); (first | refine oC (c1) rfl (ac (ac .nil)) ?_ | refine oC (c2) rfl (ac (ac .nil)) ?_); refine aq0 ?_) | (refine rg 4 ?_; refine sp (po_buildS str39 rfl .nil rfl) ?_; refine aq58 ?_) | refine swp_ret ?_ | refine swp_skip ?_ | refine swp_block ?_ | refine swp_exit ?_ | refine block_go ?_ | refine block_exit ?_ | refine block_far rfl ?_ | refine block_ret ?_ | refine then_ret ?_ | refine then_exit ?_ | refine for_ret ?_ | refine for_exit ?_ | refine ct ?_ | refine cf ?_ | refine sc ?_ ?_ <;> intro hc | refine rq rfl (.cell rfl rfl (tyT rfl) (vc (vc (vc (vc (vc (vc (vc .nil))))))) rfl (rt .nil)) ?_)
    rfl
  | false =>
    obtain ⟨m, t, v, w, rfl, rfl, hhost, rfl⟩ := hgo hc
    clear hcond hgo
    have l2 := hpl t (by simp)
    have hz := hv w (by simp)
    have c4 := small_ w (by omega)
    rw [(host_map w.toList).2 hhost] at c4
    clear hhost hz
    repeat' (first | refine then_go ?_ | refine swp_seq ?_ | refine swp_weak (weak_sub (.cons rfl rfl rfl (.cons rfl rfl rfl (.cons rfl rfl rfl (.cons rfl rfl rfl .nil)))) (.cons rfl rfl rfl (.cons rfl rfl rfl .nil)) .nil) (r3_ rfl r [m, t, v] [w] hpl hv false hc ?_) | refine swp_weak (weak_sub (.cons rfl rfl rfl (.cons rfl rfl rfl (.cons rfl rfl rfl (.cons rfl rfl rfl .nil)))) (.cons rfl rfl rfl (.cons rfl rfl rfl .nil)) .nil) (r5_ rfl r m t v w _ c4 ?_) | (refine rg 0 ?_; refine sbx ?_; refine sal str39 ?_; refine aq0 ?_) | (refine rg 1 (aq38 ?_); refine oC (c1) rfl (ac (ac .nil)) ?_; refine aq0 ?_) | (refine rg 2 (aq38 ?_); (first | refine oC (c1) rfl (ac (ac .nil)) ?_ | refine oC (c2) rfl (ac (ac .nil)) ?_); refine aq0 ?_) | refine swp_ret ?_ | refine swp_skip ?_ | refine swp_block ?_ | refine swp_exit ?_ | refine block_go ?_ | refine block_exit ?_ | refine block_far rfl ?_ | refine block_ret ?_ | refine then_ret ?_ | refine then_exit ?_ | refine for_ret ?_ | refine for_exit ?_ | refine ct ?_ | refine cf ?_ | refine sc ?_ ?_ <;> intro hc | refine rq rfl (.cell rfl rfl (tyT rfl) (vc (vc (vc (vc (vc (vc (vc .nil))))))) rfl (rt .nil)) ?_)
    clear c1 c2 c4 hpl hv hc hl hs
    have e6 := bs_connL m
    unfold targL
    by_cases hcn : m = connL
    · have e7 : decide (bs m = ⟨#[67, 79, 78, 78, 69, 67, 84]⟩) = true := by rw [e6, decide_eq_true hcn]
      rw [if_pos hcn]
      have tmap := host_map t
      have tml := Mp.map_len _ t (Nat.le_refl _)
      have c6 := small_ (bs t) (by rw [bs_size]; omega)
      have c7 := mayHost_ (bs (Lib.mapD Mp.lowR t)) (by rw [bs_size]; omega)
      have c8 := contains1_ (bs (Lib.mapD Mp.lowR t)) 58
      rw [bs_toList] at c6 c8
      rw [bs_toList, tmap.1] at c7
      cases thb : hostB (t.map lowU) with
      | false =>
        rw [thb] at c7
        clear tmap tml
        generalize Lib.mapD Mp.lowR t = tm at *
        repeat' (first | refine rg 6 (aq122 ?_) | (refine rg 7 (aq38 ?_); refine oC (c6) rfl (ac .nil) ?_; refine aq0 ?_) | (refine rg 8 ?_; refine oMv ?_; (first | refine oC (c6) rfl (ac .nil) ?_ | refine oC (c7) rfl (ac .nil) ?_); refine sp (po_not rfl rfl) ?_; refine oMv ?_; (first | refine oMv ?_ | refine oK ?_) <;> (first | refine oC (c6) rfl (ac (ac .nil)) ?_ | refine oC (c7) rfl (ac (ac .nil)) ?_ | refine oK ?_) <;> refine aq112 ?_) | (refine rg 9 ?_; refine sp (po_buildS str39 rfl .nil rfl) ?_; refine aq58 ?_) | refine gc ?_ | refine ct ?_ | refine cf ?_ | refine sc ?_ ?_ <;> intro hc | refine rq rfl (.cell rfl rfl (tyT rfl) (vc (vc (vc (vc (vc (vc (vc .nil))))))) rfl (rt .nil)) ?_)
        rfl
      | true =>
        rw [thb] at c7
        rw [tmap.2 thb] at c6 c7 c8
        change PCalls _ _ _ (.v (.bool (hasC (t.map lowU)))) at c8
        clear tmap tml thb
        generalize hasC (t.map lowU) = hc at *
        generalize t.map lowU = tl at *
        cases hc with
        | false =>
          repeat' (first | refine rg 6 (aq122 ?_) | (refine rg 7 (aq38 ?_); refine oC (c6) rfl (ac .nil) ?_; refine aq0 ?_) | (refine rg 8 ?_; refine oMv ?_; (first | refine oC (c6) rfl (ac .nil) ?_ | refine oC (c7) rfl (ac .nil) ?_); refine sp (po_not rfl rfl) ?_; refine oMv ?_; refine oMv ?_ <;> (first | refine oC (c6) rfl (ac (ac .nil)) ?_ | refine oC (c7) rfl (ac (ac .nil)) ?_ | refine oC (c8) rfl (ac (ac .nil)) ?_) <;> refine aq114 ?_) | (refine rg 9 ?_; refine sp (po_buildS str39 rfl .nil rfl) ?_; refine aq58 ?_) | refine gc ?_ | refine ct ?_ | refine cf ?_ | refine sc ?_ ?_ <;> intro hc | refine rq rfl (.cell rfl rfl (tyT rfl) (vc (vc (vc (vc (vc (vc (vc .nil))))))) rfl (rt .nil)) ?_)
          rfl
        | true =>
          repeat' (first | refine then_go ?_ | refine swp_seq ?_ | refine swp_weak (weak_sub (.cons rfl rfl rfl (.cons rfl rfl rfl (.cons rfl rfl rfl .nil))) (.cons rfl rfl rfl (.cons rfl rfl rfl (.cons rfl rfl rfl .nil))) .nil) (r15_ rfl r _ _ _ _ _ ?_) | refine rg 6 (aq122 ?_) | (refine rg 7 (aq38 ?_); refine oC (c6) rfl (ac .nil) ?_; refine aq0 ?_) | (refine rg 8 ?_; refine oMv ?_; (first | refine oC (c6) rfl (ac .nil) ?_ | refine oC (c7) rfl (ac .nil) ?_); refine sp (po_not rfl rfl) ?_; refine oMv ?_; refine oMv ?_ <;> (first | refine oC (c6) rfl (ac (ac .nil)) ?_ | refine oC (c7) rfl (ac (ac .nil)) ?_ | refine oC (c8) rfl (ac (ac .nil)) ?_) <;> refine aq114 ?_) | (refine rg 14 (aq123 ?_); (first | refine oC (c6) rfl (ac .nil) ?_ | refine oC (c7) rfl (ac .nil) ?_ | refine oC (c8) rfl (ac .nil) ?_ | refine oC (co) rfl (ac .nil) ?_); refine aq8 ?_) | refine rg 16 (aq124 ?_) | refine swp_ret ?_ | refine swp_skip ?_ | refine swp_block ?_ | refine swp_exit ?_ | refine block_go ?_ | refine block_exit ?_ | refine block_far rfl ?_ | refine block_ret ?_ | refine then_ret ?_ | refine then_exit ?_ | refine for_ret ?_ | refine for_exit ?_ | refine ct ?_ | refine cf ?_ | refine sc ?_ ?_ <;> intro hc | refine rq rfl (.cell rfl rfl (tyT rfl) (vc (vc (vc (vc (vc (vc (vc .nil))))))) rfl (rt .nil)) ?_)
          rfl
    · have e7 : decide (bs m = ⟨#[67, 79, 78, 78, 69, 67, 84]⟩) = false := by rw [e6, decide_eq_false hcn]
      rw [if_neg hcn]
      have c7 := Normal_ (bs t) (by rw [bs_size]; omega)
      rw [bs_toList] at c7
      generalize normL t = nq at *
      cases nq with
      | none =>
        unfold normT at c7
        dsimp only at c7
        repeat' (first | refine rg 6 (aq122 ?_) | (refine rg 10 (aq38 ?_); refine oC (c7) rfl (ac .nil) ?_; refine aq93 ?_) | refine rg 11 (aq21 ?_) | (refine rg 12 ?_; refine sp (po_buildS str39 rfl .nil rfl) ?_; refine aq58 ?_) | refine gc ?_ | refine ct ?_ | refine cf ?_ | refine sc ?_ ?_ <;> intro hc | refine rq rfl (.cell rfl rfl (tyT rfl) (vc (vc (vc (vc (vc (vc (vc .nil))))))) rfl (rt .nil)) ?_)
        rfl
      | some pq =>
        obtain ⟨p, q⟩ := pq
        unfold normT at c7
        dsimp only at c7
        repeat' (first | refine then_go ?_ | refine swp_seq ?_ | refine swp_weak (weak_sub (.cons rfl rfl rfl (.cons rfl rfl rfl (.cons rfl rfl rfl .nil))) (.cons rfl rfl rfl (.cons rfl rfl rfl (.cons rfl rfl rfl .nil))) .nil) (r15_ rfl r _ _ _ _ _ ?_) | refine rg 6 (aq122 ?_) | (refine rg 10 (aq38 ?_); refine oC (c7) rfl (ac .nil) ?_; refine aq93 ?_) | refine rg 11 (aq21 ?_) | (refine rg 13 ?_; refine oMv ?_; refine oMv ?_; refine oFb ?_; refine oS ?_; refine oFb ?_; refine oS ?_; refine oN ?_) | (refine rg 14 (aq123 ?_); (first | refine oC (c7) rfl (ac .nil) ?_ | refine oC (co) rfl (ac .nil) ?_); refine aq8 ?_) | refine rg 16 (aq124 ?_) | refine swp_ret ?_ | refine swp_skip ?_ | refine swp_block ?_ | refine swp_exit ?_ | refine block_go ?_ | refine block_exit ?_ | refine block_far rfl ?_ | refine block_ret ?_ | refine then_ret ?_ | refine then_exit ?_ | refine for_ret ?_ | refine for_exit ?_ | refine ct ?_ | refine cf ?_ | refine sc ?_ ?_ <;> intro hc | refine rq rfl (.cell rfl rfl (tyT rfl) (vc (vc (vc (vc (vc (vc (vc .nil))))))) rfl (rt .nil)) ?_)
        rfl
end Go.Proofs.YtloippgblkoemaaGreatDoor.Ro
