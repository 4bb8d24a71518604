/- Merged by bundles.py: OpenW, RequestMay, PlBare, Tabs. -/
import Derived.Test.YtloippgblkoemaaGreatDoorB29
import Derived.Test.YtloippgblkoemaaGreatDoorB27
import Derived.Test.YtloippgblkoemaaGreatDoorB24
import Derived.Test.YtloippgblkoemaaGreatDoorRows
import Derived.Lib.LaidU8
import Derived.MakeChecks
/- Readings whose texts are not longer than memory may be. -/
namespace Go.Proofs.YtloippgblkoemaaGreatDoor.Rq
set_option linter.unusedVariables false
set_option linter.unusedSimpArgs false
set_option maxRecDepth 100000
open Go.RowKit Go.WideShapes Go.ChangeShapes Go.Joins Mem Sim Opn Hd An
def lightD {H : Type} (t : TypeId) (d : DataW H) : Prop := ((d.weights Tryz.prog t).all (· ≤ reachBytes)) = true
def OpensW {α : Type} (t : TypeId) (R : Mem.Rel α) : Prop :=
  ∀ (H : Type) (enc : TypeId × Value → H) (w : World) (base : Nat) (spare : Nat → Bool) (held : Bool) (fuel : Nat) (cs : List Value) (x : DataW H × List MemPlace), DataW.trod enc Tryz.prog w base spare held fuel t cs = some x → lightD t x.1 → ∃ y, R w.heap.size w y cs
def StrW : Mem.Rel ByteArray := fun B w s cs => StrC B w s cs ∧ s.size ≤ reachBytes
theorem opensW_str {t : TypeId} (ht : Tryz.prog.underlying t = some .string) : OpensW t StrW := by
  intro H enc w base spare held fuel cs x h hw
  obtain ⟨s, rfl, hx, hl⟩ := DataW.trod_string ht h
  refine ⟨s, ⟨rfl, hl⟩, ?_⟩
  subst hx
  unfold lightD at hw
  unfold DataW.weights at hw
  rw [show s.size = s.data.toList.length from (by rw [← toList_len, ByteArray.toList_eq])]
  generalize reachBytes = rb at *
  simpa using hw
theorem light_each {H : Type} : ∀ (ts : List TypeId) (ds : List (DataW H)), ((DataW.weightsEach Tryz.prog ts ds).all (· ≤ reachBytes)) = true → ∀ (i : Nat) t d, ts[i]? = some t → ds[i]? = some d → lightD t d
  | [], _, _, i, t, d, h1, _ => by simp at h1
  | _ :: _, [], _, i, t, d, _, h2 => by simp at h2
  | t0 :: ts, d0 :: ds, h, i, t, d, h1, h2 => by
    unfold DataW.weightsEach at h
    rw [List.all_append, Bool.and_eq_true] at h
    cases i with
    | zero => simp at h1 h2; subst h1 h2; exact h.1
    | succ i => exact light_each ts ds h.2 i t d (by simpa using h1) (by simpa using h2)
def ReqW : Mem.Rel PReq := fun B w x cs => ReqR B w x cs ∧ x.method.size ≤ reachBytes ∧ x.target.size ≤ reachBytes ∧ x.path.size ≤ reachBytes ∧ x.query.size ≤ reachBytes ∧ x.host.size ≤ reachBytes
theorem req_opensW : OpensW 39 ReqW := by
  intro H enc w base spare held fuel cs x h hw
  obtain ⟨xs, n, _, hx, hlen, hxl, hf⟩ := DataW.trod_struct Tryz.underlying39 h
  have hl := hlen.trans cells_Req
  obtain ⟨c0, c1, c2, c3, c4, c5, c6, rfl⟩ : ∃ c0 c1 c2 c3 c4 c5 c6, cs = [c0, c1, c2, c3, c4, c5, c6] := by
    match cs, hl with
    | [c0, c1, c2, c3, c4, c5, c6], _ => exact ⟨c0, c1, c2, c3, c4, c5, c6, rfl⟩
  obtain ⟨y0, y1, y2, y3, y4, y5, y6, rfl⟩ : ∃ y0 y1 y2 y3 y4 y5 y6, xs = [y0, y1, y2, y3, y4, y5, y6] := by
    match xs, hxl with
    | [y0, y1, y2, y3, y4, y5, y6], _ => exact ⟨y0, y1, y2, y3, y4, y5, y6, rfl⟩
  subst hx
  unfold lightD DataW.weights at hw
  rw [Tryz.underlying39] at hw
  have hL := light_each _ _ hw
  have f0 : DataW.trod enc Tryz.prog w base spare held n 9 [c0] = some y0 := by
    have := hf 0 _ rfl
    simpa [one_bytes, one_heads, one_string] using this
  obtain ⟨v0, r0⟩ := (opensW_str Tryz.underlying9) H enc w base spare held n [c0] y0 f0 (hL 0 _ _ rfl rfl)
  have f1 : DataW.trod enc Tryz.prog w base spare held n 9 [c1] = some y1 := by
    have := hf 1 _ rfl
    simpa [one_bytes, one_heads, one_string] using this
  obtain ⟨v1, r1⟩ := (opensW_str Tryz.underlying9) H enc w base spare held n [c1] y1 f1 (hL 1 _ _ rfl rfl)
  have f2 : DataW.trod enc Tryz.prog w base spare held n 9 [c2] = some y2 := by
    have := hf 2 _ rfl
    simpa [one_bytes, one_heads, one_string] using this
  obtain ⟨v2, r2⟩ := (opensW_str Tryz.underlying9) H enc w base spare held n [c2] y2 f2 (hL 2 _ _ rfl rfl)
  have f3 : DataW.trod enc Tryz.prog w base spare held n 9 [c3] = some y3 := by
    have := hf 3 _ rfl
    simpa [one_bytes, one_heads, one_string] using this
  obtain ⟨v3, r3⟩ := (opensW_str Tryz.underlying9) H enc w base spare held n [c3] y3 f3 (hL 3 _ _ rfl rfl)
  have f4 : DataW.trod enc Tryz.prog w base spare held n 9 [c4] = some y4 := by
    have := hf 4 _ rfl
    simpa [one_bytes, one_heads, one_string] using this
  obtain ⟨v4, r4⟩ := (opensW_str Tryz.underlying9) H enc w base spare held n [c4] y4 f4 (hL 4 _ _ rfl rfl)
  have f5 : DataW.trod enc Tryz.prog w base spare held n 22 [c5] = some y5 := by
    have := hf 5 _ rfl
    simpa [one_bytes, one_heads, one_string] using this
  obtain ⟨v5, r5⟩ := heads_opens H enc w base spare held n [c5] y5 f5
  have f6 : DataW.trod enc Tryz.prog w base spare held n 23 [c6] = some y6 := by
    have := hf 6 _ rfl
    simpa [one_bytes, one_heads, one_string] using this
  obtain ⟨v6, r6⟩ := bytes_opens H enc w base spare held n [c6] y6 f6
  exact ⟨⟨v0, v1, v2, v3, v4, v5, v6⟩, ⟨c0, c1, c2, c3, c4, c5, c6, rfl, r0.1, r1.1, r2.1, r3.1, r4.1, r5, r6⟩, r0.2, r1.2, r2.2, r3.2, r4.2⟩
theorem open_struct_argW {α : Type} {t : TypeId} {fs : Array Field} {R : Mem.Rel α} (ht : Tryz.prog.underlying t = some (.struct fs)) (hO : OpensW t R) {H : Type} {enc : TypeId × Value → H} {w : World} {r : Reach} {b0 base : Nat} {spare : Nat → Bool} {held : Bool} {v : Value} {d : DataW H} {p : List MemPlace}
    (hw : lightD t d) (hv : Value.okWide Tryz.prog w r b0 t v) (h : DataW.Trod enc Tryz.prog w base spare held t v d p) :
    ∃ (cs : Array Value) (y : α), v = .agg cs ∧ R w.heap.size w y cs.toList := by
  obtain ⟨cs, rfl, _⟩ := okWide_struct ht hv
  obtain ⟨fuel, hf⟩ := h
  obtain ⟨y, hy⟩ := hO H enc w base spare held fuel _ _ hf hw
  exact ⟨cs, y, rfl, hy⟩
structure okReqW (a : PReq) : Prop where
  ok : okReq a
  hm : a.method.size ≤ reachBytes
  ht : a.target.size ≤ reachBytes
  hp : a.path.size ≤ reachBytes
  hq : a.query.size ≤ reachBytes
  hs : a.host.size ≤ reachBytes
theorem req_okW (B : Nat) (w : World) (x : PReq) (cs : List Value) (h : ReqW B w x cs) : okReqW x := ⟨req_ok _ _ _ _ h.1, h.2.1, h.2.2.1, h.2.2.2.1, h.2.2.2.2.1, h.2.2.2.2.2⟩
end Go.Proofs.YtloippgblkoemaaGreatDoor.Rq

/- The law RequestMay: a walk. -/
namespace Go.Proofs.YtloippgblkoemaaGreatDoor.RequestMay
set_option linter.unusedVariables false
set_option linter.unusedSimpArgs false
open Go.RowKit Mem Sim Opn Hd Str Pth Rq Ro
def toR (a : Rq.PReq) : Ro.PReq := ⟨a.method, a.target, a.path, a.query, a.host, a.heads, a.body⟩
structure Sm (a : Ro.PReq) : Prop where
  h1 : a.method.size ≤ 140737488355328
  h2 : a.target.size ≤ 140737488355328
  h3 : a.path.size ≤ 140737488355328
  h4 : a.query.size ≤ 140737488355328
  h5 : a.host.size ≤ 140737488355328
  hh : ∀ h ∈ a.heads, okHead h
theorem reach {n : Nat} (h : n ≤ reachBytes) : n ≤ 140737488355328 := Nat.le_trans h (by decide)
theorem sm_ok {a : Rq.PReq} (h : okReqW a) : Sm (toR a) := ⟨reach h.hm, reach h.ht, reach h.hp, reach h.hq, reach h.hs, h.ok.hh⟩
def cutR (a : Ro.PReq) : PRaw := ⟨a.method ++ a.target, a.heads, a.body⟩
theorem short_ok {a : Ro.PReq} (h : Sm a) (hl : longW (cutR a) = false) : ReqOk a := by
  have g := longW_no hl
  have h1 : (a.method ++ a.target).size ≤ 2000 := g.hs
  rw [ByteArray.size_append] at h1
  exact ⟨by omega, by omega, by have : a.heads.length ≤ 100 := g.hn; omega, h.hh, g.vals, by have : a.body.length ≤ 3000 := g.hb; omega⟩
end Go.Proofs.YtloippgblkoemaaGreatDoor.RequestMay

/- Bytes of one request, and one carriage return or line feed less, or more: in plain Lean. -/
namespace Go.Proofs.YtloippgblkoemaaGreatDoor.Bare
set_option linter.unusedVariables false
set_option linter.unusedSimpArgs false
open Go.RowKit Mem Sim Opn Hd Str Rq
def Bd (r : PRd) : Prop := r.raw.body ≠ [] ∨ r.phase = 2 ∨ r.phase = 4
inductive Stp (r : PRd) : PRd → Prop
  | bad (s : PRd) (ho : s.out = r.out) (he : s.err ≠ 0) : Stp r s
  | on (s : PRd) (ho : s.out = r.out) (hb : Bd r → Bd s) : Stp r s
  | whole (x : PRaw) (hb : Bd r → x.body ≠ []) : Stp r (idl (r.out ++ [x]))
theorem fault_bad (r : PRd) {e : Int} (h : e ≠ 0) {s : PRd} (ho : s.out = r.out) : Stp r (faultP s e) := .bad _ ho h
theorem stp_line (r : PRd) (hp : r.phase ≠ 2) (hp4 : r.phase ≠ 4) (s : ByteArray) : Stp r (lineP { r with line := [] } s) := by
  have hbd : Bd r → r.raw.body ≠ [] := fun h => by
    rcases h with h | h | h
    · exact h
    · exact absurd h hp
    · exact absurd h hp4
  unfold lineP
  split
  · exact .on _ rfl fun h => .inl (hbd h)
  · split
    · unfold headerP
      split
      · unfold bodyP
        split
        · rename_i he; exact .bad _ rfl he
        · split
          · exact .on _ rfl fun h => .inl (hbd h)
          · split
            · exact .whole _ hbd
            · exact .on _ rfl fun h => .inl (hbd h)
      · split
        · rename_i he; exact .bad _ rfl he
        · split
          · split
            · exact .on _ rfl fun h => .inl (hbd h)
            · exact fault_bad r (by decide) rfl
          · exact fault_bad r (by decide) rfl
    · split
      · unfold chunkP
        split
        · exact fault_bad r (by decide) rfl
        · split
          · exact .on _ rfl fun h => .inl (hbd h)
          · split
            · exact fault_bad r (by decide) rfl
            · exact .on _ rfl fun h => .inl (hbd h)
      · unfold endedP
        split
        · exact fault_bad r (by decide) rfl
        · split
          · exact .whole _ hbd
          · exact .on _ rfl fun h => .inl (hbd h)
theorem stp (r : PRd) (c : UInt8) : Stp r (byteP r c) := by
  unfold byteP
  split
  · rename_i he; exact .bad _ rfl he
  · split
    · rename_i hp
      unfold takeP
      split
      · exact stp_line r hp.1 hp.2 _
      · split
        · exact fault_bad r (by decide) rfl
        · split
          · exact fault_bad r (by decide) rfl
          · exact .on _ rfl fun h => h
    · have hne : r.raw.body ++ [c] ≠ [] := by simp
      unfold bodyByte
      dsimp only
      split
      · exact .on _ rfl fun _ => .inl hne
      · split
        · exact .whole _ fun _ => hne
        · exact .on _ rfl fun _ => .inl hne
def Jb (r : PRd) : Prop := r.err ≠ 0 ∨ (r.out = [] ∧ Bd r) ∨ ∃ x xs, r.out = x :: xs ∧ x.body ≠ []
theorem jb_step {r : PRd} (h : Jb r) (c : UInt8) : Jb (byteP r c) := by
  by_cases he : r.err ≠ 0
  · have : byteP r c = r := by unfold byteP; rw [if_pos he]
    rw [this]; exact h
  rcases h with h | ⟨h1, h2⟩ | ⟨x, xs, h1, h2⟩
  · exact absurd h he
  · have hs := stp r c
    generalize byteP r c = s at *
    cases hs with
    | bad _ ho he => exact .inl he
    | on _ ho hb => exact .inr (.inl ⟨by rw [ho, h1], hb h2⟩)
    | whole x hb => exact .inr (.inr ⟨x, [], by show r.out ++ [x] = [x]; rw [h1]; rfl, hb h2⟩)
  · have hs := stp r c
    generalize byteP r c = s at *
    cases hs with
    | bad _ ho he => exact .inl he
    | on _ ho hb => exact .inr (.inr ⟨x, xs, by rw [ho, h1], h2⟩)
    | whole y hb => exact .inr (.inr ⟨x, xs ++ [y], by show r.out ++ [y] = _; rw [h1]; rfl, h2⟩)
theorem jb_feed : ∀ (l : List UInt8) (r : PRd), Jb r → Jb (feedP r l)
  | [], _, h => h
  | c :: l, r, h => jb_feed l (byteP r c) (jb_step h c)
theorem first_out (b : List UInt8) : ∀ k, k ≤ b.length → (feedP rd0 (b.take k)).out ≠ [] → ∃ j, j ≤ k ∧ ∃ o, o ≠ [] ∧ feedP rd0 (b.take j) = idl o
  | 0, _, h => absurd rfl h
  | k + 1, hk, h => by
    by_cases h0 : (feedP rd0 (b.take k)).out ≠ []
    · obtain ⟨j, hj, o, ho⟩ := first_out b k (by omega) h0
      exact ⟨j, by omega, o, ho⟩
    · have h0 : (feedP rd0 (b.take k)).out = [] := by simpa using h0
      rw [feed_snoc rd0 b (by omega)] at h
      have hs := stp (feedP rd0 (b.take k)) b[k]
      generalize hq : byteP (feedP rd0 (b.take k)) b[k] = s at *
      cases hs with
      | bad _ ho he => rw [ho, h0] at h; exact absurd rfl h
      | on _ ho hb => rw [ho, h0] at h; exact absurd rfl h
      | whole x hb =>
        refine ⟨k + 1, Nat.le_refl _, _, ?_, (feed_snoc rd0 b (by omega)).trans hq⟩
        rw [h0]; simp
structure Way (b : List UInt8) (k : Nat) : Prop where
  er : (feedP rd0 (b.take k)).err = 0
  ou : (feedP rd0 (b.take k)).out = []
  p2 : (feedP rd0 (b.take k)).phase ≠ 2
  p4 : (feedP rd0 (b.take k)).phase ≠ 4
theorem way {b : List UInt8} {q : PRaw} (h : rawsL b = ([q], 0)) (hq : q.body = []) {k : Nat} (hk : k < b.length) : Way b k := by
  have hf := rawsL_ok h
  have hd : feedP (feedP rd0 (b.take k)) (b.drop k) = idl [q] := by rw [← feedP_app, List.take_append_drop]; exact hf
  have he : (feedP rd0 (b.take k)).err = 0 := by
    by_cases h0 : (feedP rd0 (b.take k)).err = 0
    · exact h0
    · rw [feed_err h0] at hd
      rw [hd] at h0; exact absurd rfl h0
  have ho : (feedP rd0 (b.take k)).out = [] := by
    by_cases h0 : (feedP rd0 (b.take k)).out = []
    · exact h0
    · obtain ⟨j, hj, o, ho, hjo⟩ := first_out b k (by omega) h0
      have h2 : feedP (idl o) (b.drop j) = idl [q] := by rw [← hjo, ← feedP_app, List.take_append_drop]; exact hf
      rw [idl_addO, feed_addO] at h2
      have h3 := congrArg PRd.out h2
      have h4 : idleP (feedP rd0 (b.drop j)) = true := by
        have := congrArg idleP h2
        exact this
      have h5 := idle_more (l := b.drop j) (fun e => by have := congrArg List.length e; rw [List.length_drop] at this; simp at this; omega) h4
      have h6 : o ++ (feedP rd0 (b.drop j)).out = [q] := h3
      have := congrArg List.length h6
      rw [List.length_append] at this
      have l1 := List.length_pos_iff.2 ho
      have l2 := List.length_pos_iff.2 h5
      simp at this; omega
  have hnb : ¬ Bd (feedP rd0 (b.take k)) := fun hb => by
    have hj := jb_feed (b.drop k) _ (.inr (.inl ⟨ho, hb⟩))
    rw [hd] at hj
    rcases hj with hj | ⟨hj, _⟩ | ⟨x, xs, h1, h2⟩
    · exact hj rfl
    · cases hj
    · have h1 : [q] = x :: xs := h1
      injection h1 with h1 _
      subst h1; exact h2 hq
  exact ⟨he, ho, fun e => hnb (.inr (.inl e)), fun e => hnb (.inr (.inr e))⟩
theorem Way.byte {b : List UInt8} {k : Nat} (w : Way b k) (c : UInt8) : byteP (feedP rd0 (b.take k)) c = takeP (feedP rd0 (b.take k)) c := byte_take _ w.er w.p2 w.p4 c
theorem line_nil (r : PRd) (hl : r.line = []) (s : ByteArray) : (lineP r s).line = [] := by
  unfold lineP
  repeat' first | split | unfold headerP bodyP | unfold headerP | unfold bodyP | unfold chunkP | unfold endedP
  all_goals first | exact hl | rfl
structure Dead (t : List UInt8) : Prop where
  ou : (feedP rd0 t).out = []
  no : ∀ x, rawsL t ≠ ([x], 0)
theorem dead_fault {r : PRd} {a l : List UInt8} (hr : feedP rd0 a = r) (he : r.err ≠ 0) (ho : r.out = []) : Dead (a ++ l) := by
  have hf : feedP rd0 (a ++ l) = r := by rw [feedP_app, hr, feed_err he]
  refine ⟨by rw [hf]; exact ho, fun x hx => ?_⟩
  unfold rawsL at hx
  rw [hf, if_pos he] at hx
  injection hx with h1; cases h1
theorem take_bad1 {r : PRd} {c : UInt8} (h : (c.toNat = 10 ∧ crP r.line = false) ∨ (c.toNat ≠ 10 ∧ crP r.line = true)) : takeP r c = faultP r 2 := by
  unfold takeP
  rcases h with ⟨h1, h2⟩ | ⟨h1, h2⟩
  · rw [if_neg (by rw [h2]; simp), if_pos (.inl h1)]
  · rw [if_neg (by simp [h1]), if_pos (.inr h2)]
def wl (r : PRd) (l : List UInt8) : PRd := ⟨r.phase, l, r.raw, r.left, r.err, r.out⟩
theorem take_13 {r : PRd} {c : UInt8} (hc : c.toNat = 13) (h : crP r.line = false) : takeP r c = wl r (r.line ++ [c]) := by
  unfold takeP
  rw [if_neg (by omega), if_neg (by rw [h]; simp; omega), if_neg (by omega)]; rfl
theorem take_10 {r : PRd} {c : UInt8} (hc : c.toNat = 10) (h : crP r.line = true) : takeP r c = lineP { r with line := [] } (bs r.line.dropLast) := by
  unfold takeP
  rw [if_pos ⟨hc, h⟩]
section
variable {b : List UInt8} {q : PRaw} (h : rawsL b = ([q], 0)) (hq : q.body = [])
theorem next_eq {k : Nat} (w : Way b k) (hk : k < b.length) : feedP rd0 (b.take (k + 1)) = takeP (feedP rd0 (b.take k)) b[k] := by
  rw [feed_snoc rd0 b hk, w.byte]
include h hq
theorem next_ok {k : Nat} (hk : k < b.length) : (takeP (feedP rd0 (b.take k)) b[k]).err = 0 := by
  rw [← next_eq (way h hq hk) hk]
  by_cases hk1 : k + 1 < b.length
  · exact (way h hq hk1).er
  · rw [List.take_of_length_le (by omega), rawsL_ok h]; rfl
theorem ok10 {k : Nat} (hk : k < b.length) (hc : b[k].toNat = 10) : crP (feedP rd0 (b.take k)).line = true := by
  have h1 := next_ok h hq hk
  cases hcr : crP (feedP rd0 (b.take k)).line with
  | true => rfl
  | false => rw [take_bad1 (.inl ⟨hc, hcr⟩)] at h1; cases h1
theorem cr10 {k : Nat} (hk : k < b.length) (hcr : crP (feedP rd0 (b.take k)).line = true) : b[k].toNat = 10 := by
  have h1 := next_ok h hq hk
  by_cases hc : b[k].toNat = 10
  · exact hc
  · rw [take_bad1 (.inr ⟨hc, hcr⟩)] at h1; cases h1
theorem dead1 {k : Nat} (hk : k < b.length) (c : UInt8) (l : List UInt8) (hc : (c.toNat = 10 ∧ crP (feedP rd0 (b.take k)).line = false) ∨ (c.toNat ≠ 10 ∧ crP (feedP rd0 (b.take k)).line = true)) : Dead (b.take k ++ c :: l) := by
  have w := way h hq hk
  rw [show b.take k ++ c :: l = (b.take k ++ [c]) ++ l by simp]
  refine dead_fault (r := faultP (feedP rd0 (b.take k)) 2) ?_ (by show (2 : Int) ≠ 0; decide) w.ou
  rw [feedP_app]
  show byteP _ c = _
  rw [w.byte, take_bad1 hc]
theorem nil_next {k : Nat} (hk : k < b.length) (hc : b[k].toNat = 10) : (feedP rd0 (b.take (k + 1))).line = [] := by
  rw [next_eq (way h hq hk) hk, take_10 hc (ok10 h hq hk hc)]
  exact line_nil _ rfl _
theorem bare_less {k : Nat} (hk : k < b.length) (hc : b[k].toNat = 13 ∨ b[k].toNat = 10) : Dead (b.take k ++ b.drop (k + 1)) := by
  have w := way h hq hk
  rcases hc with hc | hc
  · have hcr : crP (feedP rd0 (b.take k)).line = false := by
      cases hx : crP (feedP rd0 (b.take k)).line with
      | false => rfl
      | true => have := cr10 h hq hk hx; omega
    have hn := next_eq w hk
    rw [take_13 hc hcr] at hn
    have hk1 : k + 1 < b.length := by
      by_cases hk1 : k + 1 < b.length
      · exact hk1
      · rw [List.take_of_length_le (by omega), rawsL_ok h] at hn
        have := congrArg PRd.line hn
        have : ([] : List UInt8) = (feedP rd0 (b.take k)).line ++ [b[k]] := this
        simp at this
    have hcr1 : crP (feedP rd0 (b.take (k + 1))).line = true := by
      rw [hn]
      show crP (_ ++ [b[k]]) = true
      rw [crP_snoc, decide_eq_true hc]
    have h10 := cr10 h hq hk1 hcr1
    rw [List.drop_eq_getElem_cons hk1]
    exact dead1 h hq hk _ _ (.inl ⟨h10, hcr⟩)
  · have hcr := ok10 h hq hk hc
    by_cases hk1 : k + 1 < b.length
    · have hne : b[k + 1].toNat ≠ 10 := fun e => by
        have := ok10 h hq hk1 e
        rw [nil_next h hq hk hc] at this
        cases this
      rw [List.drop_eq_getElem_cons hk1]
      exact dead1 h hq hk _ _ (.inr ⟨hne, hcr⟩)
    · rw [List.drop_of_length_le (by omega), List.append_nil]
      exact ⟨w.ou, alone_less h hk⟩
theorem bare_more {k : Nat} (hk : k < b.length) {c : UInt8} (hc : c.toNat = 13 ∨ (c.toNat = 10 ∧ k ≠ b.length - 1)) : Dead (b.take k ++ c :: b.drop k) := by
  have w := way h hq hk
  rcases hc with hc | ⟨hc, hkl⟩
  · cases hcr : crP (feedP rd0 (b.take k)).line with
    | true => exact dead1 h hq hk _ _ (.inr ⟨by omega, hcr⟩)
    | false =>
      have hne : b[k].toNat ≠ 10 := fun e => by rw [ok10 h hq hk e] at hcr; cases hcr
      rw [List.drop_eq_getElem_cons hk, show b.take k ++ c :: b[k] :: b.drop (k + 1) = (b.take k ++ [c] ++ [b[k]]) ++ b.drop (k + 1) by simp]
      have e1 : feedP rd0 (b.take k ++ [c]) = (wl (feedP rd0 (b.take k)) ((feedP rd0 (b.take k)).line ++ [c])) := by
        rw [feedP_app]
        show byteP _ c = _
        rw [w.byte, take_13 hc hcr]
      refine dead_fault (r := faultP (wl (feedP rd0 (b.take k)) ((feedP rd0 (b.take k)).line ++ [c])) 2) ?_ (by show (2 : Int) ≠ 0; decide) w.ou
      rw [feedP_app, e1]
      show byteP _ b[k] = _
      have hw : crP (wl (feedP rd0 (b.take k)) ((feedP rd0 (b.take k)).line ++ [c])).line = true := by show crP (_ ++ [c]) = true; rw [crP_snoc, decide_eq_true hc]
      exact (byte_take (wl (feedP rd0 (b.take k)) ((feedP rd0 (b.take k)).line ++ [c])) w.er w.p2 w.p4 b[k]).trans (take_bad1 (.inr ⟨hne, hw⟩))
  · cases hcr : crP (feedP rd0 (b.take k)).line with
    | false => exact dead1 h hq hk _ _ (.inl ⟨hc, hcr⟩)
    | true =>
      have hk1 : k + 1 < b.length := by omega
      have hb := cr10 h hq hk hcr
      have hbc : b[k] = c := UInt8.toNat_inj.1 (by omega)
      rw [List.drop_eq_getElem_cons hk, show b.take k ++ c :: b[k] :: b.drop (k + 1) = (b.take k ++ [b[k]]) ++ c :: b.drop (k + 1) by rw [hbc]; simp, ← List.take_succ_eq_append_getElem hk]
      exact dead1 h hq hk1 _ _ (.inl ⟨hc, by rw [nil_next h hq hk hb]; rfl⟩)
end
end Go.Proofs.YtloippgblkoemaaGreatDoor.Bare

/- utf8's tables: that they lie in memory, from what a row lays. -/
namespace Go.Proofs.YtloippgblkoemaaGreatDoor.Mp
set_option linter.unusedVariables false
set_option linter.unusedSimpArgs false
open Go.RowKit Mem Sim Go.Lib
theorem lays260 : Lays.n260 Tryz.prog rho where
  mixed := lays230.mixed
  f260 := lays230.f260
  t0 := lays230.t0
  a0 := lays230.a0
  z0 := lays230.z0
  v0 := lays230.v0
  t3 := lays230.t3
  a3 := lays230.a3
  z3 := lays230.z3
  v3 := lays230.v3
  t4 := lays230.t4
  a4 := lays230.a4
  z4 := lays230.z4
  v4 := lays230.v4
  t5 := lays230.t5
  a5 := lays230.a5
  z5 := lays230.z5
  v5 := lays230.v5
  t9 := lays230.t9
  a9 := lays230.a9
  z9 := lays230.z9
  v9 := lays230.v9
  t21 := lays230.t21
  a21 := lays230.a21
  z21 := lays230.z21
  v21 := lays230.v21
  t46 := lays230.t46
  a46 := lays230.a46
  z46 := lays230.z46
  v46 := lays230.v46
  t119 := lays230.t119
  a119 := lays230.a119
  z119 := lays230.z119
  t138 := lays230.t138
  a138 := lays230.a138
  z138 := lays230.z138
  v138 := lays230.v138
  t139 := lays230.t139
  a139 := lays230.a139
  z139 := lays230.z139
  v139 := lays230.v139
  g3 := lays230.g3
  g4 := lays230.g4
theorem u8extra : U8Extra Tryz.prog rho where
  n3 := by kernel_rfl
  n4 := by kernel_rfl
  y3 := by kernel_rfl
  y4 := by kernel_rfl
  c5 := by kernel_rfl
  c119 := by kernel_rfl
  c138 := by kernel_rfl
theorem tabs_law {w : World} (h : laidMetH Tryz.prog [("unicode/utf8.acceptRanges", Rows.laid_unicode_utf8_acceptRanges), ("unicode/utf8.first", Rows.laid_unicode_utf8_first)] w) : GT (allm w) := by
  have h2 : laidMet Tryz.prog [("unicode/utf8.acceptRanges", Rows.laid_unicode_utf8_acceptRanges), ("unicode/utf8.first", Rows.laid_unicode_utf8_first)] w := by
    rw [MakeChecks.laidMetH_plain _ _ _ (by kernel_rfl)] at h; exact h
  have e1 : (Rows.laid_unicode_utf8_first : DataW Unit) = firstData := by kernel_rfl
  have e2 : (Rows.laid_unicode_utf8_acceptRanges : DataW Unit) = acceptData := by kernel_rfl
  have r1 := laidMet.reads h2 (n := "unicode/utf8.first") (d := firstData) (by rw [← e1]; simp)
  have r2 := laidMet.reads h2 (n := "unicode/utf8.acceptRanges") (d := acceptData) (by rw [← e2]; simp)
  obtain ⟨t1, t2⟩ := utf8Tabs_of_reads lays260 u8extra r1 r2
  intro b o v hv
  unfold tabC at hv
  split at hv
  · rename_i hb
    split at hv
    · rename_i ho
      injection hv with hv; subst hv hb
      exact t1 o ho
    · cases hv
  · split at hv
    · rename_i hb
      split at hv
      · rename_i ho
        injection hv with hv; subst hv hb
        obtain ⟨u1, u2⟩ := t2 (o / 2) (by omega)
        split
        · rename_i h0
          rw [show 2 * (o / 2) = o by omega] at u1
          exact u1
        · rename_i h0
          rw [show 2 * (o / 2) + 1 = o by omega] at u2
          exact u2
      · cases hv
    · cases hv
end Go.Proofs.YtloippgblkoemaaGreatDoor.Mp
