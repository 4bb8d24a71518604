/- Merged by bundles.py: OpenW, RequestMay, Tabs, SimPc, PlRows. -/
import Derived.Test.YtpncekdhigappaaGreatDoorS34
import Derived.Test.YtpncekdhigappaaGreatDoorS26
import Derived.Test.YtpncekdhigappaaGreatDoorRows
import Derived.Lib.LaidU8
import Derived.MakeChecks
import Derived.Test.YtpncekdhigappaaGreatDoorS30
import Derived.Test.YtpncekdhigappaaGreatDoorS33
/- Readings whose texts are not longer than memory may be. -/
namespace Go.Proofs.YtpncekdhigappaaGreatDoor.Rq
set_option linter.unusedVariables false
set_option linter.unusedSimpArgs false
set_option maxRecDepth 100000
open Go.RowKit Go.WideShapes Go.ChangeShapes Go.Joins Mem Sim Opn Hd An
def lightD {H : Type} (t : TypeId) (d : DataW H) : Prop := ((d.weights Tryz.prog t).all (· ≤ reachBytes)) = true
/-- a reading at type t that is light gives R -/
def OpensW {α : Type} (t : TypeId) (R : Mem.Rel α) : Prop :=
  ∀ (H : Type) (enc : TypeId × Value → H) (w : World) (base : Nat) (spare : Nat → Bool) (held : Bool) (fuel : Nat) (cs : List Value) (x : DataW H × List MemPlace), DataW.trod enc Tryz.prog w base spare held fuel t cs = some x → lightD t x.1 → ∃ y, R w.heap.size w y cs
def StrW : Mem.Rel ByteArray := fun B w s cs => StrC B w s cs ∧ s.size ≤ reachBytes
theorem opensW_str {t : TypeId} (ht : Tryz.prog.underlying t = some .string) : OpensW t StrW := by
  intro H enc w base spare held fuel cs x h hw
  obtain ⟨s, rfl, hx, hl⟩ := DataW.trod_string ht h
  refine ⟨s, ⟨rfl, hl⟩, ?_⟩
  subst hx
  unfold lightD at hw
  unfold DataW.weights at hw
  rw [show s.size = s.data.toList.length from (by rw [← toList_len, ByteArray.toList_eq])]
  generalize reachBytes = rb at *
  simpa using hw
theorem light_each {H : Type} : ∀ (ts : List TypeId) (ds : List (DataW H)), ((DataW.weightsEach Tryz.prog ts ds).all (· ≤ reachBytes)) = true → ∀ (i : Nat) t d, ts[i]? = some t → ds[i]? = some d → lightD t d
  | [], _, _, i, t, d, h1, _ => by simp at h1
  | _ :: _, [], _, i, t, d, _, h2 => by simp at h2
  | t0 :: ts, d0 :: ds, h, i, t, d, h1, h2 => by
    unfold DataW.weightsEach at h
    rw [List.all_append, Bool.and_eq_true] at h
    cases i with
    | zero => simp at h1 h2; subst h1 h2; exact h.1
    | succ i => exact light_each ts ds h.2 i t d (by simpa using h1) (by simpa using h2)
def ReqW : Mem.Rel PReq := fun B w x cs => ReqR B w x cs ∧ x.method.size ≤ reachBytes ∧ x.target.size ≤ reachBytes ∧ x.path.size ≤ reachBytes ∧ x.query.size ≤ reachBytes ∧ x.host.size ≤ reachBytes
theorem req_opensW : OpensW 57 ReqW := by
  intro H enc w base spare held fuel cs x h hw
  obtain ⟨xs, n, _, hx, hlen, hxl, hf⟩ := DataW.trod_struct Tryz.underlying57 h
  have hl := hlen.trans cells_Req
  obtain ⟨c0, c1, c2, c3, c4, c5, c6, rfl⟩ : ∃ c0 c1 c2 c3 c4 c5 c6, cs = [c0, c1, c2, c3, c4, c5, c6] := by
    match cs, hl with
    | [c0, c1, c2, c3, c4, c5, c6], _ => exact ⟨c0, c1, c2, c3, c4, c5, c6, rfl⟩
  obtain ⟨y0, y1, y2, y3, y4, y5, y6, rfl⟩ : ∃ y0 y1 y2 y3 y4 y5 y6, xs = [y0, y1, y2, y3, y4, y5, y6] := by
    match xs, hxl with
    | [y0, y1, y2, y3, y4, y5, y6], _ => exact ⟨y0, y1, y2, y3, y4, y5, y6, rfl⟩
  subst hx
  unfold lightD DataW.weights at hw
  rw [Tryz.underlying57] at hw
  have hL := light_each _ _ hw
  have f0 : DataW.trod enc Tryz.prog w base spare held n 9 [c0] = some y0 := by
    have := hf 0 _ rfl
    simpa [one_bytes, one_heads, one_string] using this
  obtain ⟨v0, r0⟩ := (opensW_str Tryz.underlying9) H enc w base spare held n [c0] y0 f0 (hL 0 _ _ rfl rfl)
  have f1 : DataW.trod enc Tryz.prog w base spare held n 9 [c1] = some y1 := by
    have := hf 1 _ rfl
    simpa [one_bytes, one_heads, one_string] using this
  obtain ⟨v1, r1⟩ := (opensW_str Tryz.underlying9) H enc w base spare held n [c1] y1 f1 (hL 1 _ _ rfl rfl)
  have f2 : DataW.trod enc Tryz.prog w base spare held n 9 [c2] = some y2 := by
    have := hf 2 _ rfl
    simpa [one_bytes, one_heads, one_string] using this
  obtain ⟨v2, r2⟩ := (opensW_str Tryz.underlying9) H enc w base spare held n [c2] y2 f2 (hL 2 _ _ rfl rfl)
  have f3 : DataW.trod enc Tryz.prog w base spare held n 9 [c3] = some y3 := by
    have := hf 3 _ rfl
    simpa [one_bytes, one_heads, one_string] using this
  obtain ⟨v3, r3⟩ := (opensW_str Tryz.underlying9) H enc w base spare held n [c3] y3 f3 (hL 3 _ _ rfl rfl)
  have f4 : DataW.trod enc Tryz.prog w base spare held n 9 [c4] = some y4 := by
    have := hf 4 _ rfl
    simpa [one_bytes, one_heads, one_string] using this
  obtain ⟨v4, r4⟩ := (opensW_str Tryz.underlying9) H enc w base spare held n [c4] y4 f4 (hL 4 _ _ rfl rfl)
  have f5 : DataW.trod enc Tryz.prog w base spare held n 22 [c5] = some y5 := by
    have := hf 5 _ rfl
    simpa [one_bytes, one_heads, one_string] using this
  obtain ⟨v5, r5⟩ := heads_opens H enc w base spare held n [c5] y5 f5
  have f6 : DataW.trod enc Tryz.prog w base spare held n 23 [c6] = some y6 := by
    have := hf 6 _ rfl
    simpa [one_bytes, one_heads, one_string] using this
  obtain ⟨v6, r6⟩ := bytes_opens H enc w base spare held n [c6] y6 f6
  exact ⟨⟨v0, v1, v2, v3, v4, v5, v6⟩, ⟨c0, c1, c2, c3, c4, c5, c6, rfl, r0.1, r1.1, r2.1, r3.1, r4.1, r5, r6⟩, r0.2, r1.2, r2.2, r3.2, r4.2⟩
/-- a struct handed in -/
theorem open_struct_argW {α : Type} {t : TypeId} {fs : Array Field} {R : Mem.Rel α} (ht : Tryz.prog.underlying t = some (.struct fs)) (hO : OpensW t R) {H : Type} {enc : TypeId × Value → H} {w : World} {r : Reach} {b0 base : Nat} {spare : Nat → Bool} {held : Bool} {v : Value} {d : DataW H} {p : List MemPlace}
    (hw : lightD t d) (hv : Value.okWide Tryz.prog w r b0 t v) (h : DataW.Trod enc Tryz.prog w base spare held t v d p) :
    ∃ (cs : Array Value) (y : α), v = .agg cs ∧ R w.heap.size w y cs.toList := by
  obtain ⟨cs, rfl, _⟩ := okWide_struct ht hv
  obtain ⟨fuel, hf⟩ := h
  obtain ⟨y, hy⟩ := hO H enc w base spare held fuel _ _ hf hw
  exact ⟨cs, y, rfl, hy⟩
theorem light_all {H : Type} (e : TypeId) : ∀ (ds : List (DataW H)), ((DataW.weightsAll Tryz.prog e ds).all (· ≤ reachBytes)) = true → ∀ d ∈ ds, lightD e d
  | [], _, d, h => by cases h
  | d0 :: ds, h, d, hd => by
    unfold DataW.weightsAll at h
    rw [List.all_append, Bool.and_eq_true] at h
    rcases List.mem_cons.1 hd with rfl | hd
    · exact h.1
    · exact light_all e ds h.2 d hd
theorem slice_opensW {α : Type} [Inhabited α] {t e sz : Nat} {R : Mem.Rel α} (ht : Tryz.prog.underlying t = some (.slice e)) (hC : Tryz.prog.cellsOf e = sz) (hsz : 0 < sz) (hR : OpensW e R)
    {H : Type} {enc : TypeId × Value → H} {w : World} {base : Nat} {spare : Nat → Bool} {held : Bool} {fuel : Nat} {cs : List Value} {x : DataW H × List MemPlace} (h : DataW.trod enc Tryz.prog w base spare held fuel t cs = some x) (hw : lightD t x.1) :
    ∃ (A : Option Addr) (cap : Nat) (xs : List α), cs = [.slice A xs.length cap] ∧ SliceAt R sz w.heap.size w A xs ∧ xs.length ≤ cap ∧ cap ≤ maxLen := by
  rcases Go.Deep.open_slice ht h with ⟨hcs, _⟩ | ⟨a, len, cap, m, n, D, Pl, hcs, hb, hl, hm, hmm, hx, hi⟩
  · exact ⟨none, 0, [], hcs, SliceAt.nil, Nat.le_refl _, Nat.zero_le _⟩
  · have hlm : len ≤ m := by rw [hmm]; split <;> omega
    have hD : ∀ i, i < len → lightD e (D i) := fun i hil => by
      subst hx
      unfold lightD DataW.weights at hw
      rw [ht] at hw
      dsimp only at hw
      rw [List.all_cons, List.all_append, Bool.and_eq_true, Bool.and_eq_true] at hw
      exact light_all e _ hw.2.1 _ (List.mem_map.2 ⟨i, List.mem_range.2 hil, rfl⟩)
    have hex : ∀ i, i < len → ∃ (y : α) (cs' : List Value), w.cells? base (a.add (i * sz)) sz = some cs' ∧ R w.heap.size w y cs' := by
      intro i hil
      obtain ⟨cs', hc, ht'⟩ := hi i (by omega)
      rw [hC] at hc
      obtain ⟨y, hy⟩ := hR H enc w base spare held n cs' _ ht' (hD i hil)
      exact ⟨y, cs', hc, hy⟩
    have hf : ∃ f : Nat → α, ∀ i, i < len → ∃ cs', w.cells? base (a.add (i * sz)) sz = some cs' ∧ R w.heap.size w (f i) cs' := by
      refine ⟨fun i => if h : i < len then (hex i h).choose else default, fun i hil => ?_⟩
      simp only [dif_pos hil]
      exact (hex i hil).choose_spec
    obtain ⟨f, hf⟩ := hf
    refine ⟨some a, cap, (List.range len).map f, by simpa using hcs, ?_, by simpa using hl, hm⟩
    intro k y hk
    have hkl : k < len := by
      rcases Nat.lt_or_ge k len with h' | h'
      · exact h'
      · rw [List.getElem?_eq_none (by simpa using h')] at hk; cases hk
    rw [List.getElem?_map, List.getElem?_range hkl] at hk
    simp at hk; subst hk
    obtain ⟨cs', hc, hr⟩ := hf k hkl
    obtain ⟨_, hlen, hat⟩ := World.cells?_some hc
    have h0 : w.cell? ((a.add (k * sz)).add 0) = some (cs'[0]'(by omega)) := by rw [hat 0 hsz, List.getElem?_eq_getElem]
    obtain ⟨b, off, spot⟩ := a
    have hspot : k = 0 → spot = none := by
      intro hk0; subst hk0
      simp [Addr.add] at h0
      cases spot with
      | none => rfl
      | some q =>
        simp only [World.cell?] at h0
        split at h0
        · simp at h0
        · cases h0
    -- the row's address bears no spot: its first element shows it
    have hsp : spot = none := by
      rcases Nat.eq_zero_or_pos k with hk0 | hk0
      · exact hspot hk0
      · obtain ⟨cs0, hc0, _⟩ := hf 0 (by omega)
        obtain ⟨_, hlen0, hat0⟩ := World.cells?_some hc0
        have h00 : w.cell? (((⟨b, off, spot⟩ : Addr).add (0 * sz)).add 0) = some (cs0[0]'(by omega)) := by rw [hat0 0 hsz, List.getElem?_eq_getElem]
        simp [Addr.add] at h00
        cases spot with
        | none => rfl
        | some q =>
          simp only [World.cell?] at h00
          split at h00
          · simp at h00
          · cases h00
    subst hsp
    have hadd : ∀ j, ((⟨b, off, none⟩ : Addr).add (k * sz)).add j = ⟨b, off + (k * sz + j), none⟩ := by
      intro j
      rw [Go.Deep.add_add, addr_add]
    refine ⟨b, off, cs', rfl, ?_, hlen, ?_, hr⟩
    · have := World.block_lt_of_cell? w _ h0
      rw [hadd] at this
      exact this
    · intro j v hj
      have hjl : j < sz := by rw [← hlen]; exact (List.getElem?_eq_some_iff.1 hj).1
      rw [← hadd, hat j hjl, hj]
/-- a slice handed in -/
theorem open_slice_argW {α : Type} [Inhabited α] {t e sz : Nat} {R : Mem.Rel α} (ht : Tryz.prog.underlying t = some (.slice e)) (hC : Tryz.prog.cellsOf e = sz) (hsz : 0 < sz) (hO : OpensW e R) {H : Type} {enc : TypeId × Value → H} {w : World} {r : Reach} {b0 base : Nat} {spare : Nat → Bool} {held : Bool} {v : Value} {d : DataW H} {p : List MemPlace}
    (hw : lightD t d) (hv : Value.okWide Tryz.prog w r b0 t v) (h : DataW.Trod enc Tryz.prog w base spare held t v d p) :
    ∃ (A : Option Addr) (cap : Nat) (xs : List α), v = .slice A xs.length cap ∧ SliceAt R sz w.heap.size w A xs ∧ xs.length ≤ cap ∧ cap ≤ maxLen := by
  obtain ⟨a, len, c, rfl⟩ := okWide_slice ht hv
  obtain ⟨fuel, hf⟩ := h
  obtain ⟨A, cap, xs, hcs, hA, h1, h2⟩ := slice_opensW ht hC hsz hO hf hw
  simp [Value.cells] at hcs
  obtain ⟨rfl, rfl, rfl⟩ := hcs
  exact ⟨_, _, xs, rfl, hA, h1, h2⟩
structure okReqW (a : PReq) : Prop where
  ok : okReq a
  hm : a.method.size ≤ reachBytes
  ht : a.target.size ≤ reachBytes
  hp : a.path.size ≤ reachBytes
  hq : a.query.size ≤ reachBytes
  hs : a.host.size ≤ reachBytes
theorem req_okW (B : Nat) (w : World) (x : PReq) (cs : List Value) (h : ReqW B w x cs) : okReqW x := ⟨req_ok _ _ _ _ h.1, h.2.1, h.2.2.1, h.2.2.2.1, h.2.2.2.2.1, h.2.2.2.2.2⟩
end Go.Proofs.YtpncekdhigappaaGreatDoor.Rq

/- The law RequestMay: a walk. -/
namespace Go.Proofs.YtpncekdhigappaaGreatDoor.RequestMay
set_option linter.unusedVariables false
set_option linter.unusedSimpArgs false
open Go.RowKit Mem Sim Opn Hd Str Pth Rq Ro
def toR (a : Rq.PReq) : Ro.PReq := ⟨a.method, a.target, a.path, a.query, a.host, a.heads, a.body⟩
structure Sm (a : Ro.PReq) : Prop where
  h1 : a.method.size ≤ 140737488355328
  h2 : a.target.size ≤ 140737488355328
  h3 : a.path.size ≤ 140737488355328
  h4 : a.query.size ≤ 140737488355328
  h5 : a.host.size ≤ 140737488355328
  hh : ∀ h ∈ a.heads, okHead h
theorem reach {n : Nat} (h : n ≤ reachBytes) : n ≤ 140737488355328 := Nat.le_trans h (by decide)
theorem sm_ok {a : Rq.PReq} (h : okReqW a) : Sm (toR a) := ⟨reach h.hm, reach h.ht, reach h.hp, reach h.hq, reach h.hs, h.ok.hh⟩
def cutR (a : Ro.PReq) : PRaw := ⟨a.method ++ a.target, a.heads, a.body⟩
theorem short_ok {a : Ro.PReq} (h : Sm a) (hl : longW (cutR a) = false) : ReqOk a := by
  have g := longW_no hl
  have h1 : (a.method ++ a.target).size ≤ 2000 := g.hs
  rw [ByteArray.size_append] at h1
  exact ⟨by omega, by omega, by have : a.heads.length ≤ 100 := g.hn; omega, h.hh, g.vals, by have : a.body.length ≤ 3000 := g.hb; omega⟩
end Go.Proofs.YtpncekdhigappaaGreatDoor.RequestMay

/- utf8's tables: that they lie in memory, from what a row lays. -/
namespace Go.Proofs.YtpncekdhigappaaGreatDoor.Mp
set_option linter.unusedVariables false
set_option linter.unusedSimpArgs false
open Go.RowKit Mem Sim Go.Lib
theorem lays260 : Lays.n260 Tryz.prog rho where
  mixed := lays230.mixed
  f260 := lays230.f260
  t0 := lays230.t0
  a0 := lays230.a0
  z0 := lays230.z0
  v0 := lays230.v0
  t3 := lays230.t3
  a3 := lays230.a3
  z3 := lays230.z3
  v3 := lays230.v3
  t4 := lays230.t4
  a4 := lays230.a4
  z4 := lays230.z4
  v4 := lays230.v4
  t5 := lays230.t5
  a5 := lays230.a5
  z5 := lays230.z5
  v5 := lays230.v5
  t9 := lays230.t9
  a9 := lays230.a9
  z9 := lays230.z9
  v9 := lays230.v9
  t21 := lays230.t21
  a21 := lays230.a21
  z21 := lays230.z21
  v21 := lays230.v21
  t46 := lays230.t46
  a46 := lays230.a46
  z46 := lays230.z46
  v46 := lays230.v46
  t119 := lays230.t119
  a119 := lays230.a119
  z119 := lays230.z119
  t138 := lays230.t138
  a138 := lays230.a138
  z138 := lays230.z138
  v138 := lays230.v138
  t139 := lays230.t139
  a139 := lays230.a139
  z139 := lays230.z139
  v139 := lays230.v139
  g3 := lays230.g3
  g4 := lays230.g4
theorem u8extra : U8Extra Tryz.prog rho where
  n3 := by kernel_rfl
  n4 := by kernel_rfl
  y3 := by kernel_rfl
  y4 := by kernel_rfl
  c5 := by kernel_rfl
  c119 := by kernel_rfl
  c138 := by kernel_rfl
theorem tabs_law {w : World} (h : laidMetH Tryz.prog [("unicode/utf8.acceptRanges", Rows.laid_unicode_utf8_acceptRanges), ("unicode/utf8.first", Rows.laid_unicode_utf8_first)] w) : GT (allm w) := by
  have h2 : laidMet Tryz.prog [("unicode/utf8.acceptRanges", Rows.laid_unicode_utf8_acceptRanges), ("unicode/utf8.first", Rows.laid_unicode_utf8_first)] w := by
    rw [MakeChecks.laidMetH_plain _ _ _ (by kernel_rfl)] at h; exact h
  have e1 : (Rows.laid_unicode_utf8_first : DataW Unit) = firstData := by kernel_rfl
  have e2 : (Rows.laid_unicode_utf8_acceptRanges : DataW Unit) = acceptData := by kernel_rfl
  have r1 := laidMet.reads h2 (n := "unicode/utf8.first") (d := firstData) (by rw [← e1]; simp)
  have r2 := laidMet.reads h2 (n := "unicode/utf8.acceptRanges") (d := acceptData) (by rw [← e2]; simp)
  obtain ⟨t1, t2⟩ := utf8Tabs_of_reads lays260 u8extra r1 r2
  intro b o v hv
  unfold tabC at hv
  split at hv
  · rename_i hb
    split at hv
    · rename_i ho
      injection hv with hv; subst hv hb
      exact t1 o ho
    · cases hv
  · split at hv
    · rename_i hb
      split at hv
      · rename_i ho
        injection hv with hv; subst hv hb
        obtain ⟨u1, u2⟩ := t2 (o / 2) (by omega)
        split
        · rename_i h0
          rw [show 2 * (o / 2) = o by omega] at u1
          exact u1
        · rename_i h0
          rw [show 2 * (o / 2) + 1 = o by omega] at u2
          exact u2
      · cases hv
    · cases hv
end Go.Proofs.YtpncekdhigappaaGreatDoor.Mp

/- Requests: bytes in pieces, long messages: walks. -/
namespace Go.Proofs.YtpncekdhigappaaGreatDoor.Ro
set_option linter.unusedVariables false
set_option linter.unusedSimpArgs false
open Go.RowKit Mem Sim Opn Hd Str Pth Rq
theorem wf_i64 {c : Int} (h : (Lit.int .i64 c).wf = true) : -9223372036854775808 ≤ c ∧ c ≤ 9223372036854775807 := by
  unfold Lit.wf at h
  simp at h
  have e1 : IntKind.i64.min = -9223372036854775808 := by decide

  rw [e1] at h
  exact h
/-- how many bytes the piece number k has, at a place -/
def nK (L a : Nat) (cuts : List Int) (k : Nat) : Nat := match cuts[k]? with
  | some c => min (L - a) c.toNat
  | none => L - a
def atK (L : Nat) (cuts : List Int) : Nat → Nat
  | 0 => 0
  | k + 1 => atK L cuts k + nK L (atK L cuts k) cuts k
theorem atK_le (L : Nat) (cuts : List Int) : ∀ k, atK L cuts k ≤ L
  | 0 => Nat.zero_le _
  | k + 1 => by
    have ih := atK_le L cuts k
    show atK L cuts k + nK L (atK L cuts k) cuts k ≤ L
    have : nK L (atK L cuts k) cuts k ≤ L - atK L cuts k := by
      unfold nK
      split
      · omega
      · omega
    omega
theorem atK_some {L : Nat} {cuts : List Int} {k : Nat} (h : k < cuts.length) : (atK L cuts k : Int) + min ((L : Int) - (atK L cuts k : Int)) (max 0 cuts[k]) = (atK L cuts (k + 1) : Int) := by
  have h1 := atK_le L cuts k
  show _ = ((atK L cuts k + nK L (atK L cuts k) cuts k : Nat) : Int)
  unfold nK
  rw [List.getElem?_eq_getElem h]
  dsimp only
  omega
theorem atK_none {L : Nat} {cuts : List Int} : (atK L cuts cuts.length : Int) + ((L : Int) - (atK L cuts cuts.length : Int)) = (atK L cuts (cuts.length + 1) : Int) ∧ atK L cuts (cuts.length + 1) = L := by
  have h1 := atK_le L cuts cuts.length
  have h2 : atK L cuts (cuts.length + 1) = atK L cuts cuts.length + nK L (atK L cuts cuts.length) cuts cuts.length := rfl
  have h3 : nK L (atK L cuts cuts.length) cuts cuts.length = L - atK L cuts cuts.length := by
    unfold nK; rw [List.getElem?_eq_none (Nat.le_refl _)]
  omega
def out0 (r : PRd) : PRd := ⟨r.phase, r.line, r.raw, r.left, r.err, []⟩
theorem piece (b : L8) {a a' : Nat} (h : a ≤ a') : feedP rd0 (b.take a') = addO (feedP rd0 (b.take a)).out (feedP (out0 (feedP rd0 (b.take a))) ((b.take a').drop a)) := by
  have e : b.take a' = b.take a ++ (b.take a').drop a := by
    have := (List.take_append_drop a (b.take a')).symm
    rw [List.take_take, Nat.min_eq_left h] at this
    exact this
  conv => lhs; rw [e, feedP_app]
  have h2 : feedP rd0 (b.take a) = addO (feedP rd0 (b.take a)).out (out0 (feedP rd0 (b.take a))) := by
    unfold addO out0; simp
  conv => lhs; rw [h2]
  rw [feed_addO]
theorem inv_out {n : Nat} {r : PRd} (h : Inv n r) : Inv n (out0 r) := ⟨h.hn, h.hh, Nat.zero_le _, h.hl, h.hb, h.hf, h.hp⟩
theorem int_at {l : List Int} {k : Nat} (h : k < l.length) : (l.map intT)[k]? = some (intT l[k]) := by
  rw [List.getElem?_map, List.getElem?_eq_getElem h]; rfl
abbrev z7 : List A := [.t (.v (.int .i64 0)), .t (.v (.slice none 0 0)), .t (.v (.string ⟨#[]⟩)), .t (.v (.slice none 0 0)), .t (.v (.slice none 0 0)), .t (.v (.int .i64 0)), .t (.v (.int .i64 0))]
abbrev p7 (r : PRd) : List A := [.t (.v (.int .i64 r.phase)), .t (.sl 1 (r.line.map byteT)), .t (.v (.string r.raw.start)), .t (headsT r.raw.heads), .t (.sl 1 (r.raw.body.map byteT)), .t (.v (.int .i64 r.left)), .t (.v (.int .i64 r.err))]
theorem po_sl {P : Program} {bx : List (Nat × List A)} {ow : List (Nat × Own)} {o : Oper} {ρ : Operand → Option A} {x y : List (List T)} {sz : Nat} (he : x = y) (h : PureOp P bx ow o ρ (.t (.sl sz x))) : PureOp P bx ow o ρ (.t (.sl sz y)) := he ▸ h
def PSt (b : L8) (cuts : List Int) (k : Nat) : St := ⟨[(0, .t (.sl 1 (b.map byteT))), (1, .t (.sl 1 (cuts.map intT))), (4, .bp 4 0), (7, .t (.v (.string (bs b)))), (8, .bp 8 0), (9, .own 150 ((feedP rd0 (b.take (atK b.length cuts k))).out.map rawT).length), (10, .t (.v (.int .i64 ((atK b.length cuts k : Nat) : Int)))), (11, .t (.v (.int .i64 (k : Int))))], [(4, z7), (8, p7 (feedP rd0 (b.take (atK b.length cuts k))))], [(150, ⟨25, 3, (feedP rd0 (b.take (atK b.length cuts k))).out.map rawT⟩)]⟩
def piecesT (b : L8) : T := .tup [.agg (parsC (feedP rd0 b)), .sl 3 ((feedP rd0 b).out.map rawT), .v (.bool true)]
set_option maxRecDepth 100000 in
set_option maxHeartbeats 8000000 in
theorem pieces_ (b : L8) (cuts : List Int) (hb : b.length ≤ 100000) (hc : cuts.length ≤ 100000) (hi : ∀ c ∈ cuts, -9223372036854775808 ≤ c ∧ c ≤ 9223372036854775807) : PCalls Tryz.prog 31 [.sl 1 (b.map byteT), .sl 1 (cuts.map intT)] (piecesT b) := by
  have hmb : (b.map byteT).length = b.length := List.length_map _
  have hmc : (cuts.map intT).length = cuts.length := List.length_map _
  have c0 := new_
  refine pcalls_of Tryz.func31 rfl rfl Tryz.ntmps31 rfl ?_
  repeat' (first | (refine rg 0 ?_; refine sal str45 ?_; refine oAs ?_; refine oAs ?_; refine oN ?_) | (refine rg 1 ?_; refine oMv ?_; refine sp (po_bytes_str (l := b) rfl rfl (.t _) byt23' rfl) ?_; refine oAs ?_; refine oN ?_) | (refine rg 2 ?_; refine oC (c0) rfl .nil ?_; refine sal str45 ?_; refine oS ?_; refine oN ?_) | (refine rg 3 ?_; refine oAs ?_; refine oN ?_) | (refine rg 4 ?_; refine oAs ?_; refine oN ?_) | (refine rg 5 ?_; refine oAs ?_; refine oN ?_) | refine gc ?_ | refine ct ?_ | refine cf ?_ | refine swp_cond rfl (fun hc => ?_) (fun hc => ?_) | refine rq rfl (.cell rfl rfl (tyT rfl) (vc (vc (vc (vc (vc (vc (vc .nil))))))) rfl (rt (rt .nil))) ?_)
  clear c0
  refine swp_for (PSt b cuts) (fun _ => True) (cuts.length + 1) ?_ trivial ?_
  · refine Weak.trans (weak_own0 (i := 150) 25 3 (s := 9) rfl rfl) ?_
    exact (weak_sub (.cons rfl rfl rfl (.cons rfl rfl rfl (.cons rfl rfl rfl (.cons rfl rfl rfl (.cons rfl rfl rfl (.cons rfl rfl rfl (.cons rfl rfl rfl (.cons rfl rfl rfl .nil)))))))) (.cons rfl rfl rfl (.cons rfl rfl rfl .nil)) (.cons rfl rfl .nil))
  intro k hk _
  by_cases hlt : k < cuts.length + 1
  · have h1 := atK_le b.length cuts k
    have h2 := atK_le b.length cuts (k + 1)
    have h3 : atK b.length cuts k ≤ atK b.length cuts (k + 1) := Nat.le_add_right _ _
    have hI := inv0.feed b (by omega) (atK b.length cuts k) h1
    rw [Nat.zero_add] at hI
    have hI2 := inv0.feed b (by omega) (atK b.length cuts (k + 1)) h2
    rw [Nat.zero_add] at hI2
    have hp := piece b h3
    have hln : ((b.take (atK b.length cuts (k + 1))).drop (atK b.length cuts k)).length ≤ b.length := by rw [List.length_drop, List.length_take]; omega
    have c1 := feed_ _ (inv_out hI) rfl ((b.take (atK b.length cuts (k + 1))).drop (atK b.length cuts k)) (by omega)
    have hlk : k ≤ cuts.length := by omega
    have hz1 := hI.ho
    have hz2 := hI2.ho
    have hout : (feedP rd0 (b.take (atK b.length cuts (k + 1)))).out.map rawT = (feedP rd0 (b.take (atK b.length cuts k))).out.map rawT ++ (feedP (out0 (feedP rd0 (b.take (atK b.length cuts k)))) ((b.take (atK b.length cuts (k + 1))).drop (atK b.length cuts k))).out.map rawT := by
      rw [hp]; unfold addO; rw [List.map_append]
    have hol := congrArg List.length hout
    rw [List.length_append, List.length_map] at hol
    have hp7 : p7 (feedP rd0 (b.take (atK b.length cuts (k + 1)))) = p7 (feedP (out0 (feedP rd0 (b.take (atK b.length cuts k)))) ((b.take (atK b.length cuts (k + 1))).drop (atK b.length cuts k))) := by
      rw [hp]; rfl
    have hsl : ((b.map byteT).take (atK b.length cuts (k + 1))).drop (atK b.length cuts k) = ((b.take (atK b.length cuts (k + 1))).drop (atK b.length cuts k)).map byteT := by
      rw [← List.map_take, ← List.map_drop]
    have g1 : (((feedP rd0 (b.take (atK b.length cuts k))).out.map rawT).length + ((feedP (out0 (feedP rd0 (b.take (atK b.length cuts k)))) ((b.take (atK b.length cuts (k + 1))).drop (atK b.length cuts k))).out.map rawT).length) * 64 ≤ 140737488355328 := by omega
    have g2 : ((feedP rd0 (b.take (atK b.length cuts k))).out.map rawT).length + ((feedP (out0 (feedP rd0 (b.take (atK b.length cuts k)))) ((b.take (atK b.length cuts (k + 1))).drop (atK b.length cuts k))).out.map rawT).length ≤ maxLen := by unfold maxLen; omega
    unfold PSt
    have hcase : (∃ h : k < cuts.length, (atK b.length cuts k : Int) + min (((b.map byteT).length : Int) - (atK b.length cuts k : Int)) (max 0 cuts[k]) = (atK b.length cuts (k + 1) : Int)) ∨ (¬ k < cuts.length ∧ (atK b.length cuts k : Int) + (((b.map byteT).length : Int) - (atK b.length cuts k : Int)) = (atK b.length cuts (k + 1) : Int)) := by
      rw [hmb]
      by_cases h : k < cuts.length
      · exact .inl ⟨h, atK_some h⟩
      · obtain rfl : k = cuts.length := by omega
        exact .inr ⟨h, atK_none.1⟩
    have hir : ∀ h : k < cuts.length, -9223372036854775808 ≤ cuts[k] ∧ cuts[k] ≤ 9223372036854775807 := fun h => hi _ (List.getElem_mem h)
    have hia : ∀ h : k < cuts.length, (cuts.map intT)[k]? = some (intT cuts[k]) := fun h => int_at h
    unfold feedT parsC at c1
    clear hp hI hI2 hz1 hz2 hi hol hln
    generalize hRa : feedP rd0 (b.take (atK b.length cuts k)) = R at *
    generalize hQ : feedP (out0 R) ((b.take (atK b.length cuts (k + 1))).drop (atK b.length cuts k)) = Q at *
    clear hRa hQ
    generalize (b.take (atK b.length cuts (k + 1))).drop (atK b.length cuts k) = ch at *
    generalize atK b.length cuts k = a at *
    rcases hcase with ⟨hkc, hA⟩ | ⟨hkc, hA⟩
    · have hx := hia hkc
      have hir := hir hkc
      clear hia
      unfold intT at hx
      generalize cuts[k] = ck at *
      repeat' (first | refine for_next hlt (weak_sub (.cons rfl (by rfl) rfl (.cons rfl (by rfl) rfl (.cons rfl (by rfl) rfl (.cons rfl (by rfl) rfl (.cons rfl (by rfl) rfl (.cons rfl (by first | rfl | (first | exact hp7.symm | (rw [hout]; done))) rfl (.cons rfl (by rfl) rfl (.cons rfl (by rfl) rfl .nil)))))))) (.cons rfl (by rfl) rfl (.cons rfl (by first | rfl | (exact hp7.symm)) rfl .nil)) (.cons rfl (by first | rfl | (first | exact hp7.symm | (rw [hout]; done))) .nil)) trivial | (refine rg 6 ?_; refine oMv ?_; refine oMv ?_; (first | refine sp (po_len_own rfl rfl (tyS rfl)) ?_ | refine sp (pln rfl (tyS rfl)) ?_); refine oCm ?_; refine oN ?_) | (refine rg 8 ?_; refine oMv ?_; (first | refine sp (po_len_own rfl rfl (tyS rfl)) ?_ | refine sp (pln rfl (tyS rfl)) ?_); refine oMv ?_; (first | refine sp (po_arith (c := ((atK b.length cuts (k + 1) : Nat) : Int)) rfl rfl rfl (ar_add (by refine wrap_i64 ?_; omega) hA)) ?_ | refine sp (po_dec rfl rfl rfl (by omega)) ?_ | refine sp (po_arith rfl rfl rfl (ar_sub (by first | rfl | (refine wrap_i64 ?_; omega)) rfl)) ?_); refine oAs ?_; refine oN ?_) | (refine rg 9 ?_; refine oMv ?_; refine oMv ?_; (first | refine sp (po_len_own rfl rfl (tyS rfl)) ?_ | refine sp (pln rfl (tyS rfl)) ?_); refine oCm ?_; refine oN ?_) | (refine rg 10 ?_; refine oMv ?_; refine oMv ?_; refine oMv ?_; (first | refine sp (ixo rfl) ?_ | refine sp (pix rfl (tyS rfl)) ?_); (first | refine oLb ?_ | refine oLd ?_); refine sp (po_max rfl rfl rfl) ?_; refine sp (po_min rfl rfl rfl) ?_; refine oAs ?_; refine oN ?_) | (refine rg 11 ?_; refine oAs ?_; refine oN ?_) | ((refine swp_any (id := 12) [[], [], [], [], [], [], [], [], [], [], [], [8], []] [[], [], [], [], [], [], [], [], [], [], [8], [], []] mixed (by kernel_rfl) ?_) <;> (first | refine yp (fun _ _ => po_arith (c := ((atK b.length cuts (k + 1) : Nat) : Int)) rfl rfl rfl (ar_add (by refine wrap_i64 ?_; omega) hA)) ?_ | refine yp (fun _ _ => po_sl hsl (po_slice rfl rfl (.t _) (tyS rfl) ⟨_, rfl⟩ ⟨_, rfl⟩ (by omega) (by omega))) ?_ | refine yp (fun _ _ => po_load_bx_agg rfl rfl (tyT rfl) rfl (vc (vc (vc (vc (vc (vc (vc .nil))))))) rfl) ?_) <;> (first | refine yp (fun _ _ => po_arith (c := ((atK b.length cuts (k + 1) : Nat) : Int)) rfl rfl rfl (ar_add (by refine wrap_i64 ?_; omega) hA)) ?_ | refine yp (fun _ _ => po_sl hsl (po_slice rfl rfl (.t _) (tyS rfl) ⟨_, rfl⟩ ⟨_, rfl⟩ (by omega) (by omega))) ?_ | refine yp (fun _ _ => po_move rfl rfl) ?_) <;> (first | refine yp (fun _ _ => po_arith (c := ((atK b.length cuts (k + 1) : Nat) : Int)) rfl rfl rfl (ar_add (by refine wrap_i64 ?_; omega) hA)) ?_ | refine yp (fun _ _ => po_sl hsl (po_slice rfl rfl (.t _) (tyS rfl) ⟨_, rfl⟩ ⟨_, rfl⟩ (by omega) (by omega))) ?_ | refine yp (fun _ _ => po_move rfl rfl) ?_) <;> (first | refine yp (fun _ _ => po_arith (c := ((atK b.length cuts (k + 1) : Nat) : Int)) rfl rfl rfl (ar_add (by refine wrap_i64 ?_; omega) hA)) ?_ | refine yp (fun _ _ => po_sl hsl (po_slice rfl rfl (.t _) (tyS rfl) ⟨_, rfl⟩ ⟨_, rfl⟩ (by omega) (by omega))) ?_ | refine yp (fun _ _ => po_move rfl rfl) ?_) <;> (first | refine yp (fun _ _ => po_arith (c := ((atK b.length cuts (k + 1) : Nat) : Int)) rfl rfl rfl (ar_add (by refine wrap_i64 ?_; omega) hA)) ?_ | refine yp (fun _ _ => po_sl hsl (po_slice rfl rfl (.t _) (tyS rfl) ⟨_, rfl⟩ ⟨_, rfl⟩ (by omega) (by omega))) ?_ | refine yp (fun _ _ => po_move rfl rfl) ?_) <;> (refine yp (fun _ _ => po_arith (c := ((atK b.length cuts (k + 1) : Nat) : Int)) rfl rfl rfl (ar_add (by refine wrap_i64 ?_; omega) hA)) ?_) <;> (first | refine yp (fun _ _ => po_arith (c := ((atK b.length cuts (k + 1) : Nat) : Int)) rfl rfl rfl (ar_add (by refine wrap_i64 ?_; omega) hA)) ?_ | refine yp (fun _ _ => po_sl hsl (po_slice rfl rfl (.t _) (tyS rfl) ⟨_, rfl⟩ ⟨_, rfl⟩ (by omega) (by omega))) ?_) <;> (first | refine yp (fun _ _ => po_arith (c := ((atK b.length cuts (k + 1) : Nat) : Int)) rfl rfl rfl (ar_add (by refine wrap_i64 ?_; omega) hA)) ?_ | refine yp (fun _ _ => po_sl hsl (po_slice rfl rfl (.t _) (tyS rfl) ⟨_, rfl⟩ ⟨_, rfl⟩ (by omega) (by omega))) ?_ | refine yp (fun _ _ => po_call (c1) rfl (ac (ac .nil))) ?_) <;> (first | refine yp (fun _ _ => po_arith (c := ((atK b.length cuts (k + 1) : Nat) : Int)) rfl rfl rfl (ar_add (by refine wrap_i64 ?_; omega) hA)) ?_ | refine yp (fun _ _ => po_sl hsl (po_slice rfl rfl (.t _) (tyS rfl) ⟨_, rfl⟩ ⟨_, rfl⟩ (by omega) (by omega))) ?_ | refine yp (fun _ _ => po_move rfl rfl) ?_) <;> (first | refine yp (fun _ _ => po_arith (c := ((atK b.length cuts (k + 1) : Nat) : Int)) rfl rfl rfl (ar_add (by refine wrap_i64 ?_; omega) hA)) ?_ | refine yp (fun _ _ => po_sl hsl (po_slice rfl rfl (.t _) (tyS rfl) ⟨_, rfl⟩ ⟨_, rfl⟩ (by omega) (by omega))) ?_ | refine yp (fun _ _ => po_extract rfl rfl rfl) ?_) <;> (first | refine yp (fun _ _ => po_arith (c := ((atK b.length cuts (k + 1) : Nat) : Int)) rfl rfl rfl (ar_add (by refine wrap_i64 ?_; omega) hA)) ?_ | refine yp (fun _ _ => po_sl hsl (po_slice rfl rfl (.t _) (tyS rfl) ⟨_, rfl⟩ ⟨_, rfl⟩ (by omega) (by omega))) ?_ | refine yp (fun _ _ => po_extract rfl rfl rfl) ?_) <;> refine sany_eff [(8, _)] [] (.free rfl rfl) rfl rfl (fun _ _ _ _ => e_store rfl rfl rfl rfl rfl rfl (tyT rfl) rfl rfl) ?_ <;> (first | refine yp (fun _ _ => po_arith (c := ((atK b.length cuts (k + 1) : Nat) : Int)) rfl rfl rfl (ar_add (by refine wrap_i64 ?_; omega) hA)) ?_ | refine yp (fun _ _ => po_sl hsl (po_slice rfl rfl (.t _) (tyS rfl) ⟨_, rfl⟩ ⟨_, rfl⟩ (by omega) (by omega))) ?_ | refine yp (fun _ _ => po_assign rfl rfl) ?_) <;> refine sany_nil ?_) | (refine rg 13 ?_; refine oMv ?_; refine oMv ?_; refine sap rfl (tyE rfl) ?_; refine oAs ?_; refine oN ?_) | (refine rg 14 ?_; refine oMv ?_; refine oMv ?_; (refine sp (po_arith (c := ((atK b.length cuts (k + 1) : Nat) : Int)) rfl rfl rfl (ar_add (by refine wrap_i64 ?_; omega) hA)) ?_); refine oAs ?_; refine oN ?_) | (refine rg 7 ?_; refine oMv ?_; (first | refine sp (po_arith (c := ((atK b.length cuts (k + 1) : Nat) : Int)) rfl rfl rfl (ar_add (by refine wrap_i64 ?_; omega) hA)) ?_ | refine sp (xinc rfl) ?_); refine oAs ?_; refine oN ?_) | refine gc ?_ | refine ct ?_)
    · clear hia hir
      repeat' (first | refine for_next hlt (weak_sub (.cons rfl (by rfl) rfl (.cons rfl (by rfl) rfl (.cons rfl (by rfl) rfl (.cons rfl (by rfl) rfl (.cons rfl (by rfl) rfl (.cons rfl (by first | rfl | (first | exact hp7.symm | (rw [hout]; done))) rfl (.cons rfl (by rfl) rfl (.cons rfl (by rfl) rfl .nil)))))))) (.cons rfl (by rfl) rfl (.cons rfl (by first | rfl | (exact hp7.symm)) rfl .nil)) (.cons rfl (by first | rfl | (first | exact hp7.symm | (rw [hout]; done))) .nil)) trivial | (refine rg 6 ?_; refine oMv ?_; refine oMv ?_; (first | refine sp (po_len_own rfl rfl (tyS rfl)) ?_ | refine sp (pln rfl (tyS rfl)) ?_); refine oCm ?_; refine oN ?_) | (refine rg 8 ?_; refine oMv ?_; (first | refine sp (po_len_own rfl rfl (tyS rfl)) ?_ | refine sp (pln rfl (tyS rfl)) ?_); refine oMv ?_; (first | refine sp (po_arith (c := ((atK b.length cuts (k + 1) : Nat) : Int)) rfl rfl rfl (ar_add (by refine wrap_i64 ?_; omega) hA)) ?_ | refine sp (po_dec rfl rfl rfl (by omega)) ?_ | refine sp (po_arith rfl rfl rfl (ar_sub (by first | rfl | (refine wrap_i64 ?_; omega)) rfl)) ?_); refine oAs ?_; refine oN ?_) | (refine rg 9 ?_; refine oMv ?_; refine oMv ?_; (first | refine sp (po_len_own rfl rfl (tyS rfl)) ?_ | refine sp (pln rfl (tyS rfl)) ?_); refine oCm ?_; refine oN ?_) | (refine rg 11 ?_; refine oAs ?_; refine oN ?_) | ((refine swp_any (id := 12) [[], [], [], [], [], [], [], [], [], [], [], [8], []] [[], [], [], [], [], [], [], [], [], [], [8], [], []] mixed (by kernel_rfl) ?_) <;> (first | refine yp (fun _ _ => po_arith (c := ((atK b.length cuts (k + 1) : Nat) : Int)) rfl rfl rfl (ar_add (by refine wrap_i64 ?_; omega) hA)) ?_ | refine yp (fun _ _ => po_sl hsl (po_slice rfl rfl (.t _) (tyS rfl) ⟨_, rfl⟩ ⟨_, rfl⟩ (by omega) (by omega))) ?_ | refine yp (fun _ _ => po_load_bx_agg rfl rfl (tyT rfl) rfl (vc (vc (vc (vc (vc (vc (vc .nil))))))) rfl) ?_) <;> (first | refine yp (fun _ _ => po_arith (c := ((atK b.length cuts (k + 1) : Nat) : Int)) rfl rfl rfl (ar_add (by refine wrap_i64 ?_; omega) hA)) ?_ | refine yp (fun _ _ => po_sl hsl (po_slice rfl rfl (.t _) (tyS rfl) ⟨_, rfl⟩ ⟨_, rfl⟩ (by omega) (by omega))) ?_ | refine yp (fun _ _ => po_move rfl rfl) ?_) <;> (first | refine yp (fun _ _ => po_arith (c := ((atK b.length cuts (k + 1) : Nat) : Int)) rfl rfl rfl (ar_add (by refine wrap_i64 ?_; omega) hA)) ?_ | refine yp (fun _ _ => po_sl hsl (po_slice rfl rfl (.t _) (tyS rfl) ⟨_, rfl⟩ ⟨_, rfl⟩ (by omega) (by omega))) ?_ | refine yp (fun _ _ => po_move rfl rfl) ?_) <;> (first | refine yp (fun _ _ => po_arith (c := ((atK b.length cuts (k + 1) : Nat) : Int)) rfl rfl rfl (ar_add (by refine wrap_i64 ?_; omega) hA)) ?_ | refine yp (fun _ _ => po_sl hsl (po_slice rfl rfl (.t _) (tyS rfl) ⟨_, rfl⟩ ⟨_, rfl⟩ (by omega) (by omega))) ?_ | refine yp (fun _ _ => po_move rfl rfl) ?_) <;> (first | refine yp (fun _ _ => po_arith (c := ((atK b.length cuts (k + 1) : Nat) : Int)) rfl rfl rfl (ar_add (by refine wrap_i64 ?_; omega) hA)) ?_ | refine yp (fun _ _ => po_sl hsl (po_slice rfl rfl (.t _) (tyS rfl) ⟨_, rfl⟩ ⟨_, rfl⟩ (by omega) (by omega))) ?_ | refine yp (fun _ _ => po_move rfl rfl) ?_) <;> (refine yp (fun _ _ => po_arith (c := ((atK b.length cuts (k + 1) : Nat) : Int)) rfl rfl rfl (ar_add (by refine wrap_i64 ?_; omega) hA)) ?_) <;> (first | refine yp (fun _ _ => po_arith (c := ((atK b.length cuts (k + 1) : Nat) : Int)) rfl rfl rfl (ar_add (by refine wrap_i64 ?_; omega) hA)) ?_ | refine yp (fun _ _ => po_sl hsl (po_slice rfl rfl (.t _) (tyS rfl) ⟨_, rfl⟩ ⟨_, rfl⟩ (by omega) (by omega))) ?_) <;> (first | refine yp (fun _ _ => po_arith (c := ((atK b.length cuts (k + 1) : Nat) : Int)) rfl rfl rfl (ar_add (by refine wrap_i64 ?_; omega) hA)) ?_ | refine yp (fun _ _ => po_sl hsl (po_slice rfl rfl (.t _) (tyS rfl) ⟨_, rfl⟩ ⟨_, rfl⟩ (by omega) (by omega))) ?_ | refine yp (fun _ _ => po_call (c1) rfl (ac (ac .nil))) ?_) <;> (first | refine yp (fun _ _ => po_arith (c := ((atK b.length cuts (k + 1) : Nat) : Int)) rfl rfl rfl (ar_add (by refine wrap_i64 ?_; omega) hA)) ?_ | refine yp (fun _ _ => po_sl hsl (po_slice rfl rfl (.t _) (tyS rfl) ⟨_, rfl⟩ ⟨_, rfl⟩ (by omega) (by omega))) ?_ | refine yp (fun _ _ => po_move rfl rfl) ?_) <;> (first | refine yp (fun _ _ => po_arith (c := ((atK b.length cuts (k + 1) : Nat) : Int)) rfl rfl rfl (ar_add (by refine wrap_i64 ?_; omega) hA)) ?_ | refine yp (fun _ _ => po_sl hsl (po_slice rfl rfl (.t _) (tyS rfl) ⟨_, rfl⟩ ⟨_, rfl⟩ (by omega) (by omega))) ?_ | refine yp (fun _ _ => po_extract rfl rfl rfl) ?_) <;> (first | refine yp (fun _ _ => po_arith (c := ((atK b.length cuts (k + 1) : Nat) : Int)) rfl rfl rfl (ar_add (by refine wrap_i64 ?_; omega) hA)) ?_ | refine yp (fun _ _ => po_sl hsl (po_slice rfl rfl (.t _) (tyS rfl) ⟨_, rfl⟩ ⟨_, rfl⟩ (by omega) (by omega))) ?_ | refine yp (fun _ _ => po_extract rfl rfl rfl) ?_) <;> refine sany_eff [(8, _)] [] (.free rfl rfl) rfl rfl (fun _ _ _ _ => e_store rfl rfl rfl rfl rfl rfl (tyT rfl) rfl rfl) ?_ <;> (first | refine yp (fun _ _ => po_arith (c := ((atK b.length cuts (k + 1) : Nat) : Int)) rfl rfl rfl (ar_add (by refine wrap_i64 ?_; omega) hA)) ?_ | refine yp (fun _ _ => po_sl hsl (po_slice rfl rfl (.t _) (tyS rfl) ⟨_, rfl⟩ ⟨_, rfl⟩ (by omega) (by omega))) ?_ | refine yp (fun _ _ => po_assign rfl rfl) ?_) <;> refine sany_nil ?_) | (refine rg 13 ?_; refine oMv ?_; refine oMv ?_; refine sap rfl (tyE rfl) ?_; refine oAs ?_; refine oN ?_) | (refine rg 14 ?_; refine oMv ?_; refine oMv ?_; (refine sp (po_arith (c := ((atK b.length cuts (k + 1) : Nat) : Int)) rfl rfl rfl (ar_add (by refine wrap_i64 ?_; omega) hA)) ?_); refine oAs ?_; refine oN ?_) | (refine rg 7 ?_; refine oMv ?_; (first | refine sp (po_arith (c := ((atK b.length cuts (k + 1) : Nat) : Int)) rfl rfl rfl (ar_add (by refine wrap_i64 ?_; omega) hA)) ?_ | refine sp (xinc rfl) ?_); refine oAs ?_; refine oN ?_) | refine gc ?_ | refine ct ?_ | refine cf ?_)
  · have hkn : k = cuts.length + 1 := by omega
    subst hkn
    have hat := (atK_none (L := b.length) (cuts := cuts)).2
    unfold PSt
    rw [hat, List.take_length]
    unfold piecesT parsC
    repeat' (first | (refine rg 6 ?_; refine oMv ?_; refine oMv ?_; (first | refine sp (po_len_own rfl rfl (tyS rfl)) ?_ | refine sp (pln rfl (tyS rfl)) ?_); refine oCm ?_; refine oN ?_) | ((refine swp_any (id := 15) [[], [], [], [], [], [], [4], [], []] [[], [4], [4], [4], [4], [4], [], [], []] mixed (by kernel_rfl) ?_) <;> (first | refine yp (fun _ _ => po_bytes_str (l := b) rfl rfl (.t _) byt23' rfl) ?_ | refine yp (fun _ _ => po_load_bx_agg rfl rfl (tyT rfl) rfl (vc (vc (vc (vc (vc (vc (vc .nil))))))) rfl) ?_) <;> (first | refine yp (fun _ _ => po_bytes_str (l := b) rfl rfl (.t _) byt23' rfl) ?_ | refine yp (fun _ _ => po_move rfl rfl) ?_) <;> (first | refine yp (fun _ _ => po_bytes_str (l := b) rfl rfl (.t _) byt23' rfl) ?_ | refine yp (fun _ _ => po_move rfl rfl) ?_) <;> refine yp (fun _ _ => po_bytes_str (l := b) rfl rfl (.t _) byt23' rfl) ?_ <;> (first | refine yp (fun _ _ => po_bytes_str (l := b) rfl rfl (.t _) byt23' rfl) ?_ | refine yp (fun _ _ => po_move rfl rfl) ?_) <;> (first | refine yp (fun _ _ => po_bytes_str (l := b) rfl rfl (.t _) byt23' rfl) ?_ | refine yp (fun _ _ => po_str rfl rfl rfl rfl) ?_) <;> refine sany_eff [(4, _)] [] (.free rfl rfl) rfl rfl (fun _ _ _ _ => e_store rfl rfl rfl rfl rfl rfl (tyT rfl) rfl rfl) ?_ <;> (first | refine yp (fun _ _ => po_bytes_str (l := b) rfl rfl (.t _) byt23' rfl) ?_ | refine yp (fun _ _ => po_assign rfl rfl) ?_) <;> (first | refine yp (fun _ _ => po_bytes_str (l := b) rfl rfl (.t _) byt23' rfl) ?_ | refine yp (fun _ _ => po_assign rfl rfl) ?_) <;> refine sany_nil ?_) | refine gc ?_ | refine ct ?_ | refine cf ?_ | refine swp_cond rfl (fun hc => ?_) (fun hc => ?_) | refine rq rfl (.cell rfl rfl (tyT rfl) (vc (vc (vc (vc (vc (vc (vc .nil))))))) rfl (rt (rt .nil))) ?_)
    rw [decide_eq_true rfl]; rfl
end Go.Proofs.YtpncekdhigappaaGreatDoor.Ro

/- Messages one behind the other; plain. -/
namespace Go.Proofs.YtpncekdhigappaaGreatDoor.An
set_option linter.unusedVariables false
set_option linter.unusedSimpArgs false
open Go.RowKit Mem Sim Opn Hd Str Rq
theorem msgP_len {r : PRaw} (h : wrP r = true) : (msgP r).length ≤ 20000 := by
  unfold wrP fitsP mayL at h
  simp only [Bool.and_eq_true, decide_eq_true_eq] at h
  obtain ⟨⟨⟨_, _⟩, h2⟩, ⟨⟨_, h4, h5⟩, hb⟩, _⟩ := h
  have hw := wL_len r (fun h hh => (List.all_eq_true.1 h5) h hh) h2 r.heads.length (Nat.le_refl _)
  have ht : (tailL (fram r.heads).1.chunked r.body).length ≤ r.body.length + 20 := by
    unfold tailL hexL
    have := hm_3 r.body.length
    split
    · omega
    · split
      · simp
      · simp only [List.length_append, hexK_len, List.length_cons, List.length_nil]; omega
  unfold msgP
  simp only [List.length_append, List.length_cons, List.length_nil]; omega
/-- bytes of messages one behind the other are read as these -/
theorem rows_back : ∀ (rs : List PRaw) (o : List PRaw), (∀ r ∈ rs, wrP r = true) → feedP (idl o) (rs.flatMap msgP) = idl (o ++ rs)
  | [], o, _ => by simp [feedP]
  | r :: rs, o, h => by
    rw [List.flatMap_cons, feedP_app, msg_back r (h r (by simp)) o, rows_back rs _ (fun x hx => h x (by simp [hx])), List.append_assoc]; rfl
theorem rows_raws (rs : List PRaw) (h : ∀ r ∈ rs, wrP r = true) : rawsL (rs.flatMap msgP) = (rs, 0) := by
  refine rawsL_idl ?_
  rw [rd0_idl, rows_back rs [] h]; rfl
theorem flat_len : ∀ (rs : List PRaw), (∀ r ∈ rs, wrP r = true) → (rs.flatMap msgP).length ≤ 20000 * rs.length
  | [], _ => by simp
  | r :: rs, h => by
    have h1 := msgP_len (h r (by simp))
    have h2 := flat_len rs (fun x hx => h x (by simp [hx]))
    rw [List.flatMap_cons, List.length_append, List.length_cons]; omega
end Go.Proofs.YtpncekdhigappaaGreatDoor.An
