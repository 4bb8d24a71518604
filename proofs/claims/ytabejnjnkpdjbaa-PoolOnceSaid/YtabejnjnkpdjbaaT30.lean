/- Merged by bundles.py: Rel21. -/
import Derived.Test.YtabejnjnkpdjbaaT29
import Derived.SizedLaws
import Derived.OpenShut
/- Pools and inlets in memory: relations, opened, as trees of data. (Printed by mk_rel21.py.) -/
namespace Go.Proofs.Ytabejnjnkpdjbaa.R21
set_option linter.unusedVariables false
set_option linter.unusedSimpArgs false
set_option maxRecDepth 100000
open Go.RowKit Go.WideShapes Go.ChangeShapes Go.Joins Mem Sim Opn
theorem cellsAre_nil (m : Mm) : CellsAre m [] [] := ⟨rfl, fun j t v h => by simp at h⟩
theorem cellsAre_cons {m : Mm} {t : T} {v : Value} {ts : List T} {vs : List Value} (h : TR m t v) (h1 : v.oneCell' = true) (hs : CellsAre m ts vs) : CellsAre m (t :: ts) (v :: vs) := by
  refine ⟨by simp [hs.1], fun j t' v' h2 h3 => ?_⟩
  cases j with
  | zero => simp at h2 h3; subst h2 h3; exact ⟨h, h1⟩
  | succ j => exact hs.2 j t' v' (by simpa using h2) (by simpa using h3)
theorem int_bwd {k : IntKind} {B : Nat} {w : World} {n : Int} {c : Value} (h : IntC k B w n [c]) : TR (allm w) (.v (.int k n)) c ∧ c.oneCell' = true := by
  obtain ⟨e, _⟩ := h; injection e with e; subst e; exact ⟨.v _, rfl⟩
theorem sl_bwdA {α : Type} {R : Mem.Rel α} {enc : α → List T} {sz B : Nat} {w : World} {A : Option Addr} {xs : List α} {cap : Nat} (hsz : ∀ x, (enc x).length = sz) (hR : ∀ x cs, R B w x cs → CellsAre (allm w) (enc x) cs) (hA : SliceAt R sz B w A xs) (h1 : xs.length ≤ cap) (h2 : cap ≤ maxLen) : TR (allm w) (.sl sz (xs.map enc)) (.slice A xs.length cap) :=
  tr_rows_bwd (allm w) hA h1 h2 hsz (fun x _ cs hr => hR x cs hr) (fun b o v _ h => h)
def lightD {H : Type} (t : TypeId) (d : DataW H) : Prop := ((d.weights Try.prog t).all (· ≤ reachBytes)) = true
def OpensW {α : Type} (t : TypeId) (R : Mem.Rel α) : Prop :=
  ∀ (H : Type) (enc : TypeId × Value → H) (w : World) (base : Nat) (spare : Nat → Bool) (held : Bool) (fuel : Nat) (cs : List Value) (x : DataW H × List MemPlace), DataW.trod enc Try.prog w base spare held fuel t cs = some x → lightD t x.1 → ∃ y, R w.heap.size w y cs
theorem light_each {H : Type} : ∀ (ts : List TypeId) (ds : List (DataW H)), ((DataW.weightsEach Try.prog ts ds).all (· ≤ reachBytes)) = true → ∀ (i : Nat) t d, ts[i]? = some t → ds[i]? = some d → lightD t d
  | [], _, _, i, t, d, h1, _ => by simp at h1
  | _ :: _, [], _, i, t, d, _, h2 => by simp at h2
  | t0 :: ts, d0 :: ds, h, i, t, d, h1, h2 => by
    unfold DataW.weightsEach at h
    rw [List.all_append, Bool.and_eq_true] at h
    cases i with
    | zero => simp at h1 h2; subst h1 h2; exact h.1
    | succ i => exact light_each ts ds h.2 i t d (by simpa using h1) (by simpa using h2)
theorem light_all {H : Type} (e : TypeId) : ∀ (ds : List (DataW H)), ((DataW.weightsAll Try.prog e ds).all (· ≤ reachBytes)) = true → ∀ d ∈ ds, lightD e d
  | [], _, d, h => by cases h
  | d0 :: ds, h, d, hd => by
    unfold DataW.weightsAll at h
    rw [List.all_append, Bool.and_eq_true] at h
    rcases List.mem_cons.1 hd with rfl | hd
    · exact h.1
    · exact light_all e ds h.2 d hd
theorem slice_opensW {α : Type} [Inhabited α] {t e sz : Nat} {R : Mem.Rel α} (ht : Try.prog.underlying t = some (.slice e)) (hC : Try.prog.cellsOf e = sz) (hsz : 0 < sz) (hR : OpensW e R)
    {H : Type} {enc : TypeId × Value → H} {w : World} {base : Nat} {spare : Nat → Bool} {held : Bool} {fuel : Nat} {cs : List Value} {x : DataW H × List MemPlace} (h : DataW.trod enc Try.prog w base spare held fuel t cs = some x) (hw : lightD t x.1) :
    ∃ (A : Option Addr) (cap : Nat) (xs : List α), cs = [.slice A xs.length cap] ∧ SliceAt R sz w.heap.size w A xs ∧ xs.length ≤ cap ∧ cap ≤ maxLen := by
  rcases Go.Deep.open_slice ht h with ⟨hcs, _⟩ | ⟨a, len, cap, m, n, D, Pl, hcs, hb, hl, hm, hmm, hx, hi⟩
  · exact ⟨none, 0, [], hcs, SliceAt.nil, Nat.le_refl _, Nat.zero_le _⟩
  · have hlm : len ≤ m := by rw [hmm]; split <;> omega
    have hD : ∀ i, i < len → lightD e (D i) := fun i hil => by
      subst hx
      unfold lightD DataW.weights at hw
      rw [ht] at hw
      dsimp only at hw
      rw [List.all_cons, List.all_append, Bool.and_eq_true, Bool.and_eq_true] at hw
      exact light_all e _ hw.2.1 _ (List.mem_map.2 ⟨i, List.mem_range.2 hil, rfl⟩)
    have hex : ∀ i, i < len → ∃ (y : α) (cs' : List Value), w.cells? base (a.add (i * sz)) sz = some cs' ∧ R w.heap.size w y cs' := by
      intro i hil
      obtain ⟨cs', hc, ht'⟩ := hi i (by omega)
      rw [hC] at hc
      obtain ⟨y, hy⟩ := hR H enc w base spare held n cs' _ ht' (hD i hil)
      exact ⟨y, cs', hc, hy⟩
    have hf : ∃ f : Nat → α, ∀ i, i < len → ∃ cs', w.cells? base (a.add (i * sz)) sz = some cs' ∧ R w.heap.size w (f i) cs' := by
      refine ⟨fun i => if h : i < len then (hex i h).choose else default, fun i hil => ?_⟩
      simp only [dif_pos hil]
      exact (hex i hil).choose_spec
    obtain ⟨f, hf⟩ := hf
    refine ⟨some a, cap, (List.range len).map f, by simpa using hcs, ?_, by simpa using hl, hm⟩
    intro k y hk
    have hkl : k < len := by
      rcases Nat.lt_or_ge k len with h' | h'
      · exact h'
      · rw [List.getElem?_eq_none (by simpa using h')] at hk; cases hk
    rw [List.getElem?_map, List.getElem?_range hkl] at hk
    simp at hk; subst hk
    obtain ⟨cs', hc, hr⟩ := hf k hkl
    obtain ⟨_, hlen, hat⟩ := World.cells?_some hc
    have h0 : w.cell? ((a.add (k * sz)).add 0) = some (cs'[0]'(by omega)) := by rw [hat 0 hsz, List.getElem?_eq_getElem]
    obtain ⟨b, off, spot⟩ := a
    have hspot : k = 0 → spot = none := by
      intro hk0; subst hk0
      simp [Addr.add] at h0
      cases spot with
      | none => rfl
      | some q =>
        simp only [World.cell?] at h0
        split at h0
        · simp at h0
        · cases h0
    -- the row's address bears no spot: its first element shows it
    have hsp : spot = none := by
      rcases Nat.eq_zero_or_pos k with hk0 | hk0
      · exact hspot hk0
      · obtain ⟨cs0, hc0, _⟩ := hf 0 (by omega)
        obtain ⟨_, hlen0, hat0⟩ := World.cells?_some hc0
        have h00 : w.cell? (((⟨b, off, spot⟩ : Addr).add (0 * sz)).add 0) = some (cs0[0]'(by omega)) := by rw [hat0 0 hsz, List.getElem?_eq_getElem]
        simp [Addr.add] at h00
        cases spot with
        | none => rfl
        | some q =>
          simp only [World.cell?] at h00
          split at h00
          · simp at h00
          · cases h00
    subst hsp
    have hadd : ∀ j, ((⟨b, off, none⟩ : Addr).add (k * sz)).add j = ⟨b, off + (k * sz + j), none⟩ := by
      intro j
      rw [Go.Deep.add_add, addr_add]
    refine ⟨b, off, cs', rfl, ?_, hlen, ?_, hr⟩
    · have := World.block_lt_of_cell? w _ h0
      rw [hadd] at this
      exact this
    · intro j v hj
      have hjl : j < sz := by rw [← hlen]; exact (List.getElem?_eq_some_iff.1 hj).1
      rw [← hadd, hat j hjl, hj]
theorem open_slice_argW {α : Type} [Inhabited α] {t e sz : Nat} {R : Mem.Rel α} (ht : Try.prog.underlying t = some (.slice e)) (hC : Try.prog.cellsOf e = sz) (hsz : 0 < sz) (hO : OpensW e R) {H : Type} {enc : TypeId × Value → H} {w : World} {r : Reach} {b0 base : Nat} {spare : Nat → Bool} {held : Bool} {v : Value} {d : DataW H} {p : List MemPlace}
    (hw : lightD t d) (hv : Value.okWide Try.prog w r b0 t v) (h : DataW.Trod enc Try.prog w base spare held t v d p) :
    ∃ (A : Option Addr) (cap : Nat) (xs : List α), v = .slice A xs.length cap ∧ SliceAt R sz w.heap.size w A xs ∧ xs.length ≤ cap ∧ cap ≤ maxLen := by
  obtain ⟨a, len, c, rfl⟩ := okWide_slice ht hv
  obtain ⟨fuel, hf⟩ := h
  obtain ⟨A, cap, xs, hcs, hA, h1, h2⟩ := slice_opensW ht hC hsz hO hf hw
  simp [Value.cells] at hcs
  obtain ⟨rfl, rfl, rfl⟩ := hcs
  exact ⟨_, _, xs, rfl, hA, h1, h2⟩
theorem opensW_of {α : Type} {t : TypeId} {R : Mem.Rel α} (h : Opens t R) : OpensW t R := fun H enc w base spare held fuel cs x hx _ => h H enc w base spare held fuel cs x hx
theorem cells_one {m : Mm} {t : T} {v : Value} (h : TR m t v ∧ v.oneCell' = true) : CellsAre m [t] [v] := cellsAre_cons h.1 h.2 (cellsAre_nil _)
theorem cells_app {m : Mm} {a b : List T} {x y : List Value} (h : CellsAre m a x) (k : CellsAre m b y) : CellsAre m (a ++ b) (x ++ y) := by
  refine ⟨by rw [List.length_append, List.length_append, h.1, k.1], fun j t v h1 h2 => ?_⟩
  by_cases e : j < a.length
  · rw [List.getElem?_append_left e] at h1
    rw [List.getElem?_append_left (by rw [h.1]; exact e)] at h2
    exact h.2 j t v h1 h2
  · rw [List.getElem?_append_right (by omega)] at h1
    rw [List.getElem?_append_right (by rw [h.1]; omega), h.1] at h2
    exact k.2 _ t v h1 h2
structure PDst where
  uid : Int
  addr : Int
  port : Int
structure PAct where
  do_ : Int
  i : Int
  k : Int
  peer : Int
  by_ : Int
  src : Int
  duid : Int
  daddr : Int
  dport : Int
def dstL (x : PDst) : List T := [u64T x.uid, u32T x.addr, i64T x.port]
def actL (x : PAct) : List T := [i64T x.do_, i64T x.i, i64T x.k, i64T x.peer, i64T x.by_, u64T x.src, u64T x.duid, u32T x.daddr, i64T x.dport]
instance : Inhabited PQ := ⟨⟨0, 0, 0, 0, .empty, .empty, 0, 0, []⟩⟩
instance : Inhabited PTun := ⟨⟨0, 0, 0, 0, 0, 0, 0, 0, 0, 0, 0, 0, 0, []⟩⟩
instance : Inhabited PTk := ⟨⟨0, 0, 0, []⟩⟩
instance : Inhabited PIn := ⟨⟨0, 0, 0, 0, 0, .empty, .empty, 0, 0, 0, 0, 0, 0, []⟩⟩
instance : Inhabited PAct := ⟨⟨0, 0, 0, 0, 0, 0, 0, 0, 0⟩⟩
theorem cells_int : Try.prog.cellsOf 3 = 1 := by kernel_rfl
theorem cells_uint64 : Try.prog.cellsOf 24 = 1 := by kernel_rfl
theorem cells_uint32 : Try.prog.cellsOf 35 = 1 := by kernel_rfl
theorem cells_string : Try.prog.cellsOf 9 = 1 := by kernel_rfl
theorem cells_api_Name : Try.prog.cellsOf 34 = 2 := by kernel_rfl
theorem cells_api_Who : Try.prog.cellsOf 37 = 4 := by kernel_rfl
theorem cells_api_Dst : Try.prog.cellsOf 39 = 3 := by kernel_rfl
theorem cells_api_TunnelId : Try.prog.cellsOf 26 = 3 := by kernel_rfl
theorem cells_api_Query : Try.prog.cellsOf 70 = 9 := by kernel_rfl
theorem cells_api_Tunnel : Try.prog.cellsOf 118 = 14 := by kernel_rfl
theorem cells_api_Pool : Try.prog.cellsOf 58 = 4 := by kernel_rfl
theorem cells_api_Taken : Try.prog.cellsOf 46 = 4 := by kernel_rfl
theorem cells_api_Inbound : Try.prog.cellsOf 42 = 14 := by kernel_rfl
theorem cells_api_Inlet : Try.prog.cellsOf 29 = 1 := by kernel_rfl
theorem cells_gatepostlaw21_Act : Try.prog.cellsOf 64 = 9 := by kernel_rfl
theorem cells___api_Query : Try.prog.cellsOf 116 = 1 := by kernel_rfl
theorem cells___api_Tunnel : Try.prog.cellsOf 56 = 1 := by kernel_rfl
theorem cells___api_Taken : Try.prog.cellsOf 40 = 1 := by kernel_rfl
theorem cells___api_Inbound : Try.prog.cellsOf 27 = 1 := by kernel_rfl
theorem cells___gatepostlaw21_Act : Try.prog.cellsOf 55 = 1 := by kernel_rfl
theorem cells___bool : Try.prog.cellsOf 23 = 1 := by kernel_rfl
theorem cells___uint64 : Try.prog.cellsOf 22 = 1 := by kernel_rfl
theorem cells_bool : Try.prog.cellsOf 4 = 1 := by kernel_rfl
theorem cells_bs : Try.prog.cellsOf 44 = 1 := by kernel_rfl
def DstR : Mem.Rel PDst := fun B w x cs => ∃ c0 c1 c2, cs = [c0, c1, c2] ∧ IntC .u64 B w x.uid [c0] ∧ IntC .u32 B w x.addr [c1] ∧ IntC .i64 B w x.port [c2]
set_option maxRecDepth 100000 in
theorem Dst_opens : OpensW 39 DstR := by
  intro H enc w base spare held fuel cs x h hw
  obtain ⟨xs, n, _, hx, hlen, hxl, hf⟩ := DataW.trod_struct Try.underlying39 h
  have hl := hlen.trans cells_api_Dst
  obtain ⟨c0, c1, c2, rfl⟩ : ∃ c0 c1 c2, cs = [c0, c1, c2] := by
    match cs, hl with
    | [c0, c1, c2], _ => exact ⟨c0, c1, c2, rfl⟩
  obtain ⟨y0, y1, y2, rfl⟩ : ∃ y0 y1 y2, xs = [y0, y1, y2] := by
    match xs, hxl with
    | [y0, y1, y2], _ => exact ⟨y0, y1, y2, rfl⟩
  subst hx
  unfold lightD DataW.weights at hw
  rw [Try.underlying39] at hw
  have hL := light_each _ _ hw
  have f0 : DataW.trod enc Try.prog w base spare held n 24 [c0] = some y0 := by
    have := hf 0 _ rfl
    simpa [cells_int, cells_uint64, cells_uint32, cells_string, cells_api_Name, cells_api_Who, cells_api_Dst, cells_api_TunnelId, cells_api_Query, cells_api_Tunnel, cells_api_Pool, cells_api_Taken, cells_api_Inbound, cells_api_Inlet, cells_gatepostlaw21_Act, cells___api_Query, cells___api_Tunnel, cells___api_Taken, cells___api_Inbound, cells___gatepostlaw21_Act, cells___bool, cells___uint64, cells_bool, cells_bs] using this
  obtain ⟨v0, r0⟩ := (opensW_of (opens_int Try.underlying24)) H enc w base spare held n [c0] y0 f0 (hL 0 _ _ rfl rfl)
  have f1 : DataW.trod enc Try.prog w base spare held n 35 [c1] = some y1 := by
    have := hf 1 _ rfl
    simpa [cells_int, cells_uint64, cells_uint32, cells_string, cells_api_Name, cells_api_Who, cells_api_Dst, cells_api_TunnelId, cells_api_Query, cells_api_Tunnel, cells_api_Pool, cells_api_Taken, cells_api_Inbound, cells_api_Inlet, cells_gatepostlaw21_Act, cells___api_Query, cells___api_Tunnel, cells___api_Taken, cells___api_Inbound, cells___gatepostlaw21_Act, cells___bool, cells___uint64, cells_bool, cells_bs] using this
  obtain ⟨v1, r1⟩ := (opensW_of (opens_int Try.underlying35)) H enc w base spare held n [c1] y1 f1 (hL 1 _ _ rfl rfl)
  have f2 : DataW.trod enc Try.prog w base spare held n 3 [c2] = some y2 := by
    have := hf 2 _ rfl
    simpa [cells_int, cells_uint64, cells_uint32, cells_string, cells_api_Name, cells_api_Who, cells_api_Dst, cells_api_TunnelId, cells_api_Query, cells_api_Tunnel, cells_api_Pool, cells_api_Taken, cells_api_Inbound, cells_api_Inlet, cells_gatepostlaw21_Act, cells___api_Query, cells___api_Tunnel, cells___api_Taken, cells___api_Inbound, cells___gatepostlaw21_Act, cells___bool, cells___uint64, cells_bool, cells_bs] using this
  obtain ⟨v2, r2⟩ := (opensW_of (opens_int Try.underlying3)) H enc w base spare held n [c2] y2 f2 (hL 2 _ _ rfl rfl)
  exact ⟨⟨v0, v1, v2⟩, c0, c1, c2, rfl, r0, r1, r2⟩
theorem Dst_bwd {B : Nat} {w : World} (x : PDst) (cs : List Value) (h : DstR B w x cs) : CellsAre (allm w) (dstL x) cs := by
  obtain ⟨c0, c1, c2, rfl, h0, h1, h2⟩ := h
  exact cells_app (cells_one (int_bwd h0)) (cells_app (cells_one (int_bwd h1)) (cells_one (int_bwd h2)))
def ActR : Mem.Rel PAct := fun B w x cs => ∃ c0 c1 c2 c3 c4 c5 c6 c7 c8, cs = [c0, c1, c2, c3, c4, c5, c6, c7, c8] ∧ IntC .i64 B w x.do_ [c0] ∧ IntC .i64 B w x.i [c1] ∧ IntC .i64 B w x.k [c2] ∧ IntC .i64 B w x.peer [c3] ∧ IntC .i64 B w x.by_ [c4] ∧ IntC .u64 B w x.src [c5] ∧ DstR B w ⟨x.duid, x.daddr, x.dport⟩ [c6, c7, c8]
set_option maxRecDepth 100000 in
theorem Act_opens : OpensW 64 ActR := by
  intro H enc w base spare held fuel cs x h hw
  obtain ⟨xs, n, _, hx, hlen, hxl, hf⟩ := DataW.trod_struct Try.underlying64 h
  have hl := hlen.trans cells_gatepostlaw21_Act
  obtain ⟨c0, c1, c2, c3, c4, c5, c6, c7, c8, rfl⟩ : ∃ c0 c1 c2 c3 c4 c5 c6 c7 c8, cs = [c0, c1, c2, c3, c4, c5, c6, c7, c8] := by
    match cs, hl with
    | [c0, c1, c2, c3, c4, c5, c6, c7, c8], _ => exact ⟨c0, c1, c2, c3, c4, c5, c6, c7, c8, rfl⟩
  obtain ⟨y0, y1, y2, y3, y4, y5, y6, rfl⟩ : ∃ y0 y1 y2 y3 y4 y5 y6, xs = [y0, y1, y2, y3, y4, y5, y6] := by
    match xs, hxl with
    | [y0, y1, y2, y3, y4, y5, y6], _ => exact ⟨y0, y1, y2, y3, y4, y5, y6, rfl⟩
  subst hx
  unfold lightD DataW.weights at hw
  rw [Try.underlying64] at hw
  have hL := light_each _ _ hw
  have f0 : DataW.trod enc Try.prog w base spare held n 3 [c0] = some y0 := by
    have := hf 0 _ rfl
    simpa [cells_int, cells_uint64, cells_uint32, cells_string, cells_api_Name, cells_api_Who, cells_api_Dst, cells_api_TunnelId, cells_api_Query, cells_api_Tunnel, cells_api_Pool, cells_api_Taken, cells_api_Inbound, cells_api_Inlet, cells_gatepostlaw21_Act, cells___api_Query, cells___api_Tunnel, cells___api_Taken, cells___api_Inbound, cells___gatepostlaw21_Act, cells___bool, cells___uint64, cells_bool, cells_bs] using this
  obtain ⟨v0, r0⟩ := (opensW_of (opens_int Try.underlying3)) H enc w base spare held n [c0] y0 f0 (hL 0 _ _ rfl rfl)
  have f1 : DataW.trod enc Try.prog w base spare held n 3 [c1] = some y1 := by
    have := hf 1 _ rfl
    simpa [cells_int, cells_uint64, cells_uint32, cells_string, cells_api_Name, cells_api_Who, cells_api_Dst, cells_api_TunnelId, cells_api_Query, cells_api_Tunnel, cells_api_Pool, cells_api_Taken, cells_api_Inbound, cells_api_Inlet, cells_gatepostlaw21_Act, cells___api_Query, cells___api_Tunnel, cells___api_Taken, cells___api_Inbound, cells___gatepostlaw21_Act, cells___bool, cells___uint64, cells_bool, cells_bs] using this
  obtain ⟨v1, r1⟩ := (opensW_of (opens_int Try.underlying3)) H enc w base spare held n [c1] y1 f1 (hL 1 _ _ rfl rfl)
  have f2 : DataW.trod enc Try.prog w base spare held n 3 [c2] = some y2 := by
    have := hf 2 _ rfl
    simpa [cells_int, cells_uint64, cells_uint32, cells_string, cells_api_Name, cells_api_Who, cells_api_Dst, cells_api_TunnelId, cells_api_Query, cells_api_Tunnel, cells_api_Pool, cells_api_Taken, cells_api_Inbound, cells_api_Inlet, cells_gatepostlaw21_Act, cells___api_Query, cells___api_Tunnel, cells___api_Taken, cells___api_Inbound, cells___gatepostlaw21_Act, cells___bool, cells___uint64, cells_bool, cells_bs] using this
  obtain ⟨v2, r2⟩ := (opensW_of (opens_int Try.underlying3)) H enc w base spare held n [c2] y2 f2 (hL 2 _ _ rfl rfl)
  have f3 : DataW.trod enc Try.prog w base spare held n 3 [c3] = some y3 := by
    have := hf 3 _ rfl
    simpa [cells_int, cells_uint64, cells_uint32, cells_string, cells_api_Name, cells_api_Who, cells_api_Dst, cells_api_TunnelId, cells_api_Query, cells_api_Tunnel, cells_api_Pool, cells_api_Taken, cells_api_Inbound, cells_api_Inlet, cells_gatepostlaw21_Act, cells___api_Query, cells___api_Tunnel, cells___api_Taken, cells___api_Inbound, cells___gatepostlaw21_Act, cells___bool, cells___uint64, cells_bool, cells_bs] using this
  obtain ⟨v3, r3⟩ := (opensW_of (opens_int Try.underlying3)) H enc w base spare held n [c3] y3 f3 (hL 3 _ _ rfl rfl)
  have f4 : DataW.trod enc Try.prog w base spare held n 3 [c4] = some y4 := by
    have := hf 4 _ rfl
    simpa [cells_int, cells_uint64, cells_uint32, cells_string, cells_api_Name, cells_api_Who, cells_api_Dst, cells_api_TunnelId, cells_api_Query, cells_api_Tunnel, cells_api_Pool, cells_api_Taken, cells_api_Inbound, cells_api_Inlet, cells_gatepostlaw21_Act, cells___api_Query, cells___api_Tunnel, cells___api_Taken, cells___api_Inbound, cells___gatepostlaw21_Act, cells___bool, cells___uint64, cells_bool, cells_bs] using this
  obtain ⟨v4, r4⟩ := (opensW_of (opens_int Try.underlying3)) H enc w base spare held n [c4] y4 f4 (hL 4 _ _ rfl rfl)
  have f5 : DataW.trod enc Try.prog w base spare held n 24 [c5] = some y5 := by
    have := hf 5 _ rfl
    simpa [cells_int, cells_uint64, cells_uint32, cells_string, cells_api_Name, cells_api_Who, cells_api_Dst, cells_api_TunnelId, cells_api_Query, cells_api_Tunnel, cells_api_Pool, cells_api_Taken, cells_api_Inbound, cells_api_Inlet, cells_gatepostlaw21_Act, cells___api_Query, cells___api_Tunnel, cells___api_Taken, cells___api_Inbound, cells___gatepostlaw21_Act, cells___bool, cells___uint64, cells_bool, cells_bs] using this
  obtain ⟨v5, r5⟩ := (opensW_of (opens_int Try.underlying24)) H enc w base spare held n [c5] y5 f5 (hL 5 _ _ rfl rfl)
  have f6 : DataW.trod enc Try.prog w base spare held n 39 [c6, c7, c8] = some y6 := by
    have := hf 6 _ rfl
    simpa [cells_int, cells_uint64, cells_uint32, cells_string, cells_api_Name, cells_api_Who, cells_api_Dst, cells_api_TunnelId, cells_api_Query, cells_api_Tunnel, cells_api_Pool, cells_api_Taken, cells_api_Inbound, cells_api_Inlet, cells_gatepostlaw21_Act, cells___api_Query, cells___api_Tunnel, cells___api_Taken, cells___api_Inbound, cells___gatepostlaw21_Act, cells___bool, cells___uint64, cells_bool, cells_bs] using this
  obtain ⟨v6, r6⟩ := Dst_opens H enc w base spare held n [c6, c7, c8] y6 f6 (hL 6 _ _ rfl rfl)
  exact ⟨⟨v0, v1, v2, v3, v4, v5, v6.uid, v6.addr, v6.port⟩, c0, c1, c2, c3, c4, c5, c6, c7, c8, rfl, r0, r1, r2, r3, r4, r5, r6⟩
theorem Act_bwd {B : Nat} {w : World} (x : PAct) (cs : List Value) (h : ActR B w x cs) : CellsAre (allm w) (actL x) cs := by
  obtain ⟨c0, c1, c2, c3, c4, c5, c6, c7, c8, rfl, h0, h1, h2, h3, h4, h5, h6⟩ := h
  exact cells_app (cells_one (int_bwd h0)) (cells_app (cells_one (int_bwd h1)) (cells_app (cells_one (int_bwd h2)) (cells_app (cells_one (int_bwd h3)) (cells_app (cells_one (int_bwd h4)) (cells_app (cells_one (int_bwd h5)) (Dst_bwd _ _ h6))))))
theorem len_ok {n cap : Nat} (h : n ≤ cap) (h2 : cap ≤ maxLen) : n ≤ 9223372036854775807 := by unfold maxLen at h2; omega
end Go.Proofs.Ytabejnjnkpdjbaa.R21
