/- Merged by bundles.py: Rel21, Rel21c. -/
import Derived.Test.YtabejnjnkpdjbaaU38
import Derived.Test.YtabejnjnkpdjbaaU21
import Derived.SizedLaws
import Derived.OpenShut
/- Pools and inlets in memory: relations, opened, as trees of data. (Printed by mk_rel21.py.) -/
namespace Go.Proofs.Ytabejnjnkpdjbaa.R21
set_option linter.unusedVariables false
set_option linter.unusedSimpArgs false
set_option maxRecDepth 100000
open Go.RowKit Go.WideShapes Go.ChangeShapes Go.Joins Mem Sim Opn
def ByteC : Rel UInt8 := fun _ _ b cs => cs = [.int .u8 (b.toNat : Int)]
theorem one_byte : Try.prog.cellsOf 5 = 1 := by kernel_rfl
theorem byte_opens : Opens 5 ByteC := by
  intro H enc w base spare held fuel cs x h
  obtain ⟨n, rfl, _, hw⟩ := DataW.trod_int Try.underlying5 h
  have hb := bounds_u8 hw
  refine ⟨UInt8.ofNat n.toNat, ?_⟩
  unfold ByteC
  rw [UInt8.toNat_ofNat']
  congr 2; omega
theorem bytes_opens : Opens 44 (SliceC ByteC 1) := opens_slice (R := ByteC) Try.underlying44 one_byte (by omega) byte_opens
theorem cellsAre_nil (m : Mm) : CellsAre m [] [] := ⟨rfl, fun j t v h => by simp at h⟩
theorem cellsAre_cons {m : Mm} {t : T} {v : Value} {ts : List T} {vs : List Value} (h : TR m t v) (h1 : v.oneCell' = true) (hs : CellsAre m ts vs) : CellsAre m (t :: ts) (v :: vs) := by
  refine ⟨by simp [hs.1], fun j t' v' h2 h3 => ?_⟩
  cases j with
  | zero => simp at h2 h3; subst h2 h3; exact ⟨h, h1⟩
  | succ j => exact hs.2 j t' v' (by simpa using h2) (by simpa using h3)
theorem agg_bwd {m : Mm} {cs : List T} {vs : List Value} (h : CellsAre m cs vs) : TR m (.agg cs) (.agg vs.toArray) :=
  .agg cs vs.toArray (by simpa using h.1) (fun v hv => by
    obtain ⟨j, hj⟩ := List.getElem?_of_mem hv
    obtain ⟨t, ht⟩ : ∃ t, cs[j]? = some t := by
      have : j < cs.length := by rw [← h.1]; exact (List.getElem?_eq_some_iff.1 hj).1
      exact ⟨_, List.getElem?_eq_getElem this⟩
    exact (h.2 j t v ht hj).2) (fun j t v h1 h2 => (h.2 j t v h1 (by simpa using h2)).1)
theorem sl_bwd {α : Type} {R : Mem.Rel α} {enc : α → List T} {sz B : Nat} {w : World} {xs : List α} {c : Value} (hsz : ∀ x, (enc x).length = sz) (hR : ∀ x cs, R B w x cs → CellsAre (allm w) (enc x) cs) (h : SliceC R sz B w xs [c]) : TR (allm w) (.sl sz (xs.map enc)) c ∧ c.oneCell' = true := by
  obtain ⟨A, cap, e, hA, h1, h2⟩ := h
  injection e with e; subst e
  exact ⟨tr_rows_bwd (allm w) hA h1 h2 hsz (fun x _ cs hr => hR x cs hr) (fun b o v _ h => h), rfl⟩
theorem int_bwd {k : IntKind} {B : Nat} {w : World} {n : Int} {c : Value} (h : IntC k B w n [c]) : TR (allm w) (.v (.int k n)) c ∧ c.oneCell' = true := by
  obtain ⟨e, _⟩ := h; injection e with e; subst e; exact ⟨.v _, rfl⟩
theorem byte_bwd {B : Nat} {w : World} (x : UInt8) (cs : List Value) (h : ByteC B w x cs) : CellsAre (allm w) (byteT x) cs := by
  obtain rfl := h
  exact cellsAre_cons (.v _) rfl (cellsAre_nil _)
theorem bytes_bwdC {B : Nat} {w : World} {xs : List UInt8} {c : Value} (h : SliceC ByteC 1 B w xs [c]) : TR (allm w) (.sl 1 (xs.map byteT)) c ∧ c.oneCell' = true := sl_bwd (fun _ => rfl) byte_bwd h
def lightD {H : Type} (t : TypeId) (d : DataW H) : Prop := ((d.weights Try.prog t).all (· ≤ reachBytes)) = true
def OpensW {α : Type} (t : TypeId) (R : Mem.Rel α) : Prop :=
  ∀ (H : Type) (enc : TypeId × Value → H) (w : World) (base : Nat) (spare : Nat → Bool) (held : Bool) (fuel : Nat) (cs : List Value) (x : DataW H × List MemPlace), DataW.trod enc Try.prog w base spare held fuel t cs = some x → lightD t x.1 → ∃ y, R w.heap.size w y cs
def StrW : Mem.Rel ByteArray := fun B w s cs => StrC B w s cs ∧ s.size ≤ reachBytes
theorem opensW_str {t : TypeId} (ht : Try.prog.underlying t = some .string) : OpensW t StrW := by
  intro H enc w base spare held fuel cs x h hw
  obtain ⟨s, rfl, hx, hl⟩ := DataW.trod_string ht h
  refine ⟨s, ⟨rfl, hl⟩, ?_⟩
  subst hx
  unfold lightD at hw
  unfold DataW.weights at hw
  rw [show s.size = s.data.toList.length from (by rw [← toList_len, ByteArray.toList_eq])]
  generalize reachBytes = rb at *
  simpa using hw
theorem light_each {H : Type} : ∀ (ts : List TypeId) (ds : List (DataW H)), ((DataW.weightsEach Try.prog ts ds).all (· ≤ reachBytes)) = true → ∀ (i : Nat) t d, ts[i]? = some t → ds[i]? = some d → lightD t d
  | [], _, _, i, t, d, h1, _ => by simp at h1
  | _ :: _, [], _, i, t, d, _, h2 => by simp at h2
  | t0 :: ts, d0 :: ds, h, i, t, d, h1, h2 => by
    unfold DataW.weightsEach at h
    rw [List.all_append, Bool.and_eq_true] at h
    cases i with
    | zero => simp at h1 h2; subst h1 h2; exact h.1
    | succ i => exact light_each ts ds h.2 i t d (by simpa using h1) (by simpa using h2)
theorem open_struct_argW {α : Type} {t : TypeId} {fs : Array Field} {R : Mem.Rel α} (ht : Try.prog.underlying t = some (.struct fs)) (hO : OpensW t R) {H : Type} {enc : TypeId × Value → H} {w : World} {r : Reach} {b0 base : Nat} {spare : Nat → Bool} {held : Bool} {v : Value} {d : DataW H} {p : List MemPlace}
    (hw : lightD t d) (hv : Value.okWide Try.prog w r b0 t v) (h : DataW.Trod enc Try.prog w base spare held t v d p) :
    ∃ (cs : Array Value) (y : α), v = .agg cs ∧ R w.heap.size w y cs.toList := by
  obtain ⟨cs, rfl, _⟩ := okWide_struct ht hv
  obtain ⟨fuel, hf⟩ := h
  obtain ⟨y, hy⟩ := hO H enc w base spare held fuel _ _ hf hw
  exact ⟨cs, y, rfl, hy⟩
theorem light_all {H : Type} (e : TypeId) : ∀ (ds : List (DataW H)), ((DataW.weightsAll Try.prog e ds).all (· ≤ reachBytes)) = true → ∀ d ∈ ds, lightD e d
  | [], _, d, h => by cases h
  | d0 :: ds, h, d, hd => by
    unfold DataW.weightsAll at h
    rw [List.all_append, Bool.and_eq_true] at h
    rcases List.mem_cons.1 hd with rfl | hd
    · exact h.1
    · exact light_all e ds h.2 d hd
theorem slice_opensW {α : Type} [Inhabited α] {t e sz : Nat} {R : Mem.Rel α} (ht : Try.prog.underlying t = some (.slice e)) (hC : Try.prog.cellsOf e = sz) (hsz : 0 < sz) (hR : OpensW e R)
    {H : Type} {enc : TypeId × Value → H} {w : World} {base : Nat} {spare : Nat → Bool} {held : Bool} {fuel : Nat} {cs : List Value} {x : DataW H × List MemPlace} (h : DataW.trod enc Try.prog w base spare held fuel t cs = some x) (hw : lightD t x.1) :
    ∃ (A : Option Addr) (cap : Nat) (xs : List α), cs = [.slice A xs.length cap] ∧ SliceAt R sz w.heap.size w A xs ∧ xs.length ≤ cap ∧ cap ≤ maxLen := by
  rcases Go.Deep.open_slice ht h with ⟨hcs, _⟩ | ⟨a, len, cap, m, n, D, Pl, hcs, hb, hl, hm, hmm, hx, hi⟩
  · exact ⟨none, 0, [], hcs, SliceAt.nil, Nat.le_refl _, Nat.zero_le _⟩
  · have hlm : len ≤ m := by rw [hmm]; split <;> omega
    have hD : ∀ i, i < len → lightD e (D i) := fun i hil => by
      subst hx
      unfold lightD DataW.weights at hw
      rw [ht] at hw
      dsimp only at hw
      rw [List.all_cons, List.all_append, Bool.and_eq_true, Bool.and_eq_true] at hw
      exact light_all e _ hw.2.1 _ (List.mem_map.2 ⟨i, List.mem_range.2 hil, rfl⟩)
    have hex : ∀ i, i < len → ∃ (y : α) (cs' : List Value), w.cells? base (a.add (i * sz)) sz = some cs' ∧ R w.heap.size w y cs' := by
      intro i hil
      obtain ⟨cs', hc, ht'⟩ := hi i (by omega)
      rw [hC] at hc
      obtain ⟨y, hy⟩ := hR H enc w base spare held n cs' _ ht' (hD i hil)
      exact ⟨y, cs', hc, hy⟩
    have hf : ∃ f : Nat → α, ∀ i, i < len → ∃ cs', w.cells? base (a.add (i * sz)) sz = some cs' ∧ R w.heap.size w (f i) cs' := by
      refine ⟨fun i => if h : i < len then (hex i h).choose else default, fun i hil => ?_⟩
      simp only [dif_pos hil]
      exact (hex i hil).choose_spec
    obtain ⟨f, hf⟩ := hf
    refine ⟨some a, cap, (List.range len).map f, by simpa using hcs, ?_, by simpa using hl, hm⟩
    intro k y hk
    have hkl : k < len := by
      rcases Nat.lt_or_ge k len with h' | h'
      · exact h'
      · rw [List.getElem?_eq_none (by simpa using h')] at hk; cases hk
    rw [List.getElem?_map, List.getElem?_range hkl] at hk
    simp at hk; subst hk
    obtain ⟨cs', hc, hr⟩ := hf k hkl
    obtain ⟨_, hlen, hat⟩ := World.cells?_some hc
    have h0 : w.cell? ((a.add (k * sz)).add 0) = some (cs'[0]'(by omega)) := by rw [hat 0 hsz, List.getElem?_eq_getElem]
    obtain ⟨b, off, spot⟩ := a
    have hspot : k = 0 → spot = none := by
      intro hk0; subst hk0
      simp [Addr.add] at h0
      cases spot with
      | none => rfl
      | some q =>
        simp only [World.cell?] at h0
        split at h0
        · simp at h0
        · cases h0
    -- the row's address bears no spot: its first element shows it
    have hsp : spot = none := by
      rcases Nat.eq_zero_or_pos k with hk0 | hk0
      · exact hspot hk0
      · obtain ⟨cs0, hc0, _⟩ := hf 0 (by omega)
        obtain ⟨_, hlen0, hat0⟩ := World.cells?_some hc0
        have h00 : w.cell? (((⟨b, off, spot⟩ : Addr).add (0 * sz)).add 0) = some (cs0[0]'(by omega)) := by rw [hat0 0 hsz, List.getElem?_eq_getElem]
        simp [Addr.add] at h00
        cases spot with
        | none => rfl
        | some q =>
          simp only [World.cell?] at h00
          split at h00
          · simp at h00
          · cases h00
    subst hsp
    have hadd : ∀ j, ((⟨b, off, none⟩ : Addr).add (k * sz)).add j = ⟨b, off + (k * sz + j), none⟩ := by
      intro j
      rw [Go.Deep.add_add, addr_add]
    refine ⟨b, off, cs', rfl, ?_, hlen, ?_, hr⟩
    · have := World.block_lt_of_cell? w _ h0
      rw [hadd] at this
      exact this
    · intro j v hj
      have hjl : j < sz := by rw [← hlen]; exact (List.getElem?_eq_some_iff.1 hj).1
      rw [← hadd, hat j hjl, hj]
theorem opensW_of {α : Type} {t : TypeId} {R : Mem.Rel α} (h : Opens t R) : OpensW t R := fun H enc w base spare held fuel cs x hx _ => h H enc w base spare held fuel cs x hx
theorem opensW_slice {α : Type} [Inhabited α] {t e sz : Nat} {R : Mem.Rel α} (ht : Try.prog.underlying t = some (.slice e)) (hC : Try.prog.cellsOf e = sz) (hsz : 0 < sz) (hR : OpensW e R) : OpensW t (SliceC R sz) := by
  intro H enc w base spare held fuel cs x h hw
  obtain ⟨A, cap, xs, hcs, hA, h1, h2⟩ := slice_opensW ht hC hsz hR h hw
  exact ⟨xs, A, cap, hcs, hA, h1, h2⟩
theorem cells_one {m : Mm} {t : T} {v : Value} (h : TR m t v ∧ v.oneCell' = true) : CellsAre m [t] [v] := cellsAre_cons h.1 h.2 (cellsAre_nil _)
theorem cells_app {m : Mm} {a b : List T} {x y : List Value} (h : CellsAre m a x) (k : CellsAre m b y) : CellsAre m (a ++ b) (x ++ y) := by
  refine ⟨by rw [List.length_append, List.length_append, h.1, k.1], fun j t v h1 h2 => ?_⟩
  by_cases e : j < a.length
  · rw [List.getElem?_append_left e] at h1
    rw [List.getElem?_append_left (by rw [h.1]; exact e)] at h2
    exact h.2 j t v h1 h2
  · rw [List.getElem?_append_right (by omega)] at h1
    rw [List.getElem?_append_right (by rw [h.1]; omega), h.1] at h2
    exact k.2 _ t v h1 h2
theorem str_bwd {B : Nat} {w : World} {s : ByteArray} {c : Value} (h : StrW B w s [c]) : TR (allm w) (.v (.string s)) c ∧ c.oneCell' = true := by
  obtain ⟨⟨e, _⟩, _⟩ := h; injection e with e; subst e; exact ⟨.v _, rfl⟩
structure PNm where
  ns : ByteArray
  sa : ByteArray
structure PWho where
  ns : ByteArray
  sa : ByteArray
  uid : Int
  addr : Int
structure PDst where
  uid : Int
  addr : Int
  port : Int
structure PId where
  node : Int
  inc : Int
  n : Int
structure PAct where
  do_ : Int
  i : Int
  k : Int
  peer : Int
  by_ : Int
  src : Int
  duid : Int
  daddr : Int
  dport : Int
def nmL (x : PNm) : List T := [.v (.string x.ns), .v (.string x.sa)]
def whoL (x : PWho) : List T := [.v (.string x.ns), .v (.string x.sa), u64T x.uid, u32T x.addr]
def dstL (x : PDst) : List T := [u64T x.uid, u32T x.addr, i64T x.port]
def idL (x : PId) : List T := [i64T x.node, u64T x.inc, u64T x.n]
def inlL (x : PInl) : List T := inlT x.tuns
instance : Inhabited PQ := ⟨⟨0, 0, 0, 0, .empty, .empty, 0, 0, []⟩⟩
instance : Inhabited PTun := ⟨⟨0, 0, 0, 0, 0, 0, 0, 0, 0, 0, 0, 0, 0, []⟩⟩
instance : Inhabited PTk := ⟨⟨0, 0, 0, []⟩⟩
instance : Inhabited PIn := ⟨⟨0, 0, 0, 0, 0, .empty, .empty, 0, 0, 0, 0, 0, 0, []⟩⟩
instance : Inhabited PAct := ⟨⟨0, 0, 0, 0, 0, 0, 0, 0, 0⟩⟩
theorem cells_int : Try.prog.cellsOf 3 = 1 := by kernel_rfl
theorem cells_uint64 : Try.prog.cellsOf 24 = 1 := by kernel_rfl
theorem cells_uint32 : Try.prog.cellsOf 35 = 1 := by kernel_rfl
theorem cells_string : Try.prog.cellsOf 9 = 1 := by kernel_rfl
theorem cells_api_Name : Try.prog.cellsOf 34 = 2 := by kernel_rfl
theorem cells_api_Who : Try.prog.cellsOf 37 = 4 := by kernel_rfl
theorem cells_api_Dst : Try.prog.cellsOf 39 = 3 := by kernel_rfl
theorem cells_api_TunnelId : Try.prog.cellsOf 26 = 3 := by kernel_rfl
theorem cells_api_Query : Try.prog.cellsOf 70 = 9 := by kernel_rfl
theorem cells_api_Tunnel : Try.prog.cellsOf 118 = 14 := by kernel_rfl
theorem cells_api_Pool : Try.prog.cellsOf 58 = 4 := by kernel_rfl
theorem cells_api_Taken : Try.prog.cellsOf 46 = 4 := by kernel_rfl
theorem cells_api_Inbound : Try.prog.cellsOf 42 = 14 := by kernel_rfl
theorem cells_api_Inlet : Try.prog.cellsOf 29 = 1 := by kernel_rfl
theorem cells_gatepostlaw21_Act : Try.prog.cellsOf 64 = 9 := by kernel_rfl
theorem cells___api_Query : Try.prog.cellsOf 116 = 1 := by kernel_rfl
theorem cells___api_Tunnel : Try.prog.cellsOf 56 = 1 := by kernel_rfl
theorem cells___api_Taken : Try.prog.cellsOf 40 = 1 := by kernel_rfl
theorem cells___api_Inbound : Try.prog.cellsOf 27 = 1 := by kernel_rfl
theorem cells___gatepostlaw21_Act : Try.prog.cellsOf 55 = 1 := by kernel_rfl
theorem cells___bool : Try.prog.cellsOf 23 = 1 := by kernel_rfl
theorem cells___uint64 : Try.prog.cellsOf 22 = 1 := by kernel_rfl
theorem cells_bool : Try.prog.cellsOf 4 = 1 := by kernel_rfl
theorem cells_bs : Try.prog.cellsOf 44 = 1 := by kernel_rfl
def NmR : Mem.Rel PNm := fun B w x cs => ∃ c0 c1, cs = [c0, c1] ∧ StrW B w x.ns [c0] ∧ StrW B w x.sa [c1]
set_option maxRecDepth 100000 in
theorem Nm_opens : OpensW 34 NmR := by
  intro H enc w base spare held fuel cs x h hw
  obtain ⟨xs, n, _, hx, hlen, hxl, hf⟩ := DataW.trod_struct Try.underlying34 h
  have hl := hlen.trans cells_api_Name
  obtain ⟨c0, c1, rfl⟩ : ∃ c0 c1, cs = [c0, c1] := by
    match cs, hl with
    | [c0, c1], _ => exact ⟨c0, c1, rfl⟩
  obtain ⟨y0, y1, rfl⟩ : ∃ y0 y1, xs = [y0, y1] := by
    match xs, hxl with
    | [y0, y1], _ => exact ⟨y0, y1, rfl⟩
  subst hx
  unfold lightD DataW.weights at hw
  rw [Try.underlying34] at hw
  have hL := light_each _ _ hw
  have f0 : DataW.trod enc Try.prog w base spare held n 9 [c0] = some y0 := by
    have := hf 0 _ rfl
    simpa [cells_int, cells_uint64, cells_uint32, cells_string, cells_api_Name, cells_api_Who, cells_api_Dst, cells_api_TunnelId, cells_api_Query, cells_api_Tunnel, cells_api_Pool, cells_api_Taken, cells_api_Inbound, cells_api_Inlet, cells_gatepostlaw21_Act, cells___api_Query, cells___api_Tunnel, cells___api_Taken, cells___api_Inbound, cells___gatepostlaw21_Act, cells___bool, cells___uint64, cells_bool, cells_bs] using this
  obtain ⟨v0, r0⟩ := (opensW_str Try.underlying9) H enc w base spare held n [c0] y0 f0 (hL 0 _ _ rfl rfl)
  have f1 : DataW.trod enc Try.prog w base spare held n 9 [c1] = some y1 := by
    have := hf 1 _ rfl
    simpa [cells_int, cells_uint64, cells_uint32, cells_string, cells_api_Name, cells_api_Who, cells_api_Dst, cells_api_TunnelId, cells_api_Query, cells_api_Tunnel, cells_api_Pool, cells_api_Taken, cells_api_Inbound, cells_api_Inlet, cells_gatepostlaw21_Act, cells___api_Query, cells___api_Tunnel, cells___api_Taken, cells___api_Inbound, cells___gatepostlaw21_Act, cells___bool, cells___uint64, cells_bool, cells_bs] using this
  obtain ⟨v1, r1⟩ := (opensW_str Try.underlying9) H enc w base spare held n [c1] y1 f1 (hL 1 _ _ rfl rfl)
  exact ⟨⟨v0, v1⟩, c0, c1, rfl, r0, r1⟩
theorem Nm_bwd {B : Nat} {w : World} (x : PNm) (cs : List Value) (h : NmR B w x cs) : CellsAre (allm w) (nmL x) cs := by
  obtain ⟨c0, c1, rfl, h0, h1⟩ := h
  exact cells_app (cells_one (str_bwd h0)) (cells_one (str_bwd h1))
def WhoR : Mem.Rel PWho := fun B w x cs => ∃ c0 c1 c2 c3, cs = [c0, c1, c2, c3] ∧ NmR B w ⟨x.ns, x.sa⟩ [c0, c1] ∧ IntC .u64 B w x.uid [c2] ∧ IntC .u32 B w x.addr [c3]
set_option maxRecDepth 100000 in
theorem Who_opens : OpensW 37 WhoR := by
  intro H enc w base spare held fuel cs x h hw
  obtain ⟨xs, n, _, hx, hlen, hxl, hf⟩ := DataW.trod_struct Try.underlying37 h
  have hl := hlen.trans cells_api_Who
  obtain ⟨c0, c1, c2, c3, rfl⟩ : ∃ c0 c1 c2 c3, cs = [c0, c1, c2, c3] := by
    match cs, hl with
    | [c0, c1, c2, c3], _ => exact ⟨c0, c1, c2, c3, rfl⟩
  obtain ⟨y0, y1, y2, rfl⟩ : ∃ y0 y1 y2, xs = [y0, y1, y2] := by
    match xs, hxl with
    | [y0, y1, y2], _ => exact ⟨y0, y1, y2, rfl⟩
  subst hx
  unfold lightD DataW.weights at hw
  rw [Try.underlying37] at hw
  have hL := light_each _ _ hw
  have f0 : DataW.trod enc Try.prog w base spare held n 34 [c0, c1] = some y0 := by
    have := hf 0 _ rfl
    simpa [cells_int, cells_uint64, cells_uint32, cells_string, cells_api_Name, cells_api_Who, cells_api_Dst, cells_api_TunnelId, cells_api_Query, cells_api_Tunnel, cells_api_Pool, cells_api_Taken, cells_api_Inbound, cells_api_Inlet, cells_gatepostlaw21_Act, cells___api_Query, cells___api_Tunnel, cells___api_Taken, cells___api_Inbound, cells___gatepostlaw21_Act, cells___bool, cells___uint64, cells_bool, cells_bs] using this
  obtain ⟨v0, r0⟩ := Nm_opens H enc w base spare held n [c0, c1] y0 f0 (hL 0 _ _ rfl rfl)
  have f1 : DataW.trod enc Try.prog w base spare held n 24 [c2] = some y1 := by
    have := hf 1 _ rfl
    simpa [cells_int, cells_uint64, cells_uint32, cells_string, cells_api_Name, cells_api_Who, cells_api_Dst, cells_api_TunnelId, cells_api_Query, cells_api_Tunnel, cells_api_Pool, cells_api_Taken, cells_api_Inbound, cells_api_Inlet, cells_gatepostlaw21_Act, cells___api_Query, cells___api_Tunnel, cells___api_Taken, cells___api_Inbound, cells___gatepostlaw21_Act, cells___bool, cells___uint64, cells_bool, cells_bs] using this
  obtain ⟨v1, r1⟩ := (opensW_of (opens_int Try.underlying24)) H enc w base spare held n [c2] y1 f1 (hL 1 _ _ rfl rfl)
  have f2 : DataW.trod enc Try.prog w base spare held n 35 [c3] = some y2 := by
    have := hf 2 _ rfl
    simpa [cells_int, cells_uint64, cells_uint32, cells_string, cells_api_Name, cells_api_Who, cells_api_Dst, cells_api_TunnelId, cells_api_Query, cells_api_Tunnel, cells_api_Pool, cells_api_Taken, cells_api_Inbound, cells_api_Inlet, cells_gatepostlaw21_Act, cells___api_Query, cells___api_Tunnel, cells___api_Taken, cells___api_Inbound, cells___gatepostlaw21_Act, cells___bool, cells___uint64, cells_bool, cells_bs] using this
  obtain ⟨v2, r2⟩ := (opensW_of (opens_int Try.underlying35)) H enc w base spare held n [c3] y2 f2 (hL 2 _ _ rfl rfl)
  exact ⟨⟨v0.ns, v0.sa, v1, v2⟩, c0, c1, c2, c3, rfl, r0, r1, r2⟩
theorem Who_bwd {B : Nat} {w : World} (x : PWho) (cs : List Value) (h : WhoR B w x cs) : CellsAre (allm w) (whoL x) cs := by
  obtain ⟨c0, c1, c2, c3, rfl, h0, h1, h2⟩ := h
  exact cells_app (Nm_bwd _ _ h0) (cells_app (cells_one (int_bwd h1)) (cells_one (int_bwd h2)))
def DstR : Mem.Rel PDst := fun B w x cs => ∃ c0 c1 c2, cs = [c0, c1, c2] ∧ IntC .u64 B w x.uid [c0] ∧ IntC .u32 B w x.addr [c1] ∧ IntC .i64 B w x.port [c2]
set_option maxRecDepth 100000 in
theorem Dst_opens : OpensW 39 DstR := by
  intro H enc w base spare held fuel cs x h hw
  obtain ⟨xs, n, _, hx, hlen, hxl, hf⟩ := DataW.trod_struct Try.underlying39 h
  have hl := hlen.trans cells_api_Dst
  obtain ⟨c0, c1, c2, rfl⟩ : ∃ c0 c1 c2, cs = [c0, c1, c2] := by
    match cs, hl with
    | [c0, c1, c2], _ => exact ⟨c0, c1, c2, rfl⟩
  obtain ⟨y0, y1, y2, rfl⟩ : ∃ y0 y1 y2, xs = [y0, y1, y2] := by
    match xs, hxl with
    | [y0, y1, y2], _ => exact ⟨y0, y1, y2, rfl⟩
  subst hx
  unfold lightD DataW.weights at hw
  rw [Try.underlying39] at hw
  have hL := light_each _ _ hw
  have f0 : DataW.trod enc Try.prog w base spare held n 24 [c0] = some y0 := by
    have := hf 0 _ rfl
    simpa [cells_int, cells_uint64, cells_uint32, cells_string, cells_api_Name, cells_api_Who, cells_api_Dst, cells_api_TunnelId, cells_api_Query, cells_api_Tunnel, cells_api_Pool, cells_api_Taken, cells_api_Inbound, cells_api_Inlet, cells_gatepostlaw21_Act, cells___api_Query, cells___api_Tunnel, cells___api_Taken, cells___api_Inbound, cells___gatepostlaw21_Act, cells___bool, cells___uint64, cells_bool, cells_bs] using this
  obtain ⟨v0, r0⟩ := (opensW_of (opens_int Try.underlying24)) H enc w base spare held n [c0] y0 f0 (hL 0 _ _ rfl rfl)
  have f1 : DataW.trod enc Try.prog w base spare held n 35 [c1] = some y1 := by
    have := hf 1 _ rfl
    simpa [cells_int, cells_uint64, cells_uint32, cells_string, cells_api_Name, cells_api_Who, cells_api_Dst, cells_api_TunnelId, cells_api_Query, cells_api_Tunnel, cells_api_Pool, cells_api_Taken, cells_api_Inbound, cells_api_Inlet, cells_gatepostlaw21_Act, cells___api_Query, cells___api_Tunnel, cells___api_Taken, cells___api_Inbound, cells___gatepostlaw21_Act, cells___bool, cells___uint64, cells_bool, cells_bs] using this
  obtain ⟨v1, r1⟩ := (opensW_of (opens_int Try.underlying35)) H enc w base spare held n [c1] y1 f1 (hL 1 _ _ rfl rfl)
  have f2 : DataW.trod enc Try.prog w base spare held n 3 [c2] = some y2 := by
    have := hf 2 _ rfl
    simpa [cells_int, cells_uint64, cells_uint32, cells_string, cells_api_Name, cells_api_Who, cells_api_Dst, cells_api_TunnelId, cells_api_Query, cells_api_Tunnel, cells_api_Pool, cells_api_Taken, cells_api_Inbound, cells_api_Inlet, cells_gatepostlaw21_Act, cells___api_Query, cells___api_Tunnel, cells___api_Taken, cells___api_Inbound, cells___gatepostlaw21_Act, cells___bool, cells___uint64, cells_bool, cells_bs] using this
  obtain ⟨v2, r2⟩ := (opensW_of (opens_int Try.underlying3)) H enc w base spare held n [c2] y2 f2 (hL 2 _ _ rfl rfl)
  exact ⟨⟨v0, v1, v2⟩, c0, c1, c2, rfl, r0, r1, r2⟩
theorem Dst_bwd {B : Nat} {w : World} (x : PDst) (cs : List Value) (h : DstR B w x cs) : CellsAre (allm w) (dstL x) cs := by
  obtain ⟨c0, c1, c2, rfl, h0, h1, h2⟩ := h
  exact cells_app (cells_one (int_bwd h0)) (cells_app (cells_one (int_bwd h1)) (cells_one (int_bwd h2)))
def IdR : Mem.Rel PId := fun B w x cs => ∃ c0 c1 c2, cs = [c0, c1, c2] ∧ IntC .i64 B w x.node [c0] ∧ IntC .u64 B w x.inc [c1] ∧ IntC .u64 B w x.n [c2]
set_option maxRecDepth 100000 in
theorem Id_opens : OpensW 26 IdR := by
  intro H enc w base spare held fuel cs x h hw
  obtain ⟨xs, n, _, hx, hlen, hxl, hf⟩ := DataW.trod_struct Try.underlying26 h
  have hl := hlen.trans cells_api_TunnelId
  obtain ⟨c0, c1, c2, rfl⟩ : ∃ c0 c1 c2, cs = [c0, c1, c2] := by
    match cs, hl with
    | [c0, c1, c2], _ => exact ⟨c0, c1, c2, rfl⟩
  obtain ⟨y0, y1, y2, rfl⟩ : ∃ y0 y1 y2, xs = [y0, y1, y2] := by
    match xs, hxl with
    | [y0, y1, y2], _ => exact ⟨y0, y1, y2, rfl⟩
  subst hx
  unfold lightD DataW.weights at hw
  rw [Try.underlying26] at hw
  have hL := light_each _ _ hw
  have f0 : DataW.trod enc Try.prog w base spare held n 3 [c0] = some y0 := by
    have := hf 0 _ rfl
    simpa [cells_int, cells_uint64, cells_uint32, cells_string, cells_api_Name, cells_api_Who, cells_api_Dst, cells_api_TunnelId, cells_api_Query, cells_api_Tunnel, cells_api_Pool, cells_api_Taken, cells_api_Inbound, cells_api_Inlet, cells_gatepostlaw21_Act, cells___api_Query, cells___api_Tunnel, cells___api_Taken, cells___api_Inbound, cells___gatepostlaw21_Act, cells___bool, cells___uint64, cells_bool, cells_bs] using this
  obtain ⟨v0, r0⟩ := (opensW_of (opens_int Try.underlying3)) H enc w base spare held n [c0] y0 f0 (hL 0 _ _ rfl rfl)
  have f1 : DataW.trod enc Try.prog w base spare held n 24 [c1] = some y1 := by
    have := hf 1 _ rfl
    simpa [cells_int, cells_uint64, cells_uint32, cells_string, cells_api_Name, cells_api_Who, cells_api_Dst, cells_api_TunnelId, cells_api_Query, cells_api_Tunnel, cells_api_Pool, cells_api_Taken, cells_api_Inbound, cells_api_Inlet, cells_gatepostlaw21_Act, cells___api_Query, cells___api_Tunnel, cells___api_Taken, cells___api_Inbound, cells___gatepostlaw21_Act, cells___bool, cells___uint64, cells_bool, cells_bs] using this
  obtain ⟨v1, r1⟩ := (opensW_of (opens_int Try.underlying24)) H enc w base spare held n [c1] y1 f1 (hL 1 _ _ rfl rfl)
  have f2 : DataW.trod enc Try.prog w base spare held n 24 [c2] = some y2 := by
    have := hf 2 _ rfl
    simpa [cells_int, cells_uint64, cells_uint32, cells_string, cells_api_Name, cells_api_Who, cells_api_Dst, cells_api_TunnelId, cells_api_Query, cells_api_Tunnel, cells_api_Pool, cells_api_Taken, cells_api_Inbound, cells_api_Inlet, cells_gatepostlaw21_Act, cells___api_Query, cells___api_Tunnel, cells___api_Taken, cells___api_Inbound, cells___gatepostlaw21_Act, cells___bool, cells___uint64, cells_bool, cells_bs] using this
  obtain ⟨v2, r2⟩ := (opensW_of (opens_int Try.underlying24)) H enc w base spare held n [c2] y2 f2 (hL 2 _ _ rfl rfl)
  exact ⟨⟨v0, v1, v2⟩, c0, c1, c2, rfl, r0, r1, r2⟩
theorem Id_bwd {B : Nat} {w : World} (x : PId) (cs : List Value) (h : IdR B w x cs) : CellsAre (allm w) (idL x) cs := by
  obtain ⟨c0, c1, c2, rfl, h0, h1, h2⟩ := h
  exact cells_app (cells_one (int_bwd h0)) (cells_app (cells_one (int_bwd h1)) (cells_one (int_bwd h2)))
def TkR : Mem.Rel PTk := fun B w x cs => ∃ c0 c1 c2 c3, cs = [c0, c1, c2, c3] ∧ IntC .u64 B w x.n [c0] ∧ IntC .i64 B w x.done [c1] ∧ IntC .i64 B w x.code [c2] ∧ SliceC ByteC 1 B w x.bytes [c3]
set_option maxRecDepth 100000 in
theorem Tk_opens : OpensW 46 TkR := by
  intro H enc w base spare held fuel cs x h hw
  obtain ⟨xs, n, _, hx, hlen, hxl, hf⟩ := DataW.trod_struct Try.underlying46 h
  have hl := hlen.trans cells_api_Taken
  obtain ⟨c0, c1, c2, c3, rfl⟩ : ∃ c0 c1 c2 c3, cs = [c0, c1, c2, c3] := by
    match cs, hl with
    | [c0, c1, c2, c3], _ => exact ⟨c0, c1, c2, c3, rfl⟩
  obtain ⟨y0, y1, y2, y3, rfl⟩ : ∃ y0 y1 y2 y3, xs = [y0, y1, y2, y3] := by
    match xs, hxl with
    | [y0, y1, y2, y3], _ => exact ⟨y0, y1, y2, y3, rfl⟩
  subst hx
  unfold lightD DataW.weights at hw
  rw [Try.underlying46] at hw
  have hL := light_each _ _ hw
  have f0 : DataW.trod enc Try.prog w base spare held n 24 [c0] = some y0 := by
    have := hf 0 _ rfl
    simpa [cells_int, cells_uint64, cells_uint32, cells_string, cells_api_Name, cells_api_Who, cells_api_Dst, cells_api_TunnelId, cells_api_Query, cells_api_Tunnel, cells_api_Pool, cells_api_Taken, cells_api_Inbound, cells_api_Inlet, cells_gatepostlaw21_Act, cells___api_Query, cells___api_Tunnel, cells___api_Taken, cells___api_Inbound, cells___gatepostlaw21_Act, cells___bool, cells___uint64, cells_bool, cells_bs] using this
  obtain ⟨v0, r0⟩ := (opensW_of (opens_int Try.underlying24)) H enc w base spare held n [c0] y0 f0 (hL 0 _ _ rfl rfl)
  have f1 : DataW.trod enc Try.prog w base spare held n 3 [c1] = some y1 := by
    have := hf 1 _ rfl
    simpa [cells_int, cells_uint64, cells_uint32, cells_string, cells_api_Name, cells_api_Who, cells_api_Dst, cells_api_TunnelId, cells_api_Query, cells_api_Tunnel, cells_api_Pool, cells_api_Taken, cells_api_Inbound, cells_api_Inlet, cells_gatepostlaw21_Act, cells___api_Query, cells___api_Tunnel, cells___api_Taken, cells___api_Inbound, cells___gatepostlaw21_Act, cells___bool, cells___uint64, cells_bool, cells_bs] using this
  obtain ⟨v1, r1⟩ := (opensW_of (opens_int Try.underlying3)) H enc w base spare held n [c1] y1 f1 (hL 1 _ _ rfl rfl)
  have f2 : DataW.trod enc Try.prog w base spare held n 3 [c2] = some y2 := by
    have := hf 2 _ rfl
    simpa [cells_int, cells_uint64, cells_uint32, cells_string, cells_api_Name, cells_api_Who, cells_api_Dst, cells_api_TunnelId, cells_api_Query, cells_api_Tunnel, cells_api_Pool, cells_api_Taken, cells_api_Inbound, cells_api_Inlet, cells_gatepostlaw21_Act, cells___api_Query, cells___api_Tunnel, cells___api_Taken, cells___api_Inbound, cells___gatepostlaw21_Act, cells___bool, cells___uint64, cells_bool, cells_bs] using this
  obtain ⟨v2, r2⟩ := (opensW_of (opens_int Try.underlying3)) H enc w base spare held n [c2] y2 f2 (hL 2 _ _ rfl rfl)
  have f3 : DataW.trod enc Try.prog w base spare held n 44 [c3] = some y3 := by
    have := hf 3 _ rfl
    simpa [cells_int, cells_uint64, cells_uint32, cells_string, cells_api_Name, cells_api_Who, cells_api_Dst, cells_api_TunnelId, cells_api_Query, cells_api_Tunnel, cells_api_Pool, cells_api_Taken, cells_api_Inbound, cells_api_Inlet, cells_gatepostlaw21_Act, cells___api_Query, cells___api_Tunnel, cells___api_Taken, cells___api_Inbound, cells___gatepostlaw21_Act, cells___bool, cells___uint64, cells_bool, cells_bs] using this
  obtain ⟨v3, r3⟩ := (opensW_of bytes_opens) H enc w base spare held n [c3] y3 f3 (hL 3 _ _ rfl rfl)
  exact ⟨⟨v0, v1, v2, v3⟩, c0, c1, c2, c3, rfl, r0, r1, r2, r3⟩
theorem Tk_bwd {B : Nat} {w : World} (x : PTk) (cs : List Value) (h : TkR B w x cs) : CellsAre (allm w) (takR x) cs := by
  obtain ⟨c0, c1, c2, c3, rfl, h0, h1, h2, h3⟩ := h
  exact cells_app (cells_one (int_bwd h0)) (cells_app (cells_one (int_bwd h1)) (cells_app (cells_one (int_bwd h2)) (cells_one (bytes_bwdC h3))))
def InR : Mem.Rel PIn := fun B w x cs => ∃ c0 c1 c2 c3 c4 c5 c6 c7 c8 c9 c10 c11 c12 c13, cs = [c0, c1, c2, c3, c4, c5, c6, c7, c8, c9, c10, c11, c12, c13] ∧ IdR B w ⟨x.node, x.inc, x.num⟩ [c0, c1, c2] ∧ IntC .i64 B w x.peer [c3] ∧ IntC .u64 B w x.owner [c4] ∧ WhoR B w ⟨x.ns, x.sa, x.uid, x.addr⟩ [c5, c6, c7, c8] ∧ DstR B w ⟨x.duid, x.daddr, x.dport⟩ [c9, c10, c11] ∧ IntC .u64 B w x.used [c12] ∧ SliceC TkR 4 B w x.taken [c13]
set_option maxRecDepth 100000 in
theorem In_opens : OpensW 42 InR := by
  intro H enc w base spare held fuel cs x h hw
  obtain ⟨xs, n, _, hx, hlen, hxl, hf⟩ := DataW.trod_struct Try.underlying42 h
  have hl := hlen.trans cells_api_Inbound
  obtain ⟨c0, c1, c2, c3, c4, c5, c6, c7, c8, c9, c10, c11, c12, c13, rfl⟩ : ∃ c0 c1 c2 c3 c4 c5 c6 c7 c8 c9 c10 c11 c12 c13, cs = [c0, c1, c2, c3, c4, c5, c6, c7, c8, c9, c10, c11, c12, c13] := by
    match cs, hl with
    | [c0, c1, c2, c3, c4, c5, c6, c7, c8, c9, c10, c11, c12, c13], _ => exact ⟨c0, c1, c2, c3, c4, c5, c6, c7, c8, c9, c10, c11, c12, c13, rfl⟩
  obtain ⟨y0, y1, y2, y3, y4, y5, y6, rfl⟩ : ∃ y0 y1 y2 y3 y4 y5 y6, xs = [y0, y1, y2, y3, y4, y5, y6] := by
    match xs, hxl with
    | [y0, y1, y2, y3, y4, y5, y6], _ => exact ⟨y0, y1, y2, y3, y4, y5, y6, rfl⟩
  subst hx
  unfold lightD DataW.weights at hw
  rw [Try.underlying42] at hw
  have hL := light_each _ _ hw
  have f0 : DataW.trod enc Try.prog w base spare held n 26 [c0, c1, c2] = some y0 := by
    have := hf 0 _ rfl
    simpa [cells_int, cells_uint64, cells_uint32, cells_string, cells_api_Name, cells_api_Who, cells_api_Dst, cells_api_TunnelId, cells_api_Query, cells_api_Tunnel, cells_api_Pool, cells_api_Taken, cells_api_Inbound, cells_api_Inlet, cells_gatepostlaw21_Act, cells___api_Query, cells___api_Tunnel, cells___api_Taken, cells___api_Inbound, cells___gatepostlaw21_Act, cells___bool, cells___uint64, cells_bool, cells_bs] using this
  obtain ⟨v0, r0⟩ := Id_opens H enc w base spare held n [c0, c1, c2] y0 f0 (hL 0 _ _ rfl rfl)
  have f1 : DataW.trod enc Try.prog w base spare held n 3 [c3] = some y1 := by
    have := hf 1 _ rfl
    simpa [cells_int, cells_uint64, cells_uint32, cells_string, cells_api_Name, cells_api_Who, cells_api_Dst, cells_api_TunnelId, cells_api_Query, cells_api_Tunnel, cells_api_Pool, cells_api_Taken, cells_api_Inbound, cells_api_Inlet, cells_gatepostlaw21_Act, cells___api_Query, cells___api_Tunnel, cells___api_Taken, cells___api_Inbound, cells___gatepostlaw21_Act, cells___bool, cells___uint64, cells_bool, cells_bs] using this
  obtain ⟨v1, r1⟩ := (opensW_of (opens_int Try.underlying3)) H enc w base spare held n [c3] y1 f1 (hL 1 _ _ rfl rfl)
  have f2 : DataW.trod enc Try.prog w base spare held n 24 [c4] = some y2 := by
    have := hf 2 _ rfl
    simpa [cells_int, cells_uint64, cells_uint32, cells_string, cells_api_Name, cells_api_Who, cells_api_Dst, cells_api_TunnelId, cells_api_Query, cells_api_Tunnel, cells_api_Pool, cells_api_Taken, cells_api_Inbound, cells_api_Inlet, cells_gatepostlaw21_Act, cells___api_Query, cells___api_Tunnel, cells___api_Taken, cells___api_Inbound, cells___gatepostlaw21_Act, cells___bool, cells___uint64, cells_bool, cells_bs] using this
  obtain ⟨v2, r2⟩ := (opensW_of (opens_int Try.underlying24)) H enc w base spare held n [c4] y2 f2 (hL 2 _ _ rfl rfl)
  have f3 : DataW.trod enc Try.prog w base spare held n 37 [c5, c6, c7, c8] = some y3 := by
    have := hf 3 _ rfl
    simpa [cells_int, cells_uint64, cells_uint32, cells_string, cells_api_Name, cells_api_Who, cells_api_Dst, cells_api_TunnelId, cells_api_Query, cells_api_Tunnel, cells_api_Pool, cells_api_Taken, cells_api_Inbound, cells_api_Inlet, cells_gatepostlaw21_Act, cells___api_Query, cells___api_Tunnel, cells___api_Taken, cells___api_Inbound, cells___gatepostlaw21_Act, cells___bool, cells___uint64, cells_bool, cells_bs] using this
  obtain ⟨v3, r3⟩ := Who_opens H enc w base spare held n [c5, c6, c7, c8] y3 f3 (hL 3 _ _ rfl rfl)
  have f4 : DataW.trod enc Try.prog w base spare held n 39 [c9, c10, c11] = some y4 := by
    have := hf 4 _ rfl
    simpa [cells_int, cells_uint64, cells_uint32, cells_string, cells_api_Name, cells_api_Who, cells_api_Dst, cells_api_TunnelId, cells_api_Query, cells_api_Tunnel, cells_api_Pool, cells_api_Taken, cells_api_Inbound, cells_api_Inlet, cells_gatepostlaw21_Act, cells___api_Query, cells___api_Tunnel, cells___api_Taken, cells___api_Inbound, cells___gatepostlaw21_Act, cells___bool, cells___uint64, cells_bool, cells_bs] using this
  obtain ⟨v4, r4⟩ := Dst_opens H enc w base spare held n [c9, c10, c11] y4 f4 (hL 4 _ _ rfl rfl)
  have f5 : DataW.trod enc Try.prog w base spare held n 24 [c12] = some y5 := by
    have := hf 5 _ rfl
    simpa [cells_int, cells_uint64, cells_uint32, cells_string, cells_api_Name, cells_api_Who, cells_api_Dst, cells_api_TunnelId, cells_api_Query, cells_api_Tunnel, cells_api_Pool, cells_api_Taken, cells_api_Inbound, cells_api_Inlet, cells_gatepostlaw21_Act, cells___api_Query, cells___api_Tunnel, cells___api_Taken, cells___api_Inbound, cells___gatepostlaw21_Act, cells___bool, cells___uint64, cells_bool, cells_bs] using this
  obtain ⟨v5, r5⟩ := (opensW_of (opens_int Try.underlying24)) H enc w base spare held n [c12] y5 f5 (hL 5 _ _ rfl rfl)
  have f6 : DataW.trod enc Try.prog w base spare held n 40 [c13] = some y6 := by
    have := hf 6 _ rfl
    simpa [cells_int, cells_uint64, cells_uint32, cells_string, cells_api_Name, cells_api_Who, cells_api_Dst, cells_api_TunnelId, cells_api_Query, cells_api_Tunnel, cells_api_Pool, cells_api_Taken, cells_api_Inbound, cells_api_Inlet, cells_gatepostlaw21_Act, cells___api_Query, cells___api_Tunnel, cells___api_Taken, cells___api_Inbound, cells___gatepostlaw21_Act, cells___bool, cells___uint64, cells_bool, cells_bs] using this
  obtain ⟨v6, r6⟩ := (opensW_slice (R := TkR) Try.underlying40 cells_api_Taken (by omega) Tk_opens) H enc w base spare held n [c13] y6 f6 (hL 6 _ _ rfl rfl)
  exact ⟨⟨v0.node, v0.inc, v0.n, v1, v2, v3.ns, v3.sa, v3.uid, v3.addr, v4.uid, v4.addr, v4.port, v5, v6⟩, c0, c1, c2, c3, c4, c5, c6, c7, c8, c9, c10, c11, c12, c13, rfl, r0, r1, r2, r3, r4, r5, r6⟩
theorem In_bwd {B : Nat} {w : World} (x : PIn) (cs : List Value) (h : InR B w x cs) : CellsAre (allm w) (inT' x) cs := by
  obtain ⟨c0, c1, c2, c3, c4, c5, c6, c7, c8, c9, c10, c11, c12, c13, rfl, h0, h1, h2, h3, h4, h5, h6⟩ := h
  exact cells_app (Id_bwd _ _ h0) (cells_app (cells_one (int_bwd h1)) (cells_app (cells_one (int_bwd h2)) (cells_app (Who_bwd _ _ h3) (cells_app (Dst_bwd _ _ h4) (cells_app (cells_one (int_bwd h5)) (cells_one (sl_bwd (fun _ => rfl) Tk_bwd h6)))))))
def InlR : Mem.Rel PInl := fun B w x cs => ∃ c0, cs = [c0] ∧ SliceC InR 14 B w x.tuns [c0]
set_option maxRecDepth 100000 in
theorem Inl_opens : OpensW 29 InlR := by
  intro H enc w base spare held fuel cs x h hw
  obtain ⟨xs, n, _, hx, hlen, hxl, hf⟩ := DataW.trod_struct Try.underlying29 h
  have hl := hlen.trans cells_api_Inlet
  obtain ⟨c0, rfl⟩ : ∃ c0, cs = [c0] := by
    match cs, hl with
    | [c0], _ => exact ⟨c0, rfl⟩
  obtain ⟨y0, rfl⟩ : ∃ y0, xs = [y0] := by
    match xs, hxl with
    | [y0], _ => exact ⟨y0, rfl⟩
  subst hx
  unfold lightD DataW.weights at hw
  rw [Try.underlying29] at hw
  have hL := light_each _ _ hw
  have f0 : DataW.trod enc Try.prog w base spare held n 27 [c0] = some y0 := by
    have := hf 0 _ rfl
    simpa [cells_int, cells_uint64, cells_uint32, cells_string, cells_api_Name, cells_api_Who, cells_api_Dst, cells_api_TunnelId, cells_api_Query, cells_api_Tunnel, cells_api_Pool, cells_api_Taken, cells_api_Inbound, cells_api_Inlet, cells_gatepostlaw21_Act, cells___api_Query, cells___api_Tunnel, cells___api_Taken, cells___api_Inbound, cells___gatepostlaw21_Act, cells___bool, cells___uint64, cells_bool, cells_bs] using this
  obtain ⟨v0, r0⟩ := (opensW_slice (R := InR) Try.underlying27 cells_api_Inbound (by omega) In_opens) H enc w base spare held n [c0] y0 f0 (hL 0 _ _ rfl rfl)
  exact ⟨⟨v0⟩, c0, rfl, r0⟩
theorem Inl_bwd {B : Nat} {w : World} (x : PInl) (cs : List Value) (h : InlR B w x cs) : CellsAre (allm w) (inlL x) cs := by
  obtain ⟨c0, rfl, h0⟩ := h
  exact cells_one (sl_bwd (fun _ => rfl) In_bwd h0)
theorem st_bwd {α : Type} {R : Mem.Rel α} {enc : α → List T} {w : World} {x : α} {cs : Array Value} (hR : ∀ x cs, R w.heap.size w x cs → CellsAre (allm w) (enc x) cs) (h : R w.heap.size w x cs.toList) : TR (allm w) (.agg (enc x)) (.agg cs) := by
  have := agg_bwd (hR x _ h)
  simpa using this
theorem len_ok {n cap : Nat} (h : n ≤ cap) (h2 : cap ≤ maxLen) : n ≤ 9223372036854775807 := by unfold maxLen at h2; omega
theorem slc_len {α : Type} {R : Mem.Rel α} {sz B : Nat} {w : World} {xs : List α} {cs : List Value} (h : SliceC R sz B w xs cs) : xs.length ≤ 9223372036854775807 := by
  obtain ⟨A, cap, _, _, h1, h2⟩ := h
  exact len_ok h1 h2
theorem slc_all {α : Type} {R : Mem.Rel α} {sz B : Nat} {w : World} {xs : List α} {cs : List Value} {ok : α → Prop} (hR : ∀ x cs, R B w x cs → ok x) (h : SliceC R sz B w xs cs) : ∀ x ∈ xs, ok x := fun x hx => by
  obtain ⟨A, cap, _, hA, _, _⟩ := h
  obtain ⟨k, hk⟩ := List.getElem?_of_mem hx
  obtain ⟨b, off, cs, _, _, _, _, hr⟩ := hA k x hk
  exact hR _ _ hr
end Go.Proofs.Ytabejnjnkpdjbaa.R21

/- How great an inlet that was handed in may be. -/
namespace Go.Proofs.Ytabejnjnkpdjbaa.R21
set_option linter.unusedVariables false
set_option linter.unusedSimpArgs false
open Go.RowKit Go.WideShapes Go.ChangeShapes Go.Joins Mem Sim Opn
theorem tk_ok {B : Nat} {w : World} (x : PTk) (cs : List Value) (h : TkR B w x cs) : x.bytes.length ≤ 9223372036854775807 := by
  obtain ⟨_, _, _, _, _, _, _, _, h⟩ := h
  exact slc_len h
theorem in_ok {B : Nat} {w : World} (x : PIn) (cs : List Value) (h : InR B w x cs) : SmI x := by
  obtain ⟨_, _, _, _, _, _, _, _, _, _, _, _, _, _, _, _, _, _, _, _, _, h⟩ := h
  exact ⟨slc_len h, slc_all tk_ok h⟩
theorem inl_ok {B : Nat} {w : World} {x : PInl} {cs : List Value} (h : InlR B w x cs) : x.tuns.length ≤ 9223372036854775807 ∧ ∀ t ∈ x.tuns, SmI t := by
  obtain ⟨_, _, h⟩ := h
  exact ⟨slc_len h, slc_all in_ok h⟩
end Go.Proofs.Ytabejnjnkpdjbaa.R21
