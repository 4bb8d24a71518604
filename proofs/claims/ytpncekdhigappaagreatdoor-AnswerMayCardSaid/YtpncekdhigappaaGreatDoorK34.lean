/- Merged by bundles.py: Rel10. -/
import Derived.Test.YtpncekdhigappaaGreatDoorK12
import Derived.Test.YtpncekdhigappaaGreatDoorK26
import Derived.Test.YtpncekdhigappaaGreatDoorK18
import Derived.OpenShut
/- Answers, messages, requests: in memory, opened, as trees of data. -/
namespace Go.Proofs.YtpncekdhigappaaGreatDoor.Rq
set_option linter.unusedVariables false
set_option linter.unusedSimpArgs false
open Go.RowKit Go.WideShapes Go.ChangeShapes Go.Joins Mem Sim Opn Hd An
def ByteC : Rel UInt8 := fun _ _ b cs => cs = [.int .u8 (b.toNat : Int)]
theorem one_byte : Tryz.prog.cellsOf 5 = 1 := by kernel_rfl
theorem one_bytes : Tryz.prog.cellsOf 23 = 1 := by kernel_rfl
theorem one_heads : Tryz.prog.cellsOf 22 = 1 := by kernel_rfl
theorem one_int : Tryz.prog.cellsOf 3 = 1 := by kernel_rfl
theorem byte_opens : Opens 5 ByteC := by
  intro H enc w base spare held fuel cs x h
  obtain ⟨n, rfl, _, hw⟩ := DataW.trod_int Tryz.underlying5 h
  have hb := bounds_u8 hw
  refine ⟨UInt8.ofNat n.toNat, ?_⟩
  unfold ByteC
  rw [UInt8.toNat_ofNat']
  congr 2; omega
theorem bytes_opens : Opens 23 (SliceC ByteC 1) := opens_slice (R := ByteC) Tryz.underlying23 one_byte (by omega) byte_opens
theorem sl_bwd {α : Type} {R : Mem.Rel α} {enc : α → List T} {sz B : Nat} {w : World} {xs : List α} {c : Value} (hsz : ∀ x, (enc x).length = sz) (hR : ∀ x cs, R B w x cs → CellsAre (allm w) (enc x) cs) (h : SliceC R sz B w xs [c]) : TR (allm w) (.sl sz (xs.map enc)) c ∧ c.oneCell' = true := by
  obtain ⟨A, cap, e, hA, h1, h2⟩ := h
  injection e with e; subst e
  exact ⟨tr_rows_bwd (allm w) hA h1 h2 hsz (fun x _ cs hr => hR x cs hr) (fun b o v _ h => h), rfl⟩
theorem int_bwd {k : IntKind} {B : Nat} {w : World} {n : Int} {c : Value} (h : IntC k B w n [c]) : TR (allm w) (.v (.int k n)) c ∧ c.oneCell' = true := by
  obtain ⟨e, _⟩ := h; injection e with e; subst e; exact ⟨.v _, rfl⟩
theorem head_bwd {B : Nat} {w : World} (x : Pl.Head) (cs : List Value) (h : HeadR B w x cs) : CellsAre (allm w) (headT x) cs := by
  obtain ⟨rfl, _⟩ := h
  exact cellsAre_cons (.v _) rfl (cellsAre_cons (.v _) rfl (cellsAre_nil _))
theorem byte_bwd {B : Nat} {w : World} (x : UInt8) (cs : List Value) (h : ByteC B w x cs) : CellsAre (allm w) (byteT x) cs := by
  obtain rfl := h
  exact cellsAre_cons (.v _) rfl (cellsAre_nil _)
theorem heads_bwdC {B : Nat} {w : World} {xs : List Pl.Head} {c : Value} (h : SliceC HeadR 2 B w xs [c]) : TR (allm w) (headsT xs) c ∧ c.oneCell' = true := sl_bwd (fun _ => rfl) head_bwd h
theorem bytes_bwdC {B : Nat} {w : World} {xs : List UInt8} {c : Value} (h : SliceC ByteC 1 B w xs [c]) : TR (allm w) (.sl 1 (xs.map byteT)) c ∧ c.oneCell' = true := sl_bwd (fun _ => rfl) byte_bwd h
theorem heads_okC {B : Nat} {w : World} {xs : List Pl.Head} {cs : List Value} (h : SliceC HeadR 2 B w xs cs) : ∀ x ∈ xs, okHead x := by
  obtain ⟨A, cap, e, hA, h1, h2⟩ := h
  exact heads_ok hA
theorem body_okC {B : Nat} {w : World} {xs : List UInt8} {cs : List Value} (h : SliceC ByteC 1 B w xs cs) : xs.length ≤ maxLen := by
  obtain ⟨A, cap, e, hA, h1, h2⟩ := h
  omega
def AnsR : Rel PAns := fun B w x cs => ∃ c0 c1 c2, cs = [c0, c1, c2] ∧ (IntC .i64) B w x.code [c0] ∧ (SliceC HeadR 2) B w x.heads [c1] ∧ (SliceC ByteC 1) B w x.body [c2]
theorem cells_Ans : Tryz.prog.cellsOf 28 = 3 := by kernel_rfl
set_option maxRecDepth 100000 in
theorem ans_opens : Opens 28 AnsR := by
  intro H enc w base spare held fuel cs x h
  obtain ⟨xs, n, _, hx, hlen, hxl, hf⟩ := DataW.trod_struct Tryz.underlying28 h
  have hl := hlen.trans cells_Ans
  obtain ⟨c0, c1, c2, rfl⟩ : ∃ c0 c1 c2, cs = [c0, c1, c2] := by
    match cs, hl with
    | [c0, c1, c2], _ => exact ⟨c0, c1, c2, rfl⟩
  obtain ⟨y0, y1, y2, rfl⟩ : ∃ y0 y1 y2, xs = [y0, y1, y2] := by
    match xs, hxl with
    | [y0, y1, y2], _ => exact ⟨y0, y1, y2, rfl⟩
  have f0 : DataW.trod enc Tryz.prog w base spare held n 3 [c0] = some y0 := by
    have := hf 0 _ rfl
    simpa [one_bytes, one_heads, one_int] using this
  obtain ⟨v0, r0⟩ := (opens_int Tryz.underlying3) H enc w base spare held n [c0] y0 f0
  have f1 : DataW.trod enc Tryz.prog w base spare held n 22 [c1] = some y1 := by
    have := hf 1 _ rfl
    simpa [one_bytes, one_heads, one_int] using this
  obtain ⟨v1, r1⟩ := heads_opens H enc w base spare held n [c1] y1 f1
  have f2 : DataW.trod enc Tryz.prog w base spare held n 23 [c2] = some y2 := by
    have := hf 2 _ rfl
    simpa [one_bytes, one_heads, one_int] using this
  obtain ⟨v2, r2⟩ := bytes_opens H enc w base spare held n [c2] y2 f2
  exact ⟨⟨v0, v1, v2⟩, c0, c1, c2, rfl, r0, r1, r2⟩
theorem ans_bwd {B : Nat} {w : World} (x : PAns) (cs : List Value) (h : AnsR B w x cs) : CellsAre (allm w) (ansT x) cs := by
  obtain ⟨c0, c1, c2, rfl, h0, h1, h2⟩ := h
  exact (cellsAre_cons (int_bwd h0).1 (int_bwd h0).2 (cellsAre_cons (heads_bwdC h1).1 (heads_bwdC h1).2 (cellsAre_cons (bytes_bwdC h2).1 (bytes_bwdC h2).2 (cellsAre_nil _))))
theorem ans_bwdT {w : World} {x : PAns} {cs : Array Value} (h : AnsR w.heap.size w x cs.toList) : TR (allm w) (.agg (ansT x)) (.agg cs) := by
  have := agg_bwd (ans_bwd x _ h)
  simpa using this
structure okAns (a : PAns) : Prop where
  hh : ∀ h ∈ a.heads, okHead h
  hb : a.body.length ≤ maxLen
theorem ans_ok (B : Nat) (w : World) (x : PAns) (cs : List Value) (h : AnsR B w x cs) : okAns x := by
  obtain ⟨c0, c1, c2, rfl, h0, h1, h2⟩ := h
  exact ⟨heads_okC h1, body_okC h2⟩
end Go.Proofs.YtpncekdhigappaaGreatDoor.Rq
