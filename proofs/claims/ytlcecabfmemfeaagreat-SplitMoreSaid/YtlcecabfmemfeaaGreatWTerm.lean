/- Rows of terms in memory. -/
import Derived.Test.YtlcecabfmemfeaaGreatWMatch8
namespace Go.Proofs.YtlcecabfmemfeaaGreat.WMatch
set_option linter.unusedVariables false
set_option linter.unusedSimpArgs false
open Go.RowKit Mem BigFrame

def TermR : Rel Pl.Term := fun _ _ t cs => cs = [.int .i64 t.k, .string t.s] ∧ t.s.size ≤ maxLen
theorem TermR.kept : Kept TermR := fun _ _ _ _ _ _ h _ _ => h
def Terms (B : Nat) (w : World) (A : Option Addr) (ts : List Pl.Term) : Prop := SliceAt TermR 2 B w A ts
theorem Terms.at_ {B : Nat} {w : World} {A : Option Addr} {ts : List Pl.Term} (h : Terms B w A ts) {k : Nat} (hk : k < ts.length) :
    ∃ b off, A = some ⟨b, off, none⟩ ∧ b < B ∧ w.cell? ⟨b, off + k * 2, none⟩ = some (.int .i64 ts[k].k) ∧ w.cell? ⟨b, off + k * 2 + 1, none⟩ = some (.string ts[k].s) ∧ ts[k].s.size ≤ maxLen := by
  obtain ⟨b, off, cs, hA, hb, hl, hc, hr, hz⟩ := h k ts[k] (List.getElem?_eq_getElem hk)
  subst hr
  exact ⟨b, off, hA, hb, hc 0 _ rfl, hc 1 _ rfl, hz⟩
theorem Terms.lo {B : Nat} {w w' : World} {A : Option Addr} {ts : List Pl.Term} (h : Terms B w A ts) (hb : Lo w w') (hB : B ≤ w.heap.size) : Terms B w' A ts := SliceAt.lo TermR.kept h hb hB

def termCells (t : Pl.Term) : List Value := [.int .i64 t.k, .string t.s]
theorem Terms.of_block {b : Nat} {w : World} {ts : List Pl.Term} {fr : Nat × Nat} {cs : Array Value} (h : w.heap[b]? = some (.cells cs 90 fr)) (hcs : ∀ (i : Nat) v, (ts.flatMap termCells)[i]? = some v → cs[i]? = some v) (hz : ∀ t ∈ ts, t.s.size ≤ maxLen) :
    Terms w.heap.size w (some ⟨b, 0, none⟩) ts := SliceAt.of_block (f := termCells) (fun _ => rfl) h hcs fun x hx => ⟨rfl, hz x hx⟩
theorem Terms.of_new {b : Nat} {w : World} {ts : List Pl.Term} {fr : Nat × Nat} (h : w.heap[b]? = some (.cells (ts.flatMap termCells).toArray 90 fr)) (hz : ∀ t ∈ ts, t.s.size ≤ maxLen) :
    Terms w.heap.size w (some ⟨b, 0, none⟩) ts := Terms.of_block h (fun i v hv => by simpa using hv) hz
/-- what Parse gives -/
def parW : Option (Int × Pl.Bs) → Value
  | some (k, t) => .tuple #[.agg #[.int .i64 k, .string (bs t)], .int .i64 0]
  | none => .tuple #[.agg #[.int .i64 0, .string ⟨#[]⟩], .int .i64 2]
theorem any_bad {α : Type} {l : List α} {p : α → Bool} {n : Nat} (hn : n < l.length) (hp : p l[n] = true) : l.any p = true := by
  rw [List.any_eq_true]; exact ⟨l[n], List.getElem_mem hn, hp⟩
theorem any_snoc {α : Type} {l : List α} {p : α → Bool} {n : Nat} (h : (l.take n).any p = false) (hn : n < l.length) (hp : p l[n] = false) : (l.take (n + 1)).any p = false := by
  rw [List.take_succ_eq_append_getElem hn, List.any_append, h]; simp [hp]

end Go.Proofs.YtlcecabfmemfeaaGreat.WMatch
