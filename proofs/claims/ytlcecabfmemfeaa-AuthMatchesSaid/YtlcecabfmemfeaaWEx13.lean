/- The walk of chapter 13's example. -/
import Derived.Test.YtlcecabfmemfeaaWLong3
namespace Go.Proofs.Ytlcecabfmemfeaa.Mem
set_option linter.unusedVariables false
set_option linter.unusedSimpArgs false
open Go.RowKit
theorem SliceAt.one {α : Type} {R : Rel α} {sz B b : Nat} {w : World} {x : α} {cs : List Value} {t : TypeId} {fr : Nat × Nat} (h : w.heap[b]? = some (.cells cs.toArray t fr)) (hb : b < B) (hl : cs.length = sz) (hR : R B w x cs) : SliceAt R sz B w (some ⟨b, 0, none⟩) [x] := by
  intro k y hy
  match k, hy with
  | 0, hy =>
    simp at hy; subst hy
    refine ⟨b, 0, cs, rfl, hb, hl, ?_, hR⟩
    intro j v hj
    simp only [World.cell?, h, Nat.zero_mul, Nat.zero_add]
    simpa using hj
theorem SliceAt.two {α : Type} {R : Rel α} {sz B b : Nat} {w : World} {x y : α} {cs ds : List Value} {t : TypeId} {fr : Nat × Nat} (h : w.heap[b]? = some (.cells (cs ++ ds).toArray t fr)) (hb : b < B) (hl : cs.length = sz) (hl2 : ds.length = sz) (hR : R B w x cs) (hR2 : R B w y ds) : SliceAt R sz B w (some ⟨b, 0, none⟩) [x, y] := by
  intro k z hz
  match k, hz with
  | 0, hz =>
    simp at hz; subst hz
    refine ⟨b, 0, cs, rfl, hb, hl, ?_, hR⟩
    intro j v hj
    have hjl : j < cs.length := (List.getElem?_eq_some_iff.1 hj).1
    simp only [World.cell?, h, Nat.zero_mul, Nat.zero_add]
    simp
    rw [List.getElem?_append_left hjl]; exact hj
  | 1, hz =>
    simp at hz; subst hz
    refine ⟨b, 0, ds, rfl, hb, hl2, ?_, hR2⟩
    intro j v hj
    simp only [World.cell?, h, Nat.one_mul, Nat.zero_add]
    simp
    rw [List.getElem?_append_right (by omega), hl, Nat.add_sub_cancel_left]; exact hj
end Go.Proofs.Ytlcecabfmemfeaa.Mem
namespace Go.Proofs.Ytlcecabfmemfeaa.WAuth
set_option linter.unusedVariables false
set_option linter.unusedSimpArgs false
open Go.RowKit Mem BigFrame WMatch WAddr WName Opn

theorem term13 (k : Int) (s : ByteArray) (w : World) :
    Calls Try.prog 112 #[.int .i64 k, .string s] w fun e w' => ∃ n, e = .returned (.slice (some ⟨n, 0, none⟩) 1 1) ∧ Lo w w' ∧ w'.heap[n]? = some (.cells #[.int .i64 k, .string s] 23 (0, 0)) := by
  go_enter Try.func112, Try.ntmps112
  go_wp2
  go_ret
  exact ⟨_, rfl, (by repeat (first | exact Lo.refl _ | assumption | refine Lo.drew ?_ | refine Lo.alloc ?_ _ | refine Lo.setCell ?_ (by first | (dsimp only; omega) | (simp; omega) | (simp; done)) _ | refine Lo.trans ?_ (by assumption))), heap_new_at rfl⟩

def exPols : List Pl.Policy := [
  ⟨1, ⟨#[]⟩, 0, 0, [⟨[⟨[⟨3, ⟨#[115, 97, 47, 119, 101, 98]⟩⟩], [], []⟩], [⟨[80], [⟨1, ⟨#[71, 69, 84]⟩⟩], [⟨2, ⟨#[47, 97]⟩⟩], []⟩], []⟩]⟩,
  ⟨2, ⟨#[]⟩, 0, 1, [⟨[], [], [⟨⟨#[120, 45, 98, 97, 100]⟩, [⟨4, ⟨#[]⟩⟩]⟩]⟩]⟩]

theorem strC (s : ByteArray) (B : Nat) (w : World) (h : s.size ≤ maxLen) : StrC B w s [.string s] := ⟨rfl, h⟩
theorem intC {k : IntKind} (n : Int) (B : Nat) (w : World) (h : (Lit.int k n).wf = true) : IntC k B w n [.int k n] := ⟨rfl, h⟩
theorem nilC {α : Type} {R : Rel α} {sz B : Nat} {w : World} : SliceC R sz B w ([] : List α) [.slice none 0 0] := ⟨none, 0, rfl, SliceAt.nil, by simp, by simp [maxLen]⟩
theorem oneC {α : Type} {R : Rel α} {sz B b : Nat} {w : World} {x : α} {cs : List Value} {t : TypeId} {fr : Nat × Nat} (h : w.heap[b]? = some (.cells cs.toArray t fr)) (hb : b < B) (hl : cs.length = sz) (hR : R B w x cs) : SliceC R sz B w [x] [.slice (some ⟨b, 0, none⟩) 1 1] :=
  ⟨_, _, rfl, SliceAt.one h hb hl hR, by simp, by simp [maxLen]⟩
theorem exRead {W : World} {n1 n2 n3 n4 m1 m2 m3 m4 m5 m6 m7 : Nat}
    (h1 : W.heap[n1]? = some (.cells #[.int .i64 3, .string ⟨#[115, 97, 47, 119, 101, 98]⟩] 23 (0, 0))) (h2 : W.heap[n2]? = some (.cells #[.int .i64 1, .string ⟨#[71, 69, 84]⟩] 23 (0, 0)))
    (h3 : W.heap[n3]? = some (.cells #[.int .i64 2, .string ⟨#[47, 97]⟩] 23 (0, 0))) (h4 : W.heap[n4]? = some (.cells #[.int .i64 4, .string ⟨#[]⟩] 23 (0, 0)))
    (g1 : W.heap[m1]? = some (.cells #[.slice (some ⟨n1, 0, none⟩) 1 1, .slice none 0 0, .slice none 0 0] 80 (0, 0))) (g2 : W.heap[m2]? = some (.cells #[.int .i64 80] 3 (0, 0)))
    (g3 : W.heap[m3]? = some (.cells #[.slice (some ⟨m2, 0, none⟩) 1 1, .slice (some ⟨n2, 0, none⟩) 1 1, .slice (some ⟨n3, 0, none⟩) 1 1, .slice none 0 0] 84 (0, 0)))
    (g4 : W.heap[m4]? = some (.cells #[.slice (some ⟨m1, 0, none⟩) 1 1, .slice (some ⟨m3, 0, none⟩) 1 1, .slice none 0 0] 71 (0, 0)))
    (g5 : W.heap[m5]? = some (.cells #[.string ⟨#[120, 45, 98, 97, 100]⟩, .slice (some ⟨n4, 0, none⟩) 1 1] 87 (0, 0)))
    (g6 : W.heap[m6]? = some (.cells #[.slice none 0 0, .slice none 0 0, .slice (some ⟨m5, 0, none⟩) 1 1] 71 (0, 0)))
    (g7 : W.heap[m7]? = some (.cells #[.int .u64 1, .string ⟨#[]⟩, .int .u64 0, .int .i64 0, .slice (some ⟨m4, 0, none⟩) 1 1, .int .u64 2, .string ⟨#[]⟩, .int .u64 0, .int .i64 1, .slice (some ⟨m6, 0, none⟩) 1 1] 61 (0, 0))) :
    SliceAt PolicyR 5 W.heap.size W (some ⟨m7, 0, none⟩) exPols := by
  have hs0 : (⟨#[]⟩ : ByteArray).size ≤ maxLen := by decide
  have c1 : SliceC TermR 2 W.heap.size W [⟨3, ⟨#[115, 97, 47, 119, 101, 98]⟩⟩] [.slice (some ⟨n1, 0, none⟩) 1 1] := oneC (cs := [.int .i64 3, .string ⟨#[115, 97, 47, 119, 101, 98]⟩]) h1 (block_lt h1) rfl ⟨rfl, by decide⟩
  have c2 : SliceC TermR 2 W.heap.size W [⟨1, ⟨#[71, 69, 84]⟩⟩] [.slice (some ⟨n2, 0, none⟩) 1 1] := oneC (cs := [.int .i64 1, .string ⟨#[71, 69, 84]⟩]) h2 (block_lt h2) rfl ⟨rfl, by decide⟩
  have c3 : SliceC TermR 2 W.heap.size W [⟨2, ⟨#[47, 97]⟩⟩] [.slice (some ⟨n3, 0, none⟩) 1 1] := oneC (cs := [.int .i64 2, .string ⟨#[47, 97]⟩]) h3 (block_lt h3) rfl ⟨rfl, by decide⟩
  have c4 : SliceC TermR 2 W.heap.size W [⟨4, ⟨#[]⟩⟩] [.slice (some ⟨n4, 0, none⟩) 1 1] := oneC (cs := [.int .i64 4, .string ⟨#[]⟩]) h4 (block_lt h4) rfl ⟨rfl, by decide⟩
  have d1 : SliceC SourceR 3 W.heap.size W [⟨[⟨3, ⟨#[115, 97, 47, 119, 101, 98]⟩⟩], [], []⟩] [.slice (some ⟨m1, 0, none⟩) 1 1] := oneC (cs := [_, _, _]) g1 (block_lt g1) rfl ⟨_, _, _, rfl, c1, nilC, nilC⟩
  have d2 : SliceC (IntC .i64) 1 W.heap.size W [80] [.slice (some ⟨m2, 0, none⟩) 1 1] := oneC (cs := [_]) g2 (block_lt g2) rfl ⟨rfl, by decide⟩
  have d3 : SliceC TargetR 4 W.heap.size W [⟨[80], [⟨1, ⟨#[71, 69, 84]⟩⟩], [⟨2, ⟨#[47, 97]⟩⟩], []⟩] [.slice (some ⟨m3, 0, none⟩) 1 1] := oneC (cs := [_, _, _, _]) g3 (block_lt g3) rfl ⟨_, _, _, _, rfl, d2, c2, c3, nilC⟩
  have d4 : SliceC WhenR 2 W.heap.size W [⟨⟨#[120, 45, 98, 97, 100]⟩, [⟨4, ⟨#[]⟩⟩]⟩] [.slice (some ⟨m5, 0, none⟩) 1 1] := oneC (cs := [_, _]) g5 (block_lt g5) rfl ⟨_, _, rfl, ⟨rfl, by decide⟩, c4⟩
  have e1 : SliceC RuleR 3 W.heap.size W [⟨[⟨[⟨3, ⟨#[115, 97, 47, 119, 101, 98]⟩⟩], [], []⟩], [⟨[80], [⟨1, ⟨#[71, 69, 84]⟩⟩], [⟨2, ⟨#[47, 97]⟩⟩], []⟩], []⟩] [.slice (some ⟨m4, 0, none⟩) 1 1] := oneC (cs := [_, _, _]) g4 (block_lt g4) rfl ⟨_, _, _, rfl, d1, d3, nilC⟩
  have e2 : SliceC RuleR 3 W.heap.size W [⟨[], [], [⟨⟨#[120, 45, 98, 97, 100]⟩, [⟨4, ⟨#[]⟩⟩]⟩]⟩] [.slice (some ⟨m6, 0, none⟩) 1 1] := oneC (cs := [_, _, _]) g6 (block_lt g6) rfl ⟨_, _, _, rfl, nilC, nilC, d4⟩
  refine SliceAt.two (cs := [_, _, _, _, _]) (ds := [_, _, _, _, _]) g7 (block_lt g7) rfl rfl ?_ ?_
  · exact ⟨_, _, _, _, _, rfl, ⟨rfl, by decide⟩, ⟨rfl, hs0⟩, ⟨rfl, by decide⟩, ⟨rfl, by decide⟩, e1⟩
  · exact ⟨_, _, _, _, _, rfl, ⟨rfl, by decide⟩, ⟨rfl, hs0⟩, ⟨rfl, by decide⟩, ⟨rfl, by decide⟩, e2⟩

set_option maxRecDepth 100000 in
set_option maxHeartbeats 4000000 in
theorem example13 (w : World) :
    Calls Try.prog 68 #[] w fun e w' => ∃ A, e = .returned (.slice A 2 2) ∧ Lo w w' ∧ SliceAt PolicyR 5 w'.heap.size w' A exPols := by
  go_enter Try.func68, Try.ntmps68
  go_wp2_with fail
  refine (term13 _ _ _).mono ?_; rintro e w1 ⟨n1, rfl, hb1, hn1⟩
  go_wp2_with fail
  refine (term13 _ _ _).mono ?_; rintro e w2 ⟨n2, rfl, hb2, hn2⟩
  go_wp2_with fail
  refine (term13 _ _ _).mono ?_; rintro e w3 ⟨n3, rfl, hb3, hn3⟩
  go_wp2_with fail
  refine (term13 _ _ _).mono ?_; rintro e w4 ⟨n4, rfl, hb4, hn4⟩
  go_wp2
  go_ret
  refine ⟨some ⟨w4.heap.size + 1 + 1, 0, none⟩, rfl, (by repeat (first | exact Lo.refl _ | assumption | refine Lo.drew ?_ | refine Lo.alloc ?_ _ | refine Lo.setCell ?_ (by first | (dsimp only; omega) | (simp; omega) | (simp; done)) _ | refine Lo.trans ?_ (by assumption))), exRead (n1 := n1) (n2 := n2) (n3 := n3) (n4 := n4) (m1 := w1.heap.size) (m2 := w1.heap.size + 1) (m3 := w3.heap.size) (m4 := w3.heap.size + 1) (m5 := w4.heap.size) (m6 := w4.heap.size + 1) ?_ ?_ ?_ ?_ ?_ ?_ ?_ ?_ ?_ ?_ ?_⟩
  · exact Lo.block (a := w1) (by repeat (first | exact Lo.refl _ | assumption | refine Lo.drew ?_ | refine Lo.alloc ?_ _ | refine Lo.setCell ?_ (by first | (dsimp only; omega) | (simp; omega) | (simp; done)) _ | refine Lo.trans ?_ (by assumption))) hn1
  · exact Lo.block (a := w2) (by repeat (first | exact Lo.refl _ | assumption | refine Lo.drew ?_ | refine Lo.alloc ?_ _ | refine Lo.setCell ?_ (by first | (dsimp only; omega) | (simp; omega) | (simp; done)) _ | refine Lo.trans ?_ (by assumption))) hn2
  · exact Lo.block (a := w3) (by repeat (first | exact Lo.refl _ | assumption | refine Lo.drew ?_ | refine Lo.alloc ?_ _ | refine Lo.setCell ?_ (by first | (dsimp only; omega) | (simp; omega) | (simp; done)) _ | refine Lo.trans ?_ (by assumption))) hn3
  · exact Lo.block (a := w4) (by repeat (first | exact Lo.refl _ | assumption | refine Lo.drew ?_ | refine Lo.alloc ?_ _ | refine Lo.setCell ?_ (by first | (dsimp only; omega) | (simp; omega) | (simp; done)) _ | refine Lo.trans ?_ (by assumption))) hn4
  · exact Lo.block (a := w1.alloc _) (by repeat (first | exact Lo.refl _ | assumption | refine Lo.drew ?_ | refine Lo.alloc ?_ _ | refine Lo.setCell ?_ (by first | (dsimp only; omega) | (simp; omega) | (simp; done)) _ | refine Lo.trans ?_ (by assumption))) (heap_alloc_new w1 _)
  · exact Lo.block (a := (w1.alloc _).alloc _) (by repeat (first | exact Lo.refl _ | assumption | refine Lo.drew ?_ | refine Lo.alloc ?_ _ | refine Lo.setCell ?_ (by first | (dsimp only; omega) | (simp; omega) | (simp; done)) _ | refine Lo.trans ?_ (by assumption))) (heap_new_at (by simp))
  · exact Lo.block (a := w3.alloc _) (by repeat (first | exact Lo.refl _ | assumption | refine Lo.drew ?_ | refine Lo.alloc ?_ _ | refine Lo.setCell ?_ (by first | (dsimp only; omega) | (simp; omega) | (simp; done)) _ | refine Lo.trans ?_ (by assumption))) (heap_alloc_new w3 _)
  · exact Lo.block (a := (w3.alloc _).alloc _) (by repeat (first | exact Lo.refl _ | assumption | refine Lo.drew ?_ | refine Lo.alloc ?_ _ | refine Lo.setCell ?_ (by first | (dsimp only; omega) | (simp; omega) | (simp; done)) _ | refine Lo.trans ?_ (by assumption))) (heap_new_at (by simp))
  · exact Lo.block (a := w4.alloc _) (by repeat (first | exact Lo.refl _ | assumption | refine Lo.drew ?_ | refine Lo.alloc ?_ _ | refine Lo.setCell ?_ (by first | (dsimp only; omega) | (simp; omega) | (simp; done)) _ | refine Lo.trans ?_ (by assumption))) (heap_alloc_new w4 _)
  · exact Lo.block (a := (w4.alloc _).alloc _) (by repeat (first | exact Lo.refl _ | assumption | refine Lo.drew ?_ | refine Lo.alloc ?_ _ | refine Lo.setCell ?_ (by first | (dsimp only; omega) | (simp; omega) | (simp; done)) _ | refine Lo.trans ?_ (by assumption))) (heap_new_at (by simp))
  · exact heap_new_at (by simp)
end Go.Proofs.Ytlcecabfmemfeaa.WAuth
