/- Merged by bundles.py: SimPol, WAddr, WName, WIdxSource, WIdxTarget. -/
import Derived.Test.YtnclifgiakmmoaaC6
import Derived.Test.YtnclifgiakmmoaaC7
import Derived.Test.YtnclifgiakmmoaaC8
import Derived.Test.YtnclifgiakmmoaaC13
import Derived.Laws.RangeAny
import Derived.Test.YtnclifgiakmmoaaC0
import Derived.Shelf.Abstract
/- Policies as data: from memory to data, and back. (Printed by mk_simpol.py.) -/
namespace Go.Proofs.Ytnclifgiakmmoaa.Pol
set_option linter.unusedVariables false
set_option linter.unusedSimpArgs false
open Go.RowKit Mem Sim Opn
theorem cellsAre_nil (m : Mm) : CellsAre m [] [] := ⟨rfl, fun j t v h => by simp at h⟩
theorem cellsAre_cons {m : Mm} {t : T} {v : Value} {ts : List T} {vs : List Value} (h : TR m t v) (h1 : v.oneCell' = true) (hs : CellsAre m ts vs) : CellsAre m (t :: ts) (v :: vs) := by
  refine ⟨by simp [hs.1], fun j t' v' h2 h3 => ?_⟩
  cases j with
  | zero => simp at h2 h3; subst h2 h3; exact ⟨h, h1⟩
  | succ j => exact hs.2 j t' v' (by simpa using h2) (by simpa using h3)
theorem cellsAre_inv {m : Mm} {t : T} {ts : List T} {us : List Value} (h : CellsAre m (t :: ts) us) : ∃ u us', us = u :: us' ∧ TR m t u ∧ CellsAre m ts us' := by
  cases us with
  | nil => have := h.1; simp at this
  | cons u us' => exact ⟨u, us', rfl, (h.2 0 t u rfl rfl).1, by have := h.1; simpa using this, fun j t' v' h2 h3 => h.2 (j + 1) t' v' (by simpa using h2) (by simpa using h3)⟩
theorem cellsAre_inv0 {m : Mm} {us : List Value} (h : CellsAre m [] us) : us = [] := List.eq_nil_of_length_eq_zero h.1
/-- a slice's cell -/
theorem sl_bwd {α : Type} {R : Mem.Rel α} {enc : α → List T} {sz B : Nat} {w : World} {xs : List α} {c : Value} (hsz : ∀ x, (enc x).length = sz) (hR : ∀ x cs, R B w x cs → CellsAre (allm w) (enc x) cs) (h : SliceC R sz B w xs [c]) : TR (allm w) (.sl sz (xs.map enc)) c ∧ c.oneCell' = true := by
  obtain ⟨A, cap, e, hA, h1, h2⟩ := h
  injection e with e; subst e
  exact ⟨tr_rows_bwd (allm w) hA h1 h2 hsz (fun x _ cs hr => hR x cs hr) (fun b o v _ h => h), rfl⟩
theorem sl_fwd {α : Type} {R : Mem.Rel α} {enc : α → List T} {sz : Nat} {m : Mm} {w : World} {xs : List α} {c : Value} {ok : α → Prop} (hs : Sub m w) (h0 : 0 < sz) (hR : ∀ x us, ok x → CellsAre m (enc x) us → R w.heap.size w x us) (hok : ∀ x ∈ xs, ok x) (h : TR m (.sl sz (xs.map enc)) c) : SliceC R sz w.heap.size w xs [c] := by
  obtain ⟨A, cap, rfl, hA, h1, h2⟩ := tr_rows_fwd (R := R) hs h0 h fun x hx us hc => hR x us (hok x hx) hc
  exact ⟨A, cap, rfl, hA, h1, h2⟩
theorem sl_ok {α : Type} {R : Mem.Rel α} {sz B : Nat} {w : World} {xs : List α} {cs : List Value} {ok : α → Prop} (hR : ∀ B w x cs, R B w x cs → ok x) (h : SliceC R sz B w xs cs) : ∀ x ∈ xs, ok x := fun x hx => by
  obtain ⟨A, cap, e, hA, h1, h2⟩ := h
  obtain ⟨k, hk⟩ := List.getElem?_of_mem hx
  obtain ⟨b, off, cs, _, _, _, _, hr⟩ := hA k x hk
  exact hR _ _ _ _ hr
theorem int_bwd {k : IntKind} {B : Nat} {w : World} {n : Int} {c : Value} (h : IntC k B w n [c]) : TR (allm w) (.v (.int k n)) c ∧ c.oneCell' = true := by
  obtain ⟨e, _⟩ := h; injection e with e; subst e; exact ⟨.v _, rfl⟩
theorem str_bwd {B : Nat} {w : World} {s : ByteArray} {c : Value} (h : StrC B w s [c]) : TR (allm w) (.v (.string s)) c ∧ c.oneCell' = true := by
  obtain ⟨e, _⟩ := h; injection e with e; subst e; exact ⟨.v _, rfl⟩
theorem int_fwd {k : IntKind} {m : Mm} {w : World} {n : Int} {c : Value} (hw : (Lit.int k n).wf = true) (h : TR m (.v (.int k n)) c) : IntC k w.heap.size w n [c] := ⟨by rw [tr_v h], hw⟩
theorem str_fwd {m : Mm} {w : World} {s : ByteArray} {c : Value} (hw : s.size ≤ maxLen) (h : TR m (.v (.string s)) c) : StrC w.heap.size w s [c] := ⟨by rw [tr_v h], hw⟩
def termT (t : Pl.Term) : List T := [.v (.int .i64 t.k), .v (.string t.s)]
def intT (n : Int) : List T := [.v (.int .i64 n)]
def okTerm (t : Pl.Term) : Prop := t.s.size ≤ maxLen
def okInt (n : Int) : Prop := (Lit.int .i64 n).wf = true
theorem term_bwd {B : Nat} {w : World} (x : Pl.Term) (cs : List Value) (h : WMatch.TermR B w x cs) : CellsAre (allm w) (termT x) cs := by
  obtain ⟨rfl, _⟩ := h
  exact cellsAre_cons (.v _) rfl (cellsAre_cons (.v _) rfl (cellsAre_nil _))
theorem term_fwd {m : Mm} {w : World} (_ : Sub m w) (x : Pl.Term) (us : List Value) (hok : okTerm x) (h : CellsAre m (termT x) us) : WMatch.TermR w.heap.size w x us := by
  obtain ⟨u0, us, rfl, h0, h⟩ := cellsAre_inv h
  obtain ⟨u1, us, rfl, h1, h⟩ := cellsAre_inv h
  obtain rfl := cellsAre_inv0 h
  rw [tr_v h0, tr_v h1]
  exact ⟨rfl, hok⟩
theorem term_ok (B : Nat) (w : World) (x : Pl.Term) (cs : List Value) (h : WMatch.TermR B w x cs) : okTerm x := h.2
theorem int_bwd' {B : Nat} {w : World} (x : Int) (cs : List Value) (h : IntC .i64 B w x cs) : CellsAre (allm w) (intT x) cs := by
  obtain ⟨rfl, _⟩ := h
  exact cellsAre_cons (.v _) rfl (cellsAre_nil _)
theorem int_fwd' {m : Mm} {w : World} (_ : Sub m w) (x : Int) (us : List Value) (hok : okInt x) (h : CellsAre m (intT x) us) : IntC .i64 w.heap.size w x us := by
  obtain ⟨u0, us, rfl, h0, h⟩ := cellsAre_inv h
  obtain rfl := cellsAre_inv0 h
  rw [tr_v h0]; exact ⟨rfl, hok⟩
theorem int_ok' (B : Nat) (w : World) (x : Int) (cs : List Value) (h : IntC .i64 B w x cs) : okInt x := h.2
def cidrT (x : Pl.Cidr) : List T := [.v (.int .u32 x.addr), .v (.int .i64 x.bits)]
def okCidr (x : Pl.Cidr) : Prop := (Lit.int .u32 x.addr).wf = true ∧ (Lit.int .i64 x.bits).wf = true
theorem cidr_bwd {B : Nat} {w : World} (x : Pl.Cidr) (cs : List Value) (h : CidrR B w x cs) : CellsAre (allm w) (cidrT x) cs := by
  obtain ⟨c0, c1, rfl, h0, h1⟩ := h
  exact (cellsAre_cons (int_bwd h0).1 (int_bwd h0).2 (cellsAre_cons (int_bwd h1).1 (int_bwd h1).2 (cellsAre_nil _)))
theorem cidr_fwd {m : Mm} {w : World} (hs : Sub m w) (x : Pl.Cidr) (us : List Value) (hok : okCidr x) (h : CellsAre m (cidrT x) us) : CidrR w.heap.size w x us := by
  obtain ⟨k0, k1⟩ := hok
  obtain ⟨u0, us, rfl, h0, h⟩ := cellsAre_inv h
  obtain ⟨u1, us, rfl, h1, h⟩ := cellsAre_inv h
  obtain rfl := cellsAre_inv0 h
  exact ⟨u0, u1, rfl, int_fwd k0 h0, int_fwd k1 h1⟩
theorem cidr_ok (B : Nat) (w : World) (x : Pl.Cidr) (cs : List Value) (h : CidrR B w x cs) : okCidr x := by
  obtain ⟨c0, c1, _, h0, h1⟩ := h
  exact ⟨h0.2, h1.2⟩
def sourceT (x : Pl.Source) : List T := [.sl 2 (x.names.map termT), .sl 2 (x.spaces.map termT), .sl 2 (x.nets.map cidrT)]
def okSource (x : Pl.Source) : Prop := (∀ y ∈ x.names, okTerm y) ∧ (∀ y ∈ x.spaces, okTerm y) ∧ (∀ y ∈ x.nets, okCidr y)
theorem source_bwd {B : Nat} {w : World} (x : Pl.Source) (cs : List Value) (h : SourceR B w x cs) : CellsAre (allm w) (sourceT x) cs := by
  obtain ⟨c0, c1, c2, rfl, h0, h1, h2⟩ := h
  exact (cellsAre_cons (sl_bwd (sz := 2) (enc := termT) (fun _ => rfl) term_bwd h0).1 (sl_bwd (sz := 2) (enc := termT) (fun _ => rfl) term_bwd h0).2 (cellsAre_cons (sl_bwd (sz := 2) (enc := termT) (fun _ => rfl) term_bwd h1).1 (sl_bwd (sz := 2) (enc := termT) (fun _ => rfl) term_bwd h1).2 (cellsAre_cons (sl_bwd (sz := 2) (enc := cidrT) (fun _ => rfl) cidr_bwd h2).1 (sl_bwd (sz := 2) (enc := cidrT) (fun _ => rfl) cidr_bwd h2).2 (cellsAre_nil _))))
theorem source_fwd {m : Mm} {w : World} (hs : Sub m w) (x : Pl.Source) (us : List Value) (hok : okSource x) (h : CellsAre m (sourceT x) us) : SourceR w.heap.size w x us := by
  obtain ⟨k0, k1, k2⟩ := hok
  obtain ⟨u0, us, rfl, h0, h⟩ := cellsAre_inv h
  obtain ⟨u1, us, rfl, h1, h⟩ := cellsAre_inv h
  obtain ⟨u2, us, rfl, h2, h⟩ := cellsAre_inv h
  obtain rfl := cellsAre_inv0 h
  exact ⟨u0, u1, u2, rfl, sl_fwd hs (by omega) (term_fwd hs) k0 h0, sl_fwd hs (by omega) (term_fwd hs) k1 h1, sl_fwd hs (by omega) (cidr_fwd hs) k2 h2⟩
theorem source_ok (B : Nat) (w : World) (x : Pl.Source) (cs : List Value) (h : SourceR B w x cs) : okSource x := by
  obtain ⟨c0, c1, c2, _, h0, h1, h2⟩ := h
  exact ⟨sl_ok term_ok h0, sl_ok term_ok h1, sl_ok cidr_ok h2⟩
def targetT (x : Pl.Target) : List T := [.sl 1 (x.ports.map intT), .sl 2 (x.methods.map termT), .sl 2 (x.paths.map termT), .sl 2 (x.hosts.map termT)]
def okTarget (x : Pl.Target) : Prop := (∀ y ∈ x.ports, okInt y) ∧ (∀ y ∈ x.methods, okTerm y) ∧ (∀ y ∈ x.paths, okTerm y) ∧ (∀ y ∈ x.hosts, okTerm y)
theorem target_bwd {B : Nat} {w : World} (x : Pl.Target) (cs : List Value) (h : TargetR B w x cs) : CellsAre (allm w) (targetT x) cs := by
  obtain ⟨c0, c1, c2, c3, rfl, h0, h1, h2, h3⟩ := h
  exact (cellsAre_cons (sl_bwd (sz := 1) (enc := intT) (fun _ => rfl) int_bwd' h0).1 (sl_bwd (sz := 1) (enc := intT) (fun _ => rfl) int_bwd' h0).2 (cellsAre_cons (sl_bwd (sz := 2) (enc := termT) (fun _ => rfl) term_bwd h1).1 (sl_bwd (sz := 2) (enc := termT) (fun _ => rfl) term_bwd h1).2 (cellsAre_cons (sl_bwd (sz := 2) (enc := termT) (fun _ => rfl) term_bwd h2).1 (sl_bwd (sz := 2) (enc := termT) (fun _ => rfl) term_bwd h2).2 (cellsAre_cons (sl_bwd (sz := 2) (enc := termT) (fun _ => rfl) term_bwd h3).1 (sl_bwd (sz := 2) (enc := termT) (fun _ => rfl) term_bwd h3).2 (cellsAre_nil _)))))
theorem target_fwd {m : Mm} {w : World} (hs : Sub m w) (x : Pl.Target) (us : List Value) (hok : okTarget x) (h : CellsAre m (targetT x) us) : TargetR w.heap.size w x us := by
  obtain ⟨k0, k1, k2, k3⟩ := hok
  obtain ⟨u0, us, rfl, h0, h⟩ := cellsAre_inv h
  obtain ⟨u1, us, rfl, h1, h⟩ := cellsAre_inv h
  obtain ⟨u2, us, rfl, h2, h⟩ := cellsAre_inv h
  obtain ⟨u3, us, rfl, h3, h⟩ := cellsAre_inv h
  obtain rfl := cellsAre_inv0 h
  exact ⟨u0, u1, u2, u3, rfl, sl_fwd hs (by omega) (int_fwd' hs) k0 h0, sl_fwd hs (by omega) (term_fwd hs) k1 h1, sl_fwd hs (by omega) (term_fwd hs) k2 h2, sl_fwd hs (by omega) (term_fwd hs) k3 h3⟩
theorem target_ok (B : Nat) (w : World) (x : Pl.Target) (cs : List Value) (h : TargetR B w x cs) : okTarget x := by
  obtain ⟨c0, c1, c2, c3, _, h0, h1, h2, h3⟩ := h
  exact ⟨sl_ok int_ok' h0, sl_ok term_ok h1, sl_ok term_ok h2, sl_ok term_ok h3⟩
def whenT (x : Pl.When) : List T := [.v (.string x.head), .sl 2 (x.terms.map termT)]
def okWhen (x : Pl.When) : Prop := x.head.size ≤ maxLen ∧ (∀ y ∈ x.terms, okTerm y)
theorem when_bwd {B : Nat} {w : World} (x : Pl.When) (cs : List Value) (h : WhenR B w x cs) : CellsAre (allm w) (whenT x) cs := by
  obtain ⟨c0, c1, rfl, h0, h1⟩ := h
  exact (cellsAre_cons (str_bwd h0).1 (str_bwd h0).2 (cellsAre_cons (sl_bwd (sz := 2) (enc := termT) (fun _ => rfl) term_bwd h1).1 (sl_bwd (sz := 2) (enc := termT) (fun _ => rfl) term_bwd h1).2 (cellsAre_nil _)))
theorem when_fwd {m : Mm} {w : World} (hs : Sub m w) (x : Pl.When) (us : List Value) (hok : okWhen x) (h : CellsAre m (whenT x) us) : WhenR w.heap.size w x us := by
  obtain ⟨k0, k1⟩ := hok
  obtain ⟨u0, us, rfl, h0, h⟩ := cellsAre_inv h
  obtain ⟨u1, us, rfl, h1, h⟩ := cellsAre_inv h
  obtain rfl := cellsAre_inv0 h
  exact ⟨u0, u1, rfl, str_fwd k0 h0, sl_fwd hs (by omega) (term_fwd hs) k1 h1⟩
theorem when_ok (B : Nat) (w : World) (x : Pl.When) (cs : List Value) (h : WhenR B w x cs) : okWhen x := by
  obtain ⟨c0, c1, _, h0, h1⟩ := h
  exact ⟨h0.2, sl_ok term_ok h1⟩
def ruleT (x : Pl.Rule) : List T := [.sl 3 (x.from_.map sourceT), .sl 4 (x.to_.map targetT), .sl 2 (x.when_.map whenT)]
def okRule (x : Pl.Rule) : Prop := (∀ y ∈ x.from_, okSource y) ∧ (∀ y ∈ x.to_, okTarget y) ∧ (∀ y ∈ x.when_, okWhen y)
theorem rule_bwd {B : Nat} {w : World} (x : Pl.Rule) (cs : List Value) (h : RuleR B w x cs) : CellsAre (allm w) (ruleT x) cs := by
  obtain ⟨c0, c1, c2, rfl, h0, h1, h2⟩ := h
  exact (cellsAre_cons (sl_bwd (sz := 3) (enc := sourceT) (fun _ => rfl) source_bwd h0).1 (sl_bwd (sz := 3) (enc := sourceT) (fun _ => rfl) source_bwd h0).2 (cellsAre_cons (sl_bwd (sz := 4) (enc := targetT) (fun _ => rfl) target_bwd h1).1 (sl_bwd (sz := 4) (enc := targetT) (fun _ => rfl) target_bwd h1).2 (cellsAre_cons (sl_bwd (sz := 2) (enc := whenT) (fun _ => rfl) when_bwd h2).1 (sl_bwd (sz := 2) (enc := whenT) (fun _ => rfl) when_bwd h2).2 (cellsAre_nil _))))
theorem rule_fwd {m : Mm} {w : World} (hs : Sub m w) (x : Pl.Rule) (us : List Value) (hok : okRule x) (h : CellsAre m (ruleT x) us) : RuleR w.heap.size w x us := by
  obtain ⟨k0, k1, k2⟩ := hok
  obtain ⟨u0, us, rfl, h0, h⟩ := cellsAre_inv h
  obtain ⟨u1, us, rfl, h1, h⟩ := cellsAre_inv h
  obtain ⟨u2, us, rfl, h2, h⟩ := cellsAre_inv h
  obtain rfl := cellsAre_inv0 h
  exact ⟨u0, u1, u2, rfl, sl_fwd hs (by omega) (source_fwd hs) k0 h0, sl_fwd hs (by omega) (target_fwd hs) k1 h1, sl_fwd hs (by omega) (when_fwd hs) k2 h2⟩
theorem rule_ok (B : Nat) (w : World) (x : Pl.Rule) (cs : List Value) (h : RuleR B w x cs) : okRule x := by
  obtain ⟨c0, c1, c2, _, h0, h1, h2⟩ := h
  exact ⟨sl_ok source_ok h0, sl_ok target_ok h1, sl_ok when_ok h2⟩
def polT (x : Pl.Policy) : List T := [.v (.int .u64 x.id), .v (.string x.ns), .v (.int .u64 x.service), .v (.int .i64 x.deny), .sl 3 (x.rules.map ruleT)]
def okPolicy (x : Pl.Policy) : Prop := (Lit.int .u64 x.id).wf = true ∧ x.ns.size ≤ maxLen ∧ (Lit.int .u64 x.service).wf = true ∧ (Lit.int .i64 x.deny).wf = true ∧ (∀ y ∈ x.rules, okRule y)
theorem policy_bwd {B : Nat} {w : World} (x : Pl.Policy) (cs : List Value) (h : PolicyR B w x cs) : CellsAre (allm w) (polT x) cs := by
  obtain ⟨c0, c1, c2, c3, c4, rfl, h0, h1, h2, h3, h4⟩ := h
  exact (cellsAre_cons (int_bwd h0).1 (int_bwd h0).2 (cellsAre_cons (str_bwd h1).1 (str_bwd h1).2 (cellsAre_cons (int_bwd h2).1 (int_bwd h2).2 (cellsAre_cons (int_bwd h3).1 (int_bwd h3).2 (cellsAre_cons (sl_bwd (sz := 3) (enc := ruleT) (fun _ => rfl) rule_bwd h4).1 (sl_bwd (sz := 3) (enc := ruleT) (fun _ => rfl) rule_bwd h4).2 (cellsAre_nil _))))))
theorem policy_fwd {m : Mm} {w : World} (hs : Sub m w) (x : Pl.Policy) (us : List Value) (hok : okPolicy x) (h : CellsAre m (polT x) us) : PolicyR w.heap.size w x us := by
  obtain ⟨k0, k1, k2, k3, k4⟩ := hok
  obtain ⟨u0, us, rfl, h0, h⟩ := cellsAre_inv h
  obtain ⟨u1, us, rfl, h1, h⟩ := cellsAre_inv h
  obtain ⟨u2, us, rfl, h2, h⟩ := cellsAre_inv h
  obtain ⟨u3, us, rfl, h3, h⟩ := cellsAre_inv h
  obtain ⟨u4, us, rfl, h4, h⟩ := cellsAre_inv h
  obtain rfl := cellsAre_inv0 h
  exact ⟨u0, u1, u2, u3, u4, rfl, int_fwd k0 h0, str_fwd k1 h1, int_fwd k2 h2, int_fwd k3 h3, sl_fwd hs (by omega) (rule_fwd hs) k4 h4⟩
theorem policy_ok (B : Nat) (w : World) (x : Pl.Policy) (cs : List Value) (h : PolicyR B w x cs) : okPolicy x := by
  obtain ⟨c0, c1, c2, c3, c4, _, h0, h1, h2, h3, h4⟩ := h
  exact ⟨h0.2, h1.2, h2.2, h3.2, sl_ok rule_ok h4⟩
def headT (x : Pl.Head) : List T := [.v (.string x.name), .v (.string x.value)]
def okHead (x : Pl.Head) : Prop := x.name.size ≤ maxLen ∧ x.value.size ≤ maxLen
theorem head_bwd {B : Nat} {w : World} (x : Pl.Head) (cs : List Value) (h : HeadR B w x cs) : CellsAre (allm w) (headT x) cs := by
  obtain ⟨c0, c1, rfl, h0, h1⟩ := h
  exact (cellsAre_cons (str_bwd h0).1 (str_bwd h0).2 (cellsAre_cons (str_bwd h1).1 (str_bwd h1).2 (cellsAre_nil _)))
theorem head_fwd {m : Mm} {w : World} (hs : Sub m w) (x : Pl.Head) (us : List Value) (hok : okHead x) (h : CellsAre m (headT x) us) : HeadR w.heap.size w x us := by
  obtain ⟨k0, k1⟩ := hok
  obtain ⟨u0, us, rfl, h0, h⟩ := cellsAre_inv h
  obtain ⟨u1, us, rfl, h1, h⟩ := cellsAre_inv h
  obtain rfl := cellsAre_inv0 h
  exact ⟨u0, u1, rfl, str_fwd k0 h0, str_fwd k1 h1⟩
theorem head_ok (B : Nat) (w : World) (x : Pl.Head) (cs : List Value) (h : HeadR B w x cs) : okHead x := by
  obtain ⟨c0, c1, _, h0, h1⟩ := h
  exact ⟨h0.2, h1.2⟩
end Go.Proofs.Ytnclifgiakmmoaa.Pol

/- The walks of addr: Mask, May, In. -/
namespace Go.Proofs.Ytnclifgiakmmoaa.WAddr
set_option linter.unusedVariables false
set_option linter.unusedSimpArgs false
open Go.RowKit Mem BigFrame

/-- bits cut to 0 .. 32 -/
def clamp (b : Int) : Nat := (min (max b 0) 32).toNat
def maskN (b : Int) : Int := (4294967296 - 2 ^ (32 - clamp b)) % 4294967296
theorem pow_le (n : Nat) (h : n ≤ 32) : 1 ≤ (2 : Int) ^ n ∧ (2 : Int) ^ n ≤ 4294967296 := by
  have h1 : (2 : Nat) ^ n ≤ 2 ^ 32 := Nat.pow_le_pow_right (by omega) h
  have h2 : 1 ≤ (2 : Nat) ^ n := Nat.one_le_two_pow
  have e : ((2 ^ n : Nat) : Int) = (2 : Int) ^ n := by simp
  rw [← e]
  omega

theorem mask (b : Int) (w : World) : Calls Try.prog 47 #[.int .i64 b] w fun e w' => e = .returned (.int .u32 (maskN b)) ∧ w = w' := by
  by_cases h0 : b < 0
  · have hv : maskN b = 0 := by
      have hc : clamp b = 0 := by unfold clamp; omega
      unfold maskN; rw [hc]; rfl
    rw [hv]
    clear hv
    go_enter Try.func47, Try.ntmps47
    go_wp2
    go_ret
    exact ⟨rfl, rfl⟩
  · by_cases h1 : 32 < b
    · have hv : maskN b = 4294967295 := by
        have hc : clamp b = 32 := by unfold clamp; omega
        unfold maskN; rw [hc]; rfl
      rw [hv]
      clear hv
      go_enter Try.func47, Try.ntmps47
      go_wp2
      go_ret
      exact ⟨rfl, rfl⟩
    · have he : (32 - b).toNat = 32 - b.toNat := by omega
      have hp := pow_le (32 - b.toNat) (by omega)
      have hv : maskN b = 4294967296 - 2 ^ (32 - b.toNat) := by
        have hc : clamp b = b.toNat := by unfold clamp; omega
        unfold maskN; rw [hc]
        generalize (2 : Int) ^ (32 - b.toNat) = y at *
        omega
      rw [hv]
      clear hv
      go_enter Try.func47, Try.ntmps47
      go_wp2
      go_ret
      exact ⟨rfl, rfl⟩

/-- may a net be? -/
def mayC (c : Pl.Cidr) : Bool := decide (0 ≤ c.bits) && decide (c.bits ≤ 32) && (bits .andNot .u32 c.addr (maskN c.bits) == 0)
def inC (c : Pl.Cidr) (a : Int) : Bool := mayC c && (bits .and .u32 a (maskN c.bits) == c.addr)

theorem mayA (c : Pl.Cidr) (w : World) : Calls Try.prog 46 #[.agg #[.int .u32 c.addr, .int .i64 c.bits]] w fun e w' => e = .returned (.bool (mayC c)) ∧ Lo w w' := by
  obtain ⟨a, b⟩ := c
  unfold mayC
  simp only
  by_cases h0 : 0 ≤ b
  · by_cases h1 : b ≤ 32
    · have hd0 : decide (0 ≤ b) = true := by simpa using h0
      have hd1 : decide (b ≤ 32) = true := by simpa using h1
      rw [hd0, hd1]
      go_enter Try.func46, Try.ntmps46
      go_wp2_with fail
      refine wp_region_ext (by kernel_rfl) (by kernel_rfl) ?_
      repeat (first | go_big_quiet_skip | (go_big_quiet_want; go_big_quiet_op; first | go_big_quiet_on | go_big_quiet_call (((go_at_call 47; exact quiet_ext_same (mask _ _))))))
      refine wpQuiet_nil ?_
      intro wq hq
      obtain ⟨hqc, hqf, hqz⟩ := hq.facts
      go_wp2
      go_ret
      exact ⟨rfl, (by repeat (first | exact Lo.refl _ | assumption | refine Lo.drew ?_ | refine Lo.alloc ?_ _ | refine Lo.setCell ?_ (by first | (dsimp only; omega) | (simp; omega) | (simp; done)) _ | refine Lo.trans ?_ (by assumption)))⟩
    · have hd0 : decide (0 ≤ b) = true := by simpa using h0
      have hd1 : decide (b ≤ 32) = false := by simpa using h1
      rw [hd0, hd1]
      go_enter Try.func46, Try.ntmps46
      go_wp2_with fail
      refine wp_region_ext (by kernel_rfl) (by kernel_rfl) ?_
      repeat (first | go_big_quiet_skip | (go_big_quiet_want; go_big_quiet_op; first | go_big_quiet_on | go_big_quiet_call (((go_at_call 47; exact quiet_ext_same (mask _ _))))))
      refine wpQuiet_nil ?_
      intro wq hq
      obtain ⟨hqc, hqf, hqz⟩ := hq.facts
      go_wp2
      go_ret
      exact ⟨rfl, (by repeat (first | exact Lo.refl _ | assumption | refine Lo.drew ?_ | refine Lo.alloc ?_ _ | refine Lo.setCell ?_ (by first | (dsimp only; omega) | (simp; omega) | (simp; done)) _ | refine Lo.trans ?_ (by assumption)))⟩
  · have hd0 : decide (0 ≤ b) = false := by simpa using h0
    rw [hd0]
    go_enter Try.func46, Try.ntmps46
    go_wp2_with fail
    refine wp_region_ext (by kernel_rfl) (by kernel_rfl) ?_
    repeat (first | go_big_quiet_skip | (go_big_quiet_want; go_big_quiet_op; first | go_big_quiet_on | go_big_quiet_call (((go_at_call 47; exact quiet_ext_same (mask _ _))))))
    refine wpQuiet_nil ?_
    intro wq hq
    obtain ⟨hqc, hqf, hqz⟩ := hq.facts
    go_wp2
    go_ret
    exact ⟨rfl, (by repeat (first | exact Lo.refl _ | assumption | refine Lo.drew ?_ | refine Lo.alloc ?_ _ | refine Lo.setCell ?_ (by first | (dsimp only; omega) | (simp; omega) | (simp; done)) _ | refine Lo.trans ?_ (by assumption)))⟩
theorem inA (c : Pl.Cidr) (x : Int) (w : World) : Calls Try.prog 33 #[.agg #[.int .u32 c.addr, .int .i64 c.bits], .int .u32 x] w fun e w' => e = .returned (.bool (inC c x)) ∧ Lo w w' := by
  unfold inC
  cases hm : mayC c
  all_goals
    have hc : ∀ w : World, Calls Try.prog 46 #[.agg #[.int .u32 c.addr, .int .i64 c.bits]] w fun e w' => e = .returned (.bool (mayC c)) ∧ Lo w w' := fun w => mayA c w
    rw [hm] at hc
    have HC := Lib.hid hc
    clear hc hm
    go_enter Try.func33, Try.ntmps33
    go_wp2_with fail
    refine wp_region_ext (by kernel_rfl) (by kernel_rfl) ?_
    repeat (first | go_big_quiet_skip | (go_big_quiet_want; go_big_quiet_op; first | go_big_quiet_on | go_big_quiet_call ((first | (go_at_call 46; exact quiet_ext (HC.out _)) | (go_at_call 47; exact quiet_ext_same (mask _ _))))))
    refine wpQuiet_nil ?_
    intro wq hq
    obtain ⟨hqc, hqf, hqz⟩ := hq.facts
    go_wp2
    go_ret
    exact ⟨rfl, (by repeat (first | exact Lo.refl _ | assumption | refine Lo.drew ?_ | refine Lo.alloc ?_ _ | refine Lo.setCell ?_ (by first | (dsimp only; omega) | (simp; omega) | (simp; done)) _ | refine Lo.trans ?_ (by assumption)))⟩
end Go.Proofs.Ytnclifgiakmmoaa.WAddr

/- The walks of name: MayLabel, May, Print. -/
namespace Go.Proofs.Ytnclifgiakmmoaa.WName
set_option linter.unusedVariables false
set_option linter.unusedSimpArgs false
open Go.RowKit Mem BigFrame

/-- may a label's letter be c, the i-th of n? -/
def lcN (n i c : Nat) : Bool := decide (97 ≤ c ∧ c ≤ 122) || decide (48 ≤ c ∧ c ≤ 57) || (decide (c = 45) && decide (i ≠ 0 ∧ i + 1 ≠ n))
def lcs (s : ByteArray) (i : Nat) : Bool := lcN s.size i ((s.toList.getD i 0).toNat)
def label (s : ByteArray) : Bool := (List.range s.size).all (lcs s) && decide (1 ≤ s.size) && decide (s.size ≤ 20)
theorem label_bad {s : ByteArray} {i : Nat} (hi : i < s.size) (h : lcs s i = false) : label s = false := by
  have : (List.range s.size).all (lcs s) = false := by
    rw [List.all_eq_false]; exact ⟨i, by simpa using hi, by simp [h]⟩
  simp [label, this]
theorem lcs_at {s : ByteArray} {i : Nat} (hi : i < s.size) : lcs s i = lcN s.size i (s[i]'hi).toNat := by
  unfold lcs
  rw [List.getD_eq_getElem?_getD, toList_get s i hi]; rfl
theorem range_more {f : Nat → Bool} {i : Nat} (h : (List.range i).all f = true) (hi : f i = true) : (List.range (i + 1)).all f = true := by
  rw [List.range_succ, List.all_append, h]; simp [hi]

theorem edge_or {a b c : Int} (h : (a == 0) = true ∨ (b == c) = true) : a = 0 ∨ b = c := by simpa only [beq_iff_eq] using h
theorem edge_and {a b c : Int} (h : (a == 0) = false ∧ (b == c) = false) : ¬ a = 0 ∧ ¬ b = c := by simpa only [beq_eq_false_iff_ne, ne_eq] using h

set_option maxRecDepth 100000 in
set_option maxHeartbeats 1600000 in
theorem mayLabel (s : ByteArray) (w : World) (hs : s.size ≤ maxLen) : Calls Try.prog 55 #[.string s] w fun e w' => e = .returned (.bool (label s)) ∧ Lo w w' := by
  unfold maxLen at hs
  have hlo : ∀ pos, Lo w (w.iter s pos) := fun pos => (Lo.refl w).alloc _
  have HL := Lib.hid hlo
  clear hlo
  go_enter Try.func55, Try.ntmps55
  go_wp2
  go_loopw [3] (fun _ w' => ∃ pos : Nat, w' = w.iter s pos ∧ pos ≤ s.size ∧ Hid ((List.range pos).all (lcs s) = true)) (fun _ w' => s.size - w'.iterPos w.heap.size)
  case atStart => exact ⟨0, rfl, Nat.zero_le _, Lib.hid rfl⟩
  case round =>
    obtain ⟨pos, rfl, hle, hall⟩ := hrel
    by_cases hp : pos < s.size
    · have hat := lcs_at hp
      by_cases ha : (s[pos]'hp).toNat < 128
      · have hnx : ∀ ty, (Instr.next (.pointer (some ⟨w.heap.size, 0, none⟩)) true ty).run Try.prog (w.iter s pos) = _ := fun ty => run_next_ascii w s pos ty hp ha
        have HAT := Lib.hid hat
        clear hat
        generalize (s[pos]'hp).toNat = c at *
        go_wp2
        all_goals
          (try have q1 : (c : Int) = 45 := eq_of_beq (by assumption))
          (try have q2 : ¬ (c : Int) = 45 := ne_of_beq_false (by assumption))
          (try have q3 : (pos : Int) = 0 := eq_of_beq (by assumption))
          (try have q4 : ¬ (pos : Int) = 0 := ne_of_beq_false (by assumption))
          (try have q5 : (pos : Int) + 1 = s.size := eq_of_beq (by assumption))
          (try have q7 := edge_or (by assumption))
          (try have q8 := edge_and (by assumption))
          (try have q6 : ¬ (pos : Int) + 1 = s.size := ne_of_beq_false (by assumption))
          first
            | (go_ret
               exact ⟨ret_bool (label_bad hp (by rw [HAT.out]; unfold lcN; simp only [Bool.or_eq_false_iff, Bool.and_eq_false_iff, decide_eq_false_iff_not]; omega)).symm, HL.out _⟩)
            | (refine ⟨⟨pos + 1, by first | rfl | (congr 1; omega), by omega, Lib.hid (range_more hall.out (by rw [HAT.out]; unfold lcN; simp only [Bool.or_eq_true, Bool.and_eq_true, decide_eq_true_eq]; omega))⟩, by simp; omega⟩)
            | (exfalso; omega)
            | (exfalso; rename_i hl; simp at hl; omega)
      · have hdh := decode_high s pos hp (by omega)
        have hnx : ∀ ty, (Instr.next (.pointer (some ⟨w.heap.size, 0, none⟩)) true ty).run Try.prog (w.iter s pos) = _ := fun ty => run_next_any w s pos ty hp
        have hf : lcs s pos = false := by
          rw [hat]; unfold lcN; simp only [Bool.or_eq_false_iff, Bool.and_eq_false_iff, decide_eq_false_iff_not]; omega
        have HF := Lib.hid (label_bad hp hf)
        clear hat hf
        generalize (Utf8.decode s pos).1 = c at *
        generalize (Utf8.decode s pos).2 = d at *
        have hc2 : ((c : Int) == 45) = false := by rw [beq_eq_false_iff_ne]; omega
        go_wp2
        all_goals first
          | (exfalso; omega)
          | (go_ret
             exact ⟨ret_bool HF.out.symm, HL.out _⟩)
          | (exfalso; rename_i hl; simp at hl; omega)
    · have hnx : ∀ ty, (Instr.next (.pointer (some ⟨w.heap.size, 0, none⟩)) true ty).run Try.prog (w.iter s pos) = _ := fun ty => run_next_end w s pos ty hp
      have hpe : pos = s.size := by omega
      have hlb : label s = (decide (1 ≤ s.size) && decide (s.size ≤ 20)) := by
        have := hall.out
        rw [hpe] at this
        unfold label; rw [this]; rfl
      have HLB := Lib.hid hlb
      clear hlb hpe
      go_wp2
      all_goals
        go_ret
        exact ⟨ret_bool (by rw [HLB.out, Bool.eq_iff_iff]; simp only [Bool.and_eq_true, decide_eq_true_eq, Bool.false_eq_true, iff_false, false_iff, true_iff, iff_true]; omega), HL.out _⟩

def mayN (ns sa : ByteArray) : Bool := label ns && label sa
set_option maxHeartbeats 800000 in
theorem mayName (ns sa : ByteArray) (w : World) (zn : ns.size ≤ maxLen) (zs : sa.size ≤ maxLen) : Calls Try.prog 44 #[.agg #[.string ns, .string sa]] w fun e w' => e = .returned (.bool (mayN ns sa)) ∧ Lo w w' := by
  unfold mayN
  obtain ⟨x, hx⟩ : ∃ x, label ns = x := ⟨_, rfl⟩
  obtain ⟨y, hy⟩ : ∃ y, label sa = y := ⟨_, rfl⟩
  have C1 : ∀ W, Calls Try.prog 55 #[.string ns] W fun e w' => e = .returned (.bool x) ∧ Lo W w' := fun W => by rw [← hx]; exact mayLabel ns W zn
  have C2 : ∀ W, Calls Try.prog 55 #[.string sa] W fun e w' => e = .returned (.bool y) ∧ Lo W w' := fun W => by rw [← hy]; exact mayLabel sa W zs
  rw [hx, hy]
  have H1 := Lib.hid C1
  have H2 := Lib.hid C2
  clear C1 C2 hx hy
  cases x
  all_goals
    go_enter Try.func44, Try.ntmps44
    go_wp2_with (go_at_call 55; first
      | ((with_reducible refine (H1.out _).mono ?_); rintro e w1 ⟨rfl, hb⟩; obtain ⟨hc, hf, hz⟩ := hb.facts; have hz0 := hz w.heap.size (by first | assumption | (simp; done) | (simp; omega)); have hq0 := fun o => hc w.heap.size o (by first | assumption | (simp; done) | (simp; omega)))
      | ((with_reducible refine (H2.out _).mono ?_); rintro e w1 ⟨rfl, hb⟩; obtain ⟨hc, hf, hz⟩ := hb.facts; have hz0 := hz w.heap.size (by first | assumption | (simp; done) | (simp; omega)); have hq0 := fun o => hc w.heap.size o (by first | assumption | (simp; done) | (simp; omega))))
    go_ret
    exact ⟨ret_bool (by simp), (by repeat (first | exact Lo.refl _ | assumption | refine Lo.drew ?_ | refine Lo.alloc ?_ _ | refine Lo.setCell ?_ (by first | (dsimp only; omega) | (simp; omega) | (simp; done)) _ | refine Lo.trans ?_ (by assumption)))⟩

def pre1 : ByteArray := ⟨#[115, 112, 105, 102, 102, 101, 58, 47, 47, 109, 101, 115, 104, 47, 110, 115, 47]⟩
def pre2 : ByteArray := ⟨#[47, 115, 97, 47]⟩
/-- a name's text, none where it may not be -/
def nameText (ns sa : ByteArray) : ByteArray := if mayN ns sa then pre1 ++ ns ++ pre2 ++ sa else ⟨#[]⟩
theorem mayN_len {ns sa : ByteArray} (h : mayN ns sa = true) : ns.size ≤ 20 ∧ sa.size ≤ 20 := by
  simp [mayN, label] at h; omega
theorem nameText_len (ns sa : ByteArray) : (nameText ns sa).size ≤ 61 := by
  unfold nameText
  split
  · rename_i h
    have := mayN_len h
    have h1 : pre1.size = 17 := rfl
    have h2 : pre2.size = 4 := rfl
    simp [h1, h2]; omega
  · exact Nat.zero_le _
set_option maxHeartbeats 800000 in
theorem printName (ns sa : ByteArray) (w : World) (zn : ns.size ≤ maxLen) (zs : sa.size ≤ maxLen) : Calls Try.prog 29 #[.agg #[.string ns, .string sa]] w fun e w' => e = .returned (.tuple #[.string (nameText ns sa), .int .i64 (if mayN ns sa then 0 else 1)]) ∧ Lo w w' := by
  unfold nameText
  obtain ⟨x, hx⟩ : ∃ x, mayN ns sa = x := ⟨_, rfl⟩
  have C1 : ∀ W, Calls Try.prog 44 #[.agg #[.string ns, .string sa]] W fun e w' => e = .returned (.bool x) ∧ Lo W w' := fun W => by rw [← hx]; exact mayName ns sa W zn zs
  have H1 := Lib.hid C1
  rw [hx]
  cases x with
  | false =>
    clear C1 hx
    go_enter Try.func29, Try.ntmps29
    go_wp2_with (go_at_call 44; refine (H1.out _).mono ?_; rintro e w1 ⟨rfl, hb⟩; obtain ⟨hc, hf, hz⟩ := hb.facts; have hz0 := hz w.heap.size (by first | assumption | (simp; done) | (simp; omega)); have hq0 := fun o => hc w.heap.size o (by first | assumption | (simp; done) | (simp; omega)))
    go_ret2
    exact ⟨rfl, (by repeat (first | exact Lo.refl _ | assumption | refine Lo.drew ?_ | refine Lo.alloc ?_ _ | refine Lo.setCell ?_ (by first | (dsimp only; omega) | (simp; omega) | (simp; done)) _ | refine Lo.trans ?_ (by assumption)))⟩
  | true =>
    have hl := mayN_len hx
    have h1 : pre1.size = 17 := rfl
    have h2 : pre2.size = 4 := rfl
    clear C1 hx
    go_enter Try.func29, Try.ntmps29
    go_wp2_with (go_at_call 44; refine (H1.out _).mono ?_; rintro e w1 ⟨rfl, hb⟩; obtain ⟨hc, hf, hz⟩ := hb.facts; have hz0 := hz w.heap.size (by first | assumption | (simp; done) | (simp; omega)); have hq0 := fun o => hc w.heap.size o (by first | assumption | (simp; done) | (simp; omega)))
    go_ret2
    exact ⟨rfl, (by repeat (first | exact Lo.refl _ | assumption | refine Lo.drew ?_ | refine Lo.alloc ?_ _ | refine Lo.setCell ?_ (by first | (dsimp only; omega) | (simp; omega) | (simp; done)) _ | refine Lo.trans ?_ (by assumption)))⟩
end Go.Proofs.Ytnclifgiakmmoaa.WName

/- slices.IndexFunc and ContainsFunc at gatepost/api.Source: a row of elements, a function value. (Written by mk_index.py.) -/
namespace Go.Proofs.Ytnclifgiakmmoaa.WIdxSource
set_option linter.unusedVariables false
set_option linter.unusedSimpArgs false
open Go.RowKit Mem BigFrame

def findI {α : Type} (p : α → Bool) (xs : List α) : Int := match xs.findIdx? p with | some k => (k : Int) | none => -1
theorem findI_at {α : Type} {p : α → Bool} {xs : List α} {k : Nat} (hk : k < xs.length) (hp : p xs[k] = true) (h : (xs.take k).any p = false) : findI p xs = (k : Int) := by
  unfold findI
  have : xs.findIdx? p = some k := by
    rw [List.findIdx?_eq_some_iff_getElem]
    refine ⟨hk, hp, fun j hj => ?_⟩
    rw [List.any_eq_false] at h
    have hm : xs[j]'(by omega) ∈ xs.take k := by
      rw [List.mem_take_iff_getElem]
      exact ⟨j, by omega, rfl⟩
    simpa using h _ hm
  rw [this]
theorem findI_none {α : Type} {p : α → Bool} {xs : List α} (h : xs.any p = false) : findI p xs = -1 := by
  unfold findI
  have : xs.findIdx? p = none := by
    rw [List.findIdx?_eq_none_iff]
    rw [List.any_eq_false] at h
    intro x hx; simpa using h x hx
  rw [this]
theorem findI_any {α : Type} {p : α → Bool} {xs : List α} : decide (0 ≤ findI p xs) = xs.any p := by
  unfold findI
  cases h : xs.findIdx? p with
  | none =>
    rw [List.findIdx?_eq_none_iff] at h
    have : xs.any p = false := by rw [List.any_eq_false]; intro x hx; simp [h x hx]
    rw [this]; rfl
  | some k =>
    rw [List.findIdx?_eq_some_iff_getElem] at h
    obtain ⟨hk, hp, _⟩ := h
    have : xs.any p = true := by rw [List.any_eq_true]; exact ⟨_, List.getElem_mem hk, hp⟩
    rw [this]; simp
theorem any_snoc' {α : Type} {l : List α} {p : α → Bool} {n : Nat} (h : (l.take n).any p = false) (hn : n < l.length) (hp : p l[n] = false) : (l.take (n + 1)).any p = false := by
  rw [List.take_succ_eq_append_getElem hn, List.any_append, h]; simp [hp]

/-- what a function value gives, at each element of the row, in each later world -/
def Says {α : Type} (R : Rel α) (B : Nat) (w : World) (xs : List α) (g : FuncId) (caps : Array Value) (p : α → Bool) : Prop :=
  ∀ (w' : World) (x : α) (c0 c1 c2 : Value), x ∈ xs → Lo w w' → R B w' x [c0, c1, c2] → Calls Try.prog g (#[.agg #[c0, c1, c2]] ++ caps) w' fun e w'' => e = .returned (.bool (p x)) ∧ Lo w' w''

set_option maxRecDepth 100000 in
set_option maxHeartbeats 800000 in
theorem indexFunc {α : Type} {R : Rel α} (hR : Kept R) {B : Nat} {A : Option Addr} (cap : Nat) {xs : List α} {g : FuncId} {caps : Array Value} {p : α → Bool} (w : World) (hB : B ≤ w.heap.size) (hA : SliceAt R 3 B w A xs) (hn : xs.length ≤ maxLen) (eg : Go.Proofs.Enters Try.prog g) (hf : Says R B w xs g caps p) :
    Calls Try.prog 43 #[.slice A xs.length cap, .func (.func g) #[] caps] w fun e w' => e = .returned (.int .i64 (findI p xs)) ∧ Lo w w' := by
  unfold maxLen at hn
  unfold Go.Proofs.Enters at eg
  go_enter Try.func43, Try.ntmps43
  go_wp2
  go_loopw [5, 8] (fun _ i wr => ∃ k : Nat, k ≤ xs.length ∧ i = .int .i64 k ∧ Lo w wr ∧ Hid ((xs.take k).any p = false)) (fun _ i _ => xs.length - (intOf i).toNat)
  case atStart => exact ⟨0, Nat.zero_le _, rfl, Lo.refl _, Lib.hid rfl⟩
  case round =>
    obtain ⟨k, hk, rfl, hlo, hall⟩ := hrel
    by_cases hlt : k < xs.length
    · obtain ⟨b, off, cs, rfl, hb, hl, hc, hr⟩ := (hA.lo hR hlo hB) k xs[k] (List.getElem?_eq_getElem hlt)
      obtain ⟨c0, c1, c2, rfl⟩ : ∃ c0 c1 c2, cs = [c0, c1, c2] := by
        match cs, hl with
        | [c0, c1, c2], _ => exact ⟨c0, c1, c2, rfl⟩
      have hc0 : wr.cell? ⟨b, off + k * 3, none⟩ = some c0 := hc 0 _ rfl
      have hc1 : wr.cell? ⟨b, off + k * 3 + 1, none⟩ = some c1 := hc 1 _ rfl
      have hc2 : wr.cell? ⟨b, off + k * 3 + 2, none⟩ = some c2 := hc 2 _ rfl
      have HF := Lib.hid (hf wr xs[k] c0 c1 c2 (List.getElem_mem hlt) hlo hr)
      clear hc hr
      cases hp : p xs[k]
      all_goals
        have HP := Lib.hid hp
        clear hp
        go_wp2_with fail
        refine (HF.out).mono ?_
        rw [HP.out]
        rintro e w1 ⟨rfl, hb1⟩
        go_wp2
        first
          | (go_ret
             exact ⟨ret_int (findI_at hlt HP.out hall.out).symm, (by repeat (first | exact Lo.refl _ | assumption | refine Lo.drew ?_ | refine Lo.alloc ?_ _ | refine Lo.setCell ?_ (by first | (dsimp only; omega) | (simp; omega) | (simp; done)) _ | refine Lo.trans ?_ (by assumption)))⟩)
          | (go_roundw
             case rel => exact ⟨k + 1, by omega, by go_num, (by repeat (first | exact Lo.refl _ | assumption | refine Lo.drew ?_ | refine Lo.alloc ?_ _ | refine Lo.setCell ?_ (by first | (dsimp only; omega) | (simp; omega) | (simp; done)) _ | refine Lo.trans ?_ (by assumption))), Lib.hid (any_snoc' hall.out hlt HP.out)⟩
             case measure => simp [intOf]; omega)
    · have HF := hall.out
      rw [List.take_of_length_le (by omega)] at HF
      have HG := Lib.hid HF
      clear HF
      go_wp2
      go_ret
      exact ⟨ret_int (findI_none HG.out).symm, (by repeat (first | exact Lo.refl _ | assumption | refine Lo.drew ?_ | refine Lo.alloc ?_ _ | refine Lo.setCell ?_ (by first | (dsimp only; omega) | (simp; omega) | (simp; done)) _ | refine Lo.trans ?_ (by assumption)))⟩

theorem containsFunc {α : Type} {R : Rel α} (hR : Kept R) {B : Nat} {A : Option Addr} (cap : Nat) {xs : List α} {g : FuncId} {caps : Array Value} {p : α → Bool} (w : World) (hB : B ≤ w.heap.size) (hA : SliceAt R 3 B w A xs) (hn : xs.length ≤ maxLen) (eg : Go.Proofs.Enters Try.prog g) (hf : Says R B w xs g caps p) :
    Calls Try.prog 28 #[.slice A xs.length cap, .func (.func g) #[] caps] w fun e w' => e = .returned (.bool (xs.any p)) ∧ Lo w w' := by
  have hn' := hn
  unfold maxLen at hn
  go_enter Try.func28, Try.ntmps28
  go_wp2_with (go_at_call 43; refine (indexFunc hR cap w hB hA hn' eg hf).mono ?_; rintro e w1 ⟨rfl, hb⟩)
  go_ret
  exact ⟨ret_bool findI_any, (by repeat (first | exact Lo.refl _ | assumption | refine Lo.drew ?_ | refine Lo.alloc ?_ _ | refine Lo.setCell ?_ (by first | (dsimp only; omega) | (simp; omega) | (simp; done)) _ | refine Lo.trans ?_ (by assumption)))⟩
end Go.Proofs.Ytnclifgiakmmoaa.WIdxSource

/- slices.IndexFunc and ContainsFunc at gatepost/api.Target: a row of elements, a function value. (Written by mk_index.py.) -/
namespace Go.Proofs.Ytnclifgiakmmoaa.WIdxTarget
set_option linter.unusedVariables false
set_option linter.unusedSimpArgs false
open Go.RowKit Mem BigFrame

def findI {α : Type} (p : α → Bool) (xs : List α) : Int := match xs.findIdx? p with | some k => (k : Int) | none => -1
theorem findI_at {α : Type} {p : α → Bool} {xs : List α} {k : Nat} (hk : k < xs.length) (hp : p xs[k] = true) (h : (xs.take k).any p = false) : findI p xs = (k : Int) := by
  unfold findI
  have : xs.findIdx? p = some k := by
    rw [List.findIdx?_eq_some_iff_getElem]
    refine ⟨hk, hp, fun j hj => ?_⟩
    rw [List.any_eq_false] at h
    have hm : xs[j]'(by omega) ∈ xs.take k := by
      rw [List.mem_take_iff_getElem]
      exact ⟨j, by omega, rfl⟩
    simpa using h _ hm
  rw [this]
theorem findI_none {α : Type} {p : α → Bool} {xs : List α} (h : xs.any p = false) : findI p xs = -1 := by
  unfold findI
  have : xs.findIdx? p = none := by
    rw [List.findIdx?_eq_none_iff]
    rw [List.any_eq_false] at h
    intro x hx; simpa using h x hx
  rw [this]
theorem findI_any {α : Type} {p : α → Bool} {xs : List α} : decide (0 ≤ findI p xs) = xs.any p := by
  unfold findI
  cases h : xs.findIdx? p with
  | none =>
    rw [List.findIdx?_eq_none_iff] at h
    have : xs.any p = false := by rw [List.any_eq_false]; intro x hx; simp [h x hx]
    rw [this]; rfl
  | some k =>
    rw [List.findIdx?_eq_some_iff_getElem] at h
    obtain ⟨hk, hp, _⟩ := h
    have : xs.any p = true := by rw [List.any_eq_true]; exact ⟨_, List.getElem_mem hk, hp⟩
    rw [this]; simp
theorem any_snoc' {α : Type} {l : List α} {p : α → Bool} {n : Nat} (h : (l.take n).any p = false) (hn : n < l.length) (hp : p l[n] = false) : (l.take (n + 1)).any p = false := by
  rw [List.take_succ_eq_append_getElem hn, List.any_append, h]; simp [hp]

/-- what a function value gives, at each element of the row, in each later world -/
def Says {α : Type} (R : Rel α) (B : Nat) (w : World) (xs : List α) (g : FuncId) (caps : Array Value) (p : α → Bool) : Prop :=
  ∀ (w' : World) (x : α) (c0 c1 c2 c3 : Value), x ∈ xs → Lo w w' → R B w' x [c0, c1, c2, c3] → Calls Try.prog g (#[.agg #[c0, c1, c2, c3]] ++ caps) w' fun e w'' => e = .returned (.bool (p x)) ∧ Lo w' w''

set_option maxRecDepth 100000 in
set_option maxHeartbeats 800000 in
theorem indexFunc {α : Type} {R : Rel α} (hR : Kept R) {B : Nat} {A : Option Addr} (cap : Nat) {xs : List α} {g : FuncId} {caps : Array Value} {p : α → Bool} (w : World) (hB : B ≤ w.heap.size) (hA : SliceAt R 4 B w A xs) (hn : xs.length ≤ maxLen) (eg : Go.Proofs.Enters Try.prog g) (hf : Says R B w xs g caps p) :
    Calls Try.prog 48 #[.slice A xs.length cap, .func (.func g) #[] caps] w fun e w' => e = .returned (.int .i64 (findI p xs)) ∧ Lo w w' := by
  unfold maxLen at hn
  unfold Go.Proofs.Enters at eg
  go_enter Try.func48, Try.ntmps48
  go_wp2
  go_loopw [5, 8] (fun _ i wr => ∃ k : Nat, k ≤ xs.length ∧ i = .int .i64 k ∧ Lo w wr ∧ Hid ((xs.take k).any p = false)) (fun _ i _ => xs.length - (intOf i).toNat)
  case atStart => exact ⟨0, Nat.zero_le _, rfl, Lo.refl _, Lib.hid rfl⟩
  case round =>
    obtain ⟨k, hk, rfl, hlo, hall⟩ := hrel
    by_cases hlt : k < xs.length
    · obtain ⟨b, off, cs, rfl, hb, hl, hc, hr⟩ := (hA.lo hR hlo hB) k xs[k] (List.getElem?_eq_getElem hlt)
      obtain ⟨c0, c1, c2, c3, rfl⟩ : ∃ c0 c1 c2 c3, cs = [c0, c1, c2, c3] := by
        match cs, hl with
        | [c0, c1, c2, c3], _ => exact ⟨c0, c1, c2, c3, rfl⟩
      have hc0 : wr.cell? ⟨b, off + k * 4, none⟩ = some c0 := hc 0 _ rfl
      have hc1 : wr.cell? ⟨b, off + k * 4 + 1, none⟩ = some c1 := hc 1 _ rfl
      have hc2 : wr.cell? ⟨b, off + k * 4 + 2, none⟩ = some c2 := hc 2 _ rfl
      have hc3 : wr.cell? ⟨b, off + k * 4 + 3, none⟩ = some c3 := hc 3 _ rfl
      have HF := Lib.hid (hf wr xs[k] c0 c1 c2 c3 (List.getElem_mem hlt) hlo hr)
      clear hc hr
      cases hp : p xs[k]
      all_goals
        have HP := Lib.hid hp
        clear hp
        go_wp2_with fail
        refine (HF.out).mono ?_
        rw [HP.out]
        rintro e w1 ⟨rfl, hb1⟩
        go_wp2
        first
          | (go_ret
             exact ⟨ret_int (findI_at hlt HP.out hall.out).symm, (by repeat (first | exact Lo.refl _ | assumption | refine Lo.drew ?_ | refine Lo.alloc ?_ _ | refine Lo.setCell ?_ (by first | (dsimp only; omega) | (simp; omega) | (simp; done)) _ | refine Lo.trans ?_ (by assumption)))⟩)
          | (go_roundw
             case rel => exact ⟨k + 1, by omega, by go_num, (by repeat (first | exact Lo.refl _ | assumption | refine Lo.drew ?_ | refine Lo.alloc ?_ _ | refine Lo.setCell ?_ (by first | (dsimp only; omega) | (simp; omega) | (simp; done)) _ | refine Lo.trans ?_ (by assumption))), Lib.hid (any_snoc' hall.out hlt HP.out)⟩
             case measure => simp [intOf]; omega)
    · have HF := hall.out
      rw [List.take_of_length_le (by omega)] at HF
      have HG := Lib.hid HF
      clear HF
      go_wp2
      go_ret
      exact ⟨ret_int (findI_none HG.out).symm, (by repeat (first | exact Lo.refl _ | assumption | refine Lo.drew ?_ | refine Lo.alloc ?_ _ | refine Lo.setCell ?_ (by first | (dsimp only; omega) | (simp; omega) | (simp; done)) _ | refine Lo.trans ?_ (by assumption)))⟩

theorem containsFunc {α : Type} {R : Rel α} (hR : Kept R) {B : Nat} {A : Option Addr} (cap : Nat) {xs : List α} {g : FuncId} {caps : Array Value} {p : α → Bool} (w : World) (hB : B ≤ w.heap.size) (hA : SliceAt R 4 B w A xs) (hn : xs.length ≤ maxLen) (eg : Go.Proofs.Enters Try.prog g) (hf : Says R B w xs g caps p) :
    Calls Try.prog 34 #[.slice A xs.length cap, .func (.func g) #[] caps] w fun e w' => e = .returned (.bool (xs.any p)) ∧ Lo w w' := by
  have hn' := hn
  unfold maxLen at hn
  go_enter Try.func34, Try.ntmps34
  go_wp2_with (go_at_call 48; refine (indexFunc hR cap w hB hA hn' eg hf).mono ?_; rintro e w1 ⟨rfl, hb⟩)
  go_ret
  exact ⟨ret_bool findI_any, (by repeat (first | exact Lo.refl _ | assumption | refine Lo.drew ?_ | refine Lo.alloc ?_ _ | refine Lo.setCell ?_ (by first | (dsimp only; omega) | (simp; omega) | (simp; done)) _ | refine Lo.trans ?_ (by assumption)))⟩
end Go.Proofs.Ytnclifgiakmmoaa.WIdxTarget
