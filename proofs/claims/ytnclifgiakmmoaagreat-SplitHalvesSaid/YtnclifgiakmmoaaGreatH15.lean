/- Merged by bundles.py: SimPol, WIdxSource, WIdxTarget, WIdxWhen, WIdxCidr. -/
import Derived.Test.YtnclifgiakmmoaaGreatH7
import Derived.Test.YtnclifgiakmmoaaGreatH11
import Derived.Test.YtnclifgiakmmoaaGreatH12
import Derived.Test.YtnclifgiakmmoaaGreatH14
import Derived.Test.YtnclifgiakmmoaaGreatH0
import Derived.Shelf.Abstract
/- Policies as data: from memory to data, and back. (Printed by mk_simpol.py.) -/
namespace Go.Proofs.YtnclifgiakmmoaaGreat.Pol
set_option linter.unusedVariables false
set_option linter.unusedSimpArgs false
open Go.RowKit Mem Sim Opn
theorem cellsAre_nil (m : Mm) : CellsAre m [] [] := ⟨rfl, fun j t v h => by simp at h⟩
theorem cellsAre_cons {m : Mm} {t : T} {v : Value} {ts : List T} {vs : List Value} (h : TR m t v) (h1 : v.oneCell' = true) (hs : CellsAre m ts vs) : CellsAre m (t :: ts) (v :: vs) := by
  refine ⟨by simp [hs.1], fun j t' v' h2 h3 => ?_⟩
  cases j with
  | zero => simp at h2 h3; subst h2 h3; exact ⟨h, h1⟩
  | succ j => exact hs.2 j t' v' (by simpa using h2) (by simpa using h3)
theorem cellsAre_inv {m : Mm} {t : T} {ts : List T} {us : List Value} (h : CellsAre m (t :: ts) us) : ∃ u us', us = u :: us' ∧ TR m t u ∧ CellsAre m ts us' := by
  cases us with
  | nil => have := h.1; simp at this
  | cons u us' => exact ⟨u, us', rfl, (h.2 0 t u rfl rfl).1, by have := h.1; simpa using this, fun j t' v' h2 h3 => h.2 (j + 1) t' v' (by simpa using h2) (by simpa using h3)⟩
theorem cellsAre_inv0 {m : Mm} {us : List Value} (h : CellsAre m [] us) : us = [] := List.eq_nil_of_length_eq_zero h.1
/-- a slice's cell -/
theorem sl_bwd {α : Type} {R : Mem.Rel α} {enc : α → List T} {sz B : Nat} {w : World} {xs : List α} {c : Value} (hsz : ∀ x, (enc x).length = sz) (hR : ∀ x cs, R B w x cs → CellsAre (allm w) (enc x) cs) (h : SliceC R sz B w xs [c]) : TR (allm w) (.sl sz (xs.map enc)) c ∧ c.oneCell' = true := by
  obtain ⟨A, cap, e, hA, h1, h2⟩ := h
  injection e with e; subst e
  exact ⟨tr_rows_bwd (allm w) hA h1 h2 hsz (fun x _ cs hr => hR x cs hr) (fun b o v _ h => h), rfl⟩
theorem sl_fwd {α : Type} {R : Mem.Rel α} {enc : α → List T} {sz : Nat} {m : Mm} {w : World} {xs : List α} {c : Value} {ok : α → Prop} (hs : Sub m w) (h0 : 0 < sz) (hR : ∀ x us, ok x → CellsAre m (enc x) us → R w.heap.size w x us) (hok : ∀ x ∈ xs, ok x) (h : TR m (.sl sz (xs.map enc)) c) : SliceC R sz w.heap.size w xs [c] := by
  obtain ⟨A, cap, rfl, hA, h1, h2⟩ := tr_rows_fwd (R := R) hs h0 h fun x hx us hc => hR x us (hok x hx) hc
  exact ⟨A, cap, rfl, hA, h1, h2⟩
theorem sl_ok {α : Type} {R : Mem.Rel α} {sz B : Nat} {w : World} {xs : List α} {cs : List Value} {ok : α → Prop} (hR : ∀ B w x cs, R B w x cs → ok x) (h : SliceC R sz B w xs cs) : ∀ x ∈ xs, ok x := fun x hx => by
  obtain ⟨A, cap, e, hA, h1, h2⟩ := h
  obtain ⟨k, hk⟩ := List.getElem?_of_mem hx
  obtain ⟨b, off, cs, _, _, _, _, hr⟩ := hA k x hk
  exact hR _ _ _ _ hr
theorem int_bwd {k : IntKind} {B : Nat} {w : World} {n : Int} {c : Value} (h : IntC k B w n [c]) : TR (allm w) (.v (.int k n)) c ∧ c.oneCell' = true := by
  obtain ⟨e, _⟩ := h; injection e with e; subst e; exact ⟨.v _, rfl⟩
theorem str_bwd {B : Nat} {w : World} {s : ByteArray} {c : Value} (h : StrC B w s [c]) : TR (allm w) (.v (.string s)) c ∧ c.oneCell' = true := by
  obtain ⟨e, _⟩ := h; injection e with e; subst e; exact ⟨.v _, rfl⟩
theorem int_fwd {k : IntKind} {m : Mm} {w : World} {n : Int} {c : Value} (hw : (Lit.int k n).wf = true) (h : TR m (.v (.int k n)) c) : IntC k w.heap.size w n [c] := ⟨by rw [tr_v h], hw⟩
theorem str_fwd {m : Mm} {w : World} {s : ByteArray} {c : Value} (hw : s.size ≤ maxLen) (h : TR m (.v (.string s)) c) : StrC w.heap.size w s [c] := ⟨by rw [tr_v h], hw⟩
def termT (t : Pl.Term) : List T := [.v (.int .i64 t.k), .v (.string t.s)]
def intT (n : Int) : List T := [.v (.int .i64 n)]
def okTerm (t : Pl.Term) : Prop := t.s.size ≤ maxLen
def okInt (n : Int) : Prop := (Lit.int .i64 n).wf = true
theorem term_bwd {B : Nat} {w : World} (x : Pl.Term) (cs : List Value) (h : WMatch.TermR B w x cs) : CellsAre (allm w) (termT x) cs := by
  obtain ⟨rfl, _⟩ := h
  exact cellsAre_cons (.v _) rfl (cellsAre_cons (.v _) rfl (cellsAre_nil _))
theorem term_fwd {m : Mm} {w : World} (_ : Sub m w) (x : Pl.Term) (us : List Value) (hok : okTerm x) (h : CellsAre m (termT x) us) : WMatch.TermR w.heap.size w x us := by
  obtain ⟨u0, us, rfl, h0, h⟩ := cellsAre_inv h
  obtain ⟨u1, us, rfl, h1, h⟩ := cellsAre_inv h
  obtain rfl := cellsAre_inv0 h
  rw [tr_v h0, tr_v h1]
  exact ⟨rfl, hok⟩
theorem term_ok (B : Nat) (w : World) (x : Pl.Term) (cs : List Value) (h : WMatch.TermR B w x cs) : okTerm x := h.2
theorem int_bwd' {B : Nat} {w : World} (x : Int) (cs : List Value) (h : IntC .i64 B w x cs) : CellsAre (allm w) (intT x) cs := by
  obtain ⟨rfl, _⟩ := h
  exact cellsAre_cons (.v _) rfl (cellsAre_nil _)
theorem int_fwd' {m : Mm} {w : World} (_ : Sub m w) (x : Int) (us : List Value) (hok : okInt x) (h : CellsAre m (intT x) us) : IntC .i64 w.heap.size w x us := by
  obtain ⟨u0, us, rfl, h0, h⟩ := cellsAre_inv h
  obtain rfl := cellsAre_inv0 h
  rw [tr_v h0]; exact ⟨rfl, hok⟩
theorem int_ok' (B : Nat) (w : World) (x : Int) (cs : List Value) (h : IntC .i64 B w x cs) : okInt x := h.2
def cidrT (x : Pl.Cidr) : List T := [.v (.int .u32 x.addr), .v (.int .i64 x.bits)]
def okCidr (x : Pl.Cidr) : Prop := (Lit.int .u32 x.addr).wf = true ∧ (Lit.int .i64 x.bits).wf = true
theorem cidr_bwd {B : Nat} {w : World} (x : Pl.Cidr) (cs : List Value) (h : CidrR B w x cs) : CellsAre (allm w) (cidrT x) cs := by
  obtain ⟨c0, c1, rfl, h0, h1⟩ := h
  exact (cellsAre_cons (int_bwd h0).1 (int_bwd h0).2 (cellsAre_cons (int_bwd h1).1 (int_bwd h1).2 (cellsAre_nil _)))
theorem cidr_fwd {m : Mm} {w : World} (hs : Sub m w) (x : Pl.Cidr) (us : List Value) (hok : okCidr x) (h : CellsAre m (cidrT x) us) : CidrR w.heap.size w x us := by
  obtain ⟨k0, k1⟩ := hok
  obtain ⟨u0, us, rfl, h0, h⟩ := cellsAre_inv h
  obtain ⟨u1, us, rfl, h1, h⟩ := cellsAre_inv h
  obtain rfl := cellsAre_inv0 h
  exact ⟨u0, u1, rfl, int_fwd k0 h0, int_fwd k1 h1⟩
theorem cidr_ok (B : Nat) (w : World) (x : Pl.Cidr) (cs : List Value) (h : CidrR B w x cs) : okCidr x := by
  obtain ⟨c0, c1, _, h0, h1⟩ := h
  exact ⟨h0.2, h1.2⟩
def sourceT (x : Pl.Source) : List T := [.sl 2 (x.names.map termT), .sl 2 (x.spaces.map termT), .sl 2 (x.nets.map cidrT)]
def okSource (x : Pl.Source) : Prop := (∀ y ∈ x.names, okTerm y) ∧ (∀ y ∈ x.spaces, okTerm y) ∧ (∀ y ∈ x.nets, okCidr y)
theorem source_bwd {B : Nat} {w : World} (x : Pl.Source) (cs : List Value) (h : SourceR B w x cs) : CellsAre (allm w) (sourceT x) cs := by
  obtain ⟨c0, c1, c2, rfl, h0, h1, h2⟩ := h
  exact (cellsAre_cons (sl_bwd (sz := 2) (enc := termT) (fun _ => rfl) term_bwd h0).1 (sl_bwd (sz := 2) (enc := termT) (fun _ => rfl) term_bwd h0).2 (cellsAre_cons (sl_bwd (sz := 2) (enc := termT) (fun _ => rfl) term_bwd h1).1 (sl_bwd (sz := 2) (enc := termT) (fun _ => rfl) term_bwd h1).2 (cellsAre_cons (sl_bwd (sz := 2) (enc := cidrT) (fun _ => rfl) cidr_bwd h2).1 (sl_bwd (sz := 2) (enc := cidrT) (fun _ => rfl) cidr_bwd h2).2 (cellsAre_nil _))))
theorem source_fwd {m : Mm} {w : World} (hs : Sub m w) (x : Pl.Source) (us : List Value) (hok : okSource x) (h : CellsAre m (sourceT x) us) : SourceR w.heap.size w x us := by
  obtain ⟨k0, k1, k2⟩ := hok
  obtain ⟨u0, us, rfl, h0, h⟩ := cellsAre_inv h
  obtain ⟨u1, us, rfl, h1, h⟩ := cellsAre_inv h
  obtain ⟨u2, us, rfl, h2, h⟩ := cellsAre_inv h
  obtain rfl := cellsAre_inv0 h
  exact ⟨u0, u1, u2, rfl, sl_fwd hs (by omega) (term_fwd hs) k0 h0, sl_fwd hs (by omega) (term_fwd hs) k1 h1, sl_fwd hs (by omega) (cidr_fwd hs) k2 h2⟩
theorem source_ok (B : Nat) (w : World) (x : Pl.Source) (cs : List Value) (h : SourceR B w x cs) : okSource x := by
  obtain ⟨c0, c1, c2, _, h0, h1, h2⟩ := h
  exact ⟨sl_ok term_ok h0, sl_ok term_ok h1, sl_ok cidr_ok h2⟩
def targetT (x : Pl.Target) : List T := [.sl 1 (x.ports.map intT), .sl 2 (x.methods.map termT), .sl 2 (x.paths.map termT), .sl 2 (x.hosts.map termT)]
def okTarget (x : Pl.Target) : Prop := (∀ y ∈ x.ports, okInt y) ∧ (∀ y ∈ x.methods, okTerm y) ∧ (∀ y ∈ x.paths, okTerm y) ∧ (∀ y ∈ x.hosts, okTerm y)
theorem target_bwd {B : Nat} {w : World} (x : Pl.Target) (cs : List Value) (h : TargetR B w x cs) : CellsAre (allm w) (targetT x) cs := by
  obtain ⟨c0, c1, c2, c3, rfl, h0, h1, h2, h3⟩ := h
  exact (cellsAre_cons (sl_bwd (sz := 1) (enc := intT) (fun _ => rfl) int_bwd' h0).1 (sl_bwd (sz := 1) (enc := intT) (fun _ => rfl) int_bwd' h0).2 (cellsAre_cons (sl_bwd (sz := 2) (enc := termT) (fun _ => rfl) term_bwd h1).1 (sl_bwd (sz := 2) (enc := termT) (fun _ => rfl) term_bwd h1).2 (cellsAre_cons (sl_bwd (sz := 2) (enc := termT) (fun _ => rfl) term_bwd h2).1 (sl_bwd (sz := 2) (enc := termT) (fun _ => rfl) term_bwd h2).2 (cellsAre_cons (sl_bwd (sz := 2) (enc := termT) (fun _ => rfl) term_bwd h3).1 (sl_bwd (sz := 2) (enc := termT) (fun _ => rfl) term_bwd h3).2 (cellsAre_nil _)))))
theorem target_fwd {m : Mm} {w : World} (hs : Sub m w) (x : Pl.Target) (us : List Value) (hok : okTarget x) (h : CellsAre m (targetT x) us) : TargetR w.heap.size w x us := by
  obtain ⟨k0, k1, k2, k3⟩ := hok
  obtain ⟨u0, us, rfl, h0, h⟩ := cellsAre_inv h
  obtain ⟨u1, us, rfl, h1, h⟩ := cellsAre_inv h
  obtain ⟨u2, us, rfl, h2, h⟩ := cellsAre_inv h
  obtain ⟨u3, us, rfl, h3, h⟩ := cellsAre_inv h
  obtain rfl := cellsAre_inv0 h
  exact ⟨u0, u1, u2, u3, rfl, sl_fwd hs (by omega) (int_fwd' hs) k0 h0, sl_fwd hs (by omega) (term_fwd hs) k1 h1, sl_fwd hs (by omega) (term_fwd hs) k2 h2, sl_fwd hs (by omega) (term_fwd hs) k3 h3⟩
theorem target_ok (B : Nat) (w : World) (x : Pl.Target) (cs : List Value) (h : TargetR B w x cs) : okTarget x := by
  obtain ⟨c0, c1, c2, c3, _, h0, h1, h2, h3⟩ := h
  exact ⟨sl_ok int_ok' h0, sl_ok term_ok h1, sl_ok term_ok h2, sl_ok term_ok h3⟩
def whenT (x : Pl.When) : List T := [.v (.string x.head), .sl 2 (x.terms.map termT)]
def okWhen (x : Pl.When) : Prop := x.head.size ≤ maxLen ∧ (∀ y ∈ x.terms, okTerm y)
theorem when_bwd {B : Nat} {w : World} (x : Pl.When) (cs : List Value) (h : WhenR B w x cs) : CellsAre (allm w) (whenT x) cs := by
  obtain ⟨c0, c1, rfl, h0, h1⟩ := h
  exact (cellsAre_cons (str_bwd h0).1 (str_bwd h0).2 (cellsAre_cons (sl_bwd (sz := 2) (enc := termT) (fun _ => rfl) term_bwd h1).1 (sl_bwd (sz := 2) (enc := termT) (fun _ => rfl) term_bwd h1).2 (cellsAre_nil _)))
theorem when_fwd {m : Mm} {w : World} (hs : Sub m w) (x : Pl.When) (us : List Value) (hok : okWhen x) (h : CellsAre m (whenT x) us) : WhenR w.heap.size w x us := by
  obtain ⟨k0, k1⟩ := hok
  obtain ⟨u0, us, rfl, h0, h⟩ := cellsAre_inv h
  obtain ⟨u1, us, rfl, h1, h⟩ := cellsAre_inv h
  obtain rfl := cellsAre_inv0 h
  exact ⟨u0, u1, rfl, str_fwd k0 h0, sl_fwd hs (by omega) (term_fwd hs) k1 h1⟩
theorem when_ok (B : Nat) (w : World) (x : Pl.When) (cs : List Value) (h : WhenR B w x cs) : okWhen x := by
  obtain ⟨c0, c1, _, h0, h1⟩ := h
  exact ⟨h0.2, sl_ok term_ok h1⟩
def ruleT (x : Pl.Rule) : List T := [.sl 3 (x.from_.map sourceT), .sl 4 (x.to_.map targetT), .sl 2 (x.when_.map whenT)]
def okRule (x : Pl.Rule) : Prop := (∀ y ∈ x.from_, okSource y) ∧ (∀ y ∈ x.to_, okTarget y) ∧ (∀ y ∈ x.when_, okWhen y)
theorem rule_bwd {B : Nat} {w : World} (x : Pl.Rule) (cs : List Value) (h : RuleR B w x cs) : CellsAre (allm w) (ruleT x) cs := by
  obtain ⟨c0, c1, c2, rfl, h0, h1, h2⟩ := h
  exact (cellsAre_cons (sl_bwd (sz := 3) (enc := sourceT) (fun _ => rfl) source_bwd h0).1 (sl_bwd (sz := 3) (enc := sourceT) (fun _ => rfl) source_bwd h0).2 (cellsAre_cons (sl_bwd (sz := 4) (enc := targetT) (fun _ => rfl) target_bwd h1).1 (sl_bwd (sz := 4) (enc := targetT) (fun _ => rfl) target_bwd h1).2 (cellsAre_cons (sl_bwd (sz := 2) (enc := whenT) (fun _ => rfl) when_bwd h2).1 (sl_bwd (sz := 2) (enc := whenT) (fun _ => rfl) when_bwd h2).2 (cellsAre_nil _))))
theorem rule_fwd {m : Mm} {w : World} (hs : Sub m w) (x : Pl.Rule) (us : List Value) (hok : okRule x) (h : CellsAre m (ruleT x) us) : RuleR w.heap.size w x us := by
  obtain ⟨k0, k1, k2⟩ := hok
  obtain ⟨u0, us, rfl, h0, h⟩ := cellsAre_inv h
  obtain ⟨u1, us, rfl, h1, h⟩ := cellsAre_inv h
  obtain ⟨u2, us, rfl, h2, h⟩ := cellsAre_inv h
  obtain rfl := cellsAre_inv0 h
  exact ⟨u0, u1, u2, rfl, sl_fwd hs (by omega) (source_fwd hs) k0 h0, sl_fwd hs (by omega) (target_fwd hs) k1 h1, sl_fwd hs (by omega) (when_fwd hs) k2 h2⟩
theorem rule_ok (B : Nat) (w : World) (x : Pl.Rule) (cs : List Value) (h : RuleR B w x cs) : okRule x := by
  obtain ⟨c0, c1, c2, _, h0, h1, h2⟩ := h
  exact ⟨sl_ok source_ok h0, sl_ok target_ok h1, sl_ok when_ok h2⟩
def polT (x : Pl.Policy) : List T := [.v (.int .u64 x.id), .v (.string x.ns), .v (.int .u64 x.service), .v (.int .i64 x.deny), .sl 3 (x.rules.map ruleT)]
def okPolicy (x : Pl.Policy) : Prop := (Lit.int .u64 x.id).wf = true ∧ x.ns.size ≤ maxLen ∧ (Lit.int .u64 x.service).wf = true ∧ (Lit.int .i64 x.deny).wf = true ∧ (∀ y ∈ x.rules, okRule y)
theorem policy_bwd {B : Nat} {w : World} (x : Pl.Policy) (cs : List Value) (h : PolicyR B w x cs) : CellsAre (allm w) (polT x) cs := by
  obtain ⟨c0, c1, c2, c3, c4, rfl, h0, h1, h2, h3, h4⟩ := h
  exact (cellsAre_cons (int_bwd h0).1 (int_bwd h0).2 (cellsAre_cons (str_bwd h1).1 (str_bwd h1).2 (cellsAre_cons (int_bwd h2).1 (int_bwd h2).2 (cellsAre_cons (int_bwd h3).1 (int_bwd h3).2 (cellsAre_cons (sl_bwd (sz := 3) (enc := ruleT) (fun _ => rfl) rule_bwd h4).1 (sl_bwd (sz := 3) (enc := ruleT) (fun _ => rfl) rule_bwd h4).2 (cellsAre_nil _))))))
theorem policy_fwd {m : Mm} {w : World} (hs : Sub m w) (x : Pl.Policy) (us : List Value) (hok : okPolicy x) (h : CellsAre m (polT x) us) : PolicyR w.heap.size w x us := by
  obtain ⟨k0, k1, k2, k3, k4⟩ := hok
  obtain ⟨u0, us, rfl, h0, h⟩ := cellsAre_inv h
  obtain ⟨u1, us, rfl, h1, h⟩ := cellsAre_inv h
  obtain ⟨u2, us, rfl, h2, h⟩ := cellsAre_inv h
  obtain ⟨u3, us, rfl, h3, h⟩ := cellsAre_inv h
  obtain ⟨u4, us, rfl, h4, h⟩ := cellsAre_inv h
  obtain rfl := cellsAre_inv0 h
  exact ⟨u0, u1, u2, u3, u4, rfl, int_fwd k0 h0, str_fwd k1 h1, int_fwd k2 h2, int_fwd k3 h3, sl_fwd hs (by omega) (rule_fwd hs) k4 h4⟩
theorem policy_ok (B : Nat) (w : World) (x : Pl.Policy) (cs : List Value) (h : PolicyR B w x cs) : okPolicy x := by
  obtain ⟨c0, c1, c2, c3, c4, _, h0, h1, h2, h3, h4⟩ := h
  exact ⟨h0.2, h1.2, h2.2, h3.2, sl_ok rule_ok h4⟩
def headT (x : Pl.Head) : List T := [.v (.string x.name), .v (.string x.value)]
def okHead (x : Pl.Head) : Prop := x.name.size ≤ maxLen ∧ x.value.size ≤ maxLen
theorem head_fwd {m : Mm} {w : World} (hs : Sub m w) (x : Pl.Head) (us : List Value) (hok : okHead x) (h : CellsAre m (headT x) us) : HeadR w.heap.size w x us := by
  obtain ⟨k0, k1⟩ := hok
  obtain ⟨u0, us, rfl, h0, h⟩ := cellsAre_inv h
  obtain ⟨u1, us, rfl, h1, h⟩ := cellsAre_inv h
  obtain rfl := cellsAre_inv0 h
  exact ⟨u0, u1, rfl, str_fwd k0 h0, str_fwd k1 h1⟩
end Go.Proofs.YtnclifgiakmmoaaGreat.Pol

/- slices.IndexFunc and ContainsFunc at gatepost/api.Source: a row of elements, a function value. (Written by mk_index.py.) -/
namespace Go.Proofs.YtnclifgiakmmoaaGreat.WIdxSource
set_option linter.unusedVariables false
set_option linter.unusedSimpArgs false
open Go.RowKit Mem BigFrame

def findI {α : Type} (p : α → Bool) (xs : List α) : Int := match xs.findIdx? p with | some k => (k : Int) | none => -1
theorem findI_at {α : Type} {p : α → Bool} {xs : List α} {k : Nat} (hk : k < xs.length) (hp : p xs[k] = true) (h : (xs.take k).any p = false) : findI p xs = (k : Int) := by
  unfold findI
  have : xs.findIdx? p = some k := by
    rw [List.findIdx?_eq_some_iff_getElem]
    refine ⟨hk, hp, fun j hj => ?_⟩
    rw [List.any_eq_false] at h
    have hm : xs[j]'(by omega) ∈ xs.take k := by
      rw [List.mem_take_iff_getElem]
      exact ⟨j, by omega, rfl⟩
    simpa using h _ hm
  rw [this]
theorem findI_none {α : Type} {p : α → Bool} {xs : List α} (h : xs.any p = false) : findI p xs = -1 := by
  unfold findI
  have : xs.findIdx? p = none := by
    rw [List.findIdx?_eq_none_iff]
    rw [List.any_eq_false] at h
    intro x hx; simpa using h x hx
  rw [this]
theorem findI_any {α : Type} {p : α → Bool} {xs : List α} : decide (0 ≤ findI p xs) = xs.any p := by
  unfold findI
  cases h : xs.findIdx? p with
  | none =>
    rw [List.findIdx?_eq_none_iff] at h
    have : xs.any p = false := by rw [List.any_eq_false]; intro x hx; simp [h x hx]
    rw [this]; rfl
  | some k =>
    rw [List.findIdx?_eq_some_iff_getElem] at h
    obtain ⟨hk, hp, _⟩ := h
    have : xs.any p = true := by rw [List.any_eq_true]; exact ⟨_, List.getElem_mem hk, hp⟩
    rw [this]; simp
theorem any_snoc' {α : Type} {l : List α} {p : α → Bool} {n : Nat} (h : (l.take n).any p = false) (hn : n < l.length) (hp : p l[n] = false) : (l.take (n + 1)).any p = false := by
  rw [List.take_succ_eq_append_getElem hn, List.any_append, h]; simp [hp]

/-- what a function value gives, at each element of the row, in each later world -/
def Says {α : Type} (R : Rel α) (B : Nat) (w : World) (xs : List α) (g : FuncId) (caps : Array Value) (p : α → Bool) : Prop :=
  ∀ (w' : World) (x : α) (c0 c1 c2 : Value), x ∈ xs → Lo w w' → R B w' x [c0, c1, c2] → Calls Tryz.prog g (#[.agg #[c0, c1, c2]] ++ caps) w' fun e w'' => e = .returned (.bool (p x)) ∧ Lo w' w''

set_option maxRecDepth 100000 in
set_option maxHeartbeats 800000 in
theorem indexFunc {α : Type} {R : Rel α} (hR : Kept R) {B : Nat} {A : Option Addr} (cap : Nat) {xs : List α} {g : FuncId} {caps : Array Value} {p : α → Bool} (w : World) (hB : B ≤ w.heap.size) (hA : SliceAt R 3 B w A xs) (hn : xs.length ≤ maxLen) (eg : Go.Proofs.Enters Tryz.prog g) (hf : Says R B w xs g caps p) :
    Calls Tryz.prog 101 #[.slice A xs.length cap, .func (.func g) #[] caps] w fun e w' => e = .returned (.int .i64 (findI p xs)) ∧ Lo w w' := by
  unfold maxLen at hn
  unfold Go.Proofs.Enters at eg
  go_enter Tryz.func101, Tryz.ntmps101
  go_wp2
  go_loopw [5, 8] (fun _ i wr => ∃ k : Nat, k ≤ xs.length ∧ i = .int .i64 k ∧ Lo w wr ∧ Hid ((xs.take k).any p = false)) (fun _ i _ => xs.length - (intOf i).toNat)
  case atStart => exact ⟨0, Nat.zero_le _, rfl, Lo.refl _, Lib.hid rfl⟩
  case round =>
    obtain ⟨k, hk, rfl, hlo, hall⟩ := hrel
    by_cases hlt : k < xs.length
    · obtain ⟨b, off, cs, rfl, hb, hl, hc, hr⟩ := (hA.lo hR hlo hB) k xs[k] (List.getElem?_eq_getElem hlt)
      obtain ⟨c0, c1, c2, rfl⟩ : ∃ c0 c1 c2, cs = [c0, c1, c2] := by
        match cs, hl with
        | [c0, c1, c2], _ => exact ⟨c0, c1, c2, rfl⟩
      have hc0 : wr.cell? ⟨b, off + k * 3, none⟩ = some c0 := hc 0 _ rfl
      have hc1 : wr.cell? ⟨b, off + k * 3 + 1, none⟩ = some c1 := hc 1 _ rfl
      have hc2 : wr.cell? ⟨b, off + k * 3 + 2, none⟩ = some c2 := hc 2 _ rfl
      have HF := Lib.hid (hf wr xs[k] c0 c1 c2 (List.getElem_mem hlt) hlo hr)
      clear hc hr
      cases hp : p xs[k]
      all_goals
        have HP := Lib.hid hp
        clear hp
        go_wp2_with fail
        refine (HF.out).mono ?_
        rw [HP.out]
        rintro e w1 ⟨rfl, hb1⟩
        go_wp2
        first
          | (go_ret
             exact ⟨ret_int (findI_at hlt HP.out hall.out).symm, (by repeat (first | exact Lo.refl _ | assumption | refine Lo.drew ?_ | refine Lo.alloc ?_ _ | refine Lo.setCell ?_ (by first | (dsimp only; omega) | (simp; omega) | (simp; done)) _ | refine Lo.trans ?_ (by assumption)))⟩)
          | (go_roundw
             case rel => exact ⟨k + 1, by omega, by go_num, (by repeat (first | exact Lo.refl _ | assumption | refine Lo.drew ?_ | refine Lo.alloc ?_ _ | refine Lo.setCell ?_ (by first | (dsimp only; omega) | (simp; omega) | (simp; done)) _ | refine Lo.trans ?_ (by assumption))), Lib.hid (any_snoc' hall.out hlt HP.out)⟩
             case measure => simp [intOf]; omega)
    · have HF := hall.out
      rw [List.take_of_length_le (by omega)] at HF
      have HG := Lib.hid HF
      clear HF
      go_wp2
      go_ret
      exact ⟨ret_int (findI_none HG.out).symm, (by repeat (first | exact Lo.refl _ | assumption | refine Lo.drew ?_ | refine Lo.alloc ?_ _ | refine Lo.setCell ?_ (by first | (dsimp only; omega) | (simp; omega) | (simp; done)) _ | refine Lo.trans ?_ (by assumption)))⟩

theorem containsFunc {α : Type} {R : Rel α} (hR : Kept R) {B : Nat} {A : Option Addr} (cap : Nat) {xs : List α} {g : FuncId} {caps : Array Value} {p : α → Bool} (w : World) (hB : B ≤ w.heap.size) (hA : SliceAt R 3 B w A xs) (hn : xs.length ≤ maxLen) (eg : Go.Proofs.Enters Tryz.prog g) (hf : Says R B w xs g caps p) :
    Calls Tryz.prog 87 #[.slice A xs.length cap, .func (.func g) #[] caps] w fun e w' => e = .returned (.bool (xs.any p)) ∧ Lo w w' := by
  have hn' := hn
  unfold maxLen at hn
  go_enter Tryz.func87, Tryz.ntmps87
  go_wp2_with (go_at_call 101; refine (indexFunc hR cap w hB hA hn' eg hf).mono ?_; rintro e w1 ⟨rfl, hb⟩)
  go_ret
  exact ⟨ret_bool findI_any, (by repeat (first | exact Lo.refl _ | assumption | refine Lo.drew ?_ | refine Lo.alloc ?_ _ | refine Lo.setCell ?_ (by first | (dsimp only; omega) | (simp; omega) | (simp; done)) _ | refine Lo.trans ?_ (by assumption)))⟩
end Go.Proofs.YtnclifgiakmmoaaGreat.WIdxSource

/- slices.IndexFunc and ContainsFunc at gatepost/api.Target: a row of elements, a function value. (Written by mk_index.py.) -/
namespace Go.Proofs.YtnclifgiakmmoaaGreat.WIdxTarget
set_option linter.unusedVariables false
set_option linter.unusedSimpArgs false
open Go.RowKit Mem BigFrame

def findI {α : Type} (p : α → Bool) (xs : List α) : Int := match xs.findIdx? p with | some k => (k : Int) | none => -1
theorem findI_at {α : Type} {p : α → Bool} {xs : List α} {k : Nat} (hk : k < xs.length) (hp : p xs[k] = true) (h : (xs.take k).any p = false) : findI p xs = (k : Int) := by
  unfold findI
  have : xs.findIdx? p = some k := by
    rw [List.findIdx?_eq_some_iff_getElem]
    refine ⟨hk, hp, fun j hj => ?_⟩
    rw [List.any_eq_false] at h
    have hm : xs[j]'(by omega) ∈ xs.take k := by
      rw [List.mem_take_iff_getElem]
      exact ⟨j, by omega, rfl⟩
    simpa using h _ hm
  rw [this]
theorem findI_none {α : Type} {p : α → Bool} {xs : List α} (h : xs.any p = false) : findI p xs = -1 := by
  unfold findI
  have : xs.findIdx? p = none := by
    rw [List.findIdx?_eq_none_iff]
    rw [List.any_eq_false] at h
    intro x hx; simpa using h x hx
  rw [this]
theorem findI_any {α : Type} {p : α → Bool} {xs : List α} : decide (0 ≤ findI p xs) = xs.any p := by
  unfold findI
  cases h : xs.findIdx? p with
  | none =>
    rw [List.findIdx?_eq_none_iff] at h
    have : xs.any p = false := by rw [List.any_eq_false]; intro x hx; simp [h x hx]
    rw [this]; rfl
  | some k =>
    rw [List.findIdx?_eq_some_iff_getElem] at h
    obtain ⟨hk, hp, _⟩ := h
    have : xs.any p = true := by rw [List.any_eq_true]; exact ⟨_, List.getElem_mem hk, hp⟩
    rw [this]; simp
theorem any_snoc' {α : Type} {l : List α} {p : α → Bool} {n : Nat} (h : (l.take n).any p = false) (hn : n < l.length) (hp : p l[n] = false) : (l.take (n + 1)).any p = false := by
  rw [List.take_succ_eq_append_getElem hn, List.any_append, h]; simp [hp]

/-- what a function value gives, at each element of the row, in each later world -/
def Says {α : Type} (R : Rel α) (B : Nat) (w : World) (xs : List α) (g : FuncId) (caps : Array Value) (p : α → Bool) : Prop :=
  ∀ (w' : World) (x : α) (c0 c1 c2 c3 : Value), x ∈ xs → Lo w w' → R B w' x [c0, c1, c2, c3] → Calls Tryz.prog g (#[.agg #[c0, c1, c2, c3]] ++ caps) w' fun e w'' => e = .returned (.bool (p x)) ∧ Lo w' w''

set_option maxRecDepth 100000 in
set_option maxHeartbeats 800000 in
theorem indexFunc {α : Type} {R : Rel α} (hR : Kept R) {B : Nat} {A : Option Addr} (cap : Nat) {xs : List α} {g : FuncId} {caps : Array Value} {p : α → Bool} (w : World) (hB : B ≤ w.heap.size) (hA : SliceAt R 4 B w A xs) (hn : xs.length ≤ maxLen) (eg : Go.Proofs.Enters Tryz.prog g) (hf : Says R B w xs g caps p) :
    Calls Tryz.prog 71 #[.slice A xs.length cap, .func (.func g) #[] caps] w fun e w' => e = .returned (.int .i64 (findI p xs)) ∧ Lo w w' := by
  unfold maxLen at hn
  unfold Go.Proofs.Enters at eg
  go_enter Tryz.func71, Tryz.ntmps71
  go_wp2
  go_loopw [5, 8] (fun _ i wr => ∃ k : Nat, k ≤ xs.length ∧ i = .int .i64 k ∧ Lo w wr ∧ Hid ((xs.take k).any p = false)) (fun _ i _ => xs.length - (intOf i).toNat)
  case atStart => exact ⟨0, Nat.zero_le _, rfl, Lo.refl _, Lib.hid rfl⟩
  case round =>
    obtain ⟨k, hk, rfl, hlo, hall⟩ := hrel
    by_cases hlt : k < xs.length
    · obtain ⟨b, off, cs, rfl, hb, hl, hc, hr⟩ := (hA.lo hR hlo hB) k xs[k] (List.getElem?_eq_getElem hlt)
      obtain ⟨c0, c1, c2, c3, rfl⟩ : ∃ c0 c1 c2 c3, cs = [c0, c1, c2, c3] := by
        match cs, hl with
        | [c0, c1, c2, c3], _ => exact ⟨c0, c1, c2, c3, rfl⟩
      have hc0 : wr.cell? ⟨b, off + k * 4, none⟩ = some c0 := hc 0 _ rfl
      have hc1 : wr.cell? ⟨b, off + k * 4 + 1, none⟩ = some c1 := hc 1 _ rfl
      have hc2 : wr.cell? ⟨b, off + k * 4 + 2, none⟩ = some c2 := hc 2 _ rfl
      have hc3 : wr.cell? ⟨b, off + k * 4 + 3, none⟩ = some c3 := hc 3 _ rfl
      have HF := Lib.hid (hf wr xs[k] c0 c1 c2 c3 (List.getElem_mem hlt) hlo hr)
      clear hc hr
      cases hp : p xs[k]
      all_goals
        have HP := Lib.hid hp
        clear hp
        go_wp2_with fail
        refine (HF.out).mono ?_
        rw [HP.out]
        rintro e w1 ⟨rfl, hb1⟩
        go_wp2
        first
          | (go_ret
             exact ⟨ret_int (findI_at hlt HP.out hall.out).symm, (by repeat (first | exact Lo.refl _ | assumption | refine Lo.drew ?_ | refine Lo.alloc ?_ _ | refine Lo.setCell ?_ (by first | (dsimp only; omega) | (simp; omega) | (simp; done)) _ | refine Lo.trans ?_ (by assumption)))⟩)
          | (go_roundw
             case rel => exact ⟨k + 1, by omega, by go_num, (by repeat (first | exact Lo.refl _ | assumption | refine Lo.drew ?_ | refine Lo.alloc ?_ _ | refine Lo.setCell ?_ (by first | (dsimp only; omega) | (simp; omega) | (simp; done)) _ | refine Lo.trans ?_ (by assumption))), Lib.hid (any_snoc' hall.out hlt HP.out)⟩
             case measure => simp [intOf]; omega)
    · have HF := hall.out
      rw [List.take_of_length_le (by omega)] at HF
      have HG := Lib.hid HF
      clear HF
      go_wp2
      go_ret
      exact ⟨ret_int (findI_none HG.out).symm, (by repeat (first | exact Lo.refl _ | assumption | refine Lo.drew ?_ | refine Lo.alloc ?_ _ | refine Lo.setCell ?_ (by first | (dsimp only; omega) | (simp; omega) | (simp; done)) _ | refine Lo.trans ?_ (by assumption)))⟩

theorem containsFunc {α : Type} {R : Rel α} (hR : Kept R) {B : Nat} {A : Option Addr} (cap : Nat) {xs : List α} {g : FuncId} {caps : Array Value} {p : α → Bool} (w : World) (hB : B ≤ w.heap.size) (hA : SliceAt R 4 B w A xs) (hn : xs.length ≤ maxLen) (eg : Go.Proofs.Enters Tryz.prog g) (hf : Says R B w xs g caps p) :
    Calls Tryz.prog 54 #[.slice A xs.length cap, .func (.func g) #[] caps] w fun e w' => e = .returned (.bool (xs.any p)) ∧ Lo w w' := by
  have hn' := hn
  unfold maxLen at hn
  go_enter Tryz.func54, Tryz.ntmps54
  go_wp2_with (go_at_call 71; refine (indexFunc hR cap w hB hA hn' eg hf).mono ?_; rintro e w1 ⟨rfl, hb⟩)
  go_ret
  exact ⟨ret_bool findI_any, (by repeat (first | exact Lo.refl _ | assumption | refine Lo.drew ?_ | refine Lo.alloc ?_ _ | refine Lo.setCell ?_ (by first | (dsimp only; omega) | (simp; omega) | (simp; done)) _ | refine Lo.trans ?_ (by assumption)))⟩
end Go.Proofs.YtnclifgiakmmoaaGreat.WIdxTarget

/- slices.IndexFunc and ContainsFunc at gatepost/api.When: a row of elements, a function value. (Written by mk_index.py.) -/
namespace Go.Proofs.YtnclifgiakmmoaaGreat.WIdxWhen
set_option linter.unusedVariables false
set_option linter.unusedSimpArgs false
open Go.RowKit Mem BigFrame

def findI {α : Type} (p : α → Bool) (xs : List α) : Int := match xs.findIdx? p with | some k => (k : Int) | none => -1
theorem findI_at {α : Type} {p : α → Bool} {xs : List α} {k : Nat} (hk : k < xs.length) (hp : p xs[k] = true) (h : (xs.take k).any p = false) : findI p xs = (k : Int) := by
  unfold findI
  have : xs.findIdx? p = some k := by
    rw [List.findIdx?_eq_some_iff_getElem]
    refine ⟨hk, hp, fun j hj => ?_⟩
    rw [List.any_eq_false] at h
    have hm : xs[j]'(by omega) ∈ xs.take k := by
      rw [List.mem_take_iff_getElem]
      exact ⟨j, by omega, rfl⟩
    simpa using h _ hm
  rw [this]
theorem findI_none {α : Type} {p : α → Bool} {xs : List α} (h : xs.any p = false) : findI p xs = -1 := by
  unfold findI
  have : xs.findIdx? p = none := by
    rw [List.findIdx?_eq_none_iff]
    rw [List.any_eq_false] at h
    intro x hx; simpa using h x hx
  rw [this]
theorem findI_any {α : Type} {p : α → Bool} {xs : List α} : decide (0 ≤ findI p xs) = xs.any p := by
  unfold findI
  cases h : xs.findIdx? p with
  | none =>
    rw [List.findIdx?_eq_none_iff] at h
    have : xs.any p = false := by rw [List.any_eq_false]; intro x hx; simp [h x hx]
    rw [this]; rfl
  | some k =>
    rw [List.findIdx?_eq_some_iff_getElem] at h
    obtain ⟨hk, hp, _⟩ := h
    have : xs.any p = true := by rw [List.any_eq_true]; exact ⟨_, List.getElem_mem hk, hp⟩
    rw [this]; simp
theorem any_snoc' {α : Type} {l : List α} {p : α → Bool} {n : Nat} (h : (l.take n).any p = false) (hn : n < l.length) (hp : p l[n] = false) : (l.take (n + 1)).any p = false := by
  rw [List.take_succ_eq_append_getElem hn, List.any_append, h]; simp [hp]

/-- what a function value gives, at each element of the row, in each later world -/
def Says {α : Type} (R : Rel α) (B : Nat) (w : World) (xs : List α) (g : FuncId) (caps : Array Value) (p : α → Bool) : Prop :=
  ∀ (w' : World) (x : α) (c0 c1 : Value), x ∈ xs → Lo w w' → R B w' x [c0, c1] → Calls Tryz.prog g (#[.agg #[c0, c1]] ++ caps) w' fun e w'' => e = .returned (.bool (p x)) ∧ Lo w' w''

set_option maxRecDepth 100000 in
set_option maxHeartbeats 800000 in
theorem indexFunc {α : Type} {R : Rel α} (hR : Kept R) {B : Nat} {A : Option Addr} (cap : Nat) {xs : List α} {g : FuncId} {caps : Array Value} {p : α → Bool} (w : World) (hB : B ≤ w.heap.size) (hA : SliceAt R 2 B w A xs) (hn : xs.length ≤ maxLen) (eg : Go.Proofs.Enters Tryz.prog g) (hf : Says R B w xs g caps p) :
    Calls Tryz.prog 107 #[.slice A xs.length cap, .func (.func g) #[] caps] w fun e w' => e = .returned (.int .i64 (findI p xs)) ∧ Lo w w' := by
  unfold maxLen at hn
  unfold Go.Proofs.Enters at eg
  go_enter Tryz.func107, Tryz.ntmps107
  go_wp2
  go_loopw [5, 8] (fun _ i wr => ∃ k : Nat, k ≤ xs.length ∧ i = .int .i64 k ∧ Lo w wr ∧ Hid ((xs.take k).any p = false)) (fun _ i _ => xs.length - (intOf i).toNat)
  case atStart => exact ⟨0, Nat.zero_le _, rfl, Lo.refl _, Lib.hid rfl⟩
  case round =>
    obtain ⟨k, hk, rfl, hlo, hall⟩ := hrel
    by_cases hlt : k < xs.length
    · obtain ⟨b, off, cs, rfl, hb, hl, hc, hr⟩ := (hA.lo hR hlo hB) k xs[k] (List.getElem?_eq_getElem hlt)
      obtain ⟨c0, c1, rfl⟩ : ∃ c0 c1, cs = [c0, c1] := by
        match cs, hl with
        | [c0, c1], _ => exact ⟨c0, c1, rfl⟩
      have hc0 : wr.cell? ⟨b, off + k * 2, none⟩ = some c0 := hc 0 _ rfl
      have hc1 : wr.cell? ⟨b, off + k * 2 + 1, none⟩ = some c1 := hc 1 _ rfl
      have HF := Lib.hid (hf wr xs[k] c0 c1 (List.getElem_mem hlt) hlo hr)
      clear hc hr
      cases hp : p xs[k]
      all_goals
        have HP := Lib.hid hp
        clear hp
        go_wp2_with fail
        refine (HF.out).mono ?_
        rw [HP.out]
        rintro e w1 ⟨rfl, hb1⟩
        go_wp2
        first
          | (go_ret
             exact ⟨ret_int (findI_at hlt HP.out hall.out).symm, (by repeat (first | exact Lo.refl _ | assumption | refine Lo.drew ?_ | refine Lo.alloc ?_ _ | refine Lo.setCell ?_ (by first | (dsimp only; omega) | (simp; omega) | (simp; done)) _ | refine Lo.trans ?_ (by assumption)))⟩)
          | (go_roundw
             case rel => exact ⟨k + 1, by omega, by go_num, (by repeat (first | exact Lo.refl _ | assumption | refine Lo.drew ?_ | refine Lo.alloc ?_ _ | refine Lo.setCell ?_ (by first | (dsimp only; omega) | (simp; omega) | (simp; done)) _ | refine Lo.trans ?_ (by assumption))), Lib.hid (any_snoc' hall.out hlt HP.out)⟩
             case measure => simp [intOf]; omega)
    · have HF := hall.out
      rw [List.take_of_length_le (by omega)] at HF
      have HG := Lib.hid HF
      clear HF
      go_wp2
      go_ret
      exact ⟨ret_int (findI_none HG.out).symm, (by repeat (first | exact Lo.refl _ | assumption | refine Lo.drew ?_ | refine Lo.alloc ?_ _ | refine Lo.setCell ?_ (by first | (dsimp only; omega) | (simp; omega) | (simp; done)) _ | refine Lo.trans ?_ (by assumption)))⟩

theorem containsFunc {α : Type} {R : Rel α} (hR : Kept R) {B : Nat} {A : Option Addr} (cap : Nat) {xs : List α} {g : FuncId} {caps : Array Value} {p : α → Bool} (w : World) (hB : B ≤ w.heap.size) (hA : SliceAt R 2 B w A xs) (hn : xs.length ≤ maxLen) (eg : Go.Proofs.Enters Tryz.prog g) (hf : Says R B w xs g caps p) :
    Calls Tryz.prog 95 #[.slice A xs.length cap, .func (.func g) #[] caps] w fun e w' => e = .returned (.bool (xs.any p)) ∧ Lo w w' := by
  have hn' := hn
  unfold maxLen at hn
  go_enter Tryz.func95, Tryz.ntmps95
  go_wp2_with (go_at_call 107; refine (indexFunc hR cap w hB hA hn' eg hf).mono ?_; rintro e w1 ⟨rfl, hb⟩)
  go_ret
  exact ⟨ret_bool findI_any, (by repeat (first | exact Lo.refl _ | assumption | refine Lo.drew ?_ | refine Lo.alloc ?_ _ | refine Lo.setCell ?_ (by first | (dsimp only; omega) | (simp; omega) | (simp; done)) _ | refine Lo.trans ?_ (by assumption)))⟩
end Go.Proofs.YtnclifgiakmmoaaGreat.WIdxWhen

/- slices.IndexFunc and ContainsFunc at gatepost/api.Cidr: a row of elements, a function value. (Written by mk_index.py.) -/
namespace Go.Proofs.YtnclifgiakmmoaaGreat.WIdxCidr
set_option linter.unusedVariables false
set_option linter.unusedSimpArgs false
open Go.RowKit Mem BigFrame

def findI {α : Type} (p : α → Bool) (xs : List α) : Int := match xs.findIdx? p with | some k => (k : Int) | none => -1
theorem findI_at {α : Type} {p : α → Bool} {xs : List α} {k : Nat} (hk : k < xs.length) (hp : p xs[k] = true) (h : (xs.take k).any p = false) : findI p xs = (k : Int) := by
  unfold findI
  have : xs.findIdx? p = some k := by
    rw [List.findIdx?_eq_some_iff_getElem]
    refine ⟨hk, hp, fun j hj => ?_⟩
    rw [List.any_eq_false] at h
    have hm : xs[j]'(by omega) ∈ xs.take k := by
      rw [List.mem_take_iff_getElem]
      exact ⟨j, by omega, rfl⟩
    simpa using h _ hm
  rw [this]
theorem findI_none {α : Type} {p : α → Bool} {xs : List α} (h : xs.any p = false) : findI p xs = -1 := by
  unfold findI
  have : xs.findIdx? p = none := by
    rw [List.findIdx?_eq_none_iff]
    rw [List.any_eq_false] at h
    intro x hx; simpa using h x hx
  rw [this]
theorem findI_any {α : Type} {p : α → Bool} {xs : List α} : decide (0 ≤ findI p xs) = xs.any p := by
  unfold findI
  cases h : xs.findIdx? p with
  | none =>
    rw [List.findIdx?_eq_none_iff] at h
    have : xs.any p = false := by rw [List.any_eq_false]; intro x hx; simp [h x hx]
    rw [this]; rfl
  | some k =>
    rw [List.findIdx?_eq_some_iff_getElem] at h
    obtain ⟨hk, hp, _⟩ := h
    have : xs.any p = true := by rw [List.any_eq_true]; exact ⟨_, List.getElem_mem hk, hp⟩
    rw [this]; simp
theorem any_snoc' {α : Type} {l : List α} {p : α → Bool} {n : Nat} (h : (l.take n).any p = false) (hn : n < l.length) (hp : p l[n] = false) : (l.take (n + 1)).any p = false := by
  rw [List.take_succ_eq_append_getElem hn, List.any_append, h]; simp [hp]

/-- what a function value gives, at each element of the row, in each later world -/
def Says {α : Type} (R : Rel α) (B : Nat) (w : World) (xs : List α) (g : FuncId) (caps : Array Value) (p : α → Bool) : Prop :=
  ∀ (w' : World) (x : α) (c0 c1 : Value), x ∈ xs → Lo w w' → R B w' x [c0, c1] → Calls Tryz.prog g (#[.agg #[c0, c1]] ++ caps) w' fun e w'' => e = .returned (.bool (p x)) ∧ Lo w' w''

set_option maxRecDepth 100000 in
set_option maxHeartbeats 800000 in
theorem indexFunc {α : Type} {R : Rel α} (hR : Kept R) {B : Nat} {A : Option Addr} (cap : Nat) {xs : List α} {g : FuncId} {caps : Array Value} {p : α → Bool} (w : World) (hB : B ≤ w.heap.size) (hA : SliceAt R 2 B w A xs) (hn : xs.length ≤ maxLen) (eg : Go.Proofs.Enters Tryz.prog g) (hf : Says R B w xs g caps p) :
    Calls Tryz.prog 113 #[.slice A xs.length cap, .func (.func g) #[] caps] w fun e w' => e = .returned (.int .i64 (findI p xs)) ∧ Lo w w' := by
  unfold maxLen at hn
  unfold Go.Proofs.Enters at eg
  go_enter Tryz.func113, Tryz.ntmps113
  go_wp2
  go_loopw [5, 8] (fun _ i wr => ∃ k : Nat, k ≤ xs.length ∧ i = .int .i64 k ∧ Lo w wr ∧ Hid ((xs.take k).any p = false)) (fun _ i _ => xs.length - (intOf i).toNat)
  case atStart => exact ⟨0, Nat.zero_le _, rfl, Lo.refl _, Lib.hid rfl⟩
  case round =>
    obtain ⟨k, hk, rfl, hlo, hall⟩ := hrel
    by_cases hlt : k < xs.length
    · obtain ⟨b, off, cs, rfl, hb, hl, hc, hr⟩ := (hA.lo hR hlo hB) k xs[k] (List.getElem?_eq_getElem hlt)
      obtain ⟨c0, c1, rfl⟩ : ∃ c0 c1, cs = [c0, c1] := by
        match cs, hl with
        | [c0, c1], _ => exact ⟨c0, c1, rfl⟩
      have hc0 : wr.cell? ⟨b, off + k * 2, none⟩ = some c0 := hc 0 _ rfl
      have hc1 : wr.cell? ⟨b, off + k * 2 + 1, none⟩ = some c1 := hc 1 _ rfl
      have HF := Lib.hid (hf wr xs[k] c0 c1 (List.getElem_mem hlt) hlo hr)
      clear hc hr
      cases hp : p xs[k]
      all_goals
        have HP := Lib.hid hp
        clear hp
        go_wp2_with fail
        refine (HF.out).mono ?_
        rw [HP.out]
        rintro e w1 ⟨rfl, hb1⟩
        go_wp2
        first
          | (go_ret
             exact ⟨ret_int (findI_at hlt HP.out hall.out).symm, (by repeat (first | exact Lo.refl _ | assumption | refine Lo.drew ?_ | refine Lo.alloc ?_ _ | refine Lo.setCell ?_ (by first | (dsimp only; omega) | (simp; omega) | (simp; done)) _ | refine Lo.trans ?_ (by assumption)))⟩)
          | (go_roundw
             case rel => exact ⟨k + 1, by omega, by go_num, (by repeat (first | exact Lo.refl _ | assumption | refine Lo.drew ?_ | refine Lo.alloc ?_ _ | refine Lo.setCell ?_ (by first | (dsimp only; omega) | (simp; omega) | (simp; done)) _ | refine Lo.trans ?_ (by assumption))), Lib.hid (any_snoc' hall.out hlt HP.out)⟩
             case measure => simp [intOf]; omega)
    · have HF := hall.out
      rw [List.take_of_length_le (by omega)] at HF
      have HG := Lib.hid HF
      clear HF
      go_wp2
      go_ret
      exact ⟨ret_int (findI_none HG.out).symm, (by repeat (first | exact Lo.refl _ | assumption | refine Lo.drew ?_ | refine Lo.alloc ?_ _ | refine Lo.setCell ?_ (by first | (dsimp only; omega) | (simp; omega) | (simp; done)) _ | refine Lo.trans ?_ (by assumption)))⟩

theorem containsFunc {α : Type} {R : Rel α} (hR : Kept R) {B : Nat} {A : Option Addr} (cap : Nat) {xs : List α} {g : FuncId} {caps : Array Value} {p : α → Bool} (w : World) (hB : B ≤ w.heap.size) (hA : SliceAt R 2 B w A xs) (hn : xs.length ≤ maxLen) (eg : Go.Proofs.Enters Tryz.prog g) (hf : Says R B w xs g caps p) :
    Calls Tryz.prog 103 #[.slice A xs.length cap, .func (.func g) #[] caps] w fun e w' => e = .returned (.bool (xs.any p)) ∧ Lo w w' := by
  have hn' := hn
  unfold maxLen at hn
  go_enter Tryz.func103, Tryz.ntmps103
  go_wp2_with (go_at_call 113; refine (indexFunc hR cap w hB hA hn' eg hf).mono ?_; rintro e w1 ⟨rfl, hb⟩)
  go_ret
  exact ⟨ret_bool findI_any, (by repeat (first | exact Lo.refl _ | assumption | refine Lo.drew ?_ | refine Lo.alloc ?_ _ | refine Lo.setCell ?_ (by first | (dsimp only; omega) | (simp; omega) | (simp; done)) _ | refine Lo.trans ?_ (by assumption)))⟩
end Go.Proofs.YtnclifgiakmmoaaGreat.WIdxCidr
