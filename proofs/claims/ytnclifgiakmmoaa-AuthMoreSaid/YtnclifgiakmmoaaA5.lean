/- Merged by bundles.py: WMatch, WTerm, OpenTerm, Rel13, SimM, SimO. -/
import Derived.Test.YtnclifgiakmmoaaA0
import Derived.Test.YtnclifgiakmmoaaA4
/- The walks of chapter 7's functions. -/
namespace Go.Proofs.Ytnclifgiakmmoaa.WMatch
set_option linter.unusedVariables false
set_option linter.unusedSimpArgs false
open Go.RowKit Mem

theorem extract_list (s : ByteArray) (a b : Nat) : (s.extract a b).toList = (s.toList.drop a).take (b - a) := by
  have h : s = ByteArray.mk s.toList.toArray := by rw [ByteArray.toList_eq]
  conv => lhs; rw [h, ByteArray.extract_mk]
  rw [ByteArray.toList_mk]
theorem pre_val (s p : ByteArray) : Pl.hasPre s.toList p.toList = (decide (p.size ≤ s.size) && ((s.extract 0 p.size).toList == p.toList)) := by
  unfold Pl.hasPre
  rw [extract_list]
  simp [toList_len]
theorem suf_val (s p : ByteArray) : Pl.hasSuf s.toList p.toList = (decide (p.size ≤ s.size) && ((s.extract (s.size - p.size) s.size).toList == p.toList)) := by
  unfold Pl.hasSuf
  rw [extract_list]
  simp only [toList_len]
  by_cases h : p.size ≤ s.size
  · rw [List.take_of_length_le (by rw [List.length_drop, toList_len]; omega)]
  · simp [h]
theorem okc_false {c : UInt8} (h : (((c.toNat : Int) < 33 ∨ 126 < (c.toNat : Int)) ∨ ((c.toNat : Int) == 42) = true) ∨ ((c.toNat : Int) == 44) = true) : Pl.okc c = false := by
  simp only [beq_iff_eq] at h
  simp [Pl.okc]; omega
theorem okc_true {c : UInt8} (h : ((33 ≤ (c.toNat : Int) ∧ (c.toNat : Int) ≤ 126) ∧ ((c.toNat : Int) == 42) = false) ∧ ((c.toNat : Int) == 44) = false) : Pl.okc c = true := by
  simp only [beq_eq_false_iff_ne] at h
  simp [Pl.okc]; omega
theorem may_bad (k : Int) {s : ByteArray} {n : Nat} (hn : n < s.size) (h : Pl.okc s[n] = false) : Pl.may k s.toList = false := by
  unfold Pl.may; rw [all_bad hn h]; simp
theorem may_end (k : Int) {s : ByteArray} (h : s.toList.all Pl.okc = true) : Pl.may k s.toList = (if k = 4 then s.toList.isEmpty else decide (1 ≤ k) && decide (k ≤ 3) && decide (1 ≤ s.size) && decide (s.size ≤ 64)) := by
  unfold Pl.may; rw [h, toList_len]; simp

theorem hasPrefix' (s p : ByteArray) (w : World) (hs : s.size ≤ maxLen) (hp : p.size ≤ maxLen) :
    Calls Try.prog 65 #[.string s, .string p] w fun e w' => e = .returned (.bool (Pl.hasPre s.toList p.toList)) ∧ w = w' := by
  unfold maxLen at hs hp
  have hv := pre_val s p
  by_cases h : p.size ≤ s.size
  all_goals
    rw [hv]
    clear hv
    go_enter Try.func65, Try.ntmps65
    go_wp2
    go_ret
    exact ⟨ret_bool (by simp [h]), rfl⟩

set_option maxHeartbeats 400000 in
theorem may (k : Int) (s : ByteArray) (w : World) (hs : s.size ≤ maxLen) :
    Calls Try.prog 59 #[.agg #[.int .i64 k, .string s]] w fun e w' => e = .returned (.bool (Pl.may k s.toList)) ∧ Lo w w' := by
  unfold maxLen at hs
  go_enter Try.func59, Try.ntmps59
  go_wp2
  go_loop [3, 4] (fun i c => ∃ n : Nat, n ≤ s.size ∧ i = .int .i64 n ∧ (s.toList.take n).all Pl.okc = true) (fun i _ => s.size - (intOf i).toNat)
  case atStart => exact ⟨0, Nat.zero_le _, rfl, rfl⟩
  case round =>
    obtain ⟨n, hn, rfl, hall⟩ := hrel
    have HA := Lib.hid hall
    clear hall
    by_cases hlt : n < s.size
    · go_wp2
      all_goals first
        | (go_ret
           exact ⟨ret_bool (by rw [may_bad k hlt (okc_false (by first | assumption | (simp only [beq_iff_eq]; omega)))]), (by repeat (first | exact Lo.refl _ | assumption | refine Lo.drew ?_ | refine Lo.alloc ?_ _ | refine Lo.setCell ?_ (by first | (dsimp only; omega) | (simp; omega) | (simp; done)) _ | refine Lo.trans ?_ (by assumption)))⟩)
        | (go_round
           case rel => exact ⟨n + 1, by omega, by go_num, all_snoc HA.out hlt (okc_true (by assumption))⟩
           case measure => simp [intOf]; omega)
        | skip
      go_ways
    · have HF : s.toList.all Pl.okc = true := by have := HA.out; rwa [take_full s hlt] at this
      have HG := Lib.hid (may_end k HF)
      clear HF
      go_wp2
      all_goals first
        | (go_ret
           refine ⟨ret_bool ?_, (by repeat (first | exact Lo.refl _ | assumption | refine Lo.drew ?_ | refine Lo.alloc ?_ _ | refine Lo.setCell ?_ (by first | (dsimp only; omega) | (simp; omega) | (simp; done)) _ | refine Lo.trans ?_ (by assumption)))⟩
           rw [HG.out]
           first
             | (have h4 : k = 4 := by simpa using (show (k == 4) = true by assumption)
                rw [if_pos h4]; done)
             | (have h4 : k = 4 := by simpa using (show (k == 4) = true by assumption)
                rw [if_pos h4]; simp; done)
             | (have h4 : ¬ k = 4 := by simpa using (show (k == 4) = false by assumption)
                rw [if_neg h4, Bool.eq_iff_iff]; simp; omega))

theorem hasSuffix' (s p : ByteArray) (w : World) (hs : s.size ≤ maxLen) (hp : p.size ≤ maxLen) :
    Calls Try.prog 66 #[.string s, .string p] w fun e w' => e = .returned (.bool (Pl.hasSuf s.toList p.toList)) ∧ w = w' := by
  unfold maxLen at hs hp
  have hv := suf_val s p
  by_cases h : p.size ≤ s.size
  all_goals
    rw [hv]
    clear hv
    go_enter Try.func66, Try.ntmps66
    go_wp2
    go_ret
    exact ⟨ret_bool (by simp [h]), rfl⟩
theorem hasPrefix (s p : ByteArray) (w : World) (hs : s.size ≤ maxLen) (hp : p.size ≤ maxLen) :
    Calls Try.prog 62 #[.string s, .string p] w fun e w' => e = .returned (.bool (Pl.hasPre s.toList p.toList)) ∧ w = w' := by
  go_enter Try.func62, Try.ntmps62
  go_wp2_with (go_at_call 65; refine (hasPrefix' _ _ _ hs hp).mono ?_; rintro e w' ⟨rfl, rfl⟩)
  go_ret
  exact ⟨rfl, rfl⟩
theorem hasSuffix (s p : ByteArray) (w : World) (hs : s.size ≤ maxLen) (hp : p.size ≤ maxLen) :
    Calls Try.prog 63 #[.string s, .string p] w fun e w' => e = .returned (.bool (Pl.hasSuf s.toList p.toList)) ∧ w = w' := by
  go_enter Try.func63, Try.ntmps63
  go_wp2_with (go_at_call 66; refine (hasSuffix' _ _ _ hs hp).mono ?_; rintro e w' ⟨rfl, rfl⟩)
  go_ret
  exact ⟨rfl, rfl⟩
theorem kinds1 (s p : ByteArray) (w : World) :
    Calls Try.prog 61 #[.string s, .string p] w fun e w' => e = .returned (.bool (s.toList == p.toList)) ∧ w = w' := by
  go_enter Try.func61, Try.ntmps61
  go_wp2
  go_ret
  exact ⟨rfl, rfl⟩
theorem kinds2 (s p : ByteArray) (w : World) :
    Calls Try.prog 64 #[.string s, .string p] w fun e w' => e = .returned (.bool (!s.toList.isEmpty)) ∧ w = w' := by
  go_enter Try.func64, Try.ntmps64
  go_wp2
  go_ret
  exact ⟨ret_bool (by simp), rfl⟩
def kindsV : Value := .agg #[.nilFunc, .string ⟨#[]⟩, .string ⟨#[]⟩, .func (.func 61) #[] #[], .string ⟨#[]⟩, .string ⟨#[]⟩, .func (.func 62) #[] #[], .string ⟨#[]⟩, .string ⟨#[42]⟩, .func (.func 63) #[] #[], .string ⟨#[42]⟩, .string ⟨#[]⟩, .func (.func 64) #[] #[], .string ⟨#[42]⟩, .string ⟨#[]⟩]
set_option maxHeartbeats 400000 in
theorem kinds (w : World) :
    Calls Try.prog 60 #[] w fun e w' => e = .returned kindsV ∧ Lo w w' := by
  go_enter Try.func60, Try.ntmps60
  go_wp2
  go_outline
  exact bodyPost_ret (v := kindsV) (by simp [results, Try.results60, go_sem, kindsV]) rfl ⟨rfl, (by repeat (first | exact Lo.refl _ | assumption | refine Lo.drew ?_ | refine Lo.alloc ?_ _ | refine Lo.setCell ?_ (by first | (dsimp only; omega) | (simp; omega) | (simp; done)) _ | refine Lo.trans ?_ (by assumption)))⟩
end Go.Proofs.Ytnclifgiakmmoaa.WMatch

/- Rows of terms in memory. -/
namespace Go.Proofs.Ytnclifgiakmmoaa.WMatch
set_option linter.unusedVariables false
set_option linter.unusedSimpArgs false
open Go.RowKit Mem BigFrame

def TermR : Rel Pl.Term := fun _ _ t cs => cs = [.int .i64 t.k, .string t.s] ∧ t.s.size ≤ maxLen
theorem TermR.kept : Kept TermR := fun _ _ _ _ _ _ h _ _ => h
def Terms (B : Nat) (w : World) (A : Option Addr) (ts : List Pl.Term) : Prop := SliceAt TermR 2 B w A ts
theorem Terms.at_ {B : Nat} {w : World} {A : Option Addr} {ts : List Pl.Term} (h : Terms B w A ts) {k : Nat} (hk : k < ts.length) :
    ∃ b off, A = some ⟨b, off, none⟩ ∧ b < B ∧ w.cell? ⟨b, off + k * 2, none⟩ = some (.int .i64 ts[k].k) ∧ w.cell? ⟨b, off + k * 2 + 1, none⟩ = some (.string ts[k].s) ∧ ts[k].s.size ≤ maxLen := by
  obtain ⟨b, off, cs, hA, hb, hl, hc, hr, hz⟩ := h k ts[k] (List.getElem?_eq_getElem hk)
  subst hr
  exact ⟨b, off, hA, hb, hc 0 _ rfl, hc 1 _ rfl, hz⟩
theorem Terms.lo {B : Nat} {w w' : World} {A : Option Addr} {ts : List Pl.Term} (h : Terms B w A ts) (hb : Lo w w') (hB : B ≤ w.heap.size) : Terms B w' A ts := SliceAt.lo TermR.kept h hb hB

end Go.Proofs.Ytnclifgiakmmoaa.WMatch

/- Rows of terms opened. -/
namespace Go.Proofs.Ytnclifgiakmmoaa.Opn
set_option linter.unusedVariables false
set_option linter.unusedSimpArgs false
open Go.RowKit Go.WideShapes Go.ChangeShapes Go.Joins Mem WMatch

instance : Inhabited Pl.Term := ⟨⟨0, ⟨#[]⟩⟩⟩
theorem cells_int : Try.prog.cellsOf 3 = 1 := by kernel_rfl
theorem cells_string : Try.prog.cellsOf 9 = 1 := by kernel_rfl
set_option maxRecDepth 100000 in
theorem term_opens : Opens 70 TermR := by
  intro H enc w base spare held fuel cs x h
  obtain ⟨xs, n, _, hx, hlen, hxl, hf⟩ := DataW.trod_struct Try.underlying70 h
  have hl2 : cs.length = 2 := hlen.trans Post.Try.cellsTerm
  obtain ⟨c0, c1, rfl⟩ : ∃ c0 c1, cs = [c0, c1] := by
    match cs, hl2 with
    | [c0, c1], _ => exact ⟨c0, c1, rfl⟩
  obtain ⟨y0, y1, rfl⟩ : ∃ y0 y1, xs = [y0, y1] := by
    match xs, hxl with
    | [y0, y1], _ => exact ⟨y0, y1, rfl⟩
  have f0 := hf 0 _ rfl
  have f1 := hf 1 _ rfl
  simp [cells_int, cells_string] at f0 f1
  obtain ⟨k, e0, _, _⟩ := DataW.trod_int Try.underlying3 (x := y0) (by simpa using f0)
  obtain ⟨s, e1, _, ws⟩ := DataW.trod_string Try.underlying9 (x := y1) (by simpa using f1)
  simp at e0 e1
  subst e0 e1
  exact ⟨⟨k, s⟩, rfl, ws⟩
end Go.Proofs.Ytnclifgiakmmoaa.Opn

/- Policies in memory: relations, kept, opened. -/
namespace Go.Proofs.Ytnclifgiakmmoaa.Pl
set_option linter.unusedVariables false
set_option linter.unusedSimpArgs false
structure Cidr where
  addr : Int
  bits : Int
deriving Inhabited
structure Source where
  names : List Term
  spaces : List Term
  nets : List Cidr
deriving Inhabited
structure Target where
  ports : List Int
  methods : List Term
  paths : List Term
  hosts : List Term
deriving Inhabited
structure When where
  head : ByteArray
  terms : List Term
deriving Inhabited
structure Rule where
  from_ : List Source
  to_ : List Target
  when_ : List When
deriving Inhabited
structure Policy where
  id : Int
  ns : ByteArray
  service : Int
  deny : Int
  rules : List Rule
deriving Inhabited
structure Head where
  name : ByteArray
  value : ByteArray
deriving Inhabited

end Go.Proofs.Ytnclifgiakmmoaa.Pl
namespace Go.Proofs.Ytnclifgiakmmoaa.Mem
set_option linter.unusedVariables false
set_option linter.unusedSimpArgs false
open Go.RowKit

/-- one cell, a slice -/
def SliceC {α : Type} (R : Rel α) (sz : Nat) : Rel (List α) := fun B w xs cs => ∃ A cap, cs = [.slice A xs.length cap] ∧ SliceAt R sz B w A xs ∧ xs.length ≤ cap ∧ cap ≤ maxLen
theorem SliceC.kept {α : Type} {R : Rel α} {sz : Nat} (hR : Kept R) : Kept (SliceC R sz) := by
  rintro B B' w w' x cs ⟨A, cap, rfl, h, h1, h2⟩ hk hB
  exact ⟨A, cap, rfl, h.keep hR hk hB, h1, h2⟩
/-- one cell, a number -/
def IntC (k : IntKind) : Rel Int := fun _ _ x cs => cs = [.int k x] ∧ (Lit.int k x).wf = true
theorem IntC.kept (k : IntKind) : Kept (IntC k) := fun _ _ _ _ _ _ h _ _ => h
/-- one cell, a text -/
def StrC : Rel ByteArray := fun _ _ s cs => cs = [.string s] ∧ s.size ≤ maxLen
theorem StrC.kept : Kept StrC := fun _ _ _ _ _ _ h _ _ => h
end Go.Proofs.Ytnclifgiakmmoaa.Mem
namespace Go.Proofs.Ytnclifgiakmmoaa.Opn
set_option linter.unusedVariables false
set_option linter.unusedSimpArgs false
open Go.RowKit Go.WideShapes Go.ChangeShapes Go.Joins Mem WMatch
set_option maxRecDepth 100000

theorem opens_int {t : TypeId} {k : IntKind} (ht : Try.prog.underlying t = some (.int k)) : Opens t (IntC k) := by
  intro H enc w base spare held fuel cs x h
  obtain ⟨n, rfl, _, hw⟩ := DataW.trod_int ht h
  exact ⟨n, rfl, hw⟩
theorem opens_str {t : TypeId} (ht : Try.prog.underlying t = some .string) : Opens t StrC := by
  intro H enc w base spare held fuel cs x h
  obtain ⟨s, rfl, _, hw⟩ := DataW.trod_string ht h
  exact ⟨s, rfl, hw⟩
theorem opens_slice {α : Type} [Inhabited α] {t e sz : Nat} {R : Rel α} (ht : Try.prog.underlying t = some (.slice e)) (hC : Try.prog.cellsOf e = sz) (hsz : 0 < sz) (hR : Opens e R) : Opens t (SliceC R sz) := by
  intro H enc w base spare held fuel cs x h
  obtain ⟨A, cap, xs, rfl, hA, h1, h2⟩ := slice_opens ht hC hsz hR h
  exact ⟨xs, A, cap, rfl, hA, h1, h2⟩
/-- a slice handed in -/
theorem open_slice_arg {α : Type} {t e : TypeId} {R : Rel α} {sz : Nat} (ht : Try.prog.underlying t = some (.slice e)) (hO : Opens t (SliceC R sz)) {H : Type} {enc : TypeId × Value → H} {w : World} {r : Reach} {b0 base : Nat} {spare : Nat → Bool} {held : Bool} {v : Value} {d : DataW H} {p : List MemPlace}
    (hv : Value.okWide Try.prog w r b0 t v) (h : DataW.Trod enc Try.prog w base spare held t v d p) :
    ∃ (A : Option Addr) (cap : Nat) (xs : List α), v = .slice A xs.length cap ∧ SliceAt R sz w.heap.size w A xs ∧ xs.length ≤ cap ∧ cap ≤ maxLen := by
  obtain ⟨a, len, c, rfl⟩ := okWide_slice ht hv
  obtain ⟨fuel, hf⟩ := h
  obtain ⟨xs, A, cap, hcs, hA, h1, h2⟩ := hO H enc w base spare held fuel _ _ hf
  simp [Value.cells] at hcs
  obtain ⟨rfl, rfl, rfl⟩ := hcs
  exact ⟨_, _, xs, rfl, hA, h1, h2⟩
theorem cells_Term : Try.prog.cellsOf 70 = 2 := Post.Try.cellsTerm
theorem one_int : Try.prog.cellsOf 3 = 1 := by kernel_rfl
theorem one_string : Try.prog.cellsOf 9 = 1 := by kernel_rfl
theorem one_uint32 : Try.prog.cellsOf 34 = 1 := by kernel_rfl
theorem one_uint64 : Try.prog.cellsOf 23 = 1 := by kernel_rfl
theorem one_l_int : Try.prog.cellsOf 56 = 1 := by kernel_rfl
theorem one_l_api_Term : Try.prog.cellsOf 52 = 1 := by kernel_rfl
theorem one_l_api_Cidr : Try.prog.cellsOf 53 = 1 := by kernel_rfl
theorem one_l_api_Source : Try.prog.cellsOf 27 = 1 := by kernel_rfl
theorem one_l_api_Target : Try.prog.cellsOf 28 = 1 := by kernel_rfl
theorem one_l_api_When : Try.prog.cellsOf 29 = 1 := by kernel_rfl
theorem one_l_api_Rule : Try.prog.cellsOf 24 = 1 := by kernel_rfl
def CidrR : Rel Pl.Cidr := fun B w x cs => ∃ c0 c1, cs = [c0, c1] ∧ (IntC .u32) B w x.addr [c0] ∧ (IntC .i64) B w x.bits [c1]
theorem CidrR.kept : Kept CidrR := by
  rintro B B' w w' x cs ⟨c0, c1, rfl, h0, h1⟩ hk hB
  exact ⟨c0, c1, rfl, (IntC.kept .u32) _ _ _ _ _ _ h0 hk hB, (IntC.kept .i64) _ _ _ _ _ _ h1 hk hB⟩
theorem cells_Cidr : Try.prog.cellsOf 87 = 2 := by kernel_rfl
set_option maxRecDepth 100000 in
theorem cidr_opens : Opens 87 CidrR := by
  intro H enc w base spare held fuel cs x h
  obtain ⟨xs, n, _, hx, hlen, hxl, hf⟩ := DataW.trod_struct Try.underlying87 h
  have hl := hlen.trans cells_Cidr
  obtain ⟨c0, c1, rfl⟩ : ∃ c0 c1, cs = [c0, c1] := by
    match cs, hl with
    | [c0, c1], _ => exact ⟨c0, c1, rfl⟩
  obtain ⟨y0, y1, rfl⟩ : ∃ y0 y1, xs = [y0, y1] := by
    match xs, hxl with
    | [y0, y1], _ => exact ⟨y0, y1, rfl⟩
  have f0 : DataW.trod enc Try.prog w base spare held n 34 [c0] = some y0 := by
    have := hf 0 _ rfl
    simpa [one_uint32] using this
  obtain ⟨v0, r0⟩ := (opens_int Try.underlying34) H enc w base spare held n [c0] y0 f0
  have f1 : DataW.trod enc Try.prog w base spare held n 3 [c1] = some y1 := by
    have := hf 1 _ rfl
    simpa [one_int] using this
  obtain ⟨v1, r1⟩ := (opens_int Try.underlying3) H enc w base spare held n [c1] y1 f1
  exact ⟨⟨v0, v1⟩, c0, c1, rfl, r0, r1⟩
def SourceR : Rel Pl.Source := fun B w x cs => ∃ c0 c1 c2, cs = [c0, c1, c2] ∧ (SliceC TermR 2) B w x.names [c0] ∧ (SliceC TermR 2) B w x.spaces [c1] ∧ (SliceC CidrR 2) B w x.nets [c2]
theorem SourceR.kept : Kept SourceR := by
  rintro B B' w w' x cs ⟨c0, c1, c2, rfl, h0, h1, h2⟩ hk hB
  exact ⟨c0, c1, c2, rfl, (SliceC.kept TermR.kept) _ _ _ _ _ _ h0 hk hB, (SliceC.kept TermR.kept) _ _ _ _ _ _ h1 hk hB, (SliceC.kept CidrR.kept) _ _ _ _ _ _ h2 hk hB⟩
theorem cells_Source : Try.prog.cellsOf 55 = 3 := by kernel_rfl
set_option maxRecDepth 100000 in
theorem source_opens : Opens 55 SourceR := by
  intro H enc w base spare held fuel cs x h
  obtain ⟨xs, n, _, hx, hlen, hxl, hf⟩ := DataW.trod_struct Try.underlying55 h
  have hl := hlen.trans cells_Source
  obtain ⟨c0, c1, c2, rfl⟩ : ∃ c0 c1 c2, cs = [c0, c1, c2] := by
    match cs, hl with
    | [c0, c1, c2], _ => exact ⟨c0, c1, c2, rfl⟩
  obtain ⟨y0, y1, y2, rfl⟩ : ∃ y0 y1 y2, xs = [y0, y1, y2] := by
    match xs, hxl with
    | [y0, y1, y2], _ => exact ⟨y0, y1, y2, rfl⟩
  have f0 : DataW.trod enc Try.prog w base spare held n 52 [c0] = some y0 := by
    have := hf 0 _ rfl
    simpa [one_l_api_Term] using this
  obtain ⟨v0, r0⟩ := (opens_slice (R := TermR) Try.underlying52 cells_Term (by omega) term_opens) H enc w base spare held n [c0] y0 f0
  have f1 : DataW.trod enc Try.prog w base spare held n 52 [c1] = some y1 := by
    have := hf 1 _ rfl
    simpa [one_l_api_Term] using this
  obtain ⟨v1, r1⟩ := (opens_slice (R := TermR) Try.underlying52 cells_Term (by omega) term_opens) H enc w base spare held n [c1] y1 f1
  have f2 : DataW.trod enc Try.prog w base spare held n 53 [c2] = some y2 := by
    have := hf 2 _ rfl
    simpa [one_l_api_Cidr] using this
  obtain ⟨v2, r2⟩ := (opens_slice (R := CidrR) Try.underlying53 cells_Cidr (by omega) cidr_opens) H enc w base spare held n [c2] y2 f2
  exact ⟨⟨v0, v1, v2⟩, c0, c1, c2, rfl, r0, r1, r2⟩
def TargetR : Rel Pl.Target := fun B w x cs => ∃ c0 c1 c2 c3, cs = [c0, c1, c2, c3] ∧ (SliceC (IntC .i64) 1) B w x.ports [c0] ∧ (SliceC TermR 2) B w x.methods [c1] ∧ (SliceC TermR 2) B w x.paths [c2] ∧ (SliceC TermR 2) B w x.hosts [c3]
theorem TargetR.kept : Kept TargetR := by
  rintro B B' w w' x cs ⟨c0, c1, c2, c3, rfl, h0, h1, h2, h3⟩ hk hB
  exact ⟨c0, c1, c2, c3, rfl, (SliceC.kept (IntC.kept .i64)) _ _ _ _ _ _ h0 hk hB, (SliceC.kept TermR.kept) _ _ _ _ _ _ h1 hk hB, (SliceC.kept TermR.kept) _ _ _ _ _ _ h2 hk hB, (SliceC.kept TermR.kept) _ _ _ _ _ _ h3 hk hB⟩
theorem cells_Target : Try.prog.cellsOf 58 = 4 := by kernel_rfl
set_option maxRecDepth 100000 in
theorem target_opens : Opens 58 TargetR := by
  intro H enc w base spare held fuel cs x h
  obtain ⟨xs, n, _, hx, hlen, hxl, hf⟩ := DataW.trod_struct Try.underlying58 h
  have hl := hlen.trans cells_Target
  obtain ⟨c0, c1, c2, c3, rfl⟩ : ∃ c0 c1 c2 c3, cs = [c0, c1, c2, c3] := by
    match cs, hl with
    | [c0, c1, c2, c3], _ => exact ⟨c0, c1, c2, c3, rfl⟩
  obtain ⟨y0, y1, y2, y3, rfl⟩ : ∃ y0 y1 y2 y3, xs = [y0, y1, y2, y3] := by
    match xs, hxl with
    | [y0, y1, y2, y3], _ => exact ⟨y0, y1, y2, y3, rfl⟩
  have f0 : DataW.trod enc Try.prog w base spare held n 56 [c0] = some y0 := by
    have := hf 0 _ rfl
    simpa [one_l_int] using this
  obtain ⟨v0, r0⟩ := (opens_slice (R := IntC .i64) Try.underlying56 cells_int (by omega) (opens_int Try.underlying3)) H enc w base spare held n [c0] y0 f0
  have f1 : DataW.trod enc Try.prog w base spare held n 52 [c1] = some y1 := by
    have := hf 1 _ rfl
    simpa [one_l_api_Term] using this
  obtain ⟨v1, r1⟩ := (opens_slice (R := TermR) Try.underlying52 cells_Term (by omega) term_opens) H enc w base spare held n [c1] y1 f1
  have f2 : DataW.trod enc Try.prog w base spare held n 52 [c2] = some y2 := by
    have := hf 2 _ rfl
    simpa [one_l_api_Term] using this
  obtain ⟨v2, r2⟩ := (opens_slice (R := TermR) Try.underlying52 cells_Term (by omega) term_opens) H enc w base spare held n [c2] y2 f2
  have f3 : DataW.trod enc Try.prog w base spare held n 52 [c3] = some y3 := by
    have := hf 3 _ rfl
    simpa [one_l_api_Term] using this
  obtain ⟨v3, r3⟩ := (opens_slice (R := TermR) Try.underlying52 cells_Term (by omega) term_opens) H enc w base spare held n [c3] y3 f3
  exact ⟨⟨v0, v1, v2, v3⟩, c0, c1, c2, c3, rfl, r0, r1, r2, r3⟩
def WhenR : Rel Pl.When := fun B w x cs => ∃ c0 c1, cs = [c0, c1] ∧ StrC B w x.head [c0] ∧ (SliceC TermR 2) B w x.terms [c1]
theorem WhenR.kept : Kept WhenR := by
  rintro B B' w w' x cs ⟨c0, c1, rfl, h0, h1⟩ hk hB
  exact ⟨c0, c1, rfl, StrC.kept _ _ _ _ _ _ h0 hk hB, (SliceC.kept TermR.kept) _ _ _ _ _ _ h1 hk hB⟩
theorem cells_When : Try.prog.cellsOf 60 = 2 := by kernel_rfl
set_option maxRecDepth 100000 in
theorem when_opens : Opens 60 WhenR := by
  intro H enc w base spare held fuel cs x h
  obtain ⟨xs, n, _, hx, hlen, hxl, hf⟩ := DataW.trod_struct Try.underlying60 h
  have hl := hlen.trans cells_When
  obtain ⟨c0, c1, rfl⟩ : ∃ c0 c1, cs = [c0, c1] := by
    match cs, hl with
    | [c0, c1], _ => exact ⟨c0, c1, rfl⟩
  obtain ⟨y0, y1, rfl⟩ : ∃ y0 y1, xs = [y0, y1] := by
    match xs, hxl with
    | [y0, y1], _ => exact ⟨y0, y1, rfl⟩
  have f0 : DataW.trod enc Try.prog w base spare held n 9 [c0] = some y0 := by
    have := hf 0 _ rfl
    simpa [one_string] using this
  obtain ⟨v0, r0⟩ := (opens_str Try.underlying9) H enc w base spare held n [c0] y0 f0
  have f1 : DataW.trod enc Try.prog w base spare held n 52 [c1] = some y1 := by
    have := hf 1 _ rfl
    simpa [one_l_api_Term] using this
  obtain ⟨v1, r1⟩ := (opens_slice (R := TermR) Try.underlying52 cells_Term (by omega) term_opens) H enc w base spare held n [c1] y1 f1
  exact ⟨⟨v0, v1⟩, c0, c1, rfl, r0, r1⟩
def RuleR : Rel Pl.Rule := fun B w x cs => ∃ c0 c1 c2, cs = [c0, c1, c2] ∧ (SliceC SourceR 3) B w x.from_ [c0] ∧ (SliceC TargetR 4) B w x.to_ [c1] ∧ (SliceC WhenR 2) B w x.when_ [c2]
theorem RuleR.kept : Kept RuleR := by
  rintro B B' w w' x cs ⟨c0, c1, c2, rfl, h0, h1, h2⟩ hk hB
  exact ⟨c0, c1, c2, rfl, (SliceC.kept SourceR.kept) _ _ _ _ _ _ h0 hk hB, (SliceC.kept TargetR.kept) _ _ _ _ _ _ h1 hk hB, (SliceC.kept WhenR.kept) _ _ _ _ _ _ h2 hk hB⟩
theorem cells_Rule : Try.prog.cellsOf 31 = 3 := by kernel_rfl
set_option maxRecDepth 100000 in
theorem rule_opens : Opens 31 RuleR := by
  intro H enc w base spare held fuel cs x h
  obtain ⟨xs, n, _, hx, hlen, hxl, hf⟩ := DataW.trod_struct Try.underlying31 h
  have hl := hlen.trans cells_Rule
  obtain ⟨c0, c1, c2, rfl⟩ : ∃ c0 c1 c2, cs = [c0, c1, c2] := by
    match cs, hl with
    | [c0, c1, c2], _ => exact ⟨c0, c1, c2, rfl⟩
  obtain ⟨y0, y1, y2, rfl⟩ : ∃ y0 y1 y2, xs = [y0, y1, y2] := by
    match xs, hxl with
    | [y0, y1, y2], _ => exact ⟨y0, y1, y2, rfl⟩
  have f0 : DataW.trod enc Try.prog w base spare held n 27 [c0] = some y0 := by
    have := hf 0 _ rfl
    simpa [one_l_api_Source] using this
  obtain ⟨v0, r0⟩ := (opens_slice (R := SourceR) Try.underlying27 cells_Source (by omega) source_opens) H enc w base spare held n [c0] y0 f0
  have f1 : DataW.trod enc Try.prog w base spare held n 28 [c1] = some y1 := by
    have := hf 1 _ rfl
    simpa [one_l_api_Target] using this
  obtain ⟨v1, r1⟩ := (opens_slice (R := TargetR) Try.underlying28 cells_Target (by omega) target_opens) H enc w base spare held n [c1] y1 f1
  have f2 : DataW.trod enc Try.prog w base spare held n 29 [c2] = some y2 := by
    have := hf 2 _ rfl
    simpa [one_l_api_When] using this
  obtain ⟨v2, r2⟩ := (opens_slice (R := WhenR) Try.underlying29 cells_When (by omega) when_opens) H enc w base spare held n [c2] y2 f2
  exact ⟨⟨v0, v1, v2⟩, c0, c1, c2, rfl, r0, r1, r2⟩
def PolicyR : Rel Pl.Policy := fun B w x cs => ∃ c0 c1 c2 c3 c4, cs = [c0, c1, c2, c3, c4] ∧ (IntC .u64) B w x.id [c0] ∧ StrC B w x.ns [c1] ∧ (IntC .u64) B w x.service [c2] ∧ (IntC .i64) B w x.deny [c3] ∧ (SliceC RuleR 3) B w x.rules [c4]
theorem PolicyR.kept : Kept PolicyR := by
  rintro B B' w w' x cs ⟨c0, c1, c2, c3, c4, rfl, h0, h1, h2, h3, h4⟩ hk hB
  exact ⟨c0, c1, c2, c3, c4, rfl, (IntC.kept .u64) _ _ _ _ _ _ h0 hk hB, StrC.kept _ _ _ _ _ _ h1 hk hB, (IntC.kept .u64) _ _ _ _ _ _ h2 hk hB, (IntC.kept .i64) _ _ _ _ _ _ h3 hk hB, (SliceC.kept RuleR.kept) _ _ _ _ _ _ h4 hk hB⟩
theorem cells_Policy : Try.prog.cellsOf 26 = 5 := by kernel_rfl
set_option maxRecDepth 100000 in
theorem policy_opens : Opens 26 PolicyR := by
  intro H enc w base spare held fuel cs x h
  obtain ⟨xs, n, _, hx, hlen, hxl, hf⟩ := DataW.trod_struct Try.underlying26 h
  have hl := hlen.trans cells_Policy
  obtain ⟨c0, c1, c2, c3, c4, rfl⟩ : ∃ c0 c1 c2 c3 c4, cs = [c0, c1, c2, c3, c4] := by
    match cs, hl with
    | [c0, c1, c2, c3, c4], _ => exact ⟨c0, c1, c2, c3, c4, rfl⟩
  obtain ⟨y0, y1, y2, y3, y4, rfl⟩ : ∃ y0 y1 y2 y3 y4, xs = [y0, y1, y2, y3, y4] := by
    match xs, hxl with
    | [y0, y1, y2, y3, y4], _ => exact ⟨y0, y1, y2, y3, y4, rfl⟩
  have f0 : DataW.trod enc Try.prog w base spare held n 23 [c0] = some y0 := by
    have := hf 0 _ rfl
    simpa [one_uint64] using this
  obtain ⟨v0, r0⟩ := (opens_int Try.underlying23) H enc w base spare held n [c0] y0 f0
  have f1 : DataW.trod enc Try.prog w base spare held n 9 [c1] = some y1 := by
    have := hf 1 _ rfl
    simpa [one_string] using this
  obtain ⟨v1, r1⟩ := (opens_str Try.underlying9) H enc w base spare held n [c1] y1 f1
  have f2 : DataW.trod enc Try.prog w base spare held n 23 [c2] = some y2 := by
    have := hf 2 _ rfl
    simpa [one_uint64] using this
  obtain ⟨v2, r2⟩ := (opens_int Try.underlying23) H enc w base spare held n [c2] y2 f2
  have f3 : DataW.trod enc Try.prog w base spare held n 3 [c3] = some y3 := by
    have := hf 3 _ rfl
    simpa [one_int] using this
  obtain ⟨v3, r3⟩ := (opens_int Try.underlying3) H enc w base spare held n [c3] y3 f3
  have f4 : DataW.trod enc Try.prog w base spare held n 24 [c4] = some y4 := by
    have := hf 4 _ rfl
    simpa [one_l_api_Rule] using this
  obtain ⟨v4, r4⟩ := (opens_slice (R := RuleR) Try.underlying24 cells_Rule (by omega) rule_opens) H enc w base spare held n [c4] y4 f4
  exact ⟨⟨v0, v1, v2, v3, v4⟩, c0, c1, c2, c3, c4, rfl, r0, r1, r2, r3, r4⟩
def HeadR : Rel Pl.Head := fun B w x cs => ∃ c0 c1, cs = [c0, c1] ∧ StrC B w x.name [c0] ∧ StrC B w x.value [c1]
theorem HeadR.kept : Kept HeadR := by
  rintro B B' w w' x cs ⟨c0, c1, rfl, h0, h1⟩ hk hB
  exact ⟨c0, c1, rfl, StrC.kept _ _ _ _ _ _ h0 hk hB, StrC.kept _ _ _ _ _ _ h1 hk hB⟩
theorem cells_Head : Try.prog.cellsOf 63 = 2 := by kernel_rfl
set_option maxRecDepth 100000 in
theorem head_opens : Opens 63 HeadR := by
  intro H enc w base spare held fuel cs x h
  obtain ⟨xs, n, _, hx, hlen, hxl, hf⟩ := DataW.trod_struct Try.underlying63 h
  have hl := hlen.trans cells_Head
  obtain ⟨c0, c1, rfl⟩ : ∃ c0 c1, cs = [c0, c1] := by
    match cs, hl with
    | [c0, c1], _ => exact ⟨c0, c1, rfl⟩
  obtain ⟨y0, y1, rfl⟩ : ∃ y0 y1, xs = [y0, y1] := by
    match xs, hxl with
    | [y0, y1], _ => exact ⟨y0, y1, rfl⟩
  have f0 : DataW.trod enc Try.prog w base spare held n 9 [c0] = some y0 := by
    have := hf 0 _ rfl
    simpa [one_string] using this
  obtain ⟨v0, r0⟩ := (opens_str Try.underlying9) H enc w base spare held n [c0] y0 f0
  have f1 : DataW.trod enc Try.prog w base spare held n 9 [c1] = some y1 := by
    have := hf 1 _ rfl
    simpa [one_string] using this
  obtain ⟨v1, r1⟩ := (opens_str Try.underlying9) H enc w base spare held n [c1] y1 f1
  exact ⟨⟨v0, v1⟩, c0, c1, rfl, r0, r1⟩
end Go.Proofs.Ytnclifgiakmmoaa.Opn

/- A logic of states: rows that may be written; rows lent to a call. -/
namespace Go.Proofs.Ytnclifgiakmmoaa.Sim
set_option linter.unusedVariables false
set_option linter.unusedSimpArgs false
open Go.RowKit Mem
section
variable {P : Program} {bx : List (Nat × List A)} {ow : List (Nat × Own)} {o : Oper} {ρ : Operand → Option A} {r : A}
theorem own_form {w : World} {base : Nat} {e : TypeId} {sz : Nat} {v : Value} {n : Nat} {vs : List Value} (h : RowM w base e sz v n vs) (hn : 0 < n) : ∃ b cap cur, v = .slice (some ⟨b, 0, none⟩) n cap ∧ base ≤ b ∧ (∃ fz, w.heap[b]? = some (.cells cur e fz) ∧ FzOk fz cur.size) ∧ n ≤ cap ∧ cap ≤ maxLen ∧ cap * sz ≤ cur.size ∧ cur.toList.take (n * sz) = vs := by
  obtain ⟨_, ⟨_, h0⟩ | ⟨b, cap, cur, h1⟩⟩ := h
  · omega
  · exact ⟨b, cap, cur, h1⟩
/-- a place in a row of the call's own -/
theorem po_index_own {t e : TypeId} {x ix : Operand} {i nn sz k : Nat} {rows : List (List T)} {n : Int} {ik : IntKind} (ho : o.op = .indexAddr t x ix) (hx : ρ x = some (.own i nn)) (hi : get ow i = some ⟨e, sz, rows⟩) (hnn : nn = rows.length) (hix : ρ ix = some (.t (.v (.int ik n)))) (hT : sliceSz P t = some sz) (hn : n = (k : Int)) (hk : k < nn) : PureOp P bx ow o ρ (.oe i nn sz k 0) := pure_run fun C m g w a he h => by
  obtain ⟨h1, h2, _, h4⟩ := h x (by simp [ho, Op.operands]) _ hx
  have h5 := tr_v (h ix (by simp [ho, Op.operands]) _ hix)
  have hln := he.ln i _ hi
  have hv := h4 (by rw [hln]; exact hnn)
  obtain ⟨e', ii, hu, hie, hs⟩ := sliceSz_spec hT
  obtain ⟨vs, hown, _⟩ := he.owns i _ hi
  dsimp only at hown
  obtain ⟨b, cap, cur, e1, _⟩ := own_form hown (by omega)
  rw [e1] at hv
  subst hn hnn
  have hlt : (k : Int) < (rows.length : Int) := by omega
  refine ⟨.pointer (some ⟨b, k * sz, none⟩), ?_, h1, h2, ⟨_, rfl⟩, fun _ => ⟨b, by rw [e1]; rfl, by simp⟩⟩
  simp [execOp, ho, hv, h5, Instr.indexAt, asIntOf, run_underlying hu, sizeOf, typeInfo, hie, hs, hk, addr_add]
/-- an element's cell -/
theorem own_cell {C : Ctx} {w : World} {m : Mm} {g : Gh} (he : EnvG C bx ow w m g) {i b k j : Nat} {e : TypeId} {sz : Nat} {rows : List (List T)} {row : List T} {t : T} (hi : get ow i = some ⟨e, sz, rows⟩) (hb : (g.go i).ownBlock = some b) (hk : rows[k]? = some row) (hj : row[j]? = some t) : ∃ u, w.cell? ⟨b, k * sz + j, none⟩ = some u ∧ TR m t u ∧ u.oneCell' = true := by
  obtain ⟨vs, hown, hr, hc, _⟩ := he.owns i _ hi
  dsimp only at hown hr hc
  have h1 := flat_get hr hk hj
  have h2 : k * sz + j < vs.length := by rw [hc.1]; exact (List.getElem?_eq_some_iff.1 h1).1
  have h3 := hown.cells hb (k * sz + j) _ (List.getElem?_eq_getElem h2)
  rw [addr_add, Nat.zero_add] at h3
  exact ⟨_, h3, hc.2 _ t _ h1 (List.getElem?_eq_getElem h2)⟩
theorem po_load_own_agg {ty e : TypeId} {x : Operand} {i nn sz k off n : Nat} {rows : List (List T)} {row ts : List T} (ho : o.op = .load ty x) (hx : ρ x = some (.oe i nn sz k off)) (hi : get ow i = some ⟨e, sz, rows⟩) (hnn : nn = rows.length) (hT : tyI P ty = some (true, n)) (hk : rows[k]? = some row) (hn : ts.length = n) (ht : (row.drop off).take n = ts) : PureOp P bx ow o ρ (.t (.agg ts)) := pure_run fun C m g w a he h => by
  obtain ⟨h1, h2, _, h4⟩ := h x (by simp [ho, Op.operands]) _ hx
  obtain ⟨b, h5, h6⟩ := h4 (by rw [he.ln i _ hi]; exact hnn)
  have hts : ∀ (j : Nat) t, ts[j]? = some t → row[off + j]? = some t := fun j t hj => by
    have hjn : j < n := by rw [← hn]; exact (List.getElem?_eq_some_iff.1 hj).1
    rw [← ht, List.getElem?_take_of_lt hjn, List.getElem?_drop] at hj; exact hj
  have hcell : ∀ j, j < n → ∃ u t, w.cell? ⟨b, k * sz + off + j, none⟩ = some u ∧ ts[j]? = some t ∧ TR m t u ∧ u.oneCell' = true := fun j hj => by
    have h7 := List.getElem?_eq_getElem (show j < ts.length by omega)
    obtain ⟨u, h8, h9⟩ := own_cell he hi h5 hk (hts j _ h7)
    rw [← Nat.add_assoc] at h8
    exact ⟨u, _, h8, h7, h9⟩
  have hf : ∃ us : List Value, us.length = n ∧ ∀ j, j < n → ∃ u t, us[j]? = some u ∧ w.cell? ⟨b, k * sz + off + j, none⟩ = some u ∧ ts[j]? = some t ∧ TR m t u ∧ u.oneCell' = true := by
    refine ⟨(List.range n).map fun j => (w.cell? ⟨b, k * sz + off + j, none⟩).getD undef, by simp, fun j hj => ?_⟩
    obtain ⟨u, t, h8, h9, h10⟩ := hcell j hj
    exact ⟨u, t, by simp [hj, h8], h8, h9, h10⟩
  obtain ⟨us, hul, hus⟩ := hf
  have hat : ∀ (j : Nat) v, us[j]? = some v → ∃ t, w.cell? ⟨b, k * sz + off + j, none⟩ = some v ∧ ts[j]? = some t ∧ TR m t v ∧ v.oneCell' = true := fun j v hj => by
    have hjn : j < n := by rw [← hul]; exact (List.getElem?_eq_some_iff.1 hj).1
    obtain ⟨u, t, h8, h9, h10⟩ := hus j hjn
    rw [hj] at h8; injection h8 with h8; subst h8
    exact ⟨t, h9, h10⟩
  refine ⟨.agg us.toArray, by simp only [execOp, ho, h6, Sem.run_bind, run_load_agg hT hul (fun j v hj => (hat j v hj).choose_spec.1)]; rfl, .agg ts _ (by simp [hn, hul]) ?_ ?_⟩
  · intro v hv'
    obtain ⟨j, hj⟩ := List.getElem?_of_mem hv'
    obtain ⟨t, _, _, _, h11⟩ := hat j v (by simpa using hj)
    exact h11
  · intro j t v h3 h4'
    obtain ⟨t', _, h9, h10, _⟩ := hat j v (by simpa using h4')
    rw [h3] at h9; injection h9 with h9; subst h9
    exact h10
end
section
variable {C : Ctx} {bx : List (Nat × List A)} {ow : List (Nat × Own)} {w : World} {m : Mm} {g : Gh}
end
section
variable {P : Program} {N : Nat} {Q : Exit → St → Prop} {ops : Array Oper} {rest : List Oper} {o : Oper} {tm : List (Nat × A)} {bx : List (Nat × List A)} {ow : List (Nat × Own)}
end
end Go.Proofs.Ytnclifgiakmmoaa.Sim

/- A logic of states: calls that are lent rows and boxes, or hand back rows of the caller's own. -/
namespace Go.Proofs.Ytnclifgiakmmoaa.Sim
set_option linter.unusedVariables false
set_option linter.unusedSimpArgs false
open Go.RowKit Mem

/-- the memory of the moment, all of it -/
def allw (w : World) : Mm := fun b o => w.cell? ⟨b, o, none⟩
theorem allw_of {m : Mm} {w : World} (h : Sub m w) : ∀ b o v, m b o = some v → allw w b o = some v := h
/-- what a slot reads as while nothing turns: hidden rows, too -/
inductive VwS (ow : List (Nat × Own)) : A → T → Prop
  | t (x : T) : VwS ow (.t x) x
  | nil (sz : Nat) : VwS ow (.t (.v (.slice none 0 0))) (.sl sz [])
  | emp (sz : Nat) : VwS ow .emp (.sl sz [])
  | own {i n : Nat} {e : TypeId} {sz : Nat} {rows : List (List T)} (h : get ow i = some ⟨e, sz, rows⟩) (hn : n = rows.length) : VwS ow (.own i n) (.sl sz rows)
  | fn (f : FuncId) : VwS ow (.t (.v (.func (.func f) #[] #[]))) (.clo f [])
  | agn : VwS ow (.ag []) (.agg [])
  | agc {x : A} {t : T} {cs : List A} {ts : List T} (h : VwS ow x t) (hl : VwS ow (.ag cs) (.agg ts)) : VwS ow (.ag (x :: cs)) (.agg (t :: ts))
section
variable {P : Program} {bx : List (Nat × List A)} {ow : List (Nat × Own)} {o : Oper} {ρ : Operand → Option A} {r : A}
theorem VwS.ok {C : Ctx} {w : World} {m : Mm} {g : Gh} {x : A} {t : T} {v : Value} (h : VwS ow x t) (he : EnvG C bx ow w m g) (hx : AR m g x v) : TR (allw w) t v := by
  induction h generalizing v with
  | t x => exact TR.mono (allw_of he.sub) hx
  | nil sz =>
    have hx' : TR m (.v (.slice none 0 0)) v := hx
    cases hx'
    exact tr_nil _ sz (Nat.zero_le _)
  | emp sz =>
    obtain ⟨A, rfl⟩ := hx
    exact tr_nil _ sz (Nat.zero_le _)
  | @own i n e sz rows h hn =>
    obtain ⟨_, _, _, hvg⟩ := hx
    obtain rfl := hvg (by rw [he.ln i _ h]; exact hn)
    obtain ⟨vs, ho, hr, hc, hb⟩ := he.owns i _ h
    exact tr_owns ho hr (hc.mono (allw_of he.sub)) fun b hb' k u hu => by
      have := ho.cells hb' k u hu
      rwa [addr_add, Nat.zero_add] at this
  | fn f =>
    have hx' : TR m (.v (.func (.func f) #[] #[])) v := hx
    cases hx'
    exact .clo f [] #[] rfl (fun j t v h => by simp at h)
  | agn =>
    obtain ⟨vs, rfl, h1, _⟩ := hx
    have : vs = #[] := Array.eq_empty_of_size_eq_zero (by simpa using h1)
    subst this
    exact .agg [] #[] rfl (fun v hv => by simp at hv) (fun j t v h => by simp at h)
  | @agc x t cs ts h hl ih1 ih2 =>
    obtain ⟨u, us, rfl, h1, h2, h3⟩ := ag_cons hx
    exact tr_agg_cons (ih1 h1.two) h2 (ih2 h3)
inductive ArgsS (ow : List (Nat × Own)) (ρ : Operand → Option A) : List Operand → List T → Prop
  | nil : ArgsS ow ρ [] []
  | cons {x : Operand} {y : A} {t : T} {xs : List Operand} {ts : List T} (h : ρ x = some y) (hv : VwS ow y t) (hl : ArgsS ow ρ xs ts) : ArgsS ow ρ (x :: xs) (t :: ts)
theorem ArgsS.ok {C : Ctx} {w : World} {m : Mm} {g : Gh} {xs : List Operand} {ts : List T} (h : ArgsS ow ρ xs ts) (he : EnvG C bx ow w m g) {a : Act} (ha : ∀ x ∈ xs, ∀ y, ρ x = some y → AR m g y (a.eval x)) : xs.length = ts.length ∧ ∀ (i : Nat) t v, ts[i]? = some t → (xs.map a.eval)[i]? = some v → TR (allw w) t v := by
  induction h with
  | nil => exact ⟨rfl, fun i t v h => by simp at h⟩
  | @cons x y t xs ts h hv hl ih =>
    obtain ⟨h1, h2⟩ := ih fun x hx => ha x (by simp [hx])
    refine ⟨by simp [h1], fun i t' v h3 h4 => ?_⟩
    cases i with
    | zero => simp at h3 h4; subst h3 h4; exact hv.ok he (ha x (by simp) y h)
    | succ i => simp at h3; exact h2 i t' v h3 (by simpa using h4)
def A.isLf : A → Bool
  | .ag _ => false
  | .tu _ => false
  | .cl _ _ => false
  | _ => true
theorem lf0 {m : Mm} {g : Gh} {x : A} {v : Value} (h : x.isLf = true) (hx : AR m g x v) : AR0 m g x v := by
  cases x <;> first | exact hx | cases h
def A.is1 : A → Bool
  | .tu _ => false
  | _ => true
theorem is1 {m : Mm} {g : Gh} {x : A} {v : Value} (h : x.is1 = true) (hx : AR m g x v) : AR1 m g x v := by
  cases x <;> first | exact hx | cases h
/-- a box's cells, rows of the call's own among them -/
theorem po_load_bx_ag {ty : TypeId} {x : Operand} {i off n : Nat} {cs ds : List A} (ho : o.op = .load ty x) (hx : ρ x = some (.bp i off)) (hT : tyI P ty = some (true, n)) (hb : get bx i = some cs) (hd : (cs.drop off).take n = ds) (hn : ds.length = n) (hlf : ds.all A.isLf = true) (hq : cellB i = true := by rfl) : PureOp P bx ow o ρ (.ag ds) := pure_run fun C m g w a he h => by
  obtain ⟨_, h1⟩ := h x (by simp [ho, Op.operands]) _ hx
  obtain ⟨vs, ty', hh, hs, hc, _, _⟩ := he.boxes i cs hb
  rw [ob_cells hq] at hh
  replace hs := hs.cell hq
  have hlen : off + n ≤ vs.size ∨ n = 0 := by
    rw [hs]; rw [← hd] at hn; simp at hn; omega
  have hat : ∀ (j : Nat) v, ((vs.toList.drop off).take n)[j]? = some v → j < n ∧ vs[off + j]? = some v := fun j v hj => by
    have hjn : j < n := by have := (List.getElem?_eq_some_iff.1 hj).1; simp at this; omega
    rw [List.getElem?_take_of_lt hjn, List.getElem?_drop] at hj
    exact ⟨hjn, by simpa using hj⟩
  have hcell : ∀ (j : Nat) v, ((vs.toList.drop off).take n)[j]? = some v → w.cell? ⟨g.gb i, off + j, none⟩ = some v := fun j v hj => by
    simp [World.cell?, hh, (hat j v hj).2]
  refine ⟨_, by simp only [execOp, ho, h1, Sem.run_bind, run_load_agg hT (show ((vs.toList.drop off).take n).length = n by simp; omega) hcell]; rfl, _, rfl, by simp [hn]; omega, fun j x u h3 h4 => ?_⟩
  obtain ⟨hjn, h5⟩ := hat j u (by simpa using h4)
  have h6 : cs[off + j]? = some x := by rw [← hd, List.getElem?_take_of_lt hjn, List.getElem?_drop] at h3; exact h3
  have h7 := hc _ x u h6 h5
  exact ⟨lf0 ((List.all_eq_true.1 hlf) x (List.mem_of_getElem? h3)) h7.1, h7.2⟩
/-- a function that captured boxes -/
inductive CapsA (ρ : Operand → Option A) : List Operand → List A → Prop
  | nil : CapsA ρ [] []
  | cons {x : Operand} {y : A} {xs : List Operand} {ys : List A} (h : ρ x = some y) (hv : y.isLf = true) (hl : CapsA ρ xs ys) : CapsA ρ (x :: xs) (y :: ys)
theorem CapsA.at {xs : List Operand} {ys : List A} (h : CapsA ρ xs ys) : xs.length = ys.length ∧ ∀ (j : Nat) y, ys[j]? = some y → ∃ x, xs[j]? = some x ∧ ρ x = some y ∧ y.isLf = true := by
  induction h with
  | nil => exact ⟨rfl, fun j y h => by simp at h⟩
  | cons h hv hl ih =>
    refine ⟨by simp [ih.1], fun j y hy => ?_⟩
    cases j with
    | zero => simp at hy; subst hy; exact ⟨_, rfl, h, hv⟩
    | succ j => simp at hy; simpa using ih.2 j y hy
end

/-- a function's results, rows of the call's own among them -/
inductive ResA (P : Program) (st : St) : List ResultVar → List A → Prop
  | nil : ResA P st [] []
  | tmp {s : Nat} {y : A} {l : List ResultVar} {ys : List A} (h : get st.tm s = some y) (h1 : y.is1 = true) (hl : ResA P st l ys) : ResA P st (.tmp s :: l) (y :: ys)
  | cell {s i : Nat} {ty : TypeId} {n : Nat} {cs : List A} {ys : List A} {l : List ResultVar} (h : get st.tm s = some (.bp i 0)) (hb : get st.bx i = some cs) (hT : tyI P ty = some (true, n)) (hn : cs.length = n) (hlf : cs.all A.isLf = true) (hl : ResA P st l ys) (hq : cellB i = true := by rfl) : ResA P st (.cell s ty :: l) (.ag cs :: ys)
  | cell1 {s i : Nat} {ty : TypeId} {n : Nat} {c : A} {ys : List A} {l : List ResultVar} (h : get st.tm s = some (.bp i 0)) (hb : get st.bx i = some [c]) (hT : tyI P ty = some (false, n)) (h1 : c.is1 = true) (hl : ResA P st l ys) (hq : cellB i = true := by rfl) : ResA P st (.cell s ty :: l) (c :: ys)
  | tmpT {s : Nat} {y : A} {t : T} {l : List ResultVar} {ys : List A} (h : get st.tm s = some y) (hv : Vw st.ow y t) (hl : ResA P st l ys) : ResA P st (.tmp s :: l) (.t t :: ys)
  | cellT {s i : Nat} {ty : TypeId} {n : Nat} {cs : List A} {us : List T} {ys : List A} {l : List ResultVar} (h : get st.tm s = some (.bp i 0)) (hb : get st.bx i = some cs) (hT : tyI P ty = some (true, n)) (hv : VwL st.ow cs us) (hn : us.length = n) (hl : ResA P st l ys) (hq : cellB i = true := by rfl) : ResA P st (.cell s ty :: l) (.t (.agg us) :: ys)
def resA : List A → A
  | [t] => t
  | ts => .tu ts
theorem resA_ok {P : Program} {C : Ctx} {N : Nat} {st : St} {a : Act} {w : World} {m : Mm} {g : Gh} (hr : RelG C N st a w m g) {l : List ResultVar} {ts : List A} (h : ResA P st l ts) :
    ∃ vs : List Value, (l.mapM (resF a)).run P w = .ok vs w ∧ vs.length = ts.length ∧ ∀ (i : Nat) t v, ts[i]? = some t → vs[i]? = some v → AR1 m g t v := by
  induction h with
  | nil => exact ⟨[], by simp, rfl, fun i t v h => by simp at h⟩
  | @tmp s y l ys h h1 _ ih =>
    obtain ⟨vs, h2, h3, h4⟩ := ih
    refine ⟨a.tmps.getD s undef :: vs, ?_, by simp [h3], fun i t' v h5 h6 => ?_⟩
    · simp only [List.mapM_cons, resF, Sem.run_bind, Sem.run_pure, Result.andThen_ok, h2]
    · cases i with
      | zero => simp at h5 h6; subst h5; rw [← h6]; exact is1 h1 (by have := hr.tmps s y h; simpa [Act.eval] using this)
      | succ i => simp at h5; exact h4 i t' v h5 (by simpa using h6)
  | @cell s i ty n cs ys l h hb hT hn hlf _ hq ih =>
    obtain ⟨vs, h1, h2, h3⟩ := ih
    obtain ⟨_, hp⟩ := hr.tmps s _ h
    have hp' : a.tmps.getD s undef = .pointer (some ⟨g.gb i, 0, none⟩) := hp
    obtain ⟨xs, ty', hh, hs, hc, _⟩ := hr.env.boxes i cs hb
    rw [ob_cells hq] at hh
    replace hs := hs.cell hq
    have hcell : ∀ (j : Nat) v, xs.toList[j]? = some v → w.cell? ⟨g.gb i, 0 + j, none⟩ = some v := fun j v hj => by
      simp only [World.cell?, hh, Nat.zero_add]; simpa using hj
    have hld := run_load_agg (P := P) hT (w := w) (b := g.gb i) (off := 0) (cs := xs.toList) (by simp; omega) hcell
    refine ⟨.agg xs.toList.toArray :: vs, ?_, by simp [h2], fun q t' v h4 h5 => ?_⟩
    · simp only [Instr.loadAt, Instr.sureAddr, Sem.run_bind, Sem.run_pure, Result.andThen_ok] at hld
      simp only [List.mapM_cons, resF, Sem.run_bind, Sem.run_pure, Result.andThen_ok, hp', asAddr, hld, h1]
    · cases q with
      | zero =>
        simp at h4 h5; subst h4 h5
        exact ⟨xs, rfl, hs, fun j x u h6 h7 => ⟨lf0 ((List.all_eq_true.1 hlf) x (List.mem_of_getElem? h6)) (hc j x u h6 h7).1, (hc j x u h6 h7).2⟩⟩
      | succ q => simp at h4; exact h3 q t' v h4 (by simpa using h5)
  | @cell1 s i ty n c ys l h hb hT h1 _ hq ih =>
    obtain ⟨vs, h2, h3, h4⟩ := ih
    obtain ⟨_, hp⟩ := hr.tmps s _ h
    have hp' : a.tmps.getD s undef = .pointer (some ⟨g.gb i, 0, none⟩) := hp
    obtain ⟨xs, ty', hh, hs, hc, _⟩ := hr.env.boxes i _ hb
    rw [ob_cells hq] at hh
    replace hs := hs.cell hq
    have hlt : 0 < xs.size := by rw [hs]; simp
    have hcell : w.cell? ⟨g.gb i, 0, none⟩ = some xs[0] := by simp [World.cell?, hh, hlt]
    have hld := run_load_scalar (P := P) hT (w := w) hcell
    refine ⟨xs[0] :: vs, ?_, by simp [h3], fun q t' v h5 h6 => ?_⟩
    · simp only [Instr.loadAt, Instr.sureAddr, Sem.run_bind, Sem.run_pure, Result.andThen_ok] at hld
      simp only [List.mapM_cons, resF, Sem.run_bind, Sem.run_pure, Result.andThen_ok, hp', asAddr, hld, h2]
    · cases q with
      | zero => simp at h5 h6; subst h5 h6; exact is1 h1 (hc 0 c _ rfl (by simp [hlt])).1
      | succ q => simp at h5; exact h4 q t' v h5 (by simpa using h6)
  | @tmpT s y t l ys h hv _ ih =>
    obtain ⟨vs, h2, h3, h4⟩ := ih
    refine ⟨a.tmps.getD s undef :: vs, ?_, by simp [h3], fun i t' v h5 h6 => ?_⟩
    · simp only [List.mapM_cons, resF, Sem.run_bind, Sem.run_pure, Result.andThen_ok, h2]
    · cases i with
      | zero =>
        simp at h5 h6; subst h5; rw [← h6]
        exact hv.ok hr.env (by have := hr.tmps s y h; simpa [Act.eval] using this)
      | succ i => simp at h5; exact h4 i t' v h5 (by simpa using h6)
  | @cellT s i ty n cs us ys l h hb hT hv hn _ hq ih =>
    obtain ⟨vs, h1, h2, h3⟩ := ih
    obtain ⟨_, hp⟩ := hr.tmps s _ h
    have hp' : a.tmps.getD s undef = .pointer (some ⟨g.gb i, 0, none⟩) := hp
    obtain ⟨xs, ty', hh, hs, hc, _⟩ := hr.env.boxes i cs hb
    rw [ob_cells hq] at hh
    replace hs := hs.cell hq
    obtain ⟨e1, e2⟩ := hv.at
    have hcell : ∀ (j : Nat) v, xs.toList[j]? = some v → w.cell? ⟨g.gb i, 0 + j, none⟩ = some v := fun j v hj => by
      simp only [World.cell?, hh, Nat.zero_add]; simpa using hj
    have hld := run_load_agg (P := P) hT (w := w) (b := g.gb i) (off := 0) (cs := xs.toList) (by simp; omega) hcell
    refine ⟨.agg xs.toList.toArray :: vs, ?_, by simp [h2], fun q t' v h4 h5 => ?_⟩
    · simp only [Instr.loadAt, Instr.sureAddr, Sem.run_bind, Sem.run_pure, Result.andThen_ok] at hld
      simp only [List.mapM_cons, resF, Sem.run_bind, Sem.run_pure, Result.andThen_ok, hp', asAddr, hld, h1]
    · cases q with
      | zero =>
        simp at h4 h5; subst h4 h5
        refine TR.agg us xs (by omega) (fun v hv' => ?_) (fun j t v h6 h7 => ?_)
        · obtain ⟨j, hj⟩ := List.getElem?_of_mem hv'
          have hlt : j < cs.length := by rw [← hs]; simpa using (List.getElem?_eq_some_iff.1 hj).1
          exact (hc j _ v (List.getElem?_eq_getElem hlt) (by simpa using hj)).2
        · obtain ⟨x, h8, h9⟩ := e2 j t h6
          exact h9.ok hr.env (hc j x v h8 h7).1
      | succ q => simp at h4; exact h3 q t' v h4 (by simpa using h5)
theorem resultsA_ok {P : Program} {C : Ctx} {N : Nat} {st : St} {a : Act} {w : World} {m : Mm} {g : Gh} (hr : RelG C N st a w m g) {fn : Func} {ts : List A} (h : ResA P st fn.results.toList ts) : ∃ v, (results fn a.tmps).run P w = .ok v w ∧ AR m g (resA ts) v := by
  obtain ⟨vs, h1, h2, h3⟩ := resA_ok hr h
  refine ⟨if h : vs.toArray.size = 1 then vs.toArray[0] else .tuple vs.toArray, ?_, ?_⟩
  · have hm : (fn.results.mapM (resF a)).run P w = .ok vs.toArray w := by
      rw [← Array.toArray_toList (xs := fn.results), List.mapM_toArray, map_eq_pure_bind, Sem.run_bind, h1]; rfl
    show ((fn.results.mapM (resF a) >>= fun vs => pure (if h : vs.size = 1 then vs[0] else .tuple vs)) : Sem Value).run P w = _
    rw [Sem.run_bind, hm]; rfl
  · match ts, vs, h2 with
    | [], [], _ => exact ⟨#[], rfl, rfl, fun j t v h => by simp at h⟩
    | [t], [v], _ => exact (h3 0 t v rfl rfl).two
    | t :: t' :: ts, v :: v' :: vs, h2 => exact ⟨_, rfl, by simpa using h2, fun j t v h4 h5 => h3 j t v h4 (by simpa using h5)⟩

/-- blocks that are lent -/
def lentB (g : Gh) (bx : List (Nat × List A)) (ow : List (Nat × Own)) (b : Nat) : Bool := (bx.any fun p => Nat.beq (g.gb p.1) b) || (ow.any fun p => match (g.go p.1).ownBlock with | some c => Nat.beq c b | none => false)
def lentC (w : World) (m : Mm) (g : Gh) (bx : List (Nat × List A)) (ow : List (Nat × Own)) : Ctx := ⟨w, m, lentB g bx ow, g.go, g.gb⟩
theorem get_mem {β : Type} {l : List (Nat × β)} {i : Nat} {x : β} (h : get l i = some x) : (i, x) ∈ l := by
  induction l with
  | nil => cases h
  | cons p l ih =>
    obtain ⟨j, y⟩ := p
    rw [get_cons] at h
    split at h
    · rename_i e; subst e; injection h with h; subst h; simp
    · exact List.mem_cons_of_mem _ (ih h)
theorem mem_get {β : Type} {l : List (Nat × β)} {p : Nat × β} (h : p ∈ l) : ∃ x, get l p.1 = some x := by
  induction l with
  | nil => cases h
  | cons q l ih =>
    obtain ⟨j, y⟩ := q
    rw [get_cons]
    by_cases e : j = p.1
    · exact ⟨y, by rw [if_pos e]⟩
    · rw [if_neg e]
      rcases List.mem_cons.1 h with h | h
      · subst h; exact absurd rfl e
      · exact ih h
theorem lent_spec {g : Gh} {bx : List (Nat × List A)} {ow : List (Nat × Own)} {b : Nat} (h : lentB g bx ow b = true) : (∃ i cs, get bx i = some cs ∧ g.gb i = b) ∨ (∃ i o, get ow i = some o ∧ (g.go i).ownBlock = some b) := by
  unfold lentB at h
  rw [Bool.or_eq_true] at h
  rcases h with h | h
  · obtain ⟨p, h1, h2⟩ := List.any_eq_true.1 h
    obtain ⟨x, h3⟩ := mem_get h1
    exact .inl ⟨p.1, x, h3, Nat.eq_of_beq_eq_true h2⟩
  · obtain ⟨p, h1, h2⟩ := List.any_eq_true.1 h
    obtain ⟨x, h3⟩ := mem_get h1
    refine .inr ⟨p.1, x, h3, ?_⟩
    split at h2
    · rename_i c hc; rw [hc, Nat.eq_of_beq_eq_true h2]
    · cases h2
theorem lent_bx {g : Gh} {bx : List (Nat × List A)} {ow : List (Nat × Own)} {i : Nat} {cs : List A} (h : get bx i = some cs) : lentB g bx ow (g.gb i) = true := by
  unfold lentB
  rw [Bool.or_eq_true]
  exact .inl (List.any_eq_true.2 ⟨_, get_mem h, Nat.beq_refl _⟩)
theorem lent_ow {g : Gh} {bx : List (Nat × List A)} {ow : List (Nat × Own)} {i b : Nat} {o : Own} (h : get ow i = some o) (hb : (g.go i).ownBlock = some b) : lentB g bx ow b = true := by
  unfold lentB
  rw [Bool.or_eq_true]
  exact .inr (List.any_eq_true.2 ⟨_, get_mem h, by simp only [hb]; exact Nat.beq_refl _⟩)
structure LCalls (P : Program) (f : FuncId) (args : List A) (bx0 : List (Nat × List A)) (ow0 : List (Nat × Own)) (r : A) (bx1 : List (Nat × List A)) (ow1 : List (Nat × Own)) : Prop where
  ent : ∀ (args : Array Value) (w : World), (callFunc f args).run P w = .ok (.enter f args) w
  run : ∀ (m : Mm) (w : World) (g : Gh) (vals : Array Value), EnvG (lentC w m g bx0 ow0) bx0 ow0 w m g → vals.size = args.length → (∀ (i : Nat) x v, args[i]? = some x → vals[i]? = some v → AR m g x v) →
    Calls P f vals w fun e w' => ∃ v m' g', e = .returned v ∧ EnvG (lentC w m g bx0 ow0) bx1 ow1 w' m' g' ∧ AR m' g' r v
theorem envg_sub {C : Ctx} {bx bx' : List (Nat × List A)} {ow ow' : List (Nat × Own)} {w : World} {m : Mm} {g : Gh} (he : EnvG C bx ow w m g) (h2 : SubX bx bx' ow' bx') (h3 : SubW ow ow') :
    EnvG C bx' ow' w m { g with lb := fun i => (get bx' i).isSome, lw := fun i => (get ow' i).isSome } ∧ ∀ {x : A} {v : Value}, AR m g x v → x.live bx' ow' = true → AR m { g with lb := fun i => (get bx' i).isSome, lw := fun i => (get ow' i).isSome } x v := by
  have har : ∀ {x : A} {v : Value}, AR m g x v → x.live bx' ow' = true → AR m { g with lb := fun i => (get bx' i).isSome, lw := fun i => (get ow' i).isSome } x v := by
    intro x v h hl
    refine h.liftP (A.live0 bx' ow') (fun x v hl h => ?_) hl
    cases x with
    | bp i off => exact ⟨hl, h.2⟩
    | sb i n => exact ⟨hl, h.2⟩
    | own i n => exact ⟨hl, h.2⟩
    | oe i n sz k off => exact ⟨hl, h.2⟩
    | sfx i n sz k => exact ⟨hl, h.2⟩
    | _ => exact h
  refine ⟨{
      lo := he.lo, gm := he.gm, sub := he.sub, ext := he.ext, gt := he.gt, lb := fun i => rfl, lw := fun i => rfl
      ln := fun i o hi => he.ln i o (h3.get hi)
      boxes := fun i cs hi => by
        obtain ⟨h4, h5⟩ := h2.get hi
        obtain ⟨vs, ty, h6, h7, h8, h9⟩ := he.boxes i cs h4
        exact ⟨vs, ty, h6, h7, fun j x v hx hv => ⟨har (h8 j x v hx hv).1 ((List.all_eq_true.1 h5) x (List.mem_of_getElem? hx)), (h8 j x v hx hv).2⟩, h9⟩
      inj := fun i j ci cj hi hj h => he.inj i j ci cj (h2.get hi).1 (h2.get hj).1 h
      owns := fun i o hi => by
        obtain ⟨vs, h6, h7, h8, h9⟩ := he.owns i o (h3.get hi)
        exact ⟨vs, h6, h7, h8, fun b hb => ⟨(h9 b hb).1, fun j cs hj => (h9 b hb).2.1 j cs (h2.get hj).1, (h9 b hb).2.2⟩⟩
      apart := fun i j oi oj hi hj => he.apart i j oi oj (h3.get hi) (h3.get hj)
      pin := fun i o hi => he.pin i o (h3.get hi)
      pinb := fun i cs hi => he.pinb i cs (h2.get hi).1 }, har⟩
def argTmA : Nat → List A → List (Nat × A)
  | _, [] => []
  | i, t :: ts => (i, t) :: argTmA (i + 1) ts
theorem argTmA_get : ∀ (ts : List A) (i s : Nat) (x : A), get (argTmA i ts) s = some x → i ≤ s ∧ ts[s - i]? = some x
  | [], i, s, x, h => by cases h
  | t :: ts, i, s, x, h => by
    unfold argTmA at h
    rw [get_cons] at h
    split at h
    · rename_i e; subst e; injection h with h; exact ⟨Nat.le_refl _, by simp [h]⟩
    · obtain ⟨h1, h2⟩ := argTmA_get ts (i + 1) s x h
      refine ⟨by omega, ?_⟩
      rw [show s - i = (s - (i + 1)) + 1 by omega]; simpa using h2
structure RetL (P : Program) (fn : Func) (r : A) (bx1 : List (Nat × List A)) (ow1 : List (Nat × Own)) (e : Exit) (st : St) : Prop where
  go : (e = .normal ∨ e = .ret) ∧ ∃ ts, ResA P st fn.results.toList ts ∧ r = resA ts ∧ r.live bx1 ow1 = true ∧ SubX st.bx bx1 ow1 bx1 ∧ SubW st.ow ow1
theorem retl {P : Program} {fn : Func} {r : A} {bx1 : List (Nat × List A)} {ow1 : List (Nat × Own)} {e : Exit} {st : St} {l : List ResultVar} {ts : List A} (he : e = .normal ∨ e = .ret) (hl : fn.results.toList = l) (h : ResA P st l ts) (hr : r = resA ts) (hv : r.live bx1 ow1 = true) (h1 : SubX st.bx bx1 ow1 bx1) (h2 : SubW st.ow ow1) : RetL P fn r bx1 ow1 e st := ⟨⟨he, ts, by rw [hl]; exact h, hr, hv, h1, h2⟩⟩
theorem lcalls_of {P : Program} {f : FuncId} {fn : Func} {c : Code} {args : List A} {bx0 bx1 : List (Nat × List A)} {ow0 ow1 : List (Nat × Own)} {r : A} {N : Nat} (hf : P.funcs[f]? = some fn) (hb : fn.body = some c) (hname : (fn.name == "runtime.NumGoroutine") = false) (hN : fn.ntmps = N) (hargs : Nat.ble args.length N = true)
    (h : SWp P N c (RetL P fn r bx1 ow1) ⟨argTmA 0 args, bx0, ow0⟩) : LCalls P f args bx0 ow0 r bx1 ow1 where
  ent := fun vals w => by
    have hname' : ¬ fn.name = "runtime.NumGoroutine" := by simpa using hname
    simp [callFunc, hf, hname', hb]
  run := fun m w g vals he hl hv => by
    refine calls_of_wp hf hb ?_
    have hal := Nat.le_of_ble_eq_true hargs
    have hrel : Rel (lentC w m g bx0 ow0) N ⟨argTmA 0 args, bx0, ow0⟩ { tmps := vals ++ Array.replicate (fn.ntmps - vals.size) undef, defers := [] } w := by
      refine ⟨m, g, he, by simp [hN]; omega, rfl, fun s x hx => ?_⟩
      obtain ⟨_, h2⟩ := argTmA_get args 0 s x hx
      rw [Nat.sub_zero] at h2
      have hlt : s < vals.size := by rw [hl]; exact (List.getElem?_eq_some_iff.1 h2).1
      have : (Act.eval { tmps := vals ++ Array.replicate (fn.ntmps - vals.size) undef, defers := [] } (.tmp s)) = vals[s] := by
        show (vals ++ Array.replicate (fn.ntmps - vals.size) undef).getD s undef = _
        rw [Array.getD_eq_getD_getElem?, Array.getElem?_append_left hlt, Array.getElem?_eq_getElem hlt]; rfl
      rw [this]
      exact hv s x _ h2 (Array.getElem?_eq_getElem hlt)
    refine Code.wp_mono ?_ (h.go _ _ w hrel)
    rintro e a' w' ⟨st, ⟨m', g', hr⟩, ⟨he, ts, hres, rfl, hlv, hx, hw⟩⟩
    obtain ⟨v, h1, h2⟩ := resultsA_ok hr hres
    obtain ⟨h3, h4⟩ := envg_sub hr.env hx hw
    rcases he with rfl | rfl <;> exact ⟨hr.defers, v, h1, v, m', _, rfl, h3, h4 h2 hlv⟩
end Go.Proofs.Ytnclifgiakmmoaa.Sim
