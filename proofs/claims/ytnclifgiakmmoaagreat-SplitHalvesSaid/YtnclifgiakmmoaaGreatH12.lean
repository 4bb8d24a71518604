/- Merged by bundles.py: WMatch, WTerm, OpenTerm, Rel13. -/
import Derived.Test.YtnclifgiakmmoaaGreatH0
import Derived.Test.YtnclifgiakmmoaaGreatH11
/- The walks of chapter 7's functions. -/
namespace Go.Proofs.YtnclifgiakmmoaaGreat.WMatch
set_option linter.unusedVariables false
set_option linter.unusedSimpArgs false
open Go.RowKit Mem

theorem extract_list (s : ByteArray) (a b : Nat) : (s.extract a b).toList = (s.toList.drop a).take (b - a) := by
  have h : s = ByteArray.mk s.toList.toArray := by rw [ByteArray.toList_eq]
  conv => lhs; rw [h, ByteArray.extract_mk]
  rw [ByteArray.toList_mk]
theorem pre_val (s p : ByteArray) : Pl.hasPre s.toList p.toList = (decide (p.size ≤ s.size) && ((s.extract 0 p.size).toList == p.toList)) := by
  unfold Pl.hasPre
  rw [extract_list]
  simp [toList_len]
theorem suf_val (s p : ByteArray) : Pl.hasSuf s.toList p.toList = (decide (p.size ≤ s.size) && ((s.extract (s.size - p.size) s.size).toList == p.toList)) := by
  unfold Pl.hasSuf
  rw [extract_list]
  simp only [toList_len]
  by_cases h : p.size ≤ s.size
  · rw [List.take_of_length_le (by rw [List.length_drop, toList_len]; omega)]
  · simp [h]
theorem okc_false {c : UInt8} (h : (((c.toNat : Int) < 33 ∨ 126 < (c.toNat : Int)) ∨ ((c.toNat : Int) == 42) = true) ∨ ((c.toNat : Int) == 44) = true) : Pl.okc c = false := by
  simp only [beq_iff_eq] at h
  simp [Pl.okc]; omega
theorem okc_true {c : UInt8} (h : ((33 ≤ (c.toNat : Int) ∧ (c.toNat : Int) ≤ 126) ∧ ((c.toNat : Int) == 42) = false) ∧ ((c.toNat : Int) == 44) = false) : Pl.okc c = true := by
  simp only [beq_eq_false_iff_ne] at h
  simp [Pl.okc]; omega
theorem may_bad (k : Int) {s : ByteArray} {n : Nat} (hn : n < s.size) (h : Pl.okc s[n] = false) : Pl.may k s.toList = false := by
  unfold Pl.may; rw [all_bad hn h]; simp
theorem may_end (k : Int) {s : ByteArray} (h : s.toList.all Pl.okc = true) : Pl.may k s.toList = (if k = 4 then s.toList.isEmpty else decide (1 ≤ k) && decide (k ≤ 3) && decide (1 ≤ s.size) && decide (s.size ≤ 64)) := by
  unfold Pl.may; rw [h, toList_len]; simp

theorem hasPrefix' (s p : ByteArray) (w : World) (hs : s.size ≤ maxLen) (hp : p.size ≤ maxLen) :
    Calls Tryz.prog 122 #[.string s, .string p] w fun e w' => e = .returned (.bool (Pl.hasPre s.toList p.toList)) ∧ w = w' := by
  unfold maxLen at hs hp
  have hv := pre_val s p
  by_cases h : p.size ≤ s.size
  all_goals
    rw [hv]
    clear hv
    go_enter Tryz.func122, Tryz.ntmps122
    go_wp2
    go_ret
    exact ⟨ret_bool (by simp [h]), rfl⟩

set_option maxHeartbeats 400000 in
theorem may (k : Int) (s : ByteArray) (w : World) (hs : s.size ≤ maxLen) :
    Calls Tryz.prog 116 #[.agg #[.int .i64 k, .string s]] w fun e w' => e = .returned (.bool (Pl.may k s.toList)) ∧ Lo w w' := by
  unfold maxLen at hs
  go_enter Tryz.func116, Tryz.ntmps116
  go_wp2
  go_loop [3, 4] (fun i c => ∃ n : Nat, n ≤ s.size ∧ i = .int .i64 n ∧ (s.toList.take n).all Pl.okc = true) (fun i _ => s.size - (intOf i).toNat)
  case atStart => exact ⟨0, Nat.zero_le _, rfl, rfl⟩
  case round =>
    obtain ⟨n, hn, rfl, hall⟩ := hrel
    have HA := Lib.hid hall
    clear hall
    by_cases hlt : n < s.size
    · go_wp2
      all_goals first
        | (go_ret
           exact ⟨ret_bool (by rw [may_bad k hlt (okc_false (by first | assumption | (simp only [beq_iff_eq]; omega)))]), (by repeat (first | exact Lo.refl _ | assumption | refine Lo.drew ?_ | refine Lo.alloc ?_ _ | refine Lo.setCell ?_ (by first | (dsimp only; omega) | (simp; omega) | (simp; done)) _ | refine Lo.trans ?_ (by assumption)))⟩)
        | (go_round
           case rel => exact ⟨n + 1, by omega, by go_num, all_snoc HA.out hlt (okc_true (by assumption))⟩
           case measure => simp [intOf]; omega)
        | skip
      go_ways
    · have HF : s.toList.all Pl.okc = true := by have := HA.out; rwa [take_full s hlt] at this
      have HG := Lib.hid (may_end k HF)
      clear HF
      go_wp2
      all_goals first
        | (go_ret
           refine ⟨ret_bool ?_, (by repeat (first | exact Lo.refl _ | assumption | refine Lo.drew ?_ | refine Lo.alloc ?_ _ | refine Lo.setCell ?_ (by first | (dsimp only; omega) | (simp; omega) | (simp; done)) _ | refine Lo.trans ?_ (by assumption)))⟩
           rw [HG.out]
           first
             | (have h4 : k = 4 := by simpa using (show (k == 4) = true by assumption)
                rw [if_pos h4]; done)
             | (have h4 : k = 4 := by simpa using (show (k == 4) = true by assumption)
                rw [if_pos h4]; simp; done)
             | (have h4 : ¬ k = 4 := by simpa using (show (k == 4) = false by assumption)
                rw [if_neg h4, Bool.eq_iff_iff]; simp; omega))

theorem hasSuffix' (s p : ByteArray) (w : World) (hs : s.size ≤ maxLen) (hp : p.size ≤ maxLen) :
    Calls Tryz.prog 123 #[.string s, .string p] w fun e w' => e = .returned (.bool (Pl.hasSuf s.toList p.toList)) ∧ w = w' := by
  unfold maxLen at hs hp
  have hv := suf_val s p
  by_cases h : p.size ≤ s.size
  all_goals
    rw [hv]
    clear hv
    go_enter Tryz.func123, Tryz.ntmps123
    go_wp2
    go_ret
    exact ⟨ret_bool (by simp [h]), rfl⟩
theorem hasPrefix (s p : ByteArray) (w : World) (hs : s.size ≤ maxLen) (hp : p.size ≤ maxLen) :
    Calls Tryz.prog 119 #[.string s, .string p] w fun e w' => e = .returned (.bool (Pl.hasPre s.toList p.toList)) ∧ w = w' := by
  go_enter Tryz.func119, Tryz.ntmps119
  go_wp2_with (go_at_call 122; refine (hasPrefix' _ _ _ hs hp).mono ?_; rintro e w' ⟨rfl, rfl⟩)
  go_ret
  exact ⟨rfl, rfl⟩
theorem hasSuffix (s p : ByteArray) (w : World) (hs : s.size ≤ maxLen) (hp : p.size ≤ maxLen) :
    Calls Tryz.prog 120 #[.string s, .string p] w fun e w' => e = .returned (.bool (Pl.hasSuf s.toList p.toList)) ∧ w = w' := by
  go_enter Tryz.func120, Tryz.ntmps120
  go_wp2_with (go_at_call 123; refine (hasSuffix' _ _ _ hs hp).mono ?_; rintro e w' ⟨rfl, rfl⟩)
  go_ret
  exact ⟨rfl, rfl⟩
theorem kinds1 (s p : ByteArray) (w : World) :
    Calls Tryz.prog 118 #[.string s, .string p] w fun e w' => e = .returned (.bool (s.toList == p.toList)) ∧ w = w' := by
  go_enter Tryz.func118, Tryz.ntmps118
  go_wp2
  go_ret
  exact ⟨rfl, rfl⟩
theorem kinds2 (s p : ByteArray) (w : World) :
    Calls Tryz.prog 121 #[.string s, .string p] w fun e w' => e = .returned (.bool (!s.toList.isEmpty)) ∧ w = w' := by
  go_enter Tryz.func121, Tryz.ntmps121
  go_wp2
  go_ret
  exact ⟨ret_bool (by simp), rfl⟩
def kindsV : Value := .agg #[.nilFunc, .string ⟨#[]⟩, .string ⟨#[]⟩, .func (.func 118) #[] #[], .string ⟨#[]⟩, .string ⟨#[]⟩, .func (.func 119) #[] #[], .string ⟨#[]⟩, .string ⟨#[42]⟩, .func (.func 120) #[] #[], .string ⟨#[42]⟩, .string ⟨#[]⟩, .func (.func 121) #[] #[], .string ⟨#[42]⟩, .string ⟨#[]⟩]
set_option maxHeartbeats 400000 in
theorem kinds (w : World) :
    Calls Tryz.prog 117 #[] w fun e w' => e = .returned kindsV ∧ Lo w w' := by
  go_enter Tryz.func117, Tryz.ntmps117
  go_wp2
  go_outline
  exact bodyPost_ret (v := kindsV) (by simp [results, Tryz.results117, go_sem, kindsV]) rfl ⟨rfl, (by repeat (first | exact Lo.refl _ | assumption | refine Lo.drew ?_ | refine Lo.alloc ?_ _ | refine Lo.setCell ?_ (by first | (dsimp only; omega) | (simp; omega) | (simp; done)) _ | refine Lo.trans ?_ (by assumption)))⟩
end Go.Proofs.YtnclifgiakmmoaaGreat.WMatch

/- Rows of terms in memory. -/
namespace Go.Proofs.YtnclifgiakmmoaaGreat.WMatch
set_option linter.unusedVariables false
set_option linter.unusedSimpArgs false
open Go.RowKit Mem BigFrame

def TermR : Rel Pl.Term := fun _ _ t cs => cs = [.int .i64 t.k, .string t.s] ∧ t.s.size ≤ maxLen
theorem TermR.kept : Kept TermR := fun _ _ _ _ _ _ h _ _ => h
def Terms (B : Nat) (w : World) (A : Option Addr) (ts : List Pl.Term) : Prop := SliceAt TermR 2 B w A ts
theorem Terms.at_ {B : Nat} {w : World} {A : Option Addr} {ts : List Pl.Term} (h : Terms B w A ts) {k : Nat} (hk : k < ts.length) :
    ∃ b off, A = some ⟨b, off, none⟩ ∧ b < B ∧ w.cell? ⟨b, off + k * 2, none⟩ = some (.int .i64 ts[k].k) ∧ w.cell? ⟨b, off + k * 2 + 1, none⟩ = some (.string ts[k].s) ∧ ts[k].s.size ≤ maxLen := by
  obtain ⟨b, off, cs, hA, hb, hl, hc, hr, hz⟩ := h k ts[k] (List.getElem?_eq_getElem hk)
  subst hr
  exact ⟨b, off, hA, hb, hc 0 _ rfl, hc 1 _ rfl, hz⟩
theorem Terms.lo {B : Nat} {w w' : World} {A : Option Addr} {ts : List Pl.Term} (h : Terms B w A ts) (hb : Lo w w') (hB : B ≤ w.heap.size) : Terms B w' A ts := SliceAt.lo TermR.kept h hb hB

end Go.Proofs.YtnclifgiakmmoaaGreat.WMatch

/- Rows of terms opened. -/
namespace Go.Proofs.YtnclifgiakmmoaaGreat.Opn
set_option linter.unusedVariables false
set_option linter.unusedSimpArgs false
open Go.RowKit Go.WideShapes Go.ChangeShapes Go.Joins Mem WMatch

instance : Inhabited Pl.Term := ⟨⟨0, ⟨#[]⟩⟩⟩
theorem cells_int : Tryz.prog.cellsOf 3 = 1 := by kernel_rfl
theorem cells_string : Tryz.prog.cellsOf 9 = 1 := by kernel_rfl
set_option maxRecDepth 100000 in
theorem term_opens : Opens 79 TermR := by
  intro H enc w base spare held fuel cs x h
  obtain ⟨xs, n, _, hx, hlen, hxl, hf⟩ := DataW.trod_struct Tryz.underlying79 h
  have hl2 : cs.length = 2 := hlen.trans Post.Tryz.cellsTerm
  obtain ⟨c0, c1, rfl⟩ : ∃ c0 c1, cs = [c0, c1] := by
    match cs, hl2 with
    | [c0, c1], _ => exact ⟨c0, c1, rfl⟩
  obtain ⟨y0, y1, rfl⟩ : ∃ y0 y1, xs = [y0, y1] := by
    match xs, hxl with
    | [y0, y1], _ => exact ⟨y0, y1, rfl⟩
  have f0 := hf 0 _ rfl
  have f1 := hf 1 _ rfl
  simp [cells_int, cells_string] at f0 f1
  obtain ⟨k, e0, _, _⟩ := DataW.trod_int Tryz.underlying3 (x := y0) (by simpa using f0)
  obtain ⟨s, e1, _, ws⟩ := DataW.trod_string Tryz.underlying9 (x := y1) (by simpa using f1)
  simp at e0 e1
  subst e0 e1
  exact ⟨⟨k, s⟩, rfl, ws⟩
end Go.Proofs.YtnclifgiakmmoaaGreat.Opn

/- Policies in memory: relations, kept, opened. -/
namespace Go.Proofs.YtnclifgiakmmoaaGreat.Pl
set_option linter.unusedVariables false
set_option linter.unusedSimpArgs false
structure Cidr where
  addr : Int
  bits : Int
deriving Inhabited
structure Source where
  names : List Term
  spaces : List Term
  nets : List Cidr
deriving Inhabited
structure Target where
  ports : List Int
  methods : List Term
  paths : List Term
  hosts : List Term
deriving Inhabited
structure When where
  head : ByteArray
  terms : List Term
deriving Inhabited
structure Rule where
  from_ : List Source
  to_ : List Target
  when_ : List When
deriving Inhabited
structure Policy where
  id : Int
  ns : ByteArray
  service : Int
  deny : Int
  rules : List Rule
deriving Inhabited
structure Head where
  name : ByteArray
  value : ByteArray
deriving Inhabited

end Go.Proofs.YtnclifgiakmmoaaGreat.Pl
namespace Go.Proofs.YtnclifgiakmmoaaGreat.Mem
set_option linter.unusedVariables false
set_option linter.unusedSimpArgs false
open Go.RowKit

/-- one cell, a slice -/
def SliceC {α : Type} (R : Rel α) (sz : Nat) : Rel (List α) := fun B w xs cs => ∃ A cap, cs = [.slice A xs.length cap] ∧ SliceAt R sz B w A xs ∧ xs.length ≤ cap ∧ cap ≤ maxLen
theorem SliceC.kept {α : Type} {R : Rel α} {sz : Nat} (hR : Kept R) : Kept (SliceC R sz) := by
  rintro B B' w w' x cs ⟨A, cap, rfl, h, h1, h2⟩ hk hB
  exact ⟨A, cap, rfl, h.keep hR hk hB, h1, h2⟩
/-- one cell, a number -/
def IntC (k : IntKind) : Rel Int := fun _ _ x cs => cs = [.int k x] ∧ (Lit.int k x).wf = true
theorem IntC.kept (k : IntKind) : Kept (IntC k) := fun _ _ _ _ _ _ h _ _ => h
/-- one cell, a text -/
def StrC : Rel ByteArray := fun _ _ s cs => cs = [.string s] ∧ s.size ≤ maxLen
theorem StrC.kept : Kept StrC := fun _ _ _ _ _ _ h _ _ => h
end Go.Proofs.YtnclifgiakmmoaaGreat.Mem
namespace Go.Proofs.YtnclifgiakmmoaaGreat.Opn
set_option linter.unusedVariables false
set_option linter.unusedSimpArgs false
open Go.RowKit Go.WideShapes Go.ChangeShapes Go.Joins Mem WMatch
set_option maxRecDepth 100000

theorem opens_int {t : TypeId} {k : IntKind} (ht : Tryz.prog.underlying t = some (.int k)) : Opens t (IntC k) := by
  intro H enc w base spare held fuel cs x h
  obtain ⟨n, rfl, _, hw⟩ := DataW.trod_int ht h
  exact ⟨n, rfl, hw⟩
theorem opens_str {t : TypeId} (ht : Tryz.prog.underlying t = some .string) : Opens t StrC := by
  intro H enc w base spare held fuel cs x h
  obtain ⟨s, rfl, _, hw⟩ := DataW.trod_string ht h
  exact ⟨s, rfl, hw⟩
theorem opens_slice {α : Type} [Inhabited α] {t e sz : Nat} {R : Rel α} (ht : Tryz.prog.underlying t = some (.slice e)) (hC : Tryz.prog.cellsOf e = sz) (hsz : 0 < sz) (hR : Opens e R) : Opens t (SliceC R sz) := by
  intro H enc w base spare held fuel cs x h
  obtain ⟨A, cap, xs, rfl, hA, h1, h2⟩ := slice_opens ht hC hsz hR h
  exact ⟨xs, A, cap, rfl, hA, h1, h2⟩
/-- a slice handed in -/
theorem open_slice_arg {α : Type} {t e : TypeId} {R : Rel α} {sz : Nat} (ht : Tryz.prog.underlying t = some (.slice e)) (hO : Opens t (SliceC R sz)) {H : Type} {enc : TypeId × Value → H} {w : World} {r : Reach} {b0 base : Nat} {spare : Nat → Bool} {held : Bool} {v : Value} {d : DataW H} {p : List MemPlace}
    (hv : Value.okWide Tryz.prog w r b0 t v) (h : DataW.Trod enc Tryz.prog w base spare held t v d p) :
    ∃ (A : Option Addr) (cap : Nat) (xs : List α), v = .slice A xs.length cap ∧ SliceAt R sz w.heap.size w A xs ∧ xs.length ≤ cap ∧ cap ≤ maxLen := by
  obtain ⟨a, len, c, rfl⟩ := okWide_slice ht hv
  obtain ⟨fuel, hf⟩ := h
  obtain ⟨xs, A, cap, hcs, hA, h1, h2⟩ := hO H enc w base spare held fuel _ _ hf
  simp [Value.cells] at hcs
  obtain ⟨rfl, rfl, rfl⟩ := hcs
  exact ⟨_, _, xs, rfl, hA, h1, h2⟩
theorem cells_Term : Tryz.prog.cellsOf 79 = 2 := Post.Tryz.cellsTerm
theorem one_int : Tryz.prog.cellsOf 3 = 1 := by kernel_rfl
theorem one_string : Tryz.prog.cellsOf 9 = 1 := by kernel_rfl
theorem one_uint32 : Tryz.prog.cellsOf 31 = 1 := by kernel_rfl
theorem one_uint64 : Tryz.prog.cellsOf 40 = 1 := by kernel_rfl
theorem one_l_int : Tryz.prog.cellsOf 62 = 1 := by kernel_rfl
theorem one_l_api_Term : Tryz.prog.cellsOf 58 = 1 := by kernel_rfl
theorem one_l_api_Cidr : Tryz.prog.cellsOf 59 = 1 := by kernel_rfl
theorem one_l_api_Source : Tryz.prog.cellsOf 23 = 1 := by kernel_rfl
theorem one_l_api_Target : Tryz.prog.cellsOf 24 = 1 := by kernel_rfl
theorem one_l_api_When : Tryz.prog.cellsOf 25 = 1 := by kernel_rfl
theorem one_l_api_Rule : Tryz.prog.cellsOf 41 = 1 := by kernel_rfl
def CidrR : Rel Pl.Cidr := fun B w x cs => ∃ c0 c1, cs = [c0, c1] ∧ (IntC .u32) B w x.addr [c0] ∧ (IntC .i64) B w x.bits [c1]
theorem CidrR.kept : Kept CidrR := by
  rintro B B' w w' x cs ⟨c0, c1, rfl, h0, h1⟩ hk hB
  exact ⟨c0, c1, rfl, (IntC.kept .u32) _ _ _ _ _ _ h0 hk hB, (IntC.kept .i64) _ _ _ _ _ _ h1 hk hB⟩
theorem cells_Cidr : Tryz.prog.cellsOf 89 = 2 := by kernel_rfl
set_option maxRecDepth 100000 in
theorem cidr_opens : Opens 89 CidrR := by
  intro H enc w base spare held fuel cs x h
  obtain ⟨xs, n, _, hx, hlen, hxl, hf⟩ := DataW.trod_struct Tryz.underlying89 h
  have hl := hlen.trans cells_Cidr
  obtain ⟨c0, c1, rfl⟩ : ∃ c0 c1, cs = [c0, c1] := by
    match cs, hl with
    | [c0, c1], _ => exact ⟨c0, c1, rfl⟩
  obtain ⟨y0, y1, rfl⟩ : ∃ y0 y1, xs = [y0, y1] := by
    match xs, hxl with
    | [y0, y1], _ => exact ⟨y0, y1, rfl⟩
  have f0 : DataW.trod enc Tryz.prog w base spare held n 31 [c0] = some y0 := by
    have := hf 0 _ rfl
    simpa [one_uint32] using this
  obtain ⟨v0, r0⟩ := (opens_int Tryz.underlying31) H enc w base spare held n [c0] y0 f0
  have f1 : DataW.trod enc Tryz.prog w base spare held n 3 [c1] = some y1 := by
    have := hf 1 _ rfl
    simpa [one_int] using this
  obtain ⟨v1, r1⟩ := (opens_int Tryz.underlying3) H enc w base spare held n [c1] y1 f1
  exact ⟨⟨v0, v1⟩, c0, c1, rfl, r0, r1⟩
def SourceR : Rel Pl.Source := fun B w x cs => ∃ c0 c1 c2, cs = [c0, c1, c2] ∧ (SliceC TermR 2) B w x.names [c0] ∧ (SliceC TermR 2) B w x.spaces [c1] ∧ (SliceC CidrR 2) B w x.nets [c2]
theorem SourceR.kept : Kept SourceR := by
  rintro B B' w w' x cs ⟨c0, c1, c2, rfl, h0, h1, h2⟩ hk hB
  exact ⟨c0, c1, c2, rfl, (SliceC.kept TermR.kept) _ _ _ _ _ _ h0 hk hB, (SliceC.kept TermR.kept) _ _ _ _ _ _ h1 hk hB, (SliceC.kept CidrR.kept) _ _ _ _ _ _ h2 hk hB⟩
theorem cells_Source : Tryz.prog.cellsOf 61 = 3 := by kernel_rfl
set_option maxRecDepth 100000 in
theorem source_opens : Opens 61 SourceR := by
  intro H enc w base spare held fuel cs x h
  obtain ⟨xs, n, _, hx, hlen, hxl, hf⟩ := DataW.trod_struct Tryz.underlying61 h
  have hl := hlen.trans cells_Source
  obtain ⟨c0, c1, c2, rfl⟩ : ∃ c0 c1 c2, cs = [c0, c1, c2] := by
    match cs, hl with
    | [c0, c1, c2], _ => exact ⟨c0, c1, c2, rfl⟩
  obtain ⟨y0, y1, y2, rfl⟩ : ∃ y0 y1 y2, xs = [y0, y1, y2] := by
    match xs, hxl with
    | [y0, y1, y2], _ => exact ⟨y0, y1, y2, rfl⟩
  have f0 : DataW.trod enc Tryz.prog w base spare held n 58 [c0] = some y0 := by
    have := hf 0 _ rfl
    simpa [one_l_api_Term] using this
  obtain ⟨v0, r0⟩ := (opens_slice (R := TermR) Tryz.underlying58 cells_Term (by omega) term_opens) H enc w base spare held n [c0] y0 f0
  have f1 : DataW.trod enc Tryz.prog w base spare held n 58 [c1] = some y1 := by
    have := hf 1 _ rfl
    simpa [one_l_api_Term] using this
  obtain ⟨v1, r1⟩ := (opens_slice (R := TermR) Tryz.underlying58 cells_Term (by omega) term_opens) H enc w base spare held n [c1] y1 f1
  have f2 : DataW.trod enc Tryz.prog w base spare held n 59 [c2] = some y2 := by
    have := hf 2 _ rfl
    simpa [one_l_api_Cidr] using this
  obtain ⟨v2, r2⟩ := (opens_slice (R := CidrR) Tryz.underlying59 cells_Cidr (by omega) cidr_opens) H enc w base spare held n [c2] y2 f2
  exact ⟨⟨v0, v1, v2⟩, c0, c1, c2, rfl, r0, r1, r2⟩
def TargetR : Rel Pl.Target := fun B w x cs => ∃ c0 c1 c2 c3, cs = [c0, c1, c2, c3] ∧ (SliceC (IntC .i64) 1) B w x.ports [c0] ∧ (SliceC TermR 2) B w x.methods [c1] ∧ (SliceC TermR 2) B w x.paths [c2] ∧ (SliceC TermR 2) B w x.hosts [c3]
theorem TargetR.kept : Kept TargetR := by
  rintro B B' w w' x cs ⟨c0, c1, c2, c3, rfl, h0, h1, h2, h3⟩ hk hB
  exact ⟨c0, c1, c2, c3, rfl, (SliceC.kept (IntC.kept .i64)) _ _ _ _ _ _ h0 hk hB, (SliceC.kept TermR.kept) _ _ _ _ _ _ h1 hk hB, (SliceC.kept TermR.kept) _ _ _ _ _ _ h2 hk hB, (SliceC.kept TermR.kept) _ _ _ _ _ _ h3 hk hB⟩
theorem cells_Target : Tryz.prog.cellsOf 64 = 4 := by kernel_rfl
set_option maxRecDepth 100000 in
theorem target_opens : Opens 64 TargetR := by
  intro H enc w base spare held fuel cs x h
  obtain ⟨xs, n, _, hx, hlen, hxl, hf⟩ := DataW.trod_struct Tryz.underlying64 h
  have hl := hlen.trans cells_Target
  obtain ⟨c0, c1, c2, c3, rfl⟩ : ∃ c0 c1 c2 c3, cs = [c0, c1, c2, c3] := by
    match cs, hl with
    | [c0, c1, c2, c3], _ => exact ⟨c0, c1, c2, c3, rfl⟩
  obtain ⟨y0, y1, y2, y3, rfl⟩ : ∃ y0 y1 y2 y3, xs = [y0, y1, y2, y3] := by
    match xs, hxl with
    | [y0, y1, y2, y3], _ => exact ⟨y0, y1, y2, y3, rfl⟩
  have f0 : DataW.trod enc Tryz.prog w base spare held n 62 [c0] = some y0 := by
    have := hf 0 _ rfl
    simpa [one_l_int] using this
  obtain ⟨v0, r0⟩ := (opens_slice (R := IntC .i64) Tryz.underlying62 cells_int (by omega) (opens_int Tryz.underlying3)) H enc w base spare held n [c0] y0 f0
  have f1 : DataW.trod enc Tryz.prog w base spare held n 58 [c1] = some y1 := by
    have := hf 1 _ rfl
    simpa [one_l_api_Term] using this
  obtain ⟨v1, r1⟩ := (opens_slice (R := TermR) Tryz.underlying58 cells_Term (by omega) term_opens) H enc w base spare held n [c1] y1 f1
  have f2 : DataW.trod enc Tryz.prog w base spare held n 58 [c2] = some y2 := by
    have := hf 2 _ rfl
    simpa [one_l_api_Term] using this
  obtain ⟨v2, r2⟩ := (opens_slice (R := TermR) Tryz.underlying58 cells_Term (by omega) term_opens) H enc w base spare held n [c2] y2 f2
  have f3 : DataW.trod enc Tryz.prog w base spare held n 58 [c3] = some y3 := by
    have := hf 3 _ rfl
    simpa [one_l_api_Term] using this
  obtain ⟨v3, r3⟩ := (opens_slice (R := TermR) Tryz.underlying58 cells_Term (by omega) term_opens) H enc w base spare held n [c3] y3 f3
  exact ⟨⟨v0, v1, v2, v3⟩, c0, c1, c2, c3, rfl, r0, r1, r2, r3⟩
def WhenR : Rel Pl.When := fun B w x cs => ∃ c0 c1, cs = [c0, c1] ∧ StrC B w x.head [c0] ∧ (SliceC TermR 2) B w x.terms [c1]
theorem WhenR.kept : Kept WhenR := by
  rintro B B' w w' x cs ⟨c0, c1, rfl, h0, h1⟩ hk hB
  exact ⟨c0, c1, rfl, StrC.kept _ _ _ _ _ _ h0 hk hB, (SliceC.kept TermR.kept) _ _ _ _ _ _ h1 hk hB⟩
theorem cells_When : Tryz.prog.cellsOf 66 = 2 := by kernel_rfl
set_option maxRecDepth 100000 in
theorem when_opens : Opens 66 WhenR := by
  intro H enc w base spare held fuel cs x h
  obtain ⟨xs, n, _, hx, hlen, hxl, hf⟩ := DataW.trod_struct Tryz.underlying66 h
  have hl := hlen.trans cells_When
  obtain ⟨c0, c1, rfl⟩ : ∃ c0 c1, cs = [c0, c1] := by
    match cs, hl with
    | [c0, c1], _ => exact ⟨c0, c1, rfl⟩
  obtain ⟨y0, y1, rfl⟩ : ∃ y0 y1, xs = [y0, y1] := by
    match xs, hxl with
    | [y0, y1], _ => exact ⟨y0, y1, rfl⟩
  have f0 : DataW.trod enc Tryz.prog w base spare held n 9 [c0] = some y0 := by
    have := hf 0 _ rfl
    simpa [one_string] using this
  obtain ⟨v0, r0⟩ := (opens_str Tryz.underlying9) H enc w base spare held n [c0] y0 f0
  have f1 : DataW.trod enc Tryz.prog w base spare held n 58 [c1] = some y1 := by
    have := hf 1 _ rfl
    simpa [one_l_api_Term] using this
  obtain ⟨v1, r1⟩ := (opens_slice (R := TermR) Tryz.underlying58 cells_Term (by omega) term_opens) H enc w base spare held n [c1] y1 f1
  exact ⟨⟨v0, v1⟩, c0, c1, rfl, r0, r1⟩
def RuleR : Rel Pl.Rule := fun B w x cs => ∃ c0 c1 c2, cs = [c0, c1, c2] ∧ (SliceC SourceR 3) B w x.from_ [c0] ∧ (SliceC TargetR 4) B w x.to_ [c1] ∧ (SliceC WhenR 2) B w x.when_ [c2]
theorem RuleR.kept : Kept RuleR := by
  rintro B B' w w' x cs ⟨c0, c1, c2, rfl, h0, h1, h2⟩ hk hB
  exact ⟨c0, c1, c2, rfl, (SliceC.kept SourceR.kept) _ _ _ _ _ _ h0 hk hB, (SliceC.kept TargetR.kept) _ _ _ _ _ _ h1 hk hB, (SliceC.kept WhenR.kept) _ _ _ _ _ _ h2 hk hB⟩
theorem cells_Rule : Tryz.prog.cellsOf 27 = 3 := by kernel_rfl
set_option maxRecDepth 100000 in
theorem rule_opens : Opens 27 RuleR := by
  intro H enc w base spare held fuel cs x h
  obtain ⟨xs, n, _, hx, hlen, hxl, hf⟩ := DataW.trod_struct Tryz.underlying27 h
  have hl := hlen.trans cells_Rule
  obtain ⟨c0, c1, c2, rfl⟩ : ∃ c0 c1 c2, cs = [c0, c1, c2] := by
    match cs, hl with
    | [c0, c1, c2], _ => exact ⟨c0, c1, c2, rfl⟩
  obtain ⟨y0, y1, y2, rfl⟩ : ∃ y0 y1 y2, xs = [y0, y1, y2] := by
    match xs, hxl with
    | [y0, y1, y2], _ => exact ⟨y0, y1, y2, rfl⟩
  have f0 : DataW.trod enc Tryz.prog w base spare held n 23 [c0] = some y0 := by
    have := hf 0 _ rfl
    simpa [one_l_api_Source] using this
  obtain ⟨v0, r0⟩ := (opens_slice (R := SourceR) Tryz.underlying23 cells_Source (by omega) source_opens) H enc w base spare held n [c0] y0 f0
  have f1 : DataW.trod enc Tryz.prog w base spare held n 24 [c1] = some y1 := by
    have := hf 1 _ rfl
    simpa [one_l_api_Target] using this
  obtain ⟨v1, r1⟩ := (opens_slice (R := TargetR) Tryz.underlying24 cells_Target (by omega) target_opens) H enc w base spare held n [c1] y1 f1
  have f2 : DataW.trod enc Tryz.prog w base spare held n 25 [c2] = some y2 := by
    have := hf 2 _ rfl
    simpa [one_l_api_When] using this
  obtain ⟨v2, r2⟩ := (opens_slice (R := WhenR) Tryz.underlying25 cells_When (by omega) when_opens) H enc w base spare held n [c2] y2 f2
  exact ⟨⟨v0, v1, v2⟩, c0, c1, c2, rfl, r0, r1, r2⟩
def PolicyR : Rel Pl.Policy := fun B w x cs => ∃ c0 c1 c2 c3 c4, cs = [c0, c1, c2, c3, c4] ∧ (IntC .u64) B w x.id [c0] ∧ StrC B w x.ns [c1] ∧ (IntC .u64) B w x.service [c2] ∧ (IntC .i64) B w x.deny [c3] ∧ (SliceC RuleR 3) B w x.rules [c4]
theorem PolicyR.kept : Kept PolicyR := by
  rintro B B' w w' x cs ⟨c0, c1, c2, c3, c4, rfl, h0, h1, h2, h3, h4⟩ hk hB
  exact ⟨c0, c1, c2, c3, c4, rfl, (IntC.kept .u64) _ _ _ _ _ _ h0 hk hB, StrC.kept _ _ _ _ _ _ h1 hk hB, (IntC.kept .u64) _ _ _ _ _ _ h2 hk hB, (IntC.kept .i64) _ _ _ _ _ _ h3 hk hB, (SliceC.kept RuleR.kept) _ _ _ _ _ _ h4 hk hB⟩
theorem cells_Policy : Tryz.prog.cellsOf 43 = 5 := by kernel_rfl
set_option maxRecDepth 100000 in
theorem policy_opens : Opens 43 PolicyR := by
  intro H enc w base spare held fuel cs x h
  obtain ⟨xs, n, _, hx, hlen, hxl, hf⟩ := DataW.trod_struct Tryz.underlying43 h
  have hl := hlen.trans cells_Policy
  obtain ⟨c0, c1, c2, c3, c4, rfl⟩ : ∃ c0 c1 c2 c3 c4, cs = [c0, c1, c2, c3, c4] := by
    match cs, hl with
    | [c0, c1, c2, c3, c4], _ => exact ⟨c0, c1, c2, c3, c4, rfl⟩
  obtain ⟨y0, y1, y2, y3, y4, rfl⟩ : ∃ y0 y1 y2 y3 y4, xs = [y0, y1, y2, y3, y4] := by
    match xs, hxl with
    | [y0, y1, y2, y3, y4], _ => exact ⟨y0, y1, y2, y3, y4, rfl⟩
  have f0 : DataW.trod enc Tryz.prog w base spare held n 40 [c0] = some y0 := by
    have := hf 0 _ rfl
    simpa [one_uint64] using this
  obtain ⟨v0, r0⟩ := (opens_int Tryz.underlying40) H enc w base spare held n [c0] y0 f0
  have f1 : DataW.trod enc Tryz.prog w base spare held n 9 [c1] = some y1 := by
    have := hf 1 _ rfl
    simpa [one_string] using this
  obtain ⟨v1, r1⟩ := (opens_str Tryz.underlying9) H enc w base spare held n [c1] y1 f1
  have f2 : DataW.trod enc Tryz.prog w base spare held n 40 [c2] = some y2 := by
    have := hf 2 _ rfl
    simpa [one_uint64] using this
  obtain ⟨v2, r2⟩ := (opens_int Tryz.underlying40) H enc w base spare held n [c2] y2 f2
  have f3 : DataW.trod enc Tryz.prog w base spare held n 3 [c3] = some y3 := by
    have := hf 3 _ rfl
    simpa [one_int] using this
  obtain ⟨v3, r3⟩ := (opens_int Tryz.underlying3) H enc w base spare held n [c3] y3 f3
  have f4 : DataW.trod enc Tryz.prog w base spare held n 41 [c4] = some y4 := by
    have := hf 4 _ rfl
    simpa [one_l_api_Rule] using this
  obtain ⟨v4, r4⟩ := (opens_slice (R := RuleR) Tryz.underlying41 cells_Rule (by omega) rule_opens) H enc w base spare held n [c4] y4 f4
  exact ⟨⟨v0, v1, v2, v3, v4⟩, c0, c1, c2, c3, c4, rfl, r0, r1, r2, r3, r4⟩
def HeadR : Rel Pl.Head := fun B w x cs => ∃ c0 c1, cs = [c0, c1] ∧ StrC B w x.name [c0] ∧ StrC B w x.value [c1]
theorem HeadR.kept : Kept HeadR := by
  rintro B B' w w' x cs ⟨c0, c1, rfl, h0, h1⟩ hk hB
  exact ⟨c0, c1, rfl, StrC.kept _ _ _ _ _ _ h0 hk hB, StrC.kept _ _ _ _ _ _ h1 hk hB⟩
end Go.Proofs.YtnclifgiakmmoaaGreat.Opn
