/- Rows of terms in memory. -/
import Derived.Test.YtlcecabfmemfeaaWMatch8
namespace Go.Proofs.Ytlcecabfmemfeaa.WMatch
set_option linter.unusedVariables false
set_option linter.unusedSimpArgs false
open Go.RowKit Mem BigFrame

def TermR : Rel Pl.Term := fun _ _ t cs => cs = [.int .i64 t.k, .string t.s] ∧ t.s.size ≤ maxLen
theorem TermR.kept : Kept TermR := fun _ _ _ _ _ _ h _ _ => h
def Terms (B : Nat) (w : World) (A : Option Addr) (ts : List Pl.Term) : Prop := SliceAt TermR 2 B w A ts
theorem Terms.at_ {B : Nat} {w : World} {A : Option Addr} {ts : List Pl.Term} (h : Terms B w A ts) {k : Nat} (hk : k < ts.length) :
    ∃ b off, A = some ⟨b, off, none⟩ ∧ b < B ∧ w.cell? ⟨b, off + k * 2, none⟩ = some (.int .i64 ts[k].k) ∧ w.cell? ⟨b, off + k * 2 + 1, none⟩ = some (.string ts[k].s) ∧ ts[k].s.size ≤ maxLen := by
  obtain ⟨b, off, cs, hA, hb, hl, hc, hr, hz⟩ := h k ts[k] (List.getElem?_eq_getElem hk)
  subst hr
  exact ⟨b, off, hA, hb, hc 0 _ rfl, hc 1 _ rfl, hz⟩
theorem Terms.lo {B : Nat} {w w' : World} {A : Option Addr} {ts : List Pl.Term} (h : Terms B w A ts) (hb : Lo w w') (hB : B ≤ w.heap.size) : Terms B w' A ts := SliceAt.lo TermR.kept h hb hB

def termCells (t : Pl.Term) : List Value := [.int .i64 t.k, .string t.s]
theorem Terms.of_block {b : Nat} {w : World} {ts : List Pl.Term} {fr : Nat × Nat} {cs : Array Value} (h : w.heap[b]? = some (.cells cs 23 fr)) (hcs : ∀ (i : Nat) v, (ts.flatMap termCells)[i]? = some v → cs[i]? = some v) (hz : ∀ t ∈ ts, t.s.size ≤ maxLen) :
    Terms w.heap.size w (some ⟨b, 0, none⟩) ts := SliceAt.of_block (f := termCells) (fun _ => rfl) h hcs fun x hx => ⟨rfl, hz x hx⟩
theorem Terms.of_new {b : Nat} {w : World} {ts : List Pl.Term} {fr : Nat × Nat} (h : w.heap[b]? = some (.cells (ts.flatMap termCells).toArray 23 fr)) (hz : ∀ t ∈ ts, t.s.size ≤ maxLen) :
    Terms w.heap.size w (some ⟨b, 0, none⟩) ts := Terms.of_block h (fun i v hv => by simpa using hv) hz
/-- what Parse gives -/
def parW : Option (Int × Pl.Bs) → Value
  | some (k, t) => .tuple #[.agg #[.int .i64 k, .string (bs t)], .int .i64 0]
  | none => .tuple #[.agg #[.int .i64 0, .string ⟨#[]⟩], .int .i64 2]
theorem any_bad {α : Type} {l : List α} {p : α → Bool} {n : Nat} (hn : n < l.length) (hp : p l[n] = true) : l.any p = true := by
  rw [List.any_eq_true]; exact ⟨l[n], List.getElem_mem hn, hp⟩
theorem any_snoc {α : Type} {l : List α} {p : α → Bool} {n : Nat} (h : (l.take n).any p = false) (hn : n < l.length) (hp : p l[n] = false) : (l.take (n + 1)).any p = false := by
  rw [List.take_succ_eq_append_getElem hn, List.any_append, h]; simp [hp]

set_option maxHeartbeats 800000 in
theorem long (s : ByteArray) (A : Option Addr) (cap : Nat) (ts : List Pl.Term) (w : World) (hA : Terms w.heap.size w A ts) (hs : s.size ≤ maxLen) (hn : ts.length ≤ maxLen) :
    Calls Try.prog 16 #[.string s, .slice A ts.length cap] w fun e w' => e = .returned (.bool (Pl.longT s ts)) ∧ w = w' := by
  unfold maxLen at hs hn
  by_cases h1 : 3000 < s.size
  · have hv : Pl.longT s ts = true := by simp [Pl.longT, h1]
    rw [hv]
    clear hv
    go_enter Try.func16, Try.ntmps16
    go_wp2
    go_ret
    exact ⟨rfl, rfl⟩
  · by_cases h2 : 60 < ts.length
    · have hv : Pl.longT s ts = true := by simp [Pl.longT, h2]
      rw [hv]
      clear hv
      go_enter Try.func16, Try.ntmps16
      go_wp2
      go_ret
      exact ⟨rfl, rfl⟩
    · have hv : Pl.longT s ts = ts.any (fun t => decide (1000 < t.s.size)) := by simp [Pl.longT, h1, h2]
      rw [hv]
      clear hv
      go_enter Try.func16, Try.ntmps16
      go_wp2
      go_loop [5] (fun i => ∃ k : Nat, k ≤ ts.length ∧ i = .int .i64 k ∧ (ts.take k).any (fun t => decide (1000 < t.s.size)) = false) (fun i => ts.length - (intOf i).toNat)
      case atStart => exact ⟨0, Nat.zero_le _, rfl, rfl⟩
      case round =>
        obtain ⟨k, hk, rfl, hall⟩ := hrel
        have HA := Lib.hid hall
        clear hall
        by_cases hlt : k < ts.length
        · obtain ⟨b, off, rfl, hb, hc0, hc1, hz⟩ := hA.at_ hlt
          unfold maxLen at hz
          go_wp2
          all_goals first
            | (go_ret
               exact ⟨ret_bool (by rw [any_bad hlt (by simp; omega)]), rfl⟩)
            | (go_round
               case rel => exact ⟨k + 1, by omega, by go_num, any_snoc HA.out hlt (by simp; omega)⟩
               case measure => simp [intOf]; omega)
        · have HF := HA.out
          rw [List.take_of_length_le (by omega)] at HF
          have HG := Lib.hid HF
          clear HF
          go_wp2
          go_ret
          exact ⟨ret_bool (by rw [HG.out]), rfl⟩

theorem parse (s : ByteArray) (w : World) (hs : s.size ≤ maxLen) :
    Calls Try.prog 25 #[.string s] w fun e w' => e = .returned (parW (Pl.parse s.toList)) ∧ Lo w w' := by
  have tl42 : (⟨#[42]⟩ : ByteArray).toList = [42] := ByteArray.toList_mk [42]
  have par : ∀ (k : Int) (t : ByteArray), Pl.guess s.toList = (k, t.toList) → ∀ m, Pl.may k t.toList = m → parW (Pl.parse s.toList) = parV k t m := by
    intro k t hg m hm
    unfold Pl.parse
    rw [hg]
    simp only [hm]
    cases m
    · rfl
    · simp [parW, parV, toList_bs]
  have hex : (s.extract 1 s.size).size ≤ maxLen := by rw [← toList_len, extract_list]; simp [toList_len]; omega
  have hex2 : (s.extract 0 (s.size - 1)).size ≤ maxLen := by rw [← toList_len, extract_list]; simp [toList_len]; omega
  cases hl : s.toList with
  | nil =>
    have hg : Pl.guess s.toList = (1, s.toList) := by rw [hl]; rfl
    have hp : Pl.hasPre s.toList (⟨#[42]⟩ : ByteArray).toList = false := by rw [hl, tl42]; rfl
    have hsf : Pl.hasSuf s.toList (⟨#[42]⟩ : ByteArray).toList = false := by rw [hl, tl42]; rfl
    rw [← hl]
    cases hm : Pl.may 1 s.toList with
    | false => rw [par 1 s hg _ hm]; exact parse_d_false s w hs hp hsf hm
    | true => rw [par 1 s hg _ hm]; exact parse_d_true s w hs hp hsf hm
  | cons c r =>
    have hr : (s.extract 1 s.size).toList = r := by
      rw [extract_list, hl]
      simp only [List.drop_succ_cons, List.drop_zero]
      rw [List.take_of_length_le]
      have := toList_len s
      rw [hl] at this; simp at this; omega
    by_cases hc : c = 42
    · subst hc
      have hp : Pl.hasPre s.toList (⟨#[42]⟩ : ByteArray).toList = true := by rw [hl, tl42, Pl.hasPre_iff]; exact ⟨r, rfl⟩
      cases he : r with
      | nil =>
        subst he
        have hm : Pl.may 4 (⟨#[]⟩ : ByteArray).toList = true := by rw [tl0]; rfl
        have hg : Pl.guess s.toList = (4, (⟨#[]⟩ : ByteArray).toList) := by rw [hl, tl0]; rfl
        rw [← hl, par 4 _ hg _ hm]
        exact parse_a s w hs hp (bs_inj (by rw [hr, tl0])) hm
      | cons x r' =>
        have hg : Pl.guess s.toList = (3, (s.extract 1 s.size).toList) := by rw [hr, hl, he]; rfl
        have h0 : (s.extract 1 s.size).toList.isEmpty = false := by rw [hr, he]; rfl
        rw [← he, ← hl]
        cases hm : Pl.may 3 (s.extract 1 s.size).toList with
        | false => rw [par 3 _ hg _ hm]; exact parse_b_false s w hs _ hex hp rfl h0 hm
        | true => rw [par 3 _ hg _ hm]; exact parse_b_true s w hs _ hex hp rfl h0 hm
    · have hp : Pl.hasPre s.toList (⟨#[42]⟩ : ByteArray).toList = false := by
        rw [hl, tl42, Bool.eq_false_iff, ne_eq, Pl.hasPre_iff]
        rintro ⟨t, ht⟩
        simp at ht; exact hc ht.1
      have hgu : Pl.guess s.toList = if Pl.hasSuf s.toList [42] then (2, s.toList.take (s.toList.length - 1)) else (1, s.toList) := by
        rw [hl]
        unfold Pl.guess
        split
        · rename_i h; simp at h; exact absurd h.1 hc
        · rfl
      rw [← hl]
      cases hsf : Pl.hasSuf s.toList [42] with
      | true =>
        have ht : s.toList.take (s.toList.length - 1) = (s.extract 0 (s.size - 1)).toList := by rw [extract_list, toList_len]; simp
        have hg : Pl.guess s.toList = (2, (s.extract 0 (s.size - 1)).toList) := by rw [hgu, hsf, if_pos rfl, ht]
        rw [← tl42] at hsf
        cases hm : Pl.may 2 (s.extract 0 (s.size - 1)).toList with
        | false => rw [par 2 _ hg _ hm]; exact parse_c_false s w hs _ hex2 hp hsf rfl hm
        | true => rw [par 2 _ hg _ hm]; exact parse_c_true s w hs _ hex2 hp hsf rfl hm
      | false =>
        have hg : Pl.guess s.toList = (1, s.toList) := by rw [hgu, hsf, if_neg Bool.false_ne_true]
        rw [← tl42] at hsf
        cases hm : Pl.may 1 s.toList with
        | false => rw [par 1 s hg _ hm]; exact parse_d_false s w hs hp hsf hm
        | true => rw [par 1 s hg _ hm]; exact parse_d_true s w hs hp hsf hm
end Go.Proofs.Ytlcecabfmemfeaa.WMatch
