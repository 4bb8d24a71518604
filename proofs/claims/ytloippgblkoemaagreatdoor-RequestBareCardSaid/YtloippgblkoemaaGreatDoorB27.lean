/- Merged by bundles.py: PlAll, PlPc, PlOf2. -/
import Derived.Test.YtloippgblkoemaaGreatDoorB20
import Derived.Test.YtloippgblkoemaaGreatDoorB21
/- The document's reader of messages, in plain Lean, and that it reads what the reader byte by byte reads. -/
namespace Go.Proofs.YtloippgblkoemaaGreatDoor.Rq
set_option linter.unusedVariables false
set_option linter.unusedSimpArgs false
open Go.RowKit Mem Sim Opn Hd Str
inductive LR where
  | ok (s rest : List UInt8)
  | wait
  | bad (e : Int)
def scan : List UInt8 → List UInt8 → LR
  | _, [] => .wait
  | acc, c :: l => if c.toNat = 10 then .bad 2 else if c.toNat = 13 then (match l with
      | [] => .wait
      | d :: l' => if d.toNat = 10 then .ok acc l' else .bad 2) else if 578 ≤ acc.length then .bad 6 else scan (acc ++ [c]) l
theorem scan_len : ∀ (l acc s rest : List UInt8), scan acc l = .ok s rest → rest.length + 2 ≤ l.length
  | [], acc, s, rest, h => by simp [scan] at h
  | c :: l, acc, s, rest, h => by
    unfold scan at h
    split at h
    · cases h
    · split at h
      · split at h
        · cases h
        · split at h
          · injection h with h1 h2; subst h2; simp
          · cases h
      · split at h
        · cases h
        · have := scan_len l _ s rest h
          rw [List.length_cons]; omega
theorem takeP_eq (r : PRd) (c : UInt8) : takeP r c = if c.toNat = 10 ∧ crP r.line = true then lineP { r with line := [] } (bs r.line.dropLast) else if c.toNat = 10 ∨ crP r.line = true then faultP r 2 else if c.toNat ≠ 13 ∧ 578 ≤ r.line.length then faultP r 6 else { r with line := r.line ++ [c] } := rfl
theorem scan_feed (r : PRd) (he : r.err = 0) (h2 : r.phase ≠ 2) (h4 : r.phase ≠ 4) : ∀ (l acc : List UInt8), crP acc = false →
    (∀ s rest, scan acc l = .ok s rest → feedP { r with line := acc } l = feedP (lineP { r with line := [] } (bs s)) rest) ∧
    (∀ e, scan acc l = .bad e → (feedP { r with line := acc } l).err = e ∧ (feedP { r with line := acc } l).out = r.out ∧ e ≠ 0) ∧
    (scan acc l = .wait → ∃ ln, feedP { r with line := acc } l = { r with line := ln } ∧ (ln = [] → acc = [] ∧ l = []))
  | [], acc, _ => ⟨fun s rest h => by simp [scan] at h, fun e h => by simp [scan] at h, fun _ => ⟨acc, rfl, fun h => ⟨h, rfl⟩⟩⟩
  | c :: l, acc, hc => by
    have e0 : feedP { r with line := acc } (c :: l) = feedP (takeP { r with line := acc } c) l := by
      show feedP (byteP { r with line := acc } c) l = _
      rw [byte_take { r with line := acc } he h2 h4]
    rw [e0]
    unfold scan
    by_cases h10 : c.toNat = 10
    · rw [if_pos h10]
      have e1 : takeP { r with line := acc } c = { r with line := acc, err := 2 } := by
        rw [takeP_eq, if_neg (by simp [hc]), if_pos (.inl h10)]; rfl
      rw [e1, feed_err (by simp)]
      exact ⟨fun s rest h => by simp at h, fun e h => by injection h with h; subst h; exact ⟨rfl, rfl, by decide⟩, fun h => by simp at h⟩
    · rw [if_neg h10]
      by_cases h13 : c.toNat = 13
      · rw [if_pos h13]
        have e1 : takeP { r with line := acc } c = { r with line := acc ++ [c] } := by
          rw [takeP_eq, if_neg (by simp [h10]), if_neg (by simp [h10, hc]), if_neg (by simp [h13])]
        rw [e1]
        cases l with
        | nil => exact ⟨fun s rest h => by simp at h, fun e h => by simp at h, fun _ => ⟨acc ++ [c], rfl, fun h => by simp at h⟩⟩
        | cons d l' =>
          have hcr : crP (acc ++ [c]) = true := by rw [crP_snoc]; simp [h13]
          have e2 : feedP { r with line := acc ++ [c] } (d :: l') = feedP (takeP { r with line := acc ++ [c] } d) l' := by
            show feedP (byteP { r with line := acc ++ [c] } d) l' = _
            rw [byte_take { r with line := acc ++ [c] } he h2 h4]
          rw [e2]
          simp only
          by_cases hd : d.toNat = 10
          · rw [if_pos hd]
            have e3 : takeP { r with line := acc ++ [c] } d = lineP { r with line := [] } (bs acc) := by
              rw [takeP_eq, if_pos ⟨hd, hcr⟩]; simp only [List.dropLast_concat]
            rw [e3]
            exact ⟨fun s rest h => by injection h with h1 h2; subst h1 h2; rfl, fun e h => by simp at h, fun h => by simp at h⟩
          · rw [if_neg hd]
            have e3 : takeP { r with line := acc ++ [c] } d = { r with line := acc ++ [c], err := 2 } := by
              rw [takeP_eq, if_neg (by simp [hd]), if_pos (.inr hcr)]; rfl
            rw [e3, feed_err (by simp)]
            exact ⟨fun s rest h => by simp at h, fun e h => by injection h with h; subst h; exact ⟨rfl, rfl, by decide⟩, fun h => by simp at h⟩
      · rw [if_neg h13]
        by_cases hl : 578 ≤ acc.length
        · rw [if_pos hl]
          have e1 : takeP { r with line := acc } c = { r with line := acc, err := 6 } := by
            rw [takeP_eq, if_neg (by simp [h10]), if_neg (by simp [h10, hc]), if_pos ⟨h13, hl⟩]; rfl
          rw [e1, feed_err (by simp)]
          exact ⟨fun s rest h => by simp at h, fun e h => by injection h with h; subst h; exact ⟨rfl, rfl, by decide⟩, fun h => by simp at h⟩
        · rw [if_neg hl]
          have e1 : takeP { r with line := acc } c = { r with line := acc ++ [c] } := by
            rw [takeP_eq, if_neg (by simp [h10]), if_neg (by simp [h10, hc]), if_neg (by simp; omega)]
          rw [e1]
          obtain ⟨a1, a2, a3⟩ := scan_feed r he h2 h4 l (acc ++ [c]) (by rw [crP_snoc]; simp [h13])
          refine ⟨a1, a2, fun h => ?_⟩
          obtain ⟨ln, q1, q2⟩ := a3 h
          exact ⟨ln, q1, fun h => by have := (q2 h).1; simp at this⟩
inductive MR where
  | ok (rest : List UInt8)
  | wait
  | bad (e : Int)
def headsM : Nat → List Pl.Head → List UInt8 → List Pl.Head × MR
  | 0, hs, _ => (hs, .wait)
  | f + 1, hs, l => match scan [] l with
    | .wait => (hs, .wait)
    | .bad e => (hs, .bad e)
    | .ok s rest => if s = [] then (hs, .ok rest) else if (readH (bs s)).2 ≠ 0 then (hs, .bad (readH (bs s)).2) else if hs.length = 24 then (hs, .bad 3) else headsM f (hs ++ [(readH (bs s)).1]) rest
theorem bs_nil_iff (s : List UInt8) : (bs s = ⟨#[]⟩) ↔ s = [] := ⟨fun h => by
  have := congrArg ByteArray.size h
  rw [bs_size] at this
  exact List.eq_nil_of_length_eq_zero this, fun h => by rw [h]; rfl⟩
theorem scan0 (r : PRd) (he : r.err = 0) (h2 : r.phase ≠ 2) (h4 : r.phase ≠ 4) (hl : r.line = []) (l : List UInt8) :
    (∀ s rest, scan [] l = .ok s rest → feedP r l = feedP (lineP r (bs s)) rest) ∧
    (∀ e, scan [] l = .bad e → (feedP r l).err = e ∧ (feedP r l).out = r.out ∧ e ≠ 0) ∧
    (scan [] l = .wait → ∃ ln, feedP r l = { r with line := ln } ∧ (ln = [] → l = [])) := by
  have e : r = { r with line := [] } := by cases r; simp only at hl; subst hl; rfl
  obtain ⟨a1, a2, a3⟩ := scan_feed r he h2 h4 l [] rfl
  rw [← e] at a1 a2 a3
  exact ⟨a1, a2, fun h => by obtain ⟨ln, q1, q2⟩ := a3 h; exact ⟨ln, q1, fun h => (q2 h).2⟩⟩
structure Waits (r : PRd) (o : List PRaw) : Prop where
  err : r.err = 0
  out : r.out = o
  idle : idleP r = false
structure Fails (r : PRd) (o : List PRaw) (e : Int) : Prop where
  err : r.err = e
  out : r.out = o
  ne : e ≠ 0
theorem waits_phase {r : PRd} (he : r.err = 0) (hp : r.phase ≠ 0) : Waits r r.out := ⟨he, rfl, by unfold idleP; rw [decide_eq_false hp]; simp⟩
theorem heads_feed (o : List PRaw) (st : ByteArray) : ∀ (f : Nat) (hs : List Pl.Head) (l : List UInt8), f + hs.length = 25 →
    (∀ rest, (headsM f hs l).2 = .ok rest → feedP ⟨1, [], ⟨st, hs, []⟩, 0, 0, o⟩ l = feedP (bodyP ⟨1, [], ⟨st, (headsM f hs l).1, []⟩, 0, 0, o⟩) rest) ∧
    (∀ e, (headsM f hs l).2 = .bad e → Fails (feedP ⟨1, [], ⟨st, hs, []⟩, 0, 0, o⟩ l) o e) ∧
    ((headsM f hs l).2 = .wait → hs.length ≤ 24 → Waits (feedP ⟨1, [], ⟨st, hs, []⟩, 0, 0, o⟩ l) o)
  | 0, hs, l, hf => ⟨fun rest h => by simp [headsM] at h, fun e h => by simp [headsM] at h, fun _ h => by omega⟩
  | f + 1, hs, l, hf => by
    obtain ⟨a1, a2, a3⟩ := scan0 ⟨1, [], ⟨st, hs, []⟩, 0, 0, o⟩ rfl (by simp) (by simp) rfl l
    unfold headsM
    cases hsc : scan [] l with
    | wait =>
      simp only
      refine ⟨fun rest h => by simp at h, fun e h => by simp at h, fun _ _ => ?_⟩
      obtain ⟨ln, q1, _⟩ := a3 hsc
      rw [q1]
      exact waits_phase rfl (by simp)
    | bad e =>
      simp only
      refine ⟨fun rest h => by simp at h, fun e' h => ?_, fun h => by simp at h⟩
      injection h with h; subst h
      obtain ⟨q1, q2, q3⟩ := a2 e hsc
      exact ⟨q1, q2, q3⟩
    | ok s rest =>
      simp only
      rw [a1 s rest hsc]
      have e1 : lineP ⟨1, [], ⟨st, hs, []⟩, 0, 0, o⟩ (bs s) = headerP ⟨1, [], ⟨st, hs, []⟩, 0, 0, o⟩ (bs s) := rfl
      rw [e1]
      unfold headerP
      by_cases h0 : s = []
      · rw [if_pos h0, if_pos ((bs_nil_iff s).2 h0)]
        exact ⟨fun r2 h => by injection h with h; subst h; rfl, fun e h => by simp at h, fun h => by simp at h⟩
      · rw [if_neg h0, if_neg (fun h => h0 ((bs_nil_iff s).1 h))]
        by_cases hr : (readH (bs s)).2 ≠ 0
        · rw [if_pos hr, if_pos hr]
          refine ⟨fun r2 h => by simp at h, fun e h => ?_, fun h => by simp at h⟩
          injection h with h; subst h
          unfold faultP
          rw [feed_err (by exact hr)]
          exact ⟨rfl, rfl, hr⟩
        · rw [if_neg hr, if_neg hr]
          have hg : good (readH (bs s)).1 = true := by
            rcases readH_good (bs s) with h | h
            · exact h.2
            · exact absurd h.1 hr
          rw [if_pos hg]
          by_cases h24 : hs.length = 24
          · rw [if_pos h24, if_neg (by simp only; omega)]
            refine ⟨fun r2 h => by simp at h, fun e h => ?_, fun h => by simp at h⟩
            injection h with h; subst h
            unfold faultP
            rw [feed_err (by simp)]
            exact ⟨rfl, rfl, by decide⟩
          · rw [if_neg h24]
            by_cases hlt : hs.length < 24
            · rw [if_pos (by simpa using hlt)]
              obtain ⟨b1, b2, b3⟩ := heads_feed o st f (hs ++ [(readH (bs s)).1]) rest (by simp; omega)
              exact ⟨b1, b2, fun h _ => b3 h (by simp; omega)⟩
            · refine ⟨fun r2 h => ?_, fun e h => ?_, fun _ h => by omega⟩
              · have : f = 0 := by omega
                subst this; simp [headsM] at h
              · have : f = 0 := by omega
                subst this; simp [headsM] at h
def chunksM : Nat → List UInt8 → List UInt8 → List UInt8 × MR
  | 0, b, _ => (b, .wait)
  | f + 1, b, l => match scan [] l with
    | .wait => (b, .wait)
    | .bad e => (b, .bad e)
    | .ok s rest => if sizeP (bs s) < 0 then (b, .bad 2) else if 0 < sizeP (bs s) ∧ 1024 < (b.length : Int) + sizeP (bs s) then (b, .bad 6) else if (rest.length : Int) < sizeP (bs s) then (b, .wait) else match scan [] (rest.drop (sizeP (bs s)).toNat) with
      | .wait => (b ++ rest.take (sizeP (bs s)).toNat, .wait)
      | .bad e => (b ++ rest.take (sizeP (bs s)).toNat, .bad e)
      | .ok s2 rest2 => if s2 ≠ [] then (b ++ rest.take (sizeP (bs s)).toNat, .bad 2) else if sizeP (bs s) = 0 then (b ++ rest.take (sizeP (bs s)).toNat, .ok rest2) else chunksM f (b ++ rest.take (sizeP (bs s)).toNat) rest2
theorem feed_less : ∀ (b : List UInt8) (r : PRd), r.err = 0 → (r.phase = 2 ∨ r.phase = 4) → (b.length : Int) < r.left → Waits (feedP r b) r.out
  | [], r, he, hp, _ => waits_phase he (by show r.phase ≠ 0; omega)
  | c :: b, r, he, hp, hl => by
    have e1 : byteP r c = bodyByte r c := by
      unfold byteP
      rw [if_neg (by simp [he]), if_neg (by omega)]
    show Waits (feedP (byteP r c) b) _
    rw [e1, bodyByte_eq]
    rw [List.length_cons] at hl
    rw [if_pos (by show 0 < r.left - 1; omega)]
    exact feed_less b (bodyR r c) he hp (by show _ < r.left - 1; omega)
theorem chunks_feed (o : List PRaw) (st : ByteArray) (hs : List Pl.Head) : ∀ (f : Nat) (b l : List UInt8), b.length ≤ 1024 → 1025 ≤ f + b.length →
    (∀ rest, (chunksM f b l).2 = .ok rest → feedP ⟨3, [], ⟨st, hs, b⟩, 0, 0, o⟩ l = feedP (idl (o ++ [⟨st, hs, (chunksM f b l).1⟩])) rest ∧ rest.length < l.length) ∧
    (∀ e, (chunksM f b l).2 = .bad e → Fails (feedP ⟨3, [], ⟨st, hs, b⟩, 0, 0, o⟩ l) o e) ∧
    ((chunksM f b l).2 = .wait → Waits (feedP ⟨3, [], ⟨st, hs, b⟩, 0, 0, o⟩ l) o)
  | 0, b, l, hb, hf => by omega
  | f + 1, b, l, hb, hf => by
    obtain ⟨a1, a2, a3⟩ := scan0 ⟨3, [], ⟨st, hs, b⟩, 0, 0, o⟩ rfl (by simp) (by simp) rfl l
    unfold chunksM
    cases hsc : scan [] l with
    | wait =>
      simp only
      refine ⟨fun rest h => by simp at h, fun e h => by simp at h, fun _ => ?_⟩
      obtain ⟨ln, q1, _⟩ := a3 hsc
      rw [q1]
      exact waits_phase rfl (by simp)
    | bad e =>
      simp only
      refine ⟨fun rest h => by simp at h, fun e' h => ?_, fun h => by simp at h⟩
      injection h with h; subst h
      obtain ⟨q1, q2, q3⟩ := a2 e hsc
      exact ⟨q1, q2, q3⟩
    | ok s rest =>
      simp only
      have hl1 := scan_len _ _ _ _ hsc
      rw [a1 s rest hsc]
      have e1 : lineP ⟨3, [], ⟨st, hs, b⟩, 0, 0, o⟩ (bs s) = chunkP ⟨3, [], ⟨st, hs, b⟩, 0, 0, o⟩ (bs s) := rfl
      rw [e1]
      unfold chunkP
      generalize hz : sizeP (bs s) = n at *
      by_cases hn : n < 0
      · rw [if_pos hn, if_pos hn]
        refine ⟨fun r2 h => by simp at h, fun e h => ?_, fun h => by simp at h⟩
        injection h with h; subst h
        unfold faultP
        rw [feed_err (by simp)]
        exact ⟨rfl, rfl, by decide⟩
      · rw [if_neg hn, if_neg hn]
        by_cases h0 : n = 0
        · subst h0
          rw [if_neg (by omega), if_neg (by omega), if_pos rfl]
          obtain ⟨d1, d2, d3⟩ := scan0 ⟨6, [], ⟨st, hs, b⟩, 0, 0, o⟩ rfl (by simp) (by simp) rfl rest
          have e2 : rest.drop (0 : Int).toNat = rest := rfl
          have e3 : b ++ rest.take (0 : Int).toNat = b := by show b ++ [] = b; simp
          rw [e2, e3]
          cases hs2 : scan [] rest with
          | wait =>
            simp only
            refine ⟨fun rest h => by simp at h, fun e h => by simp at h, fun _ => ?_⟩
            obtain ⟨ln, q1, _⟩ := d3 hs2
            show Waits (feedP ⟨6, [], ⟨st, hs, b⟩, 0, 0, o⟩ rest) o
            rw [q1]
            exact waits_phase rfl (by simp)
          | bad e =>
            simp only
            refine ⟨fun rest h => by simp at h, fun e' h => ?_, fun h => by simp at h⟩
            injection h with h; subst h
            obtain ⟨q1, q2, q3⟩ := d2 e hs2
            exact ⟨q1, q2, q3⟩
          | ok s2 rest2 =>
            simp only
            have hl2 := scan_len _ _ _ _ hs2
            have e4 : feedP ⟨6, [], ⟨st, hs, b⟩, 0, 0, o⟩ rest = feedP (endedP ⟨6, [], ⟨st, hs, b⟩, 0, 0, o⟩ (bs s2)) rest2 := d1 s2 rest2 hs2
            have e5 : feedP { (⟨3, [], ⟨st, hs, b⟩, 0, 0, o⟩ : PRd) with phase := 6 } rest = feedP (endedP ⟨6, [], ⟨st, hs, b⟩, 0, 0, o⟩ (bs s2)) rest2 := e4
            rw [e5]
            unfold endedP
            by_cases hne : s2 = []
            · have k1 : ¬ s2 ≠ [] := by simp [hne]
              have k2 : ¬ bs s2 ≠ ⟨#[]⟩ := by simp [bs_nil_iff, hne]
              rw [if_neg k1, if_pos True.intro, if_neg k2, if_pos (show (⟨6, [], ⟨st, hs, b⟩, 0, 0, o⟩ : PRd).phase = 6 from rfl)]
              exact ⟨fun r2 h => by injection h with h; subst h; exact ⟨rfl, by omega⟩, fun e h => by simp at h, fun h => by simp at h⟩
            · rw [if_pos hne, if_pos (fun h => hne ((bs_nil_iff s2).1 h))]
              refine ⟨fun r2 h => by simp at h, fun e h => ?_, fun h => by simp at h⟩
              injection h with h; subst h
              unfold faultP
              rw [feed_err (by simp)]
              exact ⟨rfl, rfl, by decide⟩
        · rw [if_neg h0]
          simp only
          by_cases hlong : 1024 < (b.length : Int) + n
          · rw [if_pos ⟨by omega, hlong⟩, if_pos hlong]
            refine ⟨fun r2 h => by simp at h, fun e h => ?_, fun h => by simp at h⟩
            injection h with h; subst h
            unfold faultP
            rw [feed_err (by simp)]
            exact ⟨rfl, rfl, by decide⟩
          · rw [if_neg (fun h => hlong h.2), if_neg hlong]
            by_cases hsh : (rest.length : Int) < n
            · rw [if_pos hsh]
              refine ⟨fun r2 h => by simp at h, fun e h => by simp at h, fun _ => ?_⟩
              exact feed_less rest ⟨4, [], ⟨st, hs, b⟩, n, 0, o⟩ rfl (.inr rfl) hsh
            · rw [if_neg hsh]
              have hnn : ((n.toNat : Nat) : Int) = n := by omega
              generalize n.toNat = m at *
              have htl : (rest.take m).length = m := by rw [List.length_take]; omega
              have hfb := feed_body (rest.take m) ⟨4, [], ⟨st, hs, b⟩, n, 0, o⟩ rfl (.inr rfl) (by intro h; rw [h] at htl; simp at htl; omega) (by show n = _; rw [htl]; omega)
              rw [if_neg (by simp)] at hfb
              have e6 : feedP ⟨4, [], ⟨st, hs, b⟩, n, 0, o⟩ rest = feedP ⟨5, [], ⟨st, hs, b ++ rest.take m⟩, 0, 0, o⟩ (rest.drop m) := by
                conv => lhs; rw [← List.take_append_drop m rest]
                rw [feedP_app, hfb]
              have e7 : feedP { (⟨3, [], ⟨st, hs, b⟩, 0, 0, o⟩ : PRd) with phase := 4, left := n } rest = feedP ⟨5, [], ⟨st, hs, b ++ rest.take m⟩, 0, 0, o⟩ (rest.drop m) := e6
              rw [e7]
              obtain ⟨d1, d2, d3⟩ := scan0 ⟨5, [], ⟨st, hs, b ++ rest.take m⟩, 0, 0, o⟩ rfl (by simp) (by simp) rfl (rest.drop m)
              have hbl : (b ++ rest.take m).length ≤ 1024 := by rw [List.length_append, htl]; omega
              have hbl2 : b.length + 1 ≤ (b ++ rest.take m).length := by rw [List.length_append, htl]; omega
              have hdl : (rest.drop m).length ≤ rest.length := by rw [List.length_drop]; omega
              generalize b ++ rest.take m = b2 at *
              cases hs2 : scan [] (rest.drop m) with
              | wait =>
                simp only
                refine ⟨fun rest h => by simp at h, fun e h => by simp at h, fun _ => ?_⟩
                obtain ⟨ln, q1, _⟩ := d3 hs2
                rw [q1]
                exact waits_phase rfl (by simp)
              | bad e =>
                simp only
                refine ⟨fun rest h => by simp at h, fun e' h => ?_, fun h => by simp at h⟩
                injection h with h; subst h
                obtain ⟨q1, q2, q3⟩ := d2 e hs2
                exact ⟨q1, q2, q3⟩
              | ok s2 rest2 =>
                simp only
                have hl2 := scan_len _ _ _ _ hs2
                rw [d1 s2 rest2 hs2]
                have e8 : lineP ⟨5, [], ⟨st, hs, b2⟩, 0, 0, o⟩ (bs s2) = endedP ⟨5, [], ⟨st, hs, b2⟩, 0, 0, o⟩ (bs s2) := rfl
                rw [e8]
                unfold endedP
                by_cases hne : s2 = []
                · have k1 : ¬ s2 ≠ [] := by simp [hne]
                  have k2 : ¬ bs s2 ≠ ⟨#[]⟩ := by simp [bs_nil_iff, hne]
                  rw [if_neg k1, if_neg h0, if_neg k2, if_neg (show ¬ (⟨5, [], ⟨st, hs, b2⟩, 0, 0, o⟩ : PRd).phase = 6 by simp)]
                  obtain ⟨c1, c2, c3⟩ := chunks_feed o st hs f b2 rest2 hbl (by omega)
                  exact ⟨fun r2 h => ⟨(c1 r2 h).1, by have := (c1 r2 h).2; omega⟩, c2, c3⟩
                · rw [if_pos hne, if_pos (fun h => hne ((bs_nil_iff s2).1 h))]
                  refine ⟨fun r2 h => by simp at h, fun e h => ?_, fun h => by simp at h⟩
                  injection h with h; subst h
                  unfold faultP
                  rw [feed_err (by simp)]
                  exact ⟨rfl, rfl, by decide⟩
def msgM (l : List UInt8) : PRaw × MR := match scan [] l with
  | .wait => (raw0, .wait)
  | .bad e => (raw0, .bad e)
  | .ok s rest => match (headsM 25 [] rest).2 with
    | .wait => (⟨bs s, (headsM 25 [] rest).1, []⟩, .wait)
    | .bad e => (⟨bs s, (headsM 25 [] rest).1, []⟩, .bad e)
    | .ok rest2 =>
      if (fram (headsM 25 [] rest).1).2 ≠ 0 then (⟨bs s, (headsM 25 [] rest).1, []⟩, .bad (fram (headsM 25 [] rest).1).2)
      else if (fram (headsM 25 [] rest).1).1.chunked = 1 then (⟨bs s, (headsM 25 [] rest).1, (chunksM 1025 [] rest2).1⟩, (chunksM 1025 [] rest2).2)
      else if (rest2.length : Int) < (fram (headsM 25 [] rest).1).1.length then (⟨bs s, (headsM 25 [] rest).1, []⟩, .wait)
      else (⟨bs s, (headsM 25 [] rest).1, rest2.take (fram (headsM 25 [] rest).1).1.length.toNat⟩, .ok (rest2.drop (fram (headsM 25 [] rest).1).1.length.toNat))
theorem headsM_len : ∀ (f : Nat) (hs : List Pl.Head) (l rest : List UInt8), (headsM f hs l).2 = .ok rest → rest.length ≤ l.length
  | 0, hs, l, rest, h => by simp [headsM] at h
  | f + 1, hs, l, rest, h => by
    unfold headsM at h
    cases hsc : scan [] l with
    | wait => rw [hsc] at h; simp at h
    | bad e => rw [hsc] at h; simp at h
    | ok s rest1 =>
      have hl1 := scan_len _ _ _ _ hsc
      rw [hsc] at h
      simp only at h
      split at h
      · injection h with h; subst h; omega
      · split at h
        · simp at h
        · split at h
          · simp at h
          · have := headsM_len f _ _ _ h; omega
theorem msg_feed (o : List PRaw) (l : List UInt8) (hne : l ≠ []) :
    (∀ rest, (msgM l).2 = .ok rest → feedP (idl o) l = feedP (idl (o ++ [(msgM l).1])) rest ∧ rest.length < l.length) ∧
    (∀ e, (msgM l).2 = .bad e → Fails (feedP (idl o) l) o e) ∧
    ((msgM l).2 = .wait → Waits (feedP (idl o) l) o) := by
  obtain ⟨a1, a2, a3⟩ := scan0 (idl o) rfl (by unfold idl; simp) (by unfold idl; simp) rfl l
  unfold msgM
  cases hsc : scan [] l with
  | wait =>
    simp only
    refine ⟨fun rest h => by simp at h, fun e h => by simp at h, fun _ => ?_⟩
    obtain ⟨ln, q1, q2⟩ := a3 hsc
    rw [q1]
    refine ⟨rfl, rfl, ?_⟩
    have : ln.length ≠ 0 := fun h => hne (q2 (List.eq_nil_of_length_eq_zero h))
    unfold idleP idl
    simp [this]
  | bad e =>
    simp only
    refine ⟨fun rest h => by simp at h, fun e' h => ?_, fun h => by simp at h⟩
    injection h with h; subst h
    obtain ⟨q1, q2, q3⟩ := a2 e hsc
    exact ⟨q1, q2, q3⟩
  | ok s rest =>
    simp only
    have hl1 := scan_len _ _ _ _ hsc
    rw [a1 s rest hsc]
    have e1 : lineP (idl o) (bs s) = ⟨1, [], ⟨bs s, [], []⟩, 0, 0, o⟩ := rfl
    rw [e1]
    obtain ⟨b1, b2, b3⟩ := heads_feed o (bs s) 25 [] rest rfl
    have hlen := headsM_len 25 [] rest
    generalize headsM 25 [] rest = q at *
    obtain ⟨hs, m⟩ := q
    cases m with
    | wait => exact ⟨fun rest h => by simp at h, fun e h => by simp at h, fun _ => b3 rfl (by simp)⟩
    | bad e => exact ⟨fun rest h => by simp at h, fun e' h => by simp at h; subst h; exact b2 e rfl, fun h => by simp at h⟩
    | ok rest2 =>
      have hl2 := hlen rest2 rfl
      simp only at b1 ⊢
      rw [b1 rest2 rfl]
      unfold bodyP
      simp only
      by_cases hf : (fram hs).2 ≠ 0
      · rw [if_pos hf, if_pos hf]
        refine ⟨fun r2 h => by simp at h, fun e h => ?_, fun h => by simp at h⟩
        injection h with h; subst h
        unfold faultP
        rw [feed_err (by exact hf)]
        exact ⟨rfl, rfl, hf⟩
      · rw [if_neg hf, if_neg hf]
        by_cases hc : (fram hs).1.chunked = 1
        · rw [if_pos hc, if_pos hc]
          obtain ⟨c1, c2, c3⟩ := chunks_feed o (bs s) hs 1025 [] rest2 (by simp) (by simp)
          exact ⟨fun r h => ⟨(c1 r h).1, by have := (c1 r h).2; omega⟩, c2, c3⟩
        · rw [if_neg hc, if_neg hc]
          have hl0 := (fram_len hs).1
          generalize (fram hs).1.length = n at *
          by_cases h0 : n = 0
          · subst h0
            rw [if_neg (by omega), if_pos rfl]
            refine ⟨fun r h => ?_, fun e h => by simp at h, fun h => by simp at h⟩
            injection h with h
            have : rest2.drop (0 : Int).toNat = rest2 := rfl
            rw [this] at h; subst h
            exact ⟨rfl, by omega⟩
          · rw [if_neg h0]
            by_cases hsh : (rest2.length : Int) < n
            · rw [if_pos hsh]
              refine ⟨fun r2 h => by simp at h, fun e h => by simp at h, fun _ => ?_⟩
              exact feed_less rest2 ⟨2, [], ⟨bs s, hs, []⟩, n, 0, o⟩ rfl (.inl rfl) hsh
            · rw [if_neg hsh]
              have hnn : ((n.toNat : Nat) : Int) = n := by omega
              generalize n.toNat = m at *
              have htl : (rest2.take m).length = m := by rw [List.length_take]; omega
              have hfb := feed_body (rest2.take m) ⟨2, [], ⟨bs s, hs, []⟩, n, 0, o⟩ rfl (.inl rfl) (by intro h; rw [h] at htl; simp at htl; omega) (by show n = _; rw [htl]; omega)
              rw [if_pos rfl] at hfb
              refine ⟨fun r h => ?_, fun e h => by simp at h, fun h => by simp at h⟩
              injection h with h; subst h
              refine ⟨?_, by rw [List.length_drop]; omega⟩
              show feedP ⟨2, [], ⟨bs s, hs, []⟩, n, 0, o⟩ rest2 = _
              conv => lhs; rw [← List.take_append_drop m rest2]
              rw [feedP_app, hfb]; rfl
def allM : Nat → List PRaw → List UInt8 → List PRaw × Bool × Int
  | 0, o, _ => (o, true, 0)
  | f + 1, o, l => if l = [] then (o, true, 0) else match (msgM l).2 with
    | .wait => (o, false, 0)
    | .bad e => (o, false, e)
    | .ok rest => allM f (o ++ [(msgM l).1]) rest
theorem all_feed : ∀ (f : Nat) (o : List PRaw) (l : List UInt8), l.length ≤ f → (feedP (idl o) l).err = (allM f o l).2.2 ∧ (feedP (idl o) l).out = (allM f o l).1 ∧ idleP (feedP (idl o) l) = (allM f o l).2.1
  | 0, o, l, h => by
    obtain rfl : l = [] := List.eq_nil_of_length_eq_zero (by omega)
    exact ⟨rfl, rfl, rfl⟩
  | f + 1, o, l, h => by
    unfold allM
    by_cases hne : l = []
    · rw [if_pos hne]; subst hne; exact ⟨rfl, rfl, rfl⟩
    · rw [if_neg hne]
      obtain ⟨a1, a2, a3⟩ := msg_feed o l hne
      cases hm : (msgM l).2 with
      | wait => obtain ⟨q1, q2, q3⟩ := a3 hm; exact ⟨q1, q2, q3⟩
      | bad e =>
        obtain ⟨q1, q2, q3⟩ := a2 e hm
        refine ⟨q1, q2, ?_⟩
        unfold idleP
        rw [decide_eq_false (by rw [q1]; exact q3)]; rfl
      | ok rest =>
        obtain ⟨q1, q2⟩ := a1 rest hm
        simp only
        rw [q1]
        exact all_feed f _ rest (by omega)
theorem scan_size : ∀ (l acc s rest : List UInt8), scan acc l = .ok s rest → acc.length ≤ 578 → s.length ≤ 578
  | [], acc, s, rest, h, _ => by simp [scan] at h
  | c :: l, acc, s, rest, h, ha => by
    unfold scan at h
    split at h
    · cases h
    · split at h
      · split at h
        · cases h
        · split at h
          · injection h with h1 h2; subst h1; exact ha
          · cases h
      · split at h
        · cases h
        · exact scan_size l _ s rest h (by rw [List.length_append]; simp; omega)
end Go.Proofs.YtloippgblkoemaaGreatDoor.Rq

/- The reader of messages: what is read of bytes in pieces; what stands behind a message; what every message that is read is like; plain. -/
namespace Go.Proofs.YtloippgblkoemaaGreatDoor.Rq
set_option linter.unusedVariables false
set_option linter.unusedSimpArgs false
open Go.RowKit Mem Sim Opn Hd Str
def addO (o : List PRaw) (r : PRd) : PRd := { r with out := o ++ r.out }
theorem whole_addO (o : List PRaw) (r : PRd) : wholeP (addO o r) = addO o (wholeP r) := by unfold wholeP addO; simp
theorem body_addO (o : List PRaw) (r : PRd) : bodyP (addO o r) = addO o (bodyP r) := by
  have e : (addO o r).raw = r.raw := rfl
  unfold bodyP
  rw [e]
  split
  · rfl
  · split
    · rfl
    · split
      · exact whole_addO o r
      · rfl
theorem header_addO (o : List PRaw) (r : PRd) (s : ByteArray) : headerP (addO o r) s = addO o (headerP r s) := by
  have e : (addO o r).raw = r.raw := rfl
  unfold headerP
  rw [e]
  split
  · exact body_addO o r
  · split
    · rfl
    · split
      · split <;> rfl
      · rfl
theorem chunk_addO (o : List PRaw) (r : PRd) (s : ByteArray) : chunkP (addO o r) s = addO o (chunkP r s) := by
  have e : (addO o r).raw = r.raw := rfl
  unfold chunkP
  rw [e]
  split
  · rfl
  · split
    · rfl
    · split <;> rfl
theorem ended_addO (o : List PRaw) (r : PRd) (s : ByteArray) : endedP (addO o r) s = addO o (endedP r s) := by
  have e : (addO o r).phase = r.phase := rfl
  unfold endedP
  rw [e]
  split
  · rfl
  · split
    · exact whole_addO o r
    · rfl
theorem line_addO (o : List PRaw) (r : PRd) (s : ByteArray) : lineP (addO o r) s = addO o (lineP r s) := by
  have e : (addO o r).phase = r.phase := rfl
  unfold lineP
  rw [e]
  split
  · rfl
  · split
    · exact header_addO o r s
    · split
      · exact chunk_addO o r s
      · exact ended_addO o r s
theorem take_addO (o : List PRaw) (r : PRd) (c : UInt8) : takeP (addO o r) c = addO o (takeP r c) := by
  have e : (addO o r).line = r.line := rfl
  rw [takeP_eq, takeP_eq, e]
  split
  · exact line_addO o { r with line := [] } _
  · split
    · rfl
    · split <;> rfl
theorem byte_addO (o : List PRaw) (r : PRd) (c : UInt8) : byteP (addO o r) c = addO o (byteP r c) := by
  have e1 : (addO o r).err = r.err := rfl
  have e2 : (addO o r).phase = r.phase := rfl
  unfold byteP
  rw [e1, e2]
  split
  · rfl
  · split
    · exact take_addO o r c
    · rw [bodyByte_eq, bodyByte_eq]
      have e3 : bodyR (addO o r) c = addO o (bodyR r c) := rfl
      have e4 : (addO o (bodyR r c)).left = (bodyR r c).left := rfl
      have e5 : (addO o (bodyR r c)).phase = (bodyR r c).phase := rfl
      rw [e3, e4, e5]
      split
      · rfl
      · split
        · exact whole_addO o _
        · rfl
theorem feed_addO (o : List PRaw) : ∀ (l : List UInt8) (r : PRd), feedP (addO o r) l = addO o (feedP r l)
  | [], r => rfl
  | c :: l, r => by
    show feedP (byteP (addO o r) c) l = addO o (feedP (byteP r c) l)
    rw [byte_addO, feed_addO o l]
theorem rd0_idl : rd0 = idl [] := rfl
theorem idl_addO (o : List PRaw) : idl o = addO o rd0 := by unfold idl addO rd0; simp
def Rest (r : PRd) : Prop := r.phase = 0 → r.raw = raw0 ∧ r.left = 0
theorem rest_take {r : PRd} (h : Rest r) (c : UInt8) : Rest (takeP r c) := by
  rw [takeP_eq]
  split
  · unfold lineP
    split
    · intro hp; cases hp
    · rename_i hph
      have hph : r.phase ≠ 0 := hph
      split
      · unfold headerP
        split
        · unfold bodyP
          split
          · exact fun hp => absurd hp hph
          · split
            · intro hp; cases hp
            · split
              · exact fun _ => ⟨rfl, rfl⟩
              · intro hp; cases hp
        · split
          · exact fun hp => absurd hp hph
          · split
            · split
              · exact fun hp => absurd hp hph
              · exact fun hp => absurd hp hph
            · exact fun hp => absurd hp hph
      · split
        · unfold chunkP
          split
          · exact fun hp => absurd hp hph
          · split
            · intro hp; cases hp
            · split
              · exact fun hp => absurd hp hph
              · intro hp; cases hp
        · unfold endedP
          split
          · exact fun hp => absurd hp hph
          · split
            · exact fun _ => ⟨rfl, rfl⟩
            · intro hp; cases hp
  · split
    · exact h
    · split
      · exact h
      · exact h
theorem rest_byte {r : PRd} (h : Rest r) (c : UInt8) : Rest (byteP r c) := by
  unfold byteP
  split
  · exact h
  · split
    · exact rest_take h c
    · rename_i hp
      have hp : r.phase = 2 ∨ r.phase = 4 := by omega
      rw [bodyByte_eq]
      split
      · intro h0; have : r.phase = 0 := h0; omega
      · split
        · exact fun _ => ⟨rfl, rfl⟩
        · intro h0; cases h0
theorem rest_feed : ∀ (l : List UInt8) (r : PRd), Rest r → Rest (feedP r l)
  | [], r, h => h
  | c :: l, r, h => rest_feed l _ (rest_byte h c)
theorem idle_eq {l : List UInt8} (h : idleP (feedP rd0 l) = true) : feedP rd0 l = idl (feedP rd0 l).out := by
  have hr := rest_feed l rd0 (fun _ => ⟨rfl, rfl⟩)
  generalize feedP rd0 l = r at *
  unfold idleP at h
  simp only [Bool.and_eq_true, decide_eq_true_eq] at h
  obtain ⟨⟨h1, h2⟩, h3⟩ := h
  obtain ⟨h4, h5⟩ := hr h2
  have h6 := List.eq_nil_of_length_eq_zero h3
  obtain ⟨ph, ln, raw, left, err, out⟩ := r
  simp only at h1 h2 h4 h5 h6
  subst h1 h2 h4 h5 h6
  rfl
theorem idle_more {l : List UInt8} (hne : l ≠ []) (h : idleP (feedP rd0 l) = true) : (feedP rd0 l).out ≠ [] := by
  have := (msg_feed [] l hne)
  obtain ⟨a1, a2, a3⟩ := this
  rw [rd0_idl] at h ⊢
  cases hm : (msgM l).2 with
  | wait => have := (a3 hm).idle; rw [this] at h; cases h
  | bad e =>
    have := a2 e hm
    unfold idleP at h
    rw [decide_eq_false (by rw [this.err]; exact this.ne)] at h
    cases h
  | ok rest =>
    rw [(a1 rest hm).1, List.nil_append, idl_addO, feed_addO]
    unfold addO; simp
theorem rawsL_ok {l : List UInt8} {x : List PRaw} (h : rawsL l = (x, 0)) : feedP rd0 l = idl x := by
  unfold rawsL at h
  split at h
  · rename_i he; injection h with h1 h2; exact absurd h2 he
  · split at h
    · rename_i hi
      injection h with h1 h2
      have := idle_eq hi
      rw [h1] at this; exact this
    · injection h with h1 h2; cases h2
theorem rawsL_idl {l : List UInt8} {x : List PRaw} (h : feedP rd0 l = idl x) : rawsL l = (x, 0) := by
  unfold rawsL
  rw [h]; rfl
theorem alone_less {l : List UInt8} {m : PRaw} (h : rawsL l = ([m], 0)) {k : Nat} (hk : k < l.length) (m' : PRaw) : rawsL (l.take k) ≠ ([m'], 0) := by
  intro h'
  have h1 := rawsL_ok h
  have h2 := rawsL_ok h'
  rw [← List.take_append_drop k l, feedP_app, h2, idl_addO, feed_addO] at h1
  have hne : l.drop k ≠ [] := by intro he; have := congrArg List.length he; rw [List.length_drop] at this; simp only [List.length_nil] at this; omega
  have hi : idleP (feedP rd0 (l.drop k)) = true := by
    have := congrArg idleP h1
    exact this.trans rfl
  have ho := congrArg (fun r => r.out.length) h1
  have hm := idle_more hne hi
  have : 0 < (feedP rd0 (l.drop k)).out.length := List.length_pos_iff.2 hm
  unfold addO idl at ho
  simp only [List.length_append, List.length_cons, List.length_nil] at ho; omega
/-! what each message that is read is like -/
def sane (r : PRaw) : Prop := r.start.size ≤ 578 ∧ fitsP r.heads r.body = true
theorem headsM_good : ∀ (f : Nat) (hs : List Pl.Head) (l : List UInt8), (∀ h ∈ hs, good h = true) → hs.length ≤ 24 → (∀ h ∈ (headsM f hs l).1, good h = true) ∧ (headsM f hs l).1.length ≤ 24
  | 0, hs, l, h, hn => ⟨h, hn⟩
  | f + 1, hs, l, h, hn => by
    unfold headsM
    split
    · exact ⟨h, hn⟩
    · exact ⟨h, hn⟩
    · rename_i s rest _
      split
      · exact ⟨h, hn⟩
      · split
        · exact ⟨h, hn⟩
        · rename_i hr
          split
          · exact ⟨h, hn⟩
          · refine headsM_good f _ rest (fun x hx => ?_) (by rw [List.length_append]; simp; omega)
            rcases List.mem_append.1 hx with hx | hx
            · exact h x hx
            · simp at hx; subst hx
              rcases readH_good (bs s) with h1 | h1
              · exact h1.2
              · exact absurd h1.1 hr
theorem chunksM_len : ∀ (f : Nat) (b l : List UInt8), b.length ≤ 1024 → (chunksM f b l).1.length ≤ 1024
  | 0, b, l, h => h
  | f + 1, b, l, h => by
    unfold chunksM
    split
    · exact h
    · exact h
    · rename_i s rest _
      split
      · exact h
      · split
        · exact h
        · rename_i hn hlong
          split
          · exact h
          · have hb : (b ++ rest.take (sizeP (bs s)).toNat).length ≤ 1024 := by
              rw [List.length_append, List.length_take]
              by_cases h0 : 0 < sizeP (bs s)
              · have : ¬ (1024 < (b.length : Int) + sizeP (bs s)) := fun h => hlong ⟨h0, h⟩
                omega
              · have : (sizeP (bs s)).toNat = 0 := by omega
                rw [this]; omega
            split
            · exact hb
            · exact hb
            · split
              · exact hb
              · split
                · exact hb
                · exact chunksM_len f _ _ hb
theorem msg_sane (l rest : List UInt8) (h : (msgM l).2 = .ok rest) : sane (msgM l).1 := by
  unfold msgM at h ⊢
  cases hsc : scan [] l with
  | wait => rw [hsc] at h; simp at h
  | bad e => rw [hsc] at h; simp at h
  | ok s rest1 =>
    rw [hsc] at h
    simp only at h ⊢
    have hs := scan_size _ _ _ _ hsc (by simp)
    obtain ⟨hg, hn⟩ := headsM_good 25 [] rest1 (by simp) (by simp)
    generalize headsM 25 [] rest1 = q at *
    obtain ⟨hs', m⟩ := q
    cases m with
    | wait => simp at h
    | bad e => simp at h
    | ok rest2 =>
      simp only at h hg hn ⊢
      by_cases hf : (fram hs').2 ≠ 0
      · rw [if_pos hf] at h; simp at h
      · rw [if_neg hf] at h ⊢
        have hf : (fram hs').2 = 0 := by simpa using hf
        have hmy : mayL hs' = true := by unfold mayL; simp only [Bool.and_eq_true, decide_eq_true_eq]; exact ⟨hn, List.all_eq_true.2 hg⟩
        by_cases hc : (fram hs').1.chunked = 1
        · rw [if_pos hc]
          have hl := chunksM_len 1025 [] rest2 (by simp)
          refine ⟨by rw [bs_size]; exact hs, ?_⟩
          unfold fitsP
          simp [hf, hmy, hc]; exact hl
        · rw [if_neg hc] at h ⊢
          by_cases hlt : (rest2.length : Int) < (fram hs').1.length
          · rw [if_pos hlt] at h; simp at h
          · rw [if_neg hlt]
            have h1 := fram_len hs'
            refine ⟨by rw [bs_size]; exact hs, ?_⟩
            have hl : (rest2.take (fram hs').1.length.toNat).length = (fram hs').1.length.toNat := by rw [List.length_take]; omega
            unfold fitsP
            simp only [hf, hmy, hl]
            simp; omega
theorem all_sane : ∀ (f : Nat) (o : List PRaw) (l : List UInt8), (∀ r ∈ o, sane r) → ∀ r ∈ (allM f o l).1, sane r
  | 0, o, l, h => h
  | f + 1, o, l, h => by
    unfold allM
    split
    · exact h
    · split
      · exact h
      · exact h
      · rename_i rest hm
        refine all_sane f _ rest fun x hx => ?_
        rcases List.mem_append.1 hx with hx | hx
        · exact h x hx
        · simp at hx; subst hx; exact msg_sane l rest hm
theorem feed_sane (l : List UInt8) : ∀ r ∈ (feedP rd0 l).out, sane r := by
  rw [rd0_idl, (all_feed l.length [] l (Nat.le_refl _)).2.1]
  exact all_sane _ [] l (by simp)
end Go.Proofs.YtloippgblkoemaaGreatDoor.Rq

/- Requests: what a message is, and back: in plain Lean. -/
namespace Go.Proofs.YtloippgblkoemaaGreatDoor.Ro
set_option linter.unusedVariables false
set_option linter.unusedSimpArgs false
open Go.RowKit Mem Sim Opn Hd Str Pth Rq
structure Is (r : PRaw) (x : PReq) (m t : L8) : Prop where
  sp : splC 32 r.start.toList = [m, t, httpL]
  me : methB m = true
  ta : ∃ q, targL m t = some q
  xm : x.method = bs m
  xt : x.target = bs t
  xh : x.heads = r.heads
  xb : x.body = r.body
theorem ofR_is {r : PRaw} {x : PReq} (h : ofR r = some x) : ∃ m t, Is r x m t := by
  unfold ofR at h
  split at h
  · rename_i m t v hh h1 _
    unfold of3 at h
    split at h
    · rename_i hc
      simp only [Bool.and_eq_true, decide_eq_true_eq] at hc
      obtain ⟨q, hq, hx⟩ := Option.map_eq_some_iff.1 h
      subst hx
      exact ⟨m, t, ⟨by rw [h1, hc.2.1], hc.1, ⟨q, hq⟩, rfl, rfl, rfl, rfl⟩⟩
    · cases h
  · cases h
theorem Is.start {r : PRaw} {x : PReq} {m t : L8} (h : Is r x m t) : r.start.toList = m ++ 32 :: (t ++ 32 :: httpL) := (splC_three h.sp).2
theorem meth_plain {m : L8} (h : methB m = true) : m.all evenB = true ∧ m.length ≤ 16 ∧ ∀ c ∈ m, 65 ≤ c.toNat ∧ c.toNat ≤ 90 := by
  unfold methB at h
  simp only [Bool.and_eq_true, decide_eq_true_eq] at h
  have h1 : ∀ c ∈ m, 65 ≤ c.toNat ∧ c.toNat ≤ 90 := fun c hc => by
    have := (List.all_eq_true.1 h.1) c hc
    simpa using this
  refine ⟨List.all_eq_true.2 fun c hc => ?_, h.2.2, h1⟩
  have := h1 c hc
  unfold evenB oddB oddR
  simp; omega
theorem okL_plain : ∀ {l : L8}, Pth.okL l = true → l.all evenB = true
  | [], _ => rfl
  | c :: l, h => by
    rw [okL_cons, Bool.and_eq_true, Bool.and_eq_true] at h
    rw [List.all_cons, okL_plain h.2, Bool.and_true]
    have hb : badC c = false := by simpa using h.1.1
    unfold badC at hb
    simp only [Bool.or_eq_false_iff, decide_eq_false_iff_not] at hb
    unfold evenB oddB oddR
    simp; omega
theorem low_plain {c : UInt8} (h : hostC (lowU c) = true ∨ digB (lowU c) = true ∨ lowU c = 58) : evenB c = true := by
  have key : ∀ n : Fin 256, ((hostC (lowU (UInt8.ofNat n.1)) || (digB (lowU (UInt8.ofNat n.1)) || decide (lowU (UInt8.ofNat n.1) = 58))) → evenB (UInt8.ofNat n.1) = true) := by decide +kernel
  have := key ⟨c.toNat, c.toNat_lt⟩
  rw [show UInt8.ofNat c.toNat = c by simp] at this
  refine this ?_
  rcases h with h | h | h
  · rw [h]; rfl
  · rw [h]; simp
  · rw [h]; simp
theorem host_plain {t : L8} (h : hostB (t.map lowU) = true) : t.all evenB = true ∧ t.length ≤ 64 := by
  unfold hostB at h
  simp only [Bool.and_eq_true, decide_eq_true_eq] at h
  obtain ⟨h1, _, h3, h4⟩ := h
  rw [List.length_map] at h3
  refine ⟨List.all_eq_true.2 fun c hc => low_plain ?_, h3⟩
  have hm : lowU c ∈ t.map lowU := List.mem_map.2 ⟨c, hc, rfl⟩
  rw [cut58 (t.map lowU), List.mem_append] at hm
  rcases hm with hm | hm
  · exact .inl ((List.all_eq_true.1 h1) _ hm)
  · split at hm
    · rename_i hp
      rw [hp] at h4
      rcases List.mem_cons.1 hm with e | e
      · exact .inr (.inr e)
      · unfold portB at h4
        simp only [Bool.not_true, Bool.false_or, Bool.and_eq_true] at h4
        exact .inr (.inl ((List.all_eq_true.1 h4.2.2.2.1) _ e))
    · cases hm
theorem targ_plain {m t : L8} {q : L8 × L8} (h : targL m t = some q) : t.all evenB = true ∧ t.length ≤ 512 := by
  unfold targL at h
  split at h
  · split at h
    · rename_i hc
      rw [Bool.and_eq_true] at hc
      obtain ⟨h1, h2⟩ := host_plain hc.1
      exact ⟨h1, by omega⟩
    · cases h
  · unfold normL at h
    split at h
    · rename_i hm
      unfold Pth.mayL at hm
      simp only [Bool.and_eq_true, decide_eq_true_eq] at hm
      exact ⟨okL_plain hm.2, hm.1.1⟩
    · cases h
theorem ofR_plain {r : PRaw} {x : PReq} (h : ofR r = some x) : plainP r.start = true ∧ 1 ≤ r.start.size ∧ r.start.size ≤ 578 := by
  obtain ⟨m, t, hi⟩ := ofR_is h
  have hs := hi.start
  obtain ⟨h1, h2, _⟩ := meth_plain hi.me
  obtain ⟨q, hq⟩ := hi.ta
  obtain ⟨h3, h4⟩ := targ_plain hq
  have hl := toList_len r.start
  have e : httpL.all evenB = true := by decide
  have e2 : evenB 32 = true := by decide
  unfold plainP
  rw [hs] at hl ⊢
  simp only [List.length_append, List.length_cons] at hl
  refine ⟨?_, by omega, ?_⟩
  · rw [List.all_append, List.all_cons, List.all_append, List.all_cons, h1, h3, e, e2]; rfl
  · simp only [List.length_nil] at hl
    omega
theorem mayR_of {x : PReq} (h : mayR x = true) : ofR (rawQ x) = some x ∧ fitsP x.heads x.body = true ∧ wrP (rawQ x) = true := by
  unfold mayR at h
  rw [Bool.and_eq_true] at h
  obtain ⟨h1, h2⟩ := h
  cases ho : ofR (rawQ x) with
  | none => rw [ho] at h1; cases h1
  | some y =>
    rw [ho] at h1
    obtain rfl := (sameR_iff y x).1 h1
    obtain ⟨p1, p2, p3⟩ := ofR_plain ho
    refine ⟨rfl, h2, ?_⟩
    unfold wrP
    have h3 : fitsP (rawQ y).heads (rawQ y).body = true := h2
    rw [p1, decide_eq_true p2, decide_eq_true p3, h3]; rfl
theorem req_back {x : PReq} (h : mayR x = true) : rawsL (msgP (rawQ x)) = ([rawQ x], 0) := by
  obtain ⟨_, _, h3⟩ := mayR_of h
  refine rawsL_idl ?_
  have := msg_back (rawQ x) h3 []
  exact this
theorem oneR_ok {l : List UInt8} {x : PReq} (h : oneR l = .inl x) : ∃ r, rawsL l = ([r], 0) ∧ ofR r = some x := by
  unfold oneR at h
  split at h
  · cases h
  · rename_i he
    split at h
    · rename_i q hq
      split at h
      · rename_i y hy
        injection h with h; subst h
        refine ⟨q, ?_, hy⟩
        have : (rawsL l).2 = 0 := by simpa using he
        exact Prod.ext hq this
      · cases h
    · cases h
theorem oneR_err {l : List UInt8} {e : Int} (h : oneR l = .inr e) : e ≠ 0 := by
  unfold oneR at h
  split at h
  · rename_i he
    injection h with h; rw [← h]; exact he
  · split at h
    · split at h
      · cases h
      · injection h with h; omega
    · injection h with h; omega
end Go.Proofs.YtloippgblkoemaaGreatDoor.Ro
