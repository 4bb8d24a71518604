/- Merged by bundle.py: SimRefC, SimRefD, SimRefE, SimSays14, SplitSays. -/
import Derived.Test.YtlcecabfmemfeaaGreatSplitSaysB2
import Derived.Test.YtlcecabfmemfeaaGreatSplitSaysB1
import Derived.Test.YtlcecabfmemfeaaGreatPlAuth
import Derived.Test.YtlcecabfmemfeaaGreatPlSplit3
import Derived.Test.YtlcecabfmemfeaaGreatRelTab
/- The document's answer for auth: walks. -/
namespace Go.Proofs.YtlcecabfmemfeaaGreat.Pol
set_option linter.unusedVariables false
set_option linter.unusedSimpArgs false
open Go.RowKit Mem Sim Opn WAddr WName WMatch WAuth
/-- a row is empty, or one of its first ones is so -/
def inSo {α : Type} (p : α → Bool) (l : List α) (k : Nat) : Bool := l.isEmpty || (l.take k).any p
theorem inSo_zero {α : Type} (p : α → Bool) (l : List α) : inSo p l 0 = decide ((l.length : Int) = 0) := by
  unfold inSo; cases l <;> simp <;> omega
theorem inSo_yes {α : Type} {p : α → Bool} {l : List α} {k : Nat} (hk : k < l.length) (h : inSo p l k = true) : inSo p l (k + 1) = true := by
  unfold inSo at *; rw [List.take_succ_eq_append_getElem hk, List.any_append]
  rw [Bool.or_eq_true] at *
  rcases h with h | h
  · exact .inl h
  · exact .inr (by rw [h]; rfl)
theorem inSo_no {α : Type} {p : α → Bool} {l : List α} {k : Nat} (hk : k < l.length) (h : inSo p l k = false) : inSo p l (k + 1) = p l[k] := by
  unfold inSo at *; rw [List.take_succ_eq_append_getElem hk, List.any_append]
  rw [Bool.or_eq_false_iff] at h
  rw [h.1, h.2]; simp
theorem inSo_all {α : Type} (p : α → Bool) (l : List α) : inSo p l l.length = (l.isEmpty || l.any p) := by unfold inSo; rw [List.take_length]
def fewS (s : Pl.Source) : Prop := s.names.length ≤ 1000 ∧ s.spaces.length ≤ 1000 ∧ s.nets.length ≤ 1000
def fewT (s : Pl.Target) : Prop := s.ports.length ≤ 1000 ∧ s.methods.length ≤ 1000 ∧ s.paths.length ≤ 1000 ∧ s.hosts.length ≤ 1000
set_option maxRecDepth 100000 in
set_option maxHeartbeats 1000000 in
theorem source_ (s : Pl.Source) (hs : okSource s) (hf : fewS s) (a : Pl.Asker) (ha : OkAsk a) : PCalls Tryz.prog 55 [.agg (sourceT s), .agg (askT a)] (.v (.bool (srcP a s))) := by
  obtain ⟨f1, f2, f3⟩ := hf
  obtain ⟨k1, k2, k3⟩ := hs
  have hml : (s.nets.map cidrT).length = s.nets.length := List.length_map _
  have hmay := mayN_ a ha
  have zt : (nameText a.ns a.sa).size ≤ maxLen := Nat.le_trans (nameText_len _ _) (by decide)
  have hl1 := lets_ (nameText a.ns a.sa) s.names zt k1 f1
  have hl2 := lets_ a.ns s.spaces ha.ns k2 f2
  have hp := fun h => printN_ a (h : mayN a.ns a.sa = true)
  unfold srcP
  refine pcalls_of Tryz.func55 rfl rfl Tryz.ntmps55 rfl ?_
  cases hm : mayN a.ns a.sa
  all_goals rw [hm] at hmay
  all_goals
    repeat' (first
      | refine then_go ?_
      | refine swp_seq ?_
      | ((refine swp_region (id := 0) ?_) <;> (refine sops_box (.free rfl rfl) rfl rfl rfl rfl rfl rfl ?_) <;> (refine sops_box (.free rfl rfl) rfl rfl rfl rfl rfl rfl ?_) <;> (refine sops_pure (.free rfl rfl) rfl rfl (po_assign rfl rfl) ?_) <;> (refine sops_nil ?_))
      | ((refine swp_region (id := 1) ?_) <;> (refine sops_pure (.free rfl rfl) rfl rfl (po_assign rfl rfl) ?_) <;> (refine sops_nil ?_))
      | ((refine swp_region (id := 2) ?_) <;> (first | refine sops_pure (.free rfl rfl) rfl rfl (po_field_bx rfl rfl (tyF rfl)) ?_ | refine sops_pure (.free rfl rfl) rfl rfl (po_field rfl rfl (tyF rfl)) ?_) <;> (first | refine sops_pure (.free rfl rfl) rfl rfl (po_load_bx_agg rfl rfl (tyT rfl) rfl (vc (vc .nil)) rfl) ?_ | refine sops_pure (.free rfl rfl) rfl rfl (po_load_agg rfl rfl (tyT rfl) rfl rfl) ?_) <;> (first | refine sops_pure (.free rfl rfl) rfl rfl (po_call (hmay) rfl (ac .nil)) ?_ | refine sops_pure (.free rfl rfl) rfl rfl (po_call (hp hm) rfl (ac .nil)) ?_) <;> (refine sops_nil ?_))
      | ((refine swp_region (id := 3) ?_) <;> (first | refine sops_pure (.free rfl rfl) rfl rfl (po_field_bx rfl rfl (tyF rfl)) ?_ | refine sops_pure (.free rfl rfl) rfl rfl (po_field rfl rfl (tyF rfl)) ?_) <;> (first | refine sops_pure (.free rfl rfl) rfl rfl (po_load_bx_agg rfl rfl (tyT rfl) rfl (vc (vc .nil)) rfl) ?_ | refine sops_pure (.free rfl rfl) rfl rfl (po_load_agg rfl rfl (tyT rfl) rfl rfl) ?_) <;> (first | refine sops_pure (.free rfl rfl) rfl rfl (po_call (hmay) rfl (ac .nil)) ?_ | refine sops_pure (.free rfl rfl) rfl rfl (po_call (hp hm) rfl (ac .nil)) ?_) <;> (refine sops_pure (.free rfl rfl) rfl rfl (po_assign rfl rfl) ?_) <;> (refine sops_nil ?_))
      | ((refine swp_region (id := 4) ?_) <;> (first | refine sops_pure (.free rfl rfl) rfl rfl (po_field_bx rfl rfl (tyF rfl)) ?_ | refine sops_pure (.free rfl rfl) rfl rfl (po_field rfl rfl (tyF rfl)) ?_) <;> (first | refine sops_pure (.free rfl rfl) rfl rfl (po_load_bx rfl rfl (tyT rfl) rfl rfl) ?_ | refine sops_pure (.free rfl rfl) rfl rfl (po_load rfl rfl (tyT rfl) rfl) ?_) <;> (refine sops_pure (.free rfl rfl) rfl rfl (pln rfl (tyS rfl)) ?_) <;> (refine sops_pure (.free rfl rfl) rfl rfl (po_cmp rfl rfl rfl rfl) ?_) <;> (refine sops_pure (.free rfl rfl) rfl rfl (po_assign rfl rfl) ?_) <;> (refine sops_nil ?_))
      | ((refine swp_region (id := 5) ?_) <;> (refine sops_pure (.free rfl rfl) rfl rfl (po_assign rfl rfl) ?_) <;> (refine sops_nil ?_))
      | refine swp_ret ?_
      | refine swp_skip ?_
      | refine swp_block ?_
      | refine swp_exit ?_
      | refine block_go ?_
      | refine block_exit ?_
      | refine block_far rfl ?_
      | refine block_ret ?_
      | refine then_ret ?_
      | refine then_exit ?_
      | refine for_ret ?_
      | refine for_exit ?_
      | refine ct ?_
      | refine cf ?_
      | refine swp_cond rfl (fun hc => ?_) (fun hc => ?_)
      | refine retq (by first | exact .inr rfl | exact .inl rfl) rfl (.tmp rfl (by first | exact .t _ | exact .own rfl (by first | rfl | assumption | (simp; done) | (simp; omega)) | exact .nil _ | exact .emp _ | exact .fn _) .nil) ?_)
  all_goals
    refine swp_for (fun k => ⟨[(2, .bp 2 0), (3, .bp 3 0), (5, .t (.v (.string (nameText a.ns a.sa)))), (6, .t (.v (.bool (inSo (fun c => inC c a.addr) s.nets k)))), (7, .t (.v (.int .i64 (k : Int))))], [(2, [.t (.sl 2 (s.names.map termT)), .t (.sl 2 (s.spaces.map termT)), .t (.sl 2 (s.nets.map cidrT))]), (3, [.t (.v (.string a.ns)), .t (.v (.string a.sa)), .t (.v (.int .u32 a.addr))])], []⟩) (fun _ => True) s.nets.length (weak_sub (.cons rfl (by first | rfl | (first | (unfold nameText; rw [hm]; rfl) | (rw [inSo_zero, hml]))) rfl (.cons rfl (by first | rfl | (first | (unfold nameText; rw [hm]; rfl) | (rw [inSo_zero, hml]))) rfl (.cons rfl (by first | rfl | (first | (unfold nameText; rw [hm]; rfl) | (rw [inSo_zero, hml]))) rfl (.cons rfl (by first | rfl | (first | (unfold nameText; rw [hm]; rfl) | (rw [inSo_zero, hml]))) rfl (.cons rfl (by first | rfl | (first | (unfold nameText; rw [hm]; rfl) | (rw [inSo_zero, hml]))) rfl .nil))))) (.cons rfl (by first | rfl | (first | (unfold nameText; rw [hm]; rfl) | (rw [inSo_zero, hml]))) rfl (.cons rfl (by first | rfl | (first | (unfold nameText; rw [hm]; rfl) | (rw [inSo_zero, hml]))) rfl .nil)) .nil) trivial ?_
    intro k hk _
    by_cases hlt : k < s.nets.length
    · have hin := inC_ s.nets[k] (k3 _ (List.getElem_mem hlt)) a.addr ha.addr
      cases hb : inSo (fun c => inC c a.addr) s.nets k with
      | true =>
        have hs1 := inSo_yes hlt hb
        repeat' (first
          | refine then_go ?_
          | refine swp_seq ?_
          | refine for_next hlt (weak_sub (.cons rfl (by first | rfl | (rw [hs1])) rfl (.cons rfl (by first | rfl | (rw [hs1])) rfl (.cons rfl (by first | rfl | (rw [hs1])) rfl (.cons rfl (by first | rfl | (rw [hs1])) rfl (.cons rfl (by first | rfl | (rw [hs1])) rfl .nil))))) (.cons rfl (by first | rfl | (rw [hs1])) rfl (.cons rfl (by first | rfl | (rw [hs1])) rfl .nil)) .nil) trivial
          | ((refine swp_region (id := 6) ?_) <;> (refine sops_pure (.free rfl rfl) rfl rfl (po_move rfl rfl) ?_) <;> (first | refine sops_pure (.free rfl rfl) rfl rfl (po_field_bx rfl rfl (tyF rfl)) ?_ | refine sops_pure (.free rfl rfl) rfl rfl (po_field rfl rfl (tyF rfl)) ?_) <;> (first | refine sops_pure (.free rfl rfl) rfl rfl (po_load_bx rfl rfl (tyT rfl) rfl rfl) ?_ | refine sops_pure (.free rfl rfl) rfl rfl (po_load rfl rfl (tyT rfl) rfl) ?_) <;> (refine sops_pure (.free rfl rfl) rfl rfl (pln rfl (tyS rfl)) ?_) <;> (refine sops_pure (.free rfl rfl) rfl rfl (po_cmp rfl rfl rfl rfl) ?_) <;> (refine sops_nil ?_))
          | ((refine swp_draw (id := 8) 11 mixed (by kernel_rfl) (by kernel_rfl) ?_) <;> (refine sdraw_pure (.free rfl rfl) rfl (po_move rfl rfl) ?_) <;> (refine sdraw_pure (.free rfl rfl) rfl (po_move rfl rfl) ?_) <;> (first | refine sdraw_pure gy rfl (po_field_bx rfl rfl (tyF rfl)) ?_ | refine sdraw_pure gy rfl (po_field rfl rfl (tyF rfl)) ?_ | refine sdraw_skip gn0 rfl ?_ | ((refine sdraw_split rfl rfl rfl (fun hc => ?_) (fun hc => ?_)) <;> (first | refine sdraw_pure gy rfl (po_field_bx rfl rfl (tyF rfl)) ?_ | refine sdraw_pure gy rfl (po_field rfl rfl (tyF rfl)) ?_ | refine sdraw_skip gn0 rfl ?_))) <;> (first | refine sdraw_pure gy rfl (po_load_bx rfl rfl (tyT rfl) rfl rfl) ?_ | refine sdraw_pure gy rfl (po_load rfl rfl (tyT rfl) rfl) ?_ | refine sdraw_skip gn0 rfl ?_) <;> (first | refine sdraw_pure gy rfl (po_move rfl rfl) ?_ | refine sdraw_skip gn0 rfl ?_) <;> (first | refine sdraw_pure gy rfl (pix rfl (tyS rfl)) ?_ | refine sdraw_skip gn0 rfl ?_) <;> (first | refine sdraw_pure gy rfl (po_load_bx_agg rfl rfl (tyT rfl) rfl (vc (vc .nil)) rfl) ?_ | refine sdraw_pure gy rfl (po_load_agg rfl rfl (tyT rfl) rfl rfl) ?_ | refine sdraw_skip gn0 rfl ?_) <;> (first | refine sdraw_pure gy rfl (po_field_bx rfl rfl (tyF rfl)) ?_ | refine sdraw_pure gy rfl (po_field rfl rfl (tyF rfl)) ?_ | refine sdraw_skip gn0 rfl ?_) <;> (first | refine sdraw_pure gy rfl (po_load_bx rfl rfl (tyT rfl) rfl rfl) ?_ | refine sdraw_pure gy rfl (po_load rfl rfl (tyT rfl) rfl) ?_ | refine sdraw_skip gn0 rfl ?_) <;> (first | refine sdraw_pure gy rfl (po_call (hin) rfl (ac (ac .nil))) ?_ | refine sdraw_skip gn0 rfl ?_) <;> (first | refine sdraw_pure (.free rfl rfl) rfl (pkt rfl) ?_ | refine sdraw_pure (.free rfl rfl) rfl (pkf rfl) ?_) <;> (refine sdraw_nil ?_) <;> (refine sops_pure (.free rfl rfl) rfl rfl (po_assign rfl rfl) ?_) <;> (refine sops_nil ?_))
          | ((refine swp_region (id := 7) ?_) <;> (refine sops_pure (.free rfl rfl) rfl rfl (po_move rfl rfl) ?_) <;> (first | refine sops_pure (.free rfl rfl) rfl rfl (po_inc rfl rfl rfl (by omega)) ?_ | refine sops_pure (.free rfl rfl) rfl rfl (po_arith rfl rfl rfl (ar_add (by first | rfl | (refine wrap_i64 ?_; omega)) rfl)) ?_) <;> (refine sops_pure (.free rfl rfl) rfl rfl (po_assign rfl rfl) ?_) <;> (refine sops_nil ?_))
          | refine swp_ret ?_
          | refine swp_skip ?_
          | refine swp_block ?_
          | refine swp_exit ?_
          | refine block_go ?_
          | refine block_exit ?_
          | refine block_far rfl ?_
          | refine block_ret ?_
          | refine then_ret ?_
          | refine then_exit ?_
          | refine for_ret ?_
          | refine for_exit ?_
          | refine ct ?_
          | refine cf ?_
          | refine swp_cond rfl (fun hc => ?_) (fun hc => ?_)
          | refine retq (by first | exact .inr rfl | exact .inl rfl) rfl (.tmp rfl (by first | exact .t _ | exact .own rfl (by first | rfl | assumption | (simp; done) | (simp; omega)) | exact .nil _ | exact .emp _ | exact .fn _) .nil) ?_)
      | false =>
        have hs1 := inSo_no hlt hb
        repeat' (first
          | refine then_go ?_
          | refine swp_seq ?_
          | refine for_next hlt (weak_sub (.cons rfl (by first | rfl | (rw [hs1])) rfl (.cons rfl (by first | rfl | (rw [hs1])) rfl (.cons rfl (by first | rfl | (rw [hs1])) rfl (.cons rfl (by first | rfl | (rw [hs1])) rfl (.cons rfl (by first | rfl | (rw [hs1])) rfl .nil))))) (.cons rfl (by first | rfl | (rw [hs1])) rfl (.cons rfl (by first | rfl | (rw [hs1])) rfl .nil)) .nil) trivial
          | ((refine swp_region (id := 6) ?_) <;> (refine sops_pure (.free rfl rfl) rfl rfl (po_move rfl rfl) ?_) <;> (first | refine sops_pure (.free rfl rfl) rfl rfl (po_field_bx rfl rfl (tyF rfl)) ?_ | refine sops_pure (.free rfl rfl) rfl rfl (po_field rfl rfl (tyF rfl)) ?_) <;> (first | refine sops_pure (.free rfl rfl) rfl rfl (po_load_bx rfl rfl (tyT rfl) rfl rfl) ?_ | refine sops_pure (.free rfl rfl) rfl rfl (po_load rfl rfl (tyT rfl) rfl) ?_) <;> (refine sops_pure (.free rfl rfl) rfl rfl (pln rfl (tyS rfl)) ?_) <;> (refine sops_pure (.free rfl rfl) rfl rfl (po_cmp rfl rfl rfl rfl) ?_) <;> (refine sops_nil ?_))
          | ((refine swp_draw (id := 8) 11 mixed (by kernel_rfl) (by kernel_rfl) ?_) <;> (refine sdraw_pure (.free rfl rfl) rfl (po_move rfl rfl) ?_) <;> (refine sdraw_pure (.free rfl rfl) rfl (po_move rfl rfl) ?_) <;> (first | refine sdraw_pure gy rfl (po_field_bx rfl rfl (tyF rfl)) ?_ | refine sdraw_pure gy rfl (po_field rfl rfl (tyF rfl)) ?_ | refine sdraw_skip gn0 rfl ?_ | ((refine sdraw_split rfl rfl rfl (fun hc => ?_) (fun hc => ?_)) <;> (first | refine sdraw_pure gy rfl (po_field_bx rfl rfl (tyF rfl)) ?_ | refine sdraw_pure gy rfl (po_field rfl rfl (tyF rfl)) ?_ | refine sdraw_skip gn0 rfl ?_))) <;> (first | refine sdraw_pure gy rfl (po_load_bx rfl rfl (tyT rfl) rfl rfl) ?_ | refine sdraw_pure gy rfl (po_load rfl rfl (tyT rfl) rfl) ?_ | refine sdraw_skip gn0 rfl ?_) <;> (first | refine sdraw_pure gy rfl (po_move rfl rfl) ?_ | refine sdraw_skip gn0 rfl ?_) <;> (first | refine sdraw_pure gy rfl (pix rfl (tyS rfl)) ?_ | refine sdraw_skip gn0 rfl ?_) <;> (first | refine sdraw_pure gy rfl (po_load_bx_agg rfl rfl (tyT rfl) rfl (vc (vc .nil)) rfl) ?_ | refine sdraw_pure gy rfl (po_load_agg rfl rfl (tyT rfl) rfl rfl) ?_ | refine sdraw_skip gn0 rfl ?_) <;> (first | refine sdraw_pure gy rfl (po_field_bx rfl rfl (tyF rfl)) ?_ | refine sdraw_pure gy rfl (po_field rfl rfl (tyF rfl)) ?_ | refine sdraw_skip gn0 rfl ?_) <;> (first | refine sdraw_pure gy rfl (po_load_bx rfl rfl (tyT rfl) rfl rfl) ?_ | refine sdraw_pure gy rfl (po_load rfl rfl (tyT rfl) rfl) ?_ | refine sdraw_skip gn0 rfl ?_) <;> (first | refine sdraw_pure gy rfl (po_call (hin) rfl (ac (ac .nil))) ?_ | refine sdraw_skip gn0 rfl ?_) <;> (first | refine sdraw_pure (.free rfl rfl) rfl (pkt rfl) ?_ | refine sdraw_pure (.free rfl rfl) rfl (pkf rfl) ?_) <;> (refine sdraw_nil ?_) <;> (refine sops_pure (.free rfl rfl) rfl rfl (po_assign rfl rfl) ?_) <;> (refine sops_nil ?_))
          | ((refine swp_region (id := 7) ?_) <;> (refine sops_pure (.free rfl rfl) rfl rfl (po_move rfl rfl) ?_) <;> (first | refine sops_pure (.free rfl rfl) rfl rfl (po_inc rfl rfl rfl (by omega)) ?_ | refine sops_pure (.free rfl rfl) rfl rfl (po_arith rfl rfl rfl (ar_add (by first | rfl | (refine wrap_i64 ?_; omega)) rfl)) ?_) <;> (refine sops_pure (.free rfl rfl) rfl rfl (po_assign rfl rfl) ?_) <;> (refine sops_nil ?_))
          | refine swp_ret ?_
          | refine swp_skip ?_
          | refine swp_block ?_
          | refine swp_exit ?_
          | refine block_go ?_
          | refine block_exit ?_
          | refine block_far rfl ?_
          | refine block_ret ?_
          | refine then_ret ?_
          | refine then_exit ?_
          | refine for_ret ?_
          | refine for_exit ?_
          | refine ct ?_
          | refine cf ?_
          | refine swp_cond rfl (fun hc => ?_) (fun hc => ?_)
          | refine retq (by first | exact .inr rfl | exact .inl rfl) rfl (.tmp rfl (by first | exact .t _ | exact .own rfl (by first | rfl | assumption | (simp; done) | (simp; omega)) | exact .nil _ | exact .emp _ | exact .fn _) .nil) ?_)
    · obtain rfl : k = s.nets.length := by omega
      rw [inSo_all]
      cases hb : (s.nets.isEmpty || s.nets.any fun c => inC c a.addr)
      all_goals
        repeat' (first
          | refine then_go ?_
          | refine swp_seq ?_
          | ((refine swp_region (id := 6) ?_) <;> (refine sops_pure (.free rfl rfl) rfl rfl (po_move rfl rfl) ?_) <;> (first | refine sops_pure (.free rfl rfl) rfl rfl (po_field_bx rfl rfl (tyF rfl)) ?_ | refine sops_pure (.free rfl rfl) rfl rfl (po_field rfl rfl (tyF rfl)) ?_) <;> (first | refine sops_pure (.free rfl rfl) rfl rfl (po_load_bx rfl rfl (tyT rfl) rfl rfl) ?_ | refine sops_pure (.free rfl rfl) rfl rfl (po_load rfl rfl (tyT rfl) rfl) ?_) <;> (refine sops_pure (.free rfl rfl) rfl rfl (pln rfl (tyS rfl)) ?_) <;> (refine sops_pure (.free rfl rfl) rfl rfl (po_cmp rfl rfl rfl rfl) ?_) <;> (refine sops_nil ?_))
          | ((refine swp_region (id := 9) ?_) <;> (refine sops_pure (.free rfl rfl) rfl rfl (po_move rfl rfl) ?_) <;> (refine sops_pure (.free rfl rfl) rfl rfl (po_move rfl rfl) ?_) <;> (first | refine sops_pure gy rfl rfl (po_move rfl rfl) ?_ | refine sops_skip gn1 rfl rfl ?_ | ((refine sops_split rfl rfl rfl (fun hc => ?_) (fun hc => ?_)) <;> (first | refine sops_pure gy rfl rfl (po_move rfl rfl) ?_ | refine sops_skip gn1 rfl rfl ?_))) <;> (first | refine sops_pure gy rfl rfl (po_field_bx rfl rfl (tyF rfl)) ?_ | refine sops_pure gy rfl rfl (po_field rfl rfl (tyF rfl)) ?_ | refine sops_skip gn1 rfl rfl ?_) <;> (first | refine sops_pure gy rfl rfl (po_load_bx rfl rfl (tyT rfl) rfl rfl) ?_ | refine sops_pure gy rfl rfl (po_load rfl rfl (tyT rfl) rfl) ?_ | refine sops_skip gn1 rfl rfl ?_) <;> (first | refine sops_pure gy rfl rfl (po_call (hl1) rfl (ac (ac .nil))) ?_ | refine sops_pure gy rfl rfl (po_call (hl2) rfl (ac (ac .nil))) ?_ | refine sops_skip gn1 rfl rfl ?_) <;> (first | refine sops_pure (.free rfl rfl) rfl rfl (pkt rfl) ?_ | refine sops_pure (.free rfl rfl) rfl rfl (pkf rfl) ?_) <;> (refine sops_pure (.free rfl rfl) rfl rfl (po_move rfl rfl) ?_) <;> (first | refine sops_pure gy rfl rfl (po_field_bx rfl rfl (tyF rfl)) ?_ | refine sops_pure gy rfl rfl (po_field rfl rfl (tyF rfl)) ?_ | refine sops_skip gn1 rfl rfl ?_ | ((refine sops_split rfl rfl rfl (fun hc => ?_) (fun hc => ?_)) <;> (first | refine sops_pure gy rfl rfl (po_field_bx rfl rfl (tyF rfl)) ?_ | refine sops_pure gy rfl rfl (po_field rfl rfl (tyF rfl)) ?_ | refine sops_skip gn1 rfl rfl ?_))) <;> (first | refine sops_pure gy rfl rfl (po_field_bx rfl rfl (tyF rfl)) ?_ | refine sops_pure gy rfl rfl (po_field rfl rfl (tyF rfl)) ?_ | refine sops_skip gn1 rfl rfl ?_) <;> (first | refine sops_pure gy rfl rfl (po_load_bx rfl rfl (tyT rfl) rfl rfl) ?_ | refine sops_pure gy rfl rfl (po_load rfl rfl (tyT rfl) rfl) ?_ | refine sops_skip gn1 rfl rfl ?_) <;> (first | refine sops_pure gy rfl rfl (po_field_bx rfl rfl (tyF rfl)) ?_ | refine sops_pure gy rfl rfl (po_field rfl rfl (tyF rfl)) ?_ | refine sops_skip gn1 rfl rfl ?_) <;> (first | refine sops_pure gy rfl rfl (po_load_bx rfl rfl (tyT rfl) rfl rfl) ?_ | refine sops_pure gy rfl rfl (po_load rfl rfl (tyT rfl) rfl) ?_ | refine sops_skip gn1 rfl rfl ?_) <;> (first | refine sops_pure gy rfl rfl (po_call (hl1) rfl (ac (ac .nil))) ?_ | refine sops_pure gy rfl rfl (po_call (hl2) rfl (ac (ac .nil))) ?_ | refine sops_skip gn1 rfl rfl ?_) <;> (first | refine sops_pure (.free rfl rfl) rfl rfl (pkt rfl) ?_ | refine sops_pure (.free rfl rfl) rfl rfl (pkf rfl) ?_) <;> (refine sops_pure (.free rfl rfl) rfl rfl (po_assign rfl rfl) ?_) <;> (refine sops_nil ?_))
          | refine swp_ret ?_
          | refine swp_skip ?_
          | refine swp_block ?_
          | refine swp_exit ?_
          | refine block_go ?_
          | refine block_exit ?_
          | refine block_far rfl ?_
          | refine block_ret ?_
          | refine then_ret ?_
          | refine then_exit ?_
          | refine for_ret ?_
          | refine for_exit ?_
          | refine ct ?_
          | refine cf ?_
          | refine swp_cond rfl (fun hc => ?_) (fun hc => ?_)
          | refine retq (by first | exact .inr rfl | exact .inl rfl) rfl (.tmp rfl (by first | exact .t _ | exact .own rfl (by first | rfl | assumption | (simp; done) | (simp; omega)) | exact .nil _ | exact .emp _ | exact .fn _) .nil) ?_)
      all_goals
        refine eq_b ?_
        simp_all
abbrev reqA (q : Pl.Req) (tg qu : ByteArray) (bd : Value) : List A := [.t (.v (.string q.method)), .t (.v (.string tg)), .t (.v (.string q.path)), .t (.v (.string qu)), .t (.v (.string q.host)), .t (.sl 2 (q.heads.map headT)), .t (.v bd)]
abbrev askA (a : Pl.Asker) : List A := [.t (.v (.string a.ns)), .t (.v (.string a.sa)), .t (.v (.int .u32 a.addr))]
set_option maxRecDepth 100000 in
set_option maxHeartbeats 1000000 in
theorem target_ (t : Pl.Target) (ht : okTarget t) (hf : fewT t) (port : Int) (q : Pl.Req) (hq : OkReq q) (tg qu : ByteArray) (bd : Value) : PCalls Tryz.prog 56 [.agg (targetT t), .v (.int .i64 port), .agg (reqT q tg qu bd)] (.v (.bool (tgtP port q t))) := by
  obtain ⟨f0, f1, f2, f3⟩ := hf
  obtain ⟨k0, k1, k2, k3⟩ := ht
  have hml : (t.ports.map intT).length = t.ports.length := List.length_map _
  have hl1 := lets_ q.method t.methods hq.method k1 f1
  have hl2 := lets_ q.path t.paths hq.path k2 f2
  have hl3 := lets_ q.host t.hosts hq.host k3 f3
  unfold tgtP
  refine pcalls_of Tryz.func56 rfl rfl Tryz.ntmps56 rfl ?_
  repeat' (first
    | refine then_go ?_
    | refine swp_seq ?_
    | ((refine swp_region (id := 0) ?_) <;> (refine sops_box (.free rfl rfl) rfl rfl rfl rfl rfl rfl ?_) <;> (refine sops_box (.free rfl rfl) rfl rfl rfl rfl rfl rfl ?_) <;> (refine sops_pure (.free rfl rfl) rfl rfl (po_assign rfl rfl) ?_) <;> (refine sops_nil ?_))
    | ((refine swp_region (id := 1) ?_) <;> (first | refine sops_pure (.free rfl rfl) rfl rfl (po_field_bx rfl rfl (tyF rfl)) ?_ | refine sops_pure (.free rfl rfl) rfl rfl (po_field rfl rfl (tyF rfl)) ?_) <;> (first | refine sops_pure (.free rfl rfl) rfl rfl (po_load_bx rfl rfl (tyT rfl) rfl rfl) ?_ | refine sops_pure (.free rfl rfl) rfl rfl (po_load rfl rfl (tyT rfl) rfl) ?_) <;> (refine sops_pure (.free rfl rfl) rfl rfl (pln rfl (tyS rfl)) ?_) <;> (refine sops_pure (.free rfl rfl) rfl rfl (po_cmp rfl rfl rfl rfl) ?_) <;> (refine sops_pure (.free rfl rfl) rfl rfl (po_assign rfl rfl) ?_) <;> (refine sops_nil ?_))
    | ((refine swp_region (id := 2) ?_) <;> (refine sops_pure (.free rfl rfl) rfl rfl (po_assign rfl rfl) ?_) <;> (refine sops_nil ?_))
    | refine swp_ret ?_
    | refine swp_skip ?_
    | refine swp_block ?_
    | refine swp_exit ?_
    | refine block_go ?_
    | refine block_exit ?_
    | refine block_far rfl ?_
    | refine block_ret ?_
    | refine then_ret ?_
    | refine then_exit ?_
    | refine for_ret ?_
    | refine for_exit ?_
    | refine ct ?_
    | refine cf ?_
    | refine swp_cond rfl (fun hc => ?_) (fun hc => ?_)
    | refine retq (by first | exact .inr rfl | exact .inl rfl) rfl (.tmp rfl (by first | exact .t _ | exact .own rfl (by first | rfl | assumption | (simp; done) | (simp; omega)) | exact .nil _ | exact .emp _ | exact .fn _) .nil) ?_)
  refine swp_for (fun k => ⟨[(1, .t (.v (.int .i64 port))), (3, .bp 3 0), (5, .bp 5 0), (7, .t (.v (.bool (inSo (fun n => n == port) t.ports k)))), (8, .t (.v (.int .i64 (k : Int))))], [(3, [.t (.sl 1 (t.ports.map intT)), .t (.sl 2 (t.methods.map termT)), .t (.sl 2 (t.paths.map termT)), .t (.sl 2 (t.hosts.map termT))]), (5, reqA q tg qu bd)], []⟩) (fun _ => True) t.ports.length (weak_sub (.cons rfl (by first | rfl | (rw [inSo_zero, hml])) rfl (.cons rfl (by first | rfl | (rw [inSo_zero, hml])) rfl (.cons rfl (by first | rfl | (rw [inSo_zero, hml])) rfl (.cons rfl (by first | rfl | (rw [inSo_zero, hml])) rfl (.cons rfl (by first | rfl | (rw [inSo_zero, hml])) rfl .nil))))) (.cons rfl (by first | rfl | (rw [inSo_zero, hml])) rfl (.cons rfl (by first | rfl | (rw [inSo_zero, hml])) rfl .nil)) .nil) trivial ?_
  intro k hk _
  by_cases hlt : k < t.ports.length
  · cases hb : inSo (fun n => n == port) t.ports k with
    | true =>
      have hs1 := inSo_yes hlt hb
      repeat' (first
        | refine then_go ?_
        | refine swp_seq ?_
        | refine for_next hlt (weak_sub (.cons rfl (by first | rfl | (rw [hs1])) rfl (.cons rfl (by first | rfl | (rw [hs1])) rfl (.cons rfl (by first | rfl | (rw [hs1])) rfl (.cons rfl (by first | rfl | (rw [hs1])) rfl (.cons rfl (by first | rfl | (rw [hs1])) rfl .nil))))) (.cons rfl (by first | rfl | (rw [hs1])) rfl (.cons rfl (by first | rfl | (rw [hs1])) rfl .nil)) .nil) trivial
        | ((refine swp_region (id := 3) ?_) <;> (refine sops_pure (.free rfl rfl) rfl rfl (po_move rfl rfl) ?_) <;> (first | refine sops_pure (.free rfl rfl) rfl rfl (po_field_bx rfl rfl (tyF rfl)) ?_ | refine sops_pure (.free rfl rfl) rfl rfl (po_field rfl rfl (tyF rfl)) ?_) <;> (first | refine sops_pure (.free rfl rfl) rfl rfl (po_load_bx rfl rfl (tyT rfl) rfl rfl) ?_ | refine sops_pure (.free rfl rfl) rfl rfl (po_load rfl rfl (tyT rfl) rfl) ?_) <;> (refine sops_pure (.free rfl rfl) rfl rfl (pln rfl (tyS rfl)) ?_) <;> (refine sops_pure (.free rfl rfl) rfl rfl (po_cmp rfl rfl rfl rfl) ?_) <;> (refine sops_nil ?_))
        | ((refine swp_region (id := 5) ?_) <;> (refine sops_pure (.free rfl rfl) rfl rfl (po_move rfl rfl) ?_) <;> (refine sops_pure (.free rfl rfl) rfl rfl (po_move rfl rfl) ?_) <;> (first | refine sops_pure gy rfl rfl (po_field_bx rfl rfl (tyF rfl)) ?_ | refine sops_pure gy rfl rfl (po_field rfl rfl (tyF rfl)) ?_ | refine sops_skip gn0 rfl rfl ?_ | ((refine sops_split rfl rfl rfl (fun hc => ?_) (fun hc => ?_)) <;> (first | refine sops_pure gy rfl rfl (po_field_bx rfl rfl (tyF rfl)) ?_ | refine sops_pure gy rfl rfl (po_field rfl rfl (tyF rfl)) ?_ | refine sops_skip gn0 rfl rfl ?_))) <;> (first | refine sops_pure gy rfl rfl (po_load_bx rfl rfl (tyT rfl) rfl rfl) ?_ | refine sops_pure gy rfl rfl (po_load rfl rfl (tyT rfl) rfl) ?_ | refine sops_skip gn0 rfl rfl ?_) <;> (first | refine sops_pure gy rfl rfl (po_move rfl rfl) ?_ | refine sops_skip gn0 rfl rfl ?_) <;> (first | refine sops_pure gy rfl rfl (pix rfl (tyS rfl)) ?_ | refine sops_skip gn0 rfl rfl ?_) <;> (first | refine sops_pure gy rfl rfl (po_load_bx rfl rfl (tyT rfl) rfl rfl) ?_ | refine sops_pure gy rfl rfl (po_load rfl rfl (tyT rfl) rfl) ?_ | refine sops_skip gn0 rfl rfl ?_) <;> (first | refine sops_pure gy rfl rfl (po_move rfl rfl) ?_ | refine sops_skip gn0 rfl rfl ?_) <;> (first | refine sops_pure gy rfl rfl (po_cmp rfl rfl rfl rfl) ?_ | refine sops_skip gn0 rfl rfl ?_) <;> (first | refine sops_pure (.free rfl rfl) rfl rfl (pkt rfl) ?_ | refine sops_pure (.free rfl rfl) rfl rfl (pkf rfl) ?_) <;> (refine sops_pure (.free rfl rfl) rfl rfl (po_assign rfl rfl) ?_) <;> (refine sops_nil ?_))
        | ((refine swp_region (id := 4) ?_) <;> (refine sops_pure (.free rfl rfl) rfl rfl (po_move rfl rfl) ?_) <;> (first | refine sops_pure (.free rfl rfl) rfl rfl (po_inc rfl rfl rfl (by omega)) ?_ | refine sops_pure (.free rfl rfl) rfl rfl (po_arith rfl rfl rfl (ar_add (by first | rfl | (refine wrap_i64 ?_; omega)) rfl)) ?_) <;> (refine sops_pure (.free rfl rfl) rfl rfl (po_assign rfl rfl) ?_) <;> (refine sops_nil ?_))
        | refine swp_ret ?_
        | refine swp_skip ?_
        | refine swp_block ?_
        | refine swp_exit ?_
        | refine block_go ?_
        | refine block_exit ?_
        | refine block_far rfl ?_
        | refine block_ret ?_
        | refine then_ret ?_
        | refine then_exit ?_
        | refine for_ret ?_
        | refine for_exit ?_
        | refine ct ?_
        | refine cf ?_
        | refine swp_cond rfl (fun hc => ?_) (fun hc => ?_)
        | refine retq (by first | exact .inr rfl | exact .inl rfl) rfl (.tmp rfl (by first | exact .t _ | exact .own rfl (by first | rfl | assumption | (simp; done) | (simp; omega)) | exact .nil _ | exact .emp _ | exact .fn _) .nil) ?_)
    | false =>
      have hs1 : inSo (fun n => n == port) t.ports (k + 1) = decide (t.ports[k] = port) := inSo_no hlt hb
      repeat' (first
        | refine then_go ?_
        | refine swp_seq ?_
        | refine for_next hlt (weak_sub (.cons rfl (by first | rfl | (rw [hs1])) rfl (.cons rfl (by first | rfl | (rw [hs1])) rfl (.cons rfl (by first | rfl | (rw [hs1])) rfl (.cons rfl (by first | rfl | (rw [hs1])) rfl (.cons rfl (by first | rfl | (rw [hs1])) rfl .nil))))) (.cons rfl (by first | rfl | (rw [hs1])) rfl (.cons rfl (by first | rfl | (rw [hs1])) rfl .nil)) .nil) trivial
        | ((refine swp_region (id := 3) ?_) <;> (refine sops_pure (.free rfl rfl) rfl rfl (po_move rfl rfl) ?_) <;> (first | refine sops_pure (.free rfl rfl) rfl rfl (po_field_bx rfl rfl (tyF rfl)) ?_ | refine sops_pure (.free rfl rfl) rfl rfl (po_field rfl rfl (tyF rfl)) ?_) <;> (first | refine sops_pure (.free rfl rfl) rfl rfl (po_load_bx rfl rfl (tyT rfl) rfl rfl) ?_ | refine sops_pure (.free rfl rfl) rfl rfl (po_load rfl rfl (tyT rfl) rfl) ?_) <;> (refine sops_pure (.free rfl rfl) rfl rfl (pln rfl (tyS rfl)) ?_) <;> (refine sops_pure (.free rfl rfl) rfl rfl (po_cmp rfl rfl rfl rfl) ?_) <;> (refine sops_nil ?_))
        | ((refine swp_region (id := 5) ?_) <;> (refine sops_pure (.free rfl rfl) rfl rfl (po_move rfl rfl) ?_) <;> (refine sops_pure (.free rfl rfl) rfl rfl (po_move rfl rfl) ?_) <;> (first | refine sops_pure gy rfl rfl (po_field_bx rfl rfl (tyF rfl)) ?_ | refine sops_pure gy rfl rfl (po_field rfl rfl (tyF rfl)) ?_ | refine sops_skip gn0 rfl rfl ?_ | ((refine sops_split rfl rfl rfl (fun hc => ?_) (fun hc => ?_)) <;> (first | refine sops_pure gy rfl rfl (po_field_bx rfl rfl (tyF rfl)) ?_ | refine sops_pure gy rfl rfl (po_field rfl rfl (tyF rfl)) ?_ | refine sops_skip gn0 rfl rfl ?_))) <;> (first | refine sops_pure gy rfl rfl (po_load_bx rfl rfl (tyT rfl) rfl rfl) ?_ | refine sops_pure gy rfl rfl (po_load rfl rfl (tyT rfl) rfl) ?_ | refine sops_skip gn0 rfl rfl ?_) <;> (first | refine sops_pure gy rfl rfl (po_move rfl rfl) ?_ | refine sops_skip gn0 rfl rfl ?_) <;> (first | refine sops_pure gy rfl rfl (pix rfl (tyS rfl)) ?_ | refine sops_skip gn0 rfl rfl ?_) <;> (first | refine sops_pure gy rfl rfl (po_load_bx rfl rfl (tyT rfl) rfl rfl) ?_ | refine sops_pure gy rfl rfl (po_load rfl rfl (tyT rfl) rfl) ?_ | refine sops_skip gn0 rfl rfl ?_) <;> (first | refine sops_pure gy rfl rfl (po_move rfl rfl) ?_ | refine sops_skip gn0 rfl rfl ?_) <;> (first | refine sops_pure gy rfl rfl (po_cmp rfl rfl rfl rfl) ?_ | refine sops_skip gn0 rfl rfl ?_) <;> (first | refine sops_pure (.free rfl rfl) rfl rfl (pkt rfl) ?_ | refine sops_pure (.free rfl rfl) rfl rfl (pkf rfl) ?_) <;> (refine sops_pure (.free rfl rfl) rfl rfl (po_assign rfl rfl) ?_) <;> (refine sops_nil ?_))
        | ((refine swp_region (id := 4) ?_) <;> (refine sops_pure (.free rfl rfl) rfl rfl (po_move rfl rfl) ?_) <;> (first | refine sops_pure (.free rfl rfl) rfl rfl (po_inc rfl rfl rfl (by omega)) ?_ | refine sops_pure (.free rfl rfl) rfl rfl (po_arith rfl rfl rfl (ar_add (by first | rfl | (refine wrap_i64 ?_; omega)) rfl)) ?_) <;> (refine sops_pure (.free rfl rfl) rfl rfl (po_assign rfl rfl) ?_) <;> (refine sops_nil ?_))
        | refine swp_ret ?_
        | refine swp_skip ?_
        | refine swp_block ?_
        | refine swp_exit ?_
        | refine block_go ?_
        | refine block_exit ?_
        | refine block_far rfl ?_
        | refine block_ret ?_
        | refine then_ret ?_
        | refine then_exit ?_
        | refine for_ret ?_
        | refine for_exit ?_
        | refine ct ?_
        | refine cf ?_
        | refine swp_cond rfl (fun hc => ?_) (fun hc => ?_)
        | refine retq (by first | exact .inr rfl | exact .inl rfl) rfl (.tmp rfl (by first | exact .t _ | exact .own rfl (by first | rfl | assumption | (simp; done) | (simp; omega)) | exact .nil _ | exact .emp _ | exact .fn _) .nil) ?_)
  · obtain rfl : k = t.ports.length := by omega
    rw [inSo_all]
    cases hb : (t.ports.isEmpty || t.ports.any fun n => n == port)
    all_goals
      repeat' (first
        | refine then_go ?_
        | refine swp_seq ?_
        | ((refine swp_region (id := 3) ?_) <;> (refine sops_pure (.free rfl rfl) rfl rfl (po_move rfl rfl) ?_) <;> (first | refine sops_pure (.free rfl rfl) rfl rfl (po_field_bx rfl rfl (tyF rfl)) ?_ | refine sops_pure (.free rfl rfl) rfl rfl (po_field rfl rfl (tyF rfl)) ?_) <;> (first | refine sops_pure (.free rfl rfl) rfl rfl (po_load_bx rfl rfl (tyT rfl) rfl rfl) ?_ | refine sops_pure (.free rfl rfl) rfl rfl (po_load rfl rfl (tyT rfl) rfl) ?_) <;> (refine sops_pure (.free rfl rfl) rfl rfl (pln rfl (tyS rfl)) ?_) <;> (refine sops_pure (.free rfl rfl) rfl rfl (po_cmp rfl rfl rfl rfl) ?_) <;> (refine sops_nil ?_))
        | ((refine swp_region (id := 6) ?_) <;> (refine sops_pure (.free rfl rfl) rfl rfl (po_move rfl rfl) ?_) <;> (refine sops_pure (.free rfl rfl) rfl rfl (po_move rfl rfl) ?_) <;> (first | refine sops_pure gy rfl rfl (po_field_bx rfl rfl (tyF rfl)) ?_ | refine sops_pure gy rfl rfl (po_field rfl rfl (tyF rfl)) ?_ | refine sops_skip gn1 rfl rfl ?_ | ((refine sops_split rfl rfl rfl (fun hc => ?_) (fun hc => ?_)) <;> (first | refine sops_pure gy rfl rfl (po_field_bx rfl rfl (tyF rfl)) ?_ | refine sops_pure gy rfl rfl (po_field rfl rfl (tyF rfl)) ?_ | refine sops_skip gn1 rfl rfl ?_))) <;> (first | refine sops_pure gy rfl rfl (po_load_bx rfl rfl (tyT rfl) rfl rfl) ?_ | refine sops_pure gy rfl rfl (po_load rfl rfl (tyT rfl) rfl) ?_ | refine sops_skip gn1 rfl rfl ?_) <;> (first | refine sops_pure gy rfl rfl (po_field_bx rfl rfl (tyF rfl)) ?_ | refine sops_pure gy rfl rfl (po_field rfl rfl (tyF rfl)) ?_ | refine sops_skip gn1 rfl rfl ?_) <;> (first | refine sops_pure gy rfl rfl (po_load_bx rfl rfl (tyT rfl) rfl rfl) ?_ | refine sops_pure gy rfl rfl (po_load rfl rfl (tyT rfl) rfl) ?_ | refine sops_skip gn1 rfl rfl ?_) <;> (first | refine sops_pure gy rfl rfl (po_call (hl1) rfl (ac (ac .nil))) ?_ | refine sops_pure gy rfl rfl (po_call (hl2) rfl (ac (ac .nil))) ?_ | refine sops_pure gy rfl rfl (po_call (hl3) rfl (ac (ac .nil))) ?_ | refine sops_skip gn1 rfl rfl ?_) <;> (first | refine sops_pure (.free rfl rfl) rfl rfl (pkt rfl) ?_ | refine sops_pure (.free rfl rfl) rfl rfl (pkf rfl) ?_) <;> (refine sops_pure (.free rfl rfl) rfl rfl (po_move rfl rfl) ?_) <;> (first | refine sops_pure gy rfl rfl (po_field_bx rfl rfl (tyF rfl)) ?_ | refine sops_pure gy rfl rfl (po_field rfl rfl (tyF rfl)) ?_ | refine sops_skip gn1 rfl rfl ?_ | ((refine sops_split rfl rfl rfl (fun hc => ?_) (fun hc => ?_)) <;> (first | refine sops_pure gy rfl rfl (po_field_bx rfl rfl (tyF rfl)) ?_ | refine sops_pure gy rfl rfl (po_field rfl rfl (tyF rfl)) ?_ | refine sops_skip gn1 rfl rfl ?_))) <;> (first | refine sops_pure gy rfl rfl (po_load_bx rfl rfl (tyT rfl) rfl rfl) ?_ | refine sops_pure gy rfl rfl (po_load rfl rfl (tyT rfl) rfl) ?_ | refine sops_skip gn1 rfl rfl ?_) <;> (first | refine sops_pure gy rfl rfl (po_field_bx rfl rfl (tyF rfl)) ?_ | refine sops_pure gy rfl rfl (po_field rfl rfl (tyF rfl)) ?_ | refine sops_skip gn1 rfl rfl ?_) <;> (first | refine sops_pure gy rfl rfl (po_load_bx rfl rfl (tyT rfl) rfl rfl) ?_ | refine sops_pure gy rfl rfl (po_load rfl rfl (tyT rfl) rfl) ?_ | refine sops_skip gn1 rfl rfl ?_) <;> (first | refine sops_pure gy rfl rfl (po_call (hl1) rfl (ac (ac .nil))) ?_ | refine sops_pure gy rfl rfl (po_call (hl2) rfl (ac (ac .nil))) ?_ | refine sops_pure gy rfl rfl (po_call (hl3) rfl (ac (ac .nil))) ?_ | refine sops_skip gn1 rfl rfl ?_) <;> (first | refine sops_pure (.free rfl rfl) rfl rfl (pkt rfl) ?_ | refine sops_pure (.free rfl rfl) rfl rfl (pkf rfl) ?_) <;> (refine sops_pure (.free rfl rfl) rfl rfl (po_move rfl rfl) ?_) <;> (first | refine sops_pure gy rfl rfl (po_field_bx rfl rfl (tyF rfl)) ?_ | refine sops_pure gy rfl rfl (po_field rfl rfl (tyF rfl)) ?_ | refine sops_skip gn1 rfl rfl ?_ | ((refine sops_split rfl rfl rfl (fun hc => ?_) (fun hc => ?_)) <;> (first | refine sops_pure gy rfl rfl (po_field_bx rfl rfl (tyF rfl)) ?_ | refine sops_pure gy rfl rfl (po_field rfl rfl (tyF rfl)) ?_ | refine sops_skip gn1 rfl rfl ?_))) <;> (first | refine sops_pure gy rfl rfl (po_load_bx rfl rfl (tyT rfl) rfl rfl) ?_ | refine sops_pure gy rfl rfl (po_load rfl rfl (tyT rfl) rfl) ?_ | refine sops_skip gn1 rfl rfl ?_) <;> (first | refine sops_pure gy rfl rfl (po_field_bx rfl rfl (tyF rfl)) ?_ | refine sops_pure gy rfl rfl (po_field rfl rfl (tyF rfl)) ?_ | refine sops_skip gn1 rfl rfl ?_) <;> (first | refine sops_pure gy rfl rfl (po_load_bx rfl rfl (tyT rfl) rfl rfl) ?_ | refine sops_pure gy rfl rfl (po_load rfl rfl (tyT rfl) rfl) ?_ | refine sops_skip gn1 rfl rfl ?_) <;> (first | refine sops_pure gy rfl rfl (po_call (hl1) rfl (ac (ac .nil))) ?_ | refine sops_pure gy rfl rfl (po_call (hl2) rfl (ac (ac .nil))) ?_ | refine sops_pure gy rfl rfl (po_call (hl3) rfl (ac (ac .nil))) ?_ | refine sops_skip gn1 rfl rfl ?_) <;> (first | refine sops_pure (.free rfl rfl) rfl rfl (pkt rfl) ?_ | refine sops_pure (.free rfl rfl) rfl rfl (pkf rfl) ?_) <;> (refine sops_pure (.free rfl rfl) rfl rfl (po_assign rfl rfl) ?_) <;> (refine sops_nil ?_))
        | refine swp_ret ?_
        | refine swp_skip ?_
        | refine swp_block ?_
        | refine swp_exit ?_
        | refine block_go ?_
        | refine block_exit ?_
        | refine block_far rfl ?_
        | refine block_ret ?_
        | refine then_ret ?_
        | refine then_exit ?_
        | refine for_ret ?_
        | refine for_exit ?_
        | refine ct ?_
        | refine cf ?_
        | refine swp_cond rfl (fun hc => ?_) (fun hc => ?_)
        | refine retq (by first | exact .inr rfl | exact .inl rfl) rfl (.tmp rfl (by first | exact .t _ | exact .own rfl (by first | rfl | assumption | (simp; done) | (simp; omega)) | exact .nil _ | exact .emp _ | exact .fn _) .nil) ?_)
    all_goals
      refine eq_b ?_
      clear hl1 hl2 hl3
      simp_all
theorem str_eq (a b : ByteArray) : (a.toList == b.toList) = decide (a = b) := by
  rw [Bool.eq_iff_iff, beq_iff_eq, decide_eq_true_eq]
  constructor
  · intro h; exact bs_inj h
  · rintro rfl; rfl
theorem when_app (a b : List Pl.Head) (x : Pl.When) : whenP (a ++ b) x = (whenP a x || whenP b x) := by
  unfold whenP valsOf; rw [List.filter_append, List.map_append, List.any_append]
theorem when_one (h : Pl.Head) (x : Pl.When) : whenP [h] x = (decide (h.name = x.head) && anyT h.value x.terms) := by
  unfold whenP valsOf; rw [← str_eq]
  cases e : (h.name.toList == x.head.toList) <;> simp [List.filter_cons, e]
theorem when_more {l : List Pl.Head} {k : Nat} (hk : k < l.length) {x : Pl.When} (h : whenP (l.take k) x = false) : whenP (l.take (k + 1)) x = (decide (l[k].name = x.head) && anyT l[k].value x.terms) := by
  rw [List.take_succ_eq_append_getElem hk, when_app, h, when_one]; rfl
theorem when_yes {l : List Pl.Head} {k : Nat} (hk : k < l.length) {x : Pl.When} (h : (decide (l[k].name = x.head) && anyT l[k].value x.terms) = true) : whenP l x = true := by
  have e : l = l.take k ++ (l[k] :: l.drop (k + 1)) := by rw [← List.drop_eq_getElem_cons hk, List.take_append_drop]
  rw [e, when_app, show l[k] :: l.drop (k + 1) = [l[k]] ++ l.drop (k + 1) from rfl, when_app, when_one, h]; simp
set_option maxRecDepth 100000 in
set_option maxHeartbeats 1000000 in
theorem when__ (x : Pl.When) (hx : okWhen x) (hf : x.terms.length ≤ 1000) (q : Pl.Req) (hq : OkReq q) (tg qu : ByteArray) (bd : Value) : PCalls Tryz.prog 57 [.agg (whenT x), .agg (reqT q tg qu bd)] (.v (.bool (whenP q.heads x))) := by
  have hml : (q.heads.map headT).length = q.heads.length := List.length_map _
  have hfew := hq.few
  refine pcalls_of Tryz.func57 rfl rfl Tryz.ntmps57 rfl ?_
  repeat' (first
    | refine then_go ?_
    | refine swp_seq ?_
    | ((refine swp_region (id := 0) ?_) <;> (refine sops_box (.free rfl rfl) rfl rfl rfl rfl rfl rfl ?_) <;> (refine sops_box (.free rfl rfl) rfl rfl rfl rfl rfl rfl ?_) <;> (refine sops_pure (.free rfl rfl) rfl rfl (po_assign rfl rfl) ?_) <;> (refine sops_nil ?_))
    | ((refine swp_region (id := 1) ?_) <;> (refine sops_pure (.free rfl rfl) rfl rfl (po_assign rfl rfl) ?_) <;> (refine sops_nil ?_))
    | refine swp_ret ?_
    | refine swp_skip ?_
    | refine swp_block ?_
    | refine swp_exit ?_
    | refine block_go ?_
    | refine block_exit ?_
    | refine block_far rfl ?_
    | refine block_ret ?_
    | refine then_ret ?_
    | refine then_exit ?_
    | refine for_ret ?_
    | refine for_exit ?_
    | refine ct ?_
    | refine cf ?_
    | refine swp_cond rfl (fun hc => ?_) (fun hc => ?_)
    | refine retq (by first | exact .inr rfl | exact .inl rfl) rfl (.tmp rfl (by first | exact .t _ | exact .own rfl (by first | rfl | assumption | (simp; done) | (simp; omega)) | exact .nil _ | exact .emp _ | exact .fn _) .nil) ?_)
  refine swp_for (fun k => ⟨[(2, .bp 2 0), (3, .bp 3 0), (5, .t (.v (.int .i64 (k : Int))))], [(2, [.t (.v (.string x.head)), .t (.sl 2 (x.terms.map termT))]), (3, reqA q tg qu bd)], []⟩) (fun k => whenP (q.heads.take k) x = false) q.heads.length (weak_sub (.cons rfl rfl rfl (.cons rfl rfl rfl (.cons rfl rfl rfl .nil))) (.cons rfl rfl rfl (.cons rfl rfl rfl .nil)) .nil) rfl ?_
  intro k hk hI
  by_cases hlt : k < q.heads.length
  · have hany := any_ q.heads[k].value x.terms (hq.heads _ (List.getElem_mem hlt)).2 hx.2 hf
    repeat' (first
      | refine then_go ?_
      | refine swp_seq ?_
      | refine for_next hlt (weak_sub (.cons rfl rfl rfl (.cons rfl rfl rfl (.cons rfl rfl rfl .nil))) (.cons rfl rfl rfl (.cons rfl rfl rfl .nil)) .nil) ?_
      | ((refine swp_region (id := 2) ?_) <;> (refine sops_pure (.free rfl rfl) rfl rfl (po_move rfl rfl) ?_) <;> (first | refine sops_pure (.free rfl rfl) rfl rfl (po_field_bx rfl rfl (tyF rfl)) ?_ | refine sops_pure (.free rfl rfl) rfl rfl (po_field rfl rfl (tyF rfl)) ?_) <;> (first | refine sops_pure (.free rfl rfl) rfl rfl (po_load_bx rfl rfl (tyT rfl) rfl rfl) ?_ | refine sops_pure (.free rfl rfl) rfl rfl (po_load rfl rfl (tyT rfl) rfl) ?_) <;> (refine sops_pure (.free rfl rfl) rfl rfl (pln rfl (tyS rfl)) ?_) <;> (refine sops_pure (.free rfl rfl) rfl rfl (po_cmp rfl rfl rfl rfl) ?_) <;> (refine sops_nil ?_))
      | ((refine swp_draw_all (id := 4) mixed (by kernel_rfl) (by kernel_rfl) ?_) <;> (first | refine sdraw_pure (.free rfl rfl) rfl (po_field_bx rfl rfl (tyF rfl)) ?_ | refine sdraw_pure (.free rfl rfl) rfl (po_field rfl rfl (tyF rfl)) ?_) <;> (first | refine sdraw_pure (.free rfl rfl) rfl (po_load_bx rfl rfl (tyT rfl) rfl rfl) ?_ | refine sdraw_pure (.free rfl rfl) rfl (po_load rfl rfl (tyT rfl) rfl) ?_) <;> (refine sdraw_pure (.free rfl rfl) rfl (po_move rfl rfl) ?_) <;> (refine sdraw_pure (.free rfl rfl) rfl (pix rfl (tyS rfl)) ?_) <;> (first | refine sdraw_pure (.free rfl rfl) rfl (po_field_bx rfl rfl (tyF rfl)) ?_ | refine sdraw_pure (.free rfl rfl) rfl (po_field rfl rfl (tyF rfl)) ?_) <;> (first | refine sdraw_pure (.free rfl rfl) rfl (po_load_bx rfl rfl (tyT rfl) rfl rfl) ?_ | refine sdraw_pure (.free rfl rfl) rfl (po_load rfl rfl (tyT rfl) rfl) ?_) <;> (first | refine sdraw_pure (.free rfl rfl) rfl (po_field_bx rfl rfl (tyF rfl)) ?_ | refine sdraw_pure (.free rfl rfl) rfl (po_field rfl rfl (tyF rfl)) ?_) <;> (first | refine sdraw_pure (.free rfl rfl) rfl (po_load_bx rfl rfl (tyT rfl) rfl rfl) ?_ | refine sdraw_pure (.free rfl rfl) rfl (po_load rfl rfl (tyT rfl) rfl) ?_) <;> (refine sdraw_pure (.free rfl rfl) rfl (po_str rfl rfl rfl rfl) ?_) <;> (refine sdraw_pure (.free rfl rfl) rfl (po_move rfl rfl) ?_) <;> (first | refine sdraw_pure gy rfl (po_field_bx rfl rfl (tyF rfl)) ?_ | refine sdraw_pure gy rfl (po_field rfl rfl (tyF rfl)) ?_ | refine sdraw_skip gn1 rfl ?_ | ((refine sdraw_split rfl rfl rfl (fun hc => ?_) (fun hc => ?_)) <;> (first | refine sdraw_pure gy rfl (po_field_bx rfl rfl (tyF rfl)) ?_ | refine sdraw_pure gy rfl (po_field rfl rfl (tyF rfl)) ?_ | refine sdraw_skip gn1 rfl ?_))) <;> (first | refine sdraw_pure gy rfl (po_load_bx rfl rfl (tyT rfl) rfl rfl) ?_ | refine sdraw_pure gy rfl (po_load rfl rfl (tyT rfl) rfl) ?_ | refine sdraw_skip gn1 rfl ?_) <;> (first | refine sdraw_pure gy rfl (po_move rfl rfl) ?_ | refine sdraw_skip gn1 rfl ?_) <;> (first | refine sdraw_pure gy rfl (pix rfl (tyS rfl)) ?_ | refine sdraw_skip gn1 rfl ?_) <;> (first | refine sdraw_pure gy rfl (po_field_bx rfl rfl (tyF rfl)) ?_ | refine sdraw_pure gy rfl (po_field rfl rfl (tyF rfl)) ?_ | refine sdraw_skip gn1 rfl ?_) <;> (first | refine sdraw_pure gy rfl (po_load_bx rfl rfl (tyT rfl) rfl rfl) ?_ | refine sdraw_pure gy rfl (po_load rfl rfl (tyT rfl) rfl) ?_ | refine sdraw_skip gn1 rfl ?_) <;> (first | refine sdraw_pure gy rfl (po_field_bx rfl rfl (tyF rfl)) ?_ | refine sdraw_pure gy rfl (po_field rfl rfl (tyF rfl)) ?_ | refine sdraw_skip gn1 rfl ?_) <;> (first | refine sdraw_pure gy rfl (po_load_bx rfl rfl (tyT rfl) rfl rfl) ?_ | refine sdraw_pure gy rfl (po_load rfl rfl (tyT rfl) rfl) ?_ | refine sdraw_skip gn1 rfl ?_) <;> (first | refine sdraw_pure gy rfl (po_call (hany) rfl (ac (ac .nil))) ?_ | refine sdraw_skip gn1 rfl ?_) <;> (first | refine sdraw_pure (.free rfl rfl) rfl (pkt rfl) ?_ | refine sdraw_pure (.free rfl rfl) rfl (pkf rfl) ?_) <;> (refine sdraw_nil ?_) <;> (refine sops_nil ?_))
      | ((refine swp_region (id := 5) ?_) <;> (refine sops_pure (.free rfl rfl) rfl rfl (po_assign rfl rfl) ?_) <;> (refine sops_nil ?_))
      | ((refine swp_region (id := 3) ?_) <;> (refine sops_pure (.free rfl rfl) rfl rfl (po_move rfl rfl) ?_) <;> (first | refine sops_pure (.free rfl rfl) rfl rfl (po_inc rfl rfl rfl (by omega)) ?_ | refine sops_pure (.free rfl rfl) rfl rfl (po_arith rfl rfl rfl (ar_add (by first | rfl | (refine wrap_i64 ?_; omega)) rfl)) ?_) <;> (refine sops_pure (.free rfl rfl) rfl rfl (po_assign rfl rfl) ?_) <;> (refine sops_nil ?_))
      | refine swp_ret ?_
      | refine swp_skip ?_
      | refine swp_block ?_
      | refine swp_exit ?_
      | refine block_go ?_
      | refine block_exit ?_
      | refine block_far rfl ?_
      | refine block_ret ?_
      | refine then_ret ?_
      | refine then_exit ?_
      | refine for_ret ?_
      | refine for_exit ?_
      | refine ct ?_
      | refine cf ?_
      | refine swp_cond rfl (fun hc => ?_) (fun hc => ?_)
      | refine retq (by first | exact .inr rfl | exact .inl rfl) rfl (.tmp rfl (by first | exact .t _ | exact .own rfl (by first | rfl | assumption | (simp; done) | (simp; omega)) | exact .nil _ | exact .emp _ | exact .fn _) .nil) ?_)
    · refine eq_b ?_
      rw [when_yes hlt (by simp_all)]
    all_goals
      rw [when_more hlt hI]; simp_all
  · obtain rfl : k = q.heads.length := by omega
    rw [List.take_length] at hI
    repeat' (first
      | refine then_go ?_
      | refine swp_seq ?_
      | ((refine swp_region (id := 2) ?_) <;> (refine sops_pure (.free rfl rfl) rfl rfl (po_move rfl rfl) ?_) <;> (first | refine sops_pure (.free rfl rfl) rfl rfl (po_field_bx rfl rfl (tyF rfl)) ?_ | refine sops_pure (.free rfl rfl) rfl rfl (po_field rfl rfl (tyF rfl)) ?_) <;> (first | refine sops_pure (.free rfl rfl) rfl rfl (po_load_bx rfl rfl (tyT rfl) rfl rfl) ?_ | refine sops_pure (.free rfl rfl) rfl rfl (po_load rfl rfl (tyT rfl) rfl) ?_) <;> (refine sops_pure (.free rfl rfl) rfl rfl (pln rfl (tyS rfl)) ?_) <;> (refine sops_pure (.free rfl rfl) rfl rfl (po_cmp rfl rfl rfl rfl) ?_) <;> (refine sops_nil ?_))
      | ((refine swp_region (id := 6) ?_) <;> (refine sops_pure (.free rfl rfl) rfl rfl (po_assign rfl rfl) ?_) <;> (refine sops_nil ?_))
      | refine swp_ret ?_
      | refine swp_skip ?_
      | refine swp_block ?_
      | refine swp_exit ?_
      | refine block_go ?_
      | refine block_exit ?_
      | refine block_far rfl ?_
      | refine block_ret ?_
      | refine then_ret ?_
      | refine then_exit ?_
      | refine for_ret ?_
      | refine for_exit ?_
      | refine ct ?_
      | refine cf ?_
      | refine swp_cond rfl (fun hc => ?_) (fun hc => ?_)
      | refine retq (by first | exact .inr rfl | exact .inl rfl) rfl (.tmp rfl (by first | exact .t _ | exact .own rfl (by first | rfl | assumption | (simp; done) | (simp; omega)) | exact .nil _ | exact .emp _ | exact .fn _) .nil) ?_)
    refine eq_b ?_
    rw [hI]
end Go.Proofs.YtlcecabfmemfeaaGreat.Pol

/- The document's answer for auth: Matches, Says, Judge. -/
namespace Go.Proofs.YtlcecabfmemfeaaGreat.Pol
set_option linter.unusedVariables false
set_option linter.unusedSimpArgs false
open Go.RowKit Mem Sim Opn WAddr WName WMatch WAuth
theorem all_snoc {α : Type} {p : α → Bool} {l : List α} {k : Nat} (hk : k < l.length) : (l.take (k + 1)).all p = ((l.take k).all p && p l[k]) := by
  rw [List.take_succ_eq_append_getElem hk, List.all_append]; simp
abbrev ruleA (r : Pl.Rule) : List A := [.t (.sl 3 (r.from_.map sourceT)), .t (.sl 4 (r.to_.map targetT)), .t (.sl 2 (r.when_.map whenT))]
def M1 (r : Pl.Rule) (a : Pl.Asker) (port : Int) (q : Pl.Req) (tg qu : ByteArray) (bd : Value) (k : Nat) : St := ⟨[(2, .t (.v (.int .i64 port))), (4, .bp 4 0), (5, .bp 5 0), (7, .bp 7 0), (9, .t (.v (.bool (inSo (srcP a) r.from_ k)))), (10, .t (.v (.int .i64 (k : Int))))], [(4, ruleA r), (5, askA a), (7, reqA q tg qu bd)], []⟩
def M2 (r : Pl.Rule) (a : Pl.Asker) (port : Int) (q : Pl.Req) (tg qu : ByteArray) (bd : Value) (k : Nat) : St := ⟨[(2, .t (.v (.int .i64 port))), (4, .bp 4 0), (7, .bp 7 0), (9, .t (.v (.bool (inSo (srcP a) r.from_ r.from_.length)))), (11, .t (.v (.bool (inSo (tgtP port q) r.to_ k)))), (12, .t (.v (.int .i64 (k : Int))))], [(4, ruleA r), (7, reqA q tg qu bd)], []⟩
def M3 (r : Pl.Rule) (a : Pl.Asker) (port : Int) (q : Pl.Req) (tg qu : ByteArray) (bd : Value) (k : Nat) : St := ⟨[(4, .bp 4 0), (7, .bp 7 0), (9, .t (.v (.bool (inSo (srcP a) r.from_ r.from_.length)))), (11, .t (.v (.bool (inSo (tgtP port q) r.to_ r.to_.length)))), (13, .t (.v (.int .i64 (k : Int))))], [(4, ruleA r), (7, reqA q tg qu bd)], []⟩
set_option maxRecDepth 100000 in
set_option maxHeartbeats 1000000 in
theorem matches__ (r : Pl.Rule) (hr : okRule r) (hf : FewR r) (a : Pl.Asker) (ha : OkAsk a) (port : Int) (q : Pl.Req) (hq : OkReq q) (tg qu : ByteArray) (bd : Value) : PCalls Tryz.prog 33 [.agg (ruleT r), .agg (askT a), .v (.int .i64 port), .agg (reqT q tg qu bd)] (.v (.bool (matchP a port q r))) := by
  obtain ⟨k0, k1, k2⟩ := hr
  have hm1 : (r.from_.map sourceT).length = r.from_.length := List.length_map _
  have hm2 : (r.to_.map targetT).length = r.to_.length := List.length_map _
  have hm3 : (r.when_.map whenT).length = r.when_.length := List.length_map _
  have n1 := hf.f
  have n2 := hf.t
  have n3 := hf.w
  refine pcalls_of Tryz.func33 rfl rfl Tryz.ntmps33 rfl ?_
  repeat' (first
    | refine then_go ?_
    | refine swp_seq ?_
    | ((refine swp_region (id := 0) ?_) <;> (refine sops_box (.free rfl rfl) rfl rfl rfl rfl rfl rfl ?_) <;> (refine sops_box (.free rfl rfl) rfl rfl rfl rfl rfl rfl ?_) <;> (refine sops_box (.free rfl rfl) rfl rfl rfl rfl rfl rfl ?_) <;> (refine sops_pure (.free rfl rfl) rfl rfl (po_assign rfl rfl) ?_) <;> (refine sops_nil ?_))
    | ((refine swp_region (id := 1) ?_) <;> (first | refine sops_pure (.free rfl rfl) rfl rfl (po_field_bx rfl rfl (tyF rfl)) ?_ | refine sops_pure (.free rfl rfl) rfl rfl (po_field rfl rfl (tyF rfl)) ?_) <;> (first | refine sops_pure (.free rfl rfl) rfl rfl (po_load_bx rfl rfl (tyT rfl) rfl rfl) ?_ | refine sops_pure (.free rfl rfl) rfl rfl (po_load rfl rfl (tyT rfl) rfl) ?_) <;> (refine sops_pure (.free rfl rfl) rfl rfl (pln rfl (tyS rfl)) ?_) <;> (refine sops_pure (.free rfl rfl) rfl rfl (po_cmp rfl rfl rfl rfl) ?_) <;> (refine sops_pure (.free rfl rfl) rfl rfl (po_assign rfl rfl) ?_) <;> (refine sops_nil ?_))
    | ((refine swp_region (id := 2) ?_) <;> (refine sops_pure (.free rfl rfl) rfl rfl (po_assign rfl rfl) ?_) <;> (refine sops_nil ?_))
    | refine swp_ret ?_
    | refine swp_skip ?_
    | refine swp_block ?_
    | refine swp_exit ?_
    | refine block_go ?_
    | refine block_exit ?_
    | refine block_far rfl ?_
    | refine block_ret ?_
    | refine then_ret ?_
    | refine then_exit ?_
    | refine for_ret ?_
    | refine for_exit ?_
    | refine ct ?_
    | refine cf ?_
    | refine swp_cond rfl (fun hc => ?_) (fun hc => ?_)
    | refine retq (by first | exact .inr rfl | exact .inl rfl) rfl (.tmp rfl (by first | exact .t _ | exact .own rfl (by first | rfl | assumption | (simp; done) | (simp; omega)) | exact .nil _ | exact .emp _ | exact .fn _) .nil) ?_)
  refine swp_for (M1 r a port q tg qu bd) (fun _ => True) r.from_.length (weak_sub (.cons rfl (by first | rfl | (rw [inSo_zero, hm1])) rfl (.cons rfl (by first | rfl | (rw [inSo_zero, hm1])) rfl (.cons rfl (by first | rfl | (rw [inSo_zero, hm1])) rfl (.cons rfl (by first | rfl | (rw [inSo_zero, hm1])) rfl (.cons rfl (by first | rfl | (rw [inSo_zero, hm1])) rfl (.cons rfl (by first | rfl | (rw [inSo_zero, hm1])) rfl .nil)))))) (.cons rfl (by first | rfl | (rw [inSo_zero, hm1])) rfl (.cons rfl (by first | rfl | (rw [inSo_zero, hm1])) rfl (.cons rfl (by first | rfl | (rw [inSo_zero, hm1])) rfl .nil))) .nil) trivial ?_
  intro k hk _
  unfold M1
  by_cases hlt : k < r.from_.length
  · have hc := source_ r.from_[k] (k0 _ (List.getElem_mem hlt)) (hf.fs _ (List.getElem_mem hlt)) a ha
    cases hb : inSo (srcP a) r.from_ k with
    | true =>
      have hs1 := inSo_yes hlt hb
      repeat' (first
        | refine then_go ?_
        | refine swp_seq ?_
        | refine for_next hlt (weak_sub (.cons rfl (by first | rfl | (rw [hs1])) rfl (.cons rfl (by first | rfl | (rw [hs1])) rfl (.cons rfl (by first | rfl | (rw [hs1])) rfl (.cons rfl (by first | rfl | (rw [hs1])) rfl (.cons rfl (by first | rfl | (rw [hs1])) rfl (.cons rfl (by first | rfl | (rw [hs1])) rfl .nil)))))) (.cons rfl (by first | rfl | (rw [hs1])) rfl (.cons rfl (by first | rfl | (rw [hs1])) rfl (.cons rfl (by first | rfl | (rw [hs1])) rfl .nil))) .nil) trivial
        | ((refine swp_region (id := 3) ?_) <;> (refine sops_pure (.free rfl rfl) rfl rfl (po_move rfl rfl) ?_) <;> (first | refine sops_pure (.free rfl rfl) rfl rfl (po_field_bx rfl rfl (tyF rfl)) ?_ | refine sops_pure (.free rfl rfl) rfl rfl (po_field rfl rfl (tyF rfl)) ?_) <;> (first | refine sops_pure (.free rfl rfl) rfl rfl (po_load_bx rfl rfl (tyT rfl) rfl rfl) ?_ | refine sops_pure (.free rfl rfl) rfl rfl (po_load rfl rfl (tyT rfl) rfl) ?_) <;> (refine sops_pure (.free rfl rfl) rfl rfl (pln rfl (tyS rfl)) ?_) <;> (refine sops_pure (.free rfl rfl) rfl rfl (po_cmp rfl rfl rfl rfl) ?_) <;> (refine sops_nil ?_))
        | ((refine swp_draw (id := 5) 10 mixed (by kernel_rfl) (by kernel_rfl) ?_) <;> (refine sdraw_pure (.free rfl rfl) rfl (po_move rfl rfl) ?_) <;> (refine sdraw_pure (.free rfl rfl) rfl (po_move rfl rfl) ?_) <;> (first | refine sdraw_pure gy rfl (po_field_bx rfl rfl (tyF rfl)) ?_ | refine sdraw_pure gy rfl (po_field rfl rfl (tyF rfl)) ?_ | refine sdraw_skip gn0 rfl ?_ | ((refine sdraw_split rfl rfl rfl (fun hc => ?_) (fun hc => ?_)) <;> (first | refine sdraw_pure gy rfl (po_field_bx rfl rfl (tyF rfl)) ?_ | refine sdraw_pure gy rfl (po_field rfl rfl (tyF rfl)) ?_ | refine sdraw_skip gn0 rfl ?_))) <;> (first | refine sdraw_pure gy rfl (po_load_bx rfl rfl (tyT rfl) rfl rfl) ?_ | refine sdraw_pure gy rfl (po_load rfl rfl (tyT rfl) rfl) ?_ | refine sdraw_skip gn0 rfl ?_) <;> (first | refine sdraw_pure gy rfl (po_move rfl rfl) ?_ | refine sdraw_skip gn0 rfl ?_) <;> (first | refine sdraw_pure gy rfl (pix rfl (tyS rfl)) ?_ | refine sdraw_skip gn0 rfl ?_) <;> (first | refine sdraw_pure gy rfl (po_load_bx_agg rfl rfl (tyT rfl) rfl (vc (vc (vc .nil))) rfl) ?_ | refine sdraw_pure gy rfl (po_load_agg rfl rfl (tyT rfl) rfl rfl) ?_ | refine sdraw_skip gn0 rfl ?_) <;> (first | refine sdraw_pure gy rfl (po_load_bx_agg rfl rfl (tyT rfl) rfl (vc (vc (vc .nil))) rfl) ?_ | refine sdraw_pure gy rfl (po_load_agg rfl rfl (tyT rfl) rfl rfl) ?_ | refine sdraw_skip gn0 rfl ?_) <;> (first | refine sdraw_pure gy rfl (po_call (hc) rfl (ac (ac .nil))) ?_ | refine sdraw_skip gn0 rfl ?_) <;> (first | refine sdraw_pure (.free rfl rfl) rfl (pkt rfl) ?_ | refine sdraw_pure (.free rfl rfl) rfl (pkf rfl) ?_) <;> (refine sdraw_nil ?_) <;> (refine sops_pure (.free rfl rfl) rfl rfl (po_assign rfl rfl) ?_) <;> (refine sops_nil ?_))
        | ((refine swp_region (id := 4) ?_) <;> (refine sops_pure (.free rfl rfl) rfl rfl (po_move rfl rfl) ?_) <;> (first | refine sops_pure (.free rfl rfl) rfl rfl (po_inc rfl rfl rfl (by omega)) ?_ | refine sops_pure (.free rfl rfl) rfl rfl (po_arith rfl rfl rfl (ar_add (by first | rfl | (refine wrap_i64 ?_; omega)) rfl)) ?_) <;> (refine sops_pure (.free rfl rfl) rfl rfl (po_assign rfl rfl) ?_) <;> (refine sops_nil ?_))
        | refine swp_ret ?_
        | refine swp_skip ?_
        | refine swp_block ?_
        | refine swp_exit ?_
        | refine block_go ?_
        | refine block_exit ?_
        | refine block_far rfl ?_
        | refine block_ret ?_
        | refine then_ret ?_
        | refine then_exit ?_
        | refine for_ret ?_
        | refine for_exit ?_
        | refine ct ?_
        | refine cf ?_
        | refine swp_cond rfl (fun hc => ?_) (fun hc => ?_)
        | refine retq (by first | exact .inr rfl | exact .inl rfl) rfl (.tmp rfl (by first | exact .t _ | exact .own rfl (by first | rfl | assumption | (simp; done) | (simp; omega)) | exact .nil _ | exact .emp _ | exact .fn _) .nil) ?_)
    | false =>
      have hs1 := inSo_no hlt hb
      repeat' (first
        | refine then_go ?_
        | refine swp_seq ?_
        | refine for_next hlt (weak_sub (.cons rfl (by first | rfl | (rw [hs1])) rfl (.cons rfl (by first | rfl | (rw [hs1])) rfl (.cons rfl (by first | rfl | (rw [hs1])) rfl (.cons rfl (by first | rfl | (rw [hs1])) rfl (.cons rfl (by first | rfl | (rw [hs1])) rfl (.cons rfl (by first | rfl | (rw [hs1])) rfl .nil)))))) (.cons rfl (by first | rfl | (rw [hs1])) rfl (.cons rfl (by first | rfl | (rw [hs1])) rfl (.cons rfl (by first | rfl | (rw [hs1])) rfl .nil))) .nil) trivial
        | ((refine swp_region (id := 3) ?_) <;> (refine sops_pure (.free rfl rfl) rfl rfl (po_move rfl rfl) ?_) <;> (first | refine sops_pure (.free rfl rfl) rfl rfl (po_field_bx rfl rfl (tyF rfl)) ?_ | refine sops_pure (.free rfl rfl) rfl rfl (po_field rfl rfl (tyF rfl)) ?_) <;> (first | refine sops_pure (.free rfl rfl) rfl rfl (po_load_bx rfl rfl (tyT rfl) rfl rfl) ?_ | refine sops_pure (.free rfl rfl) rfl rfl (po_load rfl rfl (tyT rfl) rfl) ?_) <;> (refine sops_pure (.free rfl rfl) rfl rfl (pln rfl (tyS rfl)) ?_) <;> (refine sops_pure (.free rfl rfl) rfl rfl (po_cmp rfl rfl rfl rfl) ?_) <;> (refine sops_nil ?_))
        | ((refine swp_draw (id := 5) 10 mixed (by kernel_rfl) (by kernel_rfl) ?_) <;> (refine sdraw_pure (.free rfl rfl) rfl (po_move rfl rfl) ?_) <;> (refine sdraw_pure (.free rfl rfl) rfl (po_move rfl rfl) ?_) <;> (first | refine sdraw_pure gy rfl (po_field_bx rfl rfl (tyF rfl)) ?_ | refine sdraw_pure gy rfl (po_field rfl rfl (tyF rfl)) ?_ | refine sdraw_skip gn0 rfl ?_ | ((refine sdraw_split rfl rfl rfl (fun hc => ?_) (fun hc => ?_)) <;> (first | refine sdraw_pure gy rfl (po_field_bx rfl rfl (tyF rfl)) ?_ | refine sdraw_pure gy rfl (po_field rfl rfl (tyF rfl)) ?_ | refine sdraw_skip gn0 rfl ?_))) <;> (first | refine sdraw_pure gy rfl (po_load_bx rfl rfl (tyT rfl) rfl rfl) ?_ | refine sdraw_pure gy rfl (po_load rfl rfl (tyT rfl) rfl) ?_ | refine sdraw_skip gn0 rfl ?_) <;> (first | refine sdraw_pure gy rfl (po_move rfl rfl) ?_ | refine sdraw_skip gn0 rfl ?_) <;> (first | refine sdraw_pure gy rfl (pix rfl (tyS rfl)) ?_ | refine sdraw_skip gn0 rfl ?_) <;> (first | refine sdraw_pure gy rfl (po_load_bx_agg rfl rfl (tyT rfl) rfl (vc (vc (vc .nil))) rfl) ?_ | refine sdraw_pure gy rfl (po_load_agg rfl rfl (tyT rfl) rfl rfl) ?_ | refine sdraw_skip gn0 rfl ?_) <;> (first | refine sdraw_pure gy rfl (po_load_bx_agg rfl rfl (tyT rfl) rfl (vc (vc (vc .nil))) rfl) ?_ | refine sdraw_pure gy rfl (po_load_agg rfl rfl (tyT rfl) rfl rfl) ?_ | refine sdraw_skip gn0 rfl ?_) <;> (first | refine sdraw_pure gy rfl (po_call (hc) rfl (ac (ac .nil))) ?_ | refine sdraw_skip gn0 rfl ?_) <;> (first | refine sdraw_pure (.free rfl rfl) rfl (pkt rfl) ?_ | refine sdraw_pure (.free rfl rfl) rfl (pkf rfl) ?_) <;> (refine sdraw_nil ?_) <;> (refine sops_pure (.free rfl rfl) rfl rfl (po_assign rfl rfl) ?_) <;> (refine sops_nil ?_))
        | ((refine swp_region (id := 4) ?_) <;> (refine sops_pure (.free rfl rfl) rfl rfl (po_move rfl rfl) ?_) <;> (first | refine sops_pure (.free rfl rfl) rfl rfl (po_inc rfl rfl rfl (by omega)) ?_ | refine sops_pure (.free rfl rfl) rfl rfl (po_arith rfl rfl rfl (ar_add (by first | rfl | (refine wrap_i64 ?_; omega)) rfl)) ?_) <;> (refine sops_pure (.free rfl rfl) rfl rfl (po_assign rfl rfl) ?_) <;> (refine sops_nil ?_))
        | refine swp_ret ?_
        | refine swp_skip ?_
        | refine swp_block ?_
        | refine swp_exit ?_
        | refine block_go ?_
        | refine block_exit ?_
        | refine block_far rfl ?_
        | refine block_ret ?_
        | refine then_ret ?_
        | refine then_exit ?_
        | refine for_ret ?_
        | refine for_exit ?_
        | refine ct ?_
        | refine cf ?_
        | refine swp_cond rfl (fun hc => ?_) (fun hc => ?_)
        | refine retq (by first | exact .inr rfl | exact .inl rfl) rfl (.tmp rfl (by first | exact .t _ | exact .own rfl (by first | rfl | assumption | (simp; done) | (simp; omega)) | exact .nil _ | exact .emp _ | exact .fn _) .nil) ?_)
  obtain rfl : k = r.from_.length := by omega
  repeat' (first
    | refine then_go ?_
    | refine swp_seq ?_
    | ((refine swp_region (id := 3) ?_) <;> (refine sops_pure (.free rfl rfl) rfl rfl (po_move rfl rfl) ?_) <;> (first | refine sops_pure (.free rfl rfl) rfl rfl (po_field_bx rfl rfl (tyF rfl)) ?_ | refine sops_pure (.free rfl rfl) rfl rfl (po_field rfl rfl (tyF rfl)) ?_) <;> (first | refine sops_pure (.free rfl rfl) rfl rfl (po_load_bx rfl rfl (tyT rfl) rfl rfl) ?_ | refine sops_pure (.free rfl rfl) rfl rfl (po_load rfl rfl (tyT rfl) rfl) ?_) <;> (refine sops_pure (.free rfl rfl) rfl rfl (pln rfl (tyS rfl)) ?_) <;> (refine sops_pure (.free rfl rfl) rfl rfl (po_cmp rfl rfl rfl rfl) ?_) <;> (refine sops_nil ?_))
    | ((refine swp_region (id := 6) ?_) <;> (first | refine sops_pure (.free rfl rfl) rfl rfl (po_field_bx rfl rfl (tyF rfl)) ?_ | refine sops_pure (.free rfl rfl) rfl rfl (po_field rfl rfl (tyF rfl)) ?_) <;> (first | refine sops_pure (.free rfl rfl) rfl rfl (po_load_bx rfl rfl (tyT rfl) rfl rfl) ?_ | refine sops_pure (.free rfl rfl) rfl rfl (po_load rfl rfl (tyT rfl) rfl) ?_) <;> (refine sops_pure (.free rfl rfl) rfl rfl (pln rfl (tyS rfl)) ?_) <;> (refine sops_pure (.free rfl rfl) rfl rfl (po_cmp rfl rfl rfl rfl) ?_) <;> (refine sops_pure (.free rfl rfl) rfl rfl (po_assign rfl rfl) ?_) <;> (refine sops_nil ?_))
    | ((refine swp_region (id := 7) ?_) <;> (refine sops_pure (.free rfl rfl) rfl rfl (po_assign rfl rfl) ?_) <;> (refine sops_nil ?_))
    | refine swp_ret ?_
    | refine swp_skip ?_
    | refine swp_block ?_
    | refine swp_exit ?_
    | refine block_go ?_
    | refine block_exit ?_
    | refine block_far rfl ?_
    | refine block_ret ?_
    | refine then_ret ?_
    | refine then_exit ?_
    | refine for_ret ?_
    | refine for_exit ?_
    | refine ct ?_
    | refine cf ?_
    | refine swp_cond rfl (fun hc => ?_) (fun hc => ?_)
    | refine retq (by first | exact .inr rfl | exact .inl rfl) rfl (.tmp rfl (by first | exact .t _ | exact .own rfl (by first | rfl | assumption | (simp; done) | (simp; omega)) | exact .nil _ | exact .emp _ | exact .fn _) .nil) ?_)
  refine swp_for (M2 r a port q tg qu bd) (fun _ => True) r.to_.length (weak_sub (.cons rfl (by first | rfl | (rw [inSo_zero, hm2])) rfl (.cons rfl (by first | rfl | (rw [inSo_zero, hm2])) rfl (.cons rfl (by first | rfl | (rw [inSo_zero, hm2])) rfl (.cons rfl (by first | rfl | (rw [inSo_zero, hm2])) rfl (.cons rfl (by first | rfl | (rw [inSo_zero, hm2])) rfl (.cons rfl (by first | rfl | (rw [inSo_zero, hm2])) rfl .nil)))))) (.cons rfl (by first | rfl | (rw [inSo_zero, hm2])) rfl (.cons rfl (by first | rfl | (rw [inSo_zero, hm2])) rfl .nil)) .nil) trivial ?_
  intro k hk _
  unfold M2
  by_cases hlt : k < r.to_.length
  · have hc := target_ r.to_[k] (k1 _ (List.getElem_mem hlt)) (hf.ts _ (List.getElem_mem hlt)) port q hq tg qu bd
    cases hb : inSo (tgtP port q) r.to_ k with
    | true =>
      have hs1 := inSo_yes hlt hb
      repeat' (first
        | refine then_go ?_
        | refine swp_seq ?_
        | refine for_next hlt (weak_sub (.cons rfl (by first | rfl | (rw [hs1])) rfl (.cons rfl (by first | rfl | (rw [hs1])) rfl (.cons rfl (by first | rfl | (rw [hs1])) rfl (.cons rfl (by first | rfl | (rw [hs1])) rfl (.cons rfl (by first | rfl | (rw [hs1])) rfl (.cons rfl (by first | rfl | (rw [hs1])) rfl .nil)))))) (.cons rfl (by first | rfl | (rw [hs1])) rfl (.cons rfl (by first | rfl | (rw [hs1])) rfl .nil)) .nil) trivial
        | ((refine swp_region (id := 8) ?_) <;> (refine sops_pure (.free rfl rfl) rfl rfl (po_move rfl rfl) ?_) <;> (first | refine sops_pure (.free rfl rfl) rfl rfl (po_field_bx rfl rfl (tyF rfl)) ?_ | refine sops_pure (.free rfl rfl) rfl rfl (po_field rfl rfl (tyF rfl)) ?_) <;> (first | refine sops_pure (.free rfl rfl) rfl rfl (po_load_bx rfl rfl (tyT rfl) rfl rfl) ?_ | refine sops_pure (.free rfl rfl) rfl rfl (po_load rfl rfl (tyT rfl) rfl) ?_) <;> (refine sops_pure (.free rfl rfl) rfl rfl (pln rfl (tyS rfl)) ?_) <;> (refine sops_pure (.free rfl rfl) rfl rfl (po_cmp rfl rfl rfl rfl) ?_) <;> (refine sops_nil ?_))
        | ((refine swp_draw (id := 10) 11 mixed (by kernel_rfl) (by kernel_rfl) ?_) <;> (refine sdraw_pure (.free rfl rfl) rfl (po_move rfl rfl) ?_) <;> (refine sdraw_pure (.free rfl rfl) rfl (po_move rfl rfl) ?_) <;> (first | refine sdraw_pure gy rfl (po_field_bx rfl rfl (tyF rfl)) ?_ | refine sdraw_pure gy rfl (po_field rfl rfl (tyF rfl)) ?_ | refine sdraw_skip gn0 rfl ?_ | ((refine sdraw_split rfl rfl rfl (fun hc => ?_) (fun hc => ?_)) <;> (first | refine sdraw_pure gy rfl (po_field_bx rfl rfl (tyF rfl)) ?_ | refine sdraw_pure gy rfl (po_field rfl rfl (tyF rfl)) ?_ | refine sdraw_skip gn0 rfl ?_))) <;> (first | refine sdraw_pure gy rfl (po_load_bx rfl rfl (tyT rfl) rfl rfl) ?_ | refine sdraw_pure gy rfl (po_load rfl rfl (tyT rfl) rfl) ?_ | refine sdraw_skip gn0 rfl ?_) <;> (first | refine sdraw_pure gy rfl (po_move rfl rfl) ?_ | refine sdraw_skip gn0 rfl ?_) <;> (first | refine sdraw_pure gy rfl (pix rfl (tyS rfl)) ?_ | refine sdraw_skip gn0 rfl ?_) <;> (first | refine sdraw_pure gy rfl (po_load_bx_agg rfl rfl (tyT rfl) rfl (vc (vc (vc (vc .nil)))) rfl) ?_ | refine sdraw_pure gy rfl (po_load_agg rfl rfl (tyT rfl) rfl rfl) ?_ | refine sdraw_skip gn0 rfl ?_) <;> (first | refine sdraw_pure gy rfl (po_move rfl rfl) ?_ | refine sdraw_skip gn0 rfl ?_) <;> (first | refine sdraw_pure gy rfl (po_load_bx_agg rfl rfl (tyT rfl) rfl (vc (vc (vc (vc (vc (vc (vc .nil))))))) rfl) ?_ | refine sdraw_pure gy rfl (po_load_agg rfl rfl (tyT rfl) rfl rfl) ?_ | refine sdraw_skip gn0 rfl ?_) <;> (first | refine sdraw_pure gy rfl (po_call (hc) rfl (ac (ac (ac .nil)))) ?_ | refine sdraw_skip gn0 rfl ?_) <;> (first | refine sdraw_pure (.free rfl rfl) rfl (pkt rfl) ?_ | refine sdraw_pure (.free rfl rfl) rfl (pkf rfl) ?_) <;> (refine sdraw_nil ?_) <;> (refine sops_pure (.free rfl rfl) rfl rfl (po_assign rfl rfl) ?_) <;> (refine sops_nil ?_))
        | ((refine swp_region (id := 9) ?_) <;> (refine sops_pure (.free rfl rfl) rfl rfl (po_move rfl rfl) ?_) <;> (first | refine sops_pure (.free rfl rfl) rfl rfl (po_inc rfl rfl rfl (by omega)) ?_ | refine sops_pure (.free rfl rfl) rfl rfl (po_arith rfl rfl rfl (ar_add (by first | rfl | (refine wrap_i64 ?_; omega)) rfl)) ?_) <;> (refine sops_pure (.free rfl rfl) rfl rfl (po_assign rfl rfl) ?_) <;> (refine sops_nil ?_))
        | refine swp_ret ?_
        | refine swp_skip ?_
        | refine swp_block ?_
        | refine swp_exit ?_
        | refine block_go ?_
        | refine block_exit ?_
        | refine block_far rfl ?_
        | refine block_ret ?_
        | refine then_ret ?_
        | refine then_exit ?_
        | refine for_ret ?_
        | refine for_exit ?_
        | refine ct ?_
        | refine cf ?_
        | refine swp_cond rfl (fun hc => ?_) (fun hc => ?_)
        | refine retq (by first | exact .inr rfl | exact .inl rfl) rfl (.tmp rfl (by first | exact .t _ | exact .own rfl (by first | rfl | assumption | (simp; done) | (simp; omega)) | exact .nil _ | exact .emp _ | exact .fn _) .nil) ?_)
    | false =>
      have hs1 := inSo_no hlt hb
      repeat' (first
        | refine then_go ?_
        | refine swp_seq ?_
        | refine for_next hlt (weak_sub (.cons rfl (by first | rfl | (rw [hs1])) rfl (.cons rfl (by first | rfl | (rw [hs1])) rfl (.cons rfl (by first | rfl | (rw [hs1])) rfl (.cons rfl (by first | rfl | (rw [hs1])) rfl (.cons rfl (by first | rfl | (rw [hs1])) rfl (.cons rfl (by first | rfl | (rw [hs1])) rfl .nil)))))) (.cons rfl (by first | rfl | (rw [hs1])) rfl (.cons rfl (by first | rfl | (rw [hs1])) rfl .nil)) .nil) trivial
        | ((refine swp_region (id := 8) ?_) <;> (refine sops_pure (.free rfl rfl) rfl rfl (po_move rfl rfl) ?_) <;> (first | refine sops_pure (.free rfl rfl) rfl rfl (po_field_bx rfl rfl (tyF rfl)) ?_ | refine sops_pure (.free rfl rfl) rfl rfl (po_field rfl rfl (tyF rfl)) ?_) <;> (first | refine sops_pure (.free rfl rfl) rfl rfl (po_load_bx rfl rfl (tyT rfl) rfl rfl) ?_ | refine sops_pure (.free rfl rfl) rfl rfl (po_load rfl rfl (tyT rfl) rfl) ?_) <;> (refine sops_pure (.free rfl rfl) rfl rfl (pln rfl (tyS rfl)) ?_) <;> (refine sops_pure (.free rfl rfl) rfl rfl (po_cmp rfl rfl rfl rfl) ?_) <;> (refine sops_nil ?_))
        | ((refine swp_draw (id := 10) 11 mixed (by kernel_rfl) (by kernel_rfl) ?_) <;> (refine sdraw_pure (.free rfl rfl) rfl (po_move rfl rfl) ?_) <;> (refine sdraw_pure (.free rfl rfl) rfl (po_move rfl rfl) ?_) <;> (first | refine sdraw_pure gy rfl (po_field_bx rfl rfl (tyF rfl)) ?_ | refine sdraw_pure gy rfl (po_field rfl rfl (tyF rfl)) ?_ | refine sdraw_skip gn0 rfl ?_ | ((refine sdraw_split rfl rfl rfl (fun hc => ?_) (fun hc => ?_)) <;> (first | refine sdraw_pure gy rfl (po_field_bx rfl rfl (tyF rfl)) ?_ | refine sdraw_pure gy rfl (po_field rfl rfl (tyF rfl)) ?_ | refine sdraw_skip gn0 rfl ?_))) <;> (first | refine sdraw_pure gy rfl (po_load_bx rfl rfl (tyT rfl) rfl rfl) ?_ | refine sdraw_pure gy rfl (po_load rfl rfl (tyT rfl) rfl) ?_ | refine sdraw_skip gn0 rfl ?_) <;> (first | refine sdraw_pure gy rfl (po_move rfl rfl) ?_ | refine sdraw_skip gn0 rfl ?_) <;> (first | refine sdraw_pure gy rfl (pix rfl (tyS rfl)) ?_ | refine sdraw_skip gn0 rfl ?_) <;> (first | refine sdraw_pure gy rfl (po_load_bx_agg rfl rfl (tyT rfl) rfl (vc (vc (vc (vc .nil)))) rfl) ?_ | refine sdraw_pure gy rfl (po_load_agg rfl rfl (tyT rfl) rfl rfl) ?_ | refine sdraw_skip gn0 rfl ?_) <;> (first | refine sdraw_pure gy rfl (po_move rfl rfl) ?_ | refine sdraw_skip gn0 rfl ?_) <;> (first | refine sdraw_pure gy rfl (po_load_bx_agg rfl rfl (tyT rfl) rfl (vc (vc (vc (vc (vc (vc (vc .nil))))))) rfl) ?_ | refine sdraw_pure gy rfl (po_load_agg rfl rfl (tyT rfl) rfl rfl) ?_ | refine sdraw_skip gn0 rfl ?_) <;> (first | refine sdraw_pure gy rfl (po_call (hc) rfl (ac (ac (ac .nil)))) ?_ | refine sdraw_skip gn0 rfl ?_) <;> (first | refine sdraw_pure (.free rfl rfl) rfl (pkt rfl) ?_ | refine sdraw_pure (.free rfl rfl) rfl (pkf rfl) ?_) <;> (refine sdraw_nil ?_) <;> (refine sops_pure (.free rfl rfl) rfl rfl (po_assign rfl rfl) ?_) <;> (refine sops_nil ?_))
        | ((refine swp_region (id := 9) ?_) <;> (refine sops_pure (.free rfl rfl) rfl rfl (po_move rfl rfl) ?_) <;> (first | refine sops_pure (.free rfl rfl) rfl rfl (po_inc rfl rfl rfl (by omega)) ?_ | refine sops_pure (.free rfl rfl) rfl rfl (po_arith rfl rfl rfl (ar_add (by first | rfl | (refine wrap_i64 ?_; omega)) rfl)) ?_) <;> (refine sops_pure (.free rfl rfl) rfl rfl (po_assign rfl rfl) ?_) <;> (refine sops_nil ?_))
        | refine swp_ret ?_
        | refine swp_skip ?_
        | refine swp_block ?_
        | refine swp_exit ?_
        | refine block_go ?_
        | refine block_exit ?_
        | refine block_far rfl ?_
        | refine block_ret ?_
        | refine then_ret ?_
        | refine then_exit ?_
        | refine for_ret ?_
        | refine for_exit ?_
        | refine ct ?_
        | refine cf ?_
        | refine swp_cond rfl (fun hc => ?_) (fun hc => ?_)
        | refine retq (by first | exact .inr rfl | exact .inl rfl) rfl (.tmp rfl (by first | exact .t _ | exact .own rfl (by first | rfl | assumption | (simp; done) | (simp; omega)) | exact .nil _ | exact .emp _ | exact .fn _) .nil) ?_)
  obtain rfl : k = r.to_.length := by omega
  repeat' (first
    | refine then_go ?_
    | refine swp_seq ?_
    | ((refine swp_region (id := 8) ?_) <;> (refine sops_pure (.free rfl rfl) rfl rfl (po_move rfl rfl) ?_) <;> (first | refine sops_pure (.free rfl rfl) rfl rfl (po_field_bx rfl rfl (tyF rfl)) ?_ | refine sops_pure (.free rfl rfl) rfl rfl (po_field rfl rfl (tyF rfl)) ?_) <;> (first | refine sops_pure (.free rfl rfl) rfl rfl (po_load_bx rfl rfl (tyT rfl) rfl rfl) ?_ | refine sops_pure (.free rfl rfl) rfl rfl (po_load rfl rfl (tyT rfl) rfl) ?_) <;> (refine sops_pure (.free rfl rfl) rfl rfl (pln rfl (tyS rfl)) ?_) <;> (refine sops_pure (.free rfl rfl) rfl rfl (po_cmp rfl rfl rfl rfl) ?_) <;> (refine sops_nil ?_))
    | ((refine swp_region (id := 11) ?_) <;> (refine sops_pure (.free rfl rfl) rfl rfl (po_assign rfl rfl) ?_) <;> (refine sops_nil ?_))
    | refine swp_ret ?_
    | refine swp_skip ?_
    | refine swp_block ?_
    | refine swp_exit ?_
    | refine block_go ?_
    | refine block_exit ?_
    | refine block_far rfl ?_
    | refine block_ret ?_
    | refine then_ret ?_
    | refine then_exit ?_
    | refine for_ret ?_
    | refine for_exit ?_
    | refine ct ?_
    | refine cf ?_
    | refine swp_cond rfl (fun hc => ?_) (fun hc => ?_)
    | refine retq (by first | exact .inr rfl | exact .inl rfl) rfl (.tmp rfl (by first | exact .t _ | exact .own rfl (by first | rfl | assumption | (simp; done) | (simp; omega)) | exact .nil _ | exact .emp _ | exact .fn _) .nil) ?_)
  refine swp_for (M3 r a port q tg qu bd) (fun k => (r.when_.take k).all (whenP q.heads) = true) r.when_.length (weak_sub (.cons rfl rfl rfl (.cons rfl rfl rfl (.cons rfl rfl rfl (.cons rfl rfl rfl (.cons rfl rfl rfl .nil))))) (.cons rfl rfl rfl (.cons rfl rfl rfl .nil)) .nil) rfl ?_
  intro k hk hI
  unfold M3
  by_cases hlt : k < r.when_.length
  · have hc := when__ r.when_[k] (k2 _ (List.getElem_mem hlt)) (hf.ws _ (List.getElem_mem hlt)) q hq tg qu bd
    have hs1 := all_snoc (p := whenP q.heads) hlt
    rw [hI, Bool.true_and] at hs1
    repeat' (first
      | refine then_go ?_
      | refine swp_seq ?_
      | refine for_next hlt (weak_sub (.cons rfl rfl rfl (.cons rfl rfl rfl (.cons rfl rfl rfl (.cons rfl rfl rfl (.cons rfl rfl rfl .nil))))) (.cons rfl rfl rfl (.cons rfl rfl rfl .nil)) .nil) ?_
      | ((refine swp_region (id := 12) ?_) <;> (refine sops_pure (.free rfl rfl) rfl rfl (po_move rfl rfl) ?_) <;> (first | refine sops_pure (.free rfl rfl) rfl rfl (po_field_bx rfl rfl (tyF rfl)) ?_ | refine sops_pure (.free rfl rfl) rfl rfl (po_field rfl rfl (tyF rfl)) ?_) <;> (first | refine sops_pure (.free rfl rfl) rfl rfl (po_load_bx rfl rfl (tyT rfl) rfl rfl) ?_ | refine sops_pure (.free rfl rfl) rfl rfl (po_load rfl rfl (tyT rfl) rfl) ?_) <;> (refine sops_pure (.free rfl rfl) rfl rfl (pln rfl (tyS rfl)) ?_) <;> (refine sops_pure (.free rfl rfl) rfl rfl (po_cmp rfl rfl rfl rfl) ?_) <;> (refine sops_nil ?_))
      | ((refine swp_draw_all (id := 14) mixed (by kernel_rfl) (by kernel_rfl) ?_) <;> (first | refine sdraw_pure (.free rfl rfl) rfl (po_field_bx rfl rfl (tyF rfl)) ?_ | refine sdraw_pure (.free rfl rfl) rfl (po_field rfl rfl (tyF rfl)) ?_) <;> (first | refine sdraw_pure (.free rfl rfl) rfl (po_load_bx rfl rfl (tyT rfl) rfl rfl) ?_ | refine sdraw_pure (.free rfl rfl) rfl (po_load rfl rfl (tyT rfl) rfl) ?_) <;> (refine sdraw_pure (.free rfl rfl) rfl (po_move rfl rfl) ?_) <;> (refine sdraw_pure (.free rfl rfl) rfl (pix rfl (tyS rfl)) ?_) <;> (first | refine sdraw_pure (.free rfl rfl) rfl (po_load_bx_agg rfl rfl (tyT rfl) rfl (vc (vc .nil)) rfl) ?_ | refine sdraw_pure (.free rfl rfl) rfl (po_load_agg rfl rfl (tyT rfl) rfl rfl) ?_) <;> (first | refine sdraw_pure (.free rfl rfl) rfl (po_load_bx_agg rfl rfl (tyT rfl) rfl (vc (vc (vc (vc (vc (vc (vc .nil))))))) rfl) ?_ | refine sdraw_pure (.free rfl rfl) rfl (po_load_agg rfl rfl (tyT rfl) rfl rfl) ?_) <;> (refine sdraw_pure (.free rfl rfl) rfl (po_call (hc) rfl (ac (ac .nil))) ?_) <;> (refine sdraw_pure (.free rfl rfl) rfl (po_not rfl rfl) ?_) <;> (refine sdraw_nil ?_) <;> (refine sops_nil ?_))
      | ((refine swp_region (id := 15) ?_) <;> (refine sops_pure (.free rfl rfl) rfl rfl (po_assign rfl rfl) ?_) <;> (refine sops_nil ?_))
      | ((refine swp_region (id := 13) ?_) <;> (refine sops_pure (.free rfl rfl) rfl rfl (po_move rfl rfl) ?_) <;> (first | refine sops_pure (.free rfl rfl) rfl rfl (po_inc rfl rfl rfl (by omega)) ?_ | refine sops_pure (.free rfl rfl) rfl rfl (po_arith rfl rfl rfl (ar_add (by first | rfl | (refine wrap_i64 ?_; omega)) rfl)) ?_) <;> (refine sops_pure (.free rfl rfl) rfl rfl (po_assign rfl rfl) ?_) <;> (refine sops_nil ?_))
      | refine swp_ret ?_
      | refine swp_skip ?_
      | refine swp_block ?_
      | refine swp_exit ?_
      | refine block_go ?_
      | refine block_exit ?_
      | refine block_far rfl ?_
      | refine block_ret ?_
      | refine then_ret ?_
      | refine then_exit ?_
      | refine for_ret ?_
      | refine for_exit ?_
      | refine ct ?_
      | refine cf ?_
      | refine swp_cond rfl (fun hc => ?_) (fun hc => ?_)
      | refine retq (by first | exact .inr rfl | exact .inl rfl) rfl (.tmp rfl (by first | exact .t _ | exact .own rfl (by first | rfl | assumption | (simp; done) | (simp; omega)) | exact .nil _ | exact .emp _ | exact .fn _) .nil) ?_)
    · refine eq_b ?_
      have : r.when_.all (whenP q.heads) = false := by
        rw [List.all_eq_false]
        exact ⟨_, List.getElem_mem hlt, by simp_all⟩
      unfold matchP
      rw [this, Bool.and_false]
    · rw [hs1]; simp_all
  · obtain rfl : k = r.when_.length := by omega
    rw [List.take_length] at hI
    unfold matchP
    rw [hI, Bool.and_true, inSo_all, inSo_all]
    cases hb : (r.from_.isEmpty || r.from_.any (srcP a))
    all_goals
      repeat' (first
        | refine then_go ?_
        | refine swp_seq ?_
        | ((refine swp_region (id := 12) ?_) <;> (refine sops_pure (.free rfl rfl) rfl rfl (po_move rfl rfl) ?_) <;> (first | refine sops_pure (.free rfl rfl) rfl rfl (po_field_bx rfl rfl (tyF rfl)) ?_ | refine sops_pure (.free rfl rfl) rfl rfl (po_field rfl rfl (tyF rfl)) ?_) <;> (first | refine sops_pure (.free rfl rfl) rfl rfl (po_load_bx rfl rfl (tyT rfl) rfl rfl) ?_ | refine sops_pure (.free rfl rfl) rfl rfl (po_load rfl rfl (tyT rfl) rfl) ?_) <;> (refine sops_pure (.free rfl rfl) rfl rfl (pln rfl (tyS rfl)) ?_) <;> (refine sops_pure (.free rfl rfl) rfl rfl (po_cmp rfl rfl rfl rfl) ?_) <;> (refine sops_nil ?_))
        | ((refine swp_region (id := 16) ?_) <;> (refine sops_pure (.free rfl rfl) rfl rfl (po_move rfl rfl) ?_) <;> (refine sops_pure (.free rfl rfl) rfl rfl (po_move rfl rfl) ?_) <;> (first | refine sops_pure gy rfl rfl (po_move rfl rfl) ?_ | refine sops_skip gn1 rfl rfl ?_ | ((refine sops_split rfl rfl rfl (fun hc => ?_) (fun hc => ?_)) <;> (first | refine sops_pure gy rfl rfl (po_move rfl rfl) ?_ | refine sops_skip gn1 rfl rfl ?_))) <;> (first | refine sops_pure (.free rfl rfl) rfl rfl (pkt rfl) ?_ | refine sops_pure (.free rfl rfl) rfl rfl (pkf rfl) ?_) <;> (refine sops_pure (.free rfl rfl) rfl rfl (po_assign rfl rfl) ?_) <;> (refine sops_nil ?_))
        | refine swp_ret ?_
        | refine swp_skip ?_
        | refine swp_block ?_
        | refine swp_exit ?_
        | refine block_go ?_
        | refine block_exit ?_
        | refine block_far rfl ?_
        | refine block_ret ?_
        | refine then_ret ?_
        | refine then_exit ?_
        | refine for_ret ?_
        | refine for_exit ?_
        | refine ct ?_
        | refine cf ?_
        | refine swp_cond rfl (fun hc => ?_) (fun hc => ?_)
        | refine retq (by first | exact .inr rfl | exact .inl rfl) rfl (.tmp rfl (by first | exact .t _ | exact .own rfl (by first | rfl | assumption | (simp; done) | (simp; omega)) | exact .nil _ | exact .emp _ | exact .fn _) .nil) ?_)
    all_goals
      refine eq_b ?_
      simp
theorem eq_bi {a b : Bool} {x y : Int} (h : a = b) (h' : x = y) : T.tup [.v (.bool a), .v (.int .u64 x)] = resT [.v (.bool b), .v (.int .u64 y)] := by rw [h, h']; rfl
section
open Pl
variable (M : Pl.Rule → Bool)
def byP (d : Bool) (A : List Pl.Policy) : Option Int := (firstP M d A).map (·.id)
def bySt (A : List Pl.Policy) (p : Pl.Policy) (j : Nat) : Option Int := (byP M false A).or (if kindP false p && (p.rules.take j).any M then some p.id else none)
theorem first_snoc (d : Bool) (A : List Pl.Policy) (p : Pl.Policy) : firstP M d (A ++ [p]) = (firstP M d A).or (if kindP d p && p.rules.any M then some p else none) := by
  unfold firstP
  rw [List.find?_append, List.find?_cons]
  cases kindP d p && p.rules.any M <;> simp
theorem byP_snoc (A : List Pl.Policy) (p : Pl.Policy) : byP M false (A ++ [p]) = bySt M A p p.rules.length := by
  unfold bySt byP
  rw [first_snoc, List.take_length]
  cases firstP M false A <;> simp
  try (cases kindP false p && p.rules.any M <;> simp)
theorem bySt_zero (A : List Pl.Policy) (p : Pl.Policy) : bySt M A p 0 = byP M false A := by unfold bySt; simp
theorem any_snoc {p : Pl.Policy} {j : Nat} (hj : j < p.rules.length) : (p.rules.take (j + 1)).any M = ((p.rules.take j).any M || M p.rules[j]) := by
  rw [List.take_succ_eq_append_getElem hj, List.any_append]; simp
theorem bySt_no {A : List Pl.Policy} {p : Pl.Policy} {j : Nat} (hj : j < p.rules.length) (h : M p.rules[j] = false) : bySt M A p (j + 1) = bySt M A p j := by
  unfold bySt; rw [any_snoc M hj, h, Bool.or_false]
theorem bySt_new {A : List Pl.Policy} {p : Pl.Policy} {j : Nat} (hj : j < p.rules.length) (hk : kindP false p = true) (h : M p.rules[j] = true) (ho : bySt M A p j = none) : bySt M A p (j + 1) = some p.id := by
  unfold bySt at *; rw [any_snoc M hj, h, Bool.or_true, hk]
  cases e : byP M false A with
  | none => rfl
  | some x => rw [e] at ho; simp at ho
theorem bySt_old {A : List Pl.Policy} {p : Pl.Policy} {j : Nat} {x : Int} (hj : j < p.rules.length) (h : bySt M A p j = some x) : bySt M A p (j + 1) = some x := by
  unfold bySt at *; rw [any_snoc M hj]
  cases e : byP M false A with
  | some y => rw [e] at h; simpa using h
  | none =>
    rw [e] at h
    cases hk : kindP false p
    · rw [hk] at h; simp at h
    · cases ha : (p.rules.take j).any M
      · rw [ha, hk] at h; simp at h
      · rw [ha, hk] at h; simpa using h
theorem deny_yes {l : List Pl.Policy} {i j : Nat} (hi : i < l.length) (hj : j < l[i].rules.length) (h0 : firstP M true (l.take i) = none) (hd : l[i].deny = 1) (h : M l[i].rules[j] = true) : judgeP M l = (false, l[i].id) := by
  have e : l = l.take i ++ (l[i] :: l.drop (i + 1)) := by rw [← List.drop_eq_getElem_cons hi, List.take_append_drop]
  have hf : firstP M true l = some l[i] := by
    have ha : l[i].rules.any M = true := List.any_eq_true.2 ⟨_, List.getElem_mem hj, h⟩
    have hk : kindP true l[i] = true := by simp [kindP, hd]
    unfold firstP at *
    conv => lhs; rw [e]
    rw [List.find?_append, h0, List.find?_cons, hk, ha]; rfl
  unfold judgeP; rw [hf]
theorem judge_end {l : List Pl.Policy} (h : firstP M true l = none) : judgeP M l = ((byP M false l).isSome || !someP false l, (byP M false l).getD 0) := by
  unfold judgeP byP; rw [h]
  cases firstP M false l <;> simp
end
def hitR (M : Pl.Rule → Bool) (r : Pl.Rule) : List T := [.v (.int .i64 (if M r = true then 1 else 0))]
def hitP (M : Pl.Rule → Bool) (p : Pl.Policy) : List T := [.sl 1 (p.rules.map (hitR M))]
def Y1 (M : Pl.Rule → Bool) (l : List Pl.Policy) (k : Nat) : St := ⟨[(0, .t (.sl 5 (l.map polT))), (1, .t (.sl 1 (l.map (hitP M)))), (6, .t (.v (.bool (Pl.someP false (l.take k))))), (7, .t (.v (.bool (byP M false (l.take k)).isSome))), (8, .t (.v (.int .u64 ((byP M false (l.take k)).getD 0)))), (9, .t (.v (.int .i64 (k : Int))))], [], []⟩
def Y2 (M : Pl.Rule → Bool) (l : List Pl.Policy) (i : Nat) (p : Pl.Policy) (j : Nat) : St := ⟨[(0, .t (.sl 5 (l.map polT))), (1, .t (.sl 1 (l.map (hitP M)))), (6, .t (.v (.bool (Pl.someP false (l.take (i + 1)))))), (7, .t (.v (.bool (bySt M (l.take i) p j).isSome))), (8, .t (.v (.int .u64 ((bySt M (l.take i) p j).getD 0)))), (9, .t (.v (.int .i64 (i : Int)))), (10, .t (.v (.int .i64 (j : Int))))], [], []⟩
set_option maxRecDepth 100000 in
set_option maxHeartbeats 1000000 in
theorem says_ (M : Pl.Rule → Bool) (l : List Pl.Policy) (hn : l.length ≤ 1000) (hr : ∀ p ∈ l, p.rules.length ≤ 1000) : PCalls Tryz.prog 34 [.sl 5 (l.map polT), .sl 1 (l.map (hitP M))] (.tup [.v (.bool (Pl.judgeP M l).1), .v (.int .u64 (Pl.judgeP M l).2)]) := by
  have hm1 : (l.map polT).length = l.length := List.length_map _
  refine pcalls_of Tryz.func34 rfl rfl Tryz.ntmps34 rfl ?_
  repeat' (first
    | refine then_go ?_
    | refine swp_seq ?_
    | ((refine swp_region (id := 0) ?_) <;> (refine sops_pure (.free rfl rfl) rfl rfl (po_assign rfl rfl) ?_) <;> (refine sops_pure (.free rfl rfl) rfl rfl (po_assign rfl rfl) ?_) <;> (refine sops_nil ?_))
    | ((refine swp_region (id := 1) ?_) <;> (refine sops_pure (.free rfl rfl) rfl rfl (po_assign rfl rfl) ?_) <;> (refine sops_nil ?_))
    | ((refine swp_region (id := 2) ?_) <;> (refine sops_pure (.free rfl rfl) rfl rfl (po_assign rfl rfl) ?_) <;> (refine sops_nil ?_))
    | ((refine swp_region (id := 3) ?_) <;> (refine sops_pure (.free rfl rfl) rfl rfl (po_assign rfl rfl) ?_) <;> (refine sops_nil ?_))
    | ((refine swp_region (id := 4) ?_) <;> (refine sops_pure (.free rfl rfl) rfl rfl (po_assign rfl rfl) ?_) <;> (refine sops_nil ?_))
    | refine swp_ret ?_
    | refine swp_skip ?_
    | refine swp_block ?_
    | refine swp_exit ?_
    | refine block_go ?_
    | refine block_exit ?_
    | refine block_far rfl ?_
    | refine block_ret ?_
    | refine then_ret ?_
    | refine then_exit ?_
    | refine for_ret ?_
    | refine for_exit ?_
    | refine ct ?_
    | refine cf ?_
    | refine swp_cond rfl (fun hc => ?_) (fun hc => ?_)
    | refine retq (by first | exact .inr rfl | exact .inl rfl) rfl (.tmp rfl (by first | exact .t _ | exact .own rfl (by first | rfl | assumption | (simp; done) | (simp; omega)) | exact .nil _ | exact .emp _ | exact .fn _) (.tmp rfl (by first | exact .t _ | exact .own rfl (by first | rfl | assumption | (simp; done) | (simp; omega)) | exact .nil _ | exact .emp _ | exact .fn _) .nil)) ?_)
  refine swp_for (Y1 M l) (fun k => Pl.firstP M true (l.take k) = none) l.length (weak_sub (.cons rfl rfl rfl (.cons rfl rfl rfl (.cons rfl rfl rfl (.cons rfl rfl rfl (.cons rfl rfl rfl (.cons rfl rfl rfl .nil)))))) .nil .nil) rfl ?_
  intro k hk hI
  unfold Y1
  by_cases hlt : k < l.length
  · have hnr := hr _ (List.getElem_mem hlt)
    have hm2 : (l[k].rules.map ruleT).length = l[k].rules.length := List.length_map _
    have hsn : l.take (k + 1) = l.take k ++ [l[k]] := List.take_succ_eq_append_getElem hlt
    have hso : Pl.someP false (l.take (k + 1)) = (Pl.someP false (l.take k) || !decide (l[k].deny = 1)) := by
      rw [hsn, Pl.some_append]; congr 1; unfold Pl.someP Pl.kindP; by_cases e : l[k].deny = 1 <;> simp [e]
    have hfi : (Pl.firstP M true (l.take (k + 1))) = if Pl.kindP true l[k] && l[k].rules.any M then some l[k] else none := by rw [hsn, first_snoc, hI]; rfl
    have hby := byP_snoc M (l.take k) l[k]
    rw [← hsn] at hby
    have hz := bySt_zero M (l.take k) l[k]
    by_cases hd : l[k].deny = 1
    · rw [decide_eq_true hd, Bool.not_true, Bool.or_false] at hso
      have hkt : Pl.kindP true l[k] = true := by simp [Pl.kindP, hd]
      have hkf : Pl.kindP false l[k] = false := by simp [Pl.kindP, hd]
      repeat' (first
        | refine then_go ?_
        | refine swp_seq ?_
        | ((refine swp_region (id := 5) ?_) <;> (refine sops_pure (.free rfl rfl) rfl rfl (po_move rfl rfl) ?_) <;> (refine sops_pure (.free rfl rfl) rfl rfl (po_move rfl rfl) ?_) <;> (refine sops_pure (.free rfl rfl) rfl rfl (pln rfl (tyS rfl)) ?_) <;> (refine sops_pure (.free rfl rfl) rfl rfl (po_cmp rfl rfl rfl rfl) ?_) <;> (refine sops_nil ?_))
        | ((refine swp_region (id := 7) ?_) <;> (refine sops_pure (.free rfl rfl) rfl rfl (po_move rfl rfl) ?_) <;> (refine sops_pure (.free rfl rfl) rfl rfl (po_move rfl rfl) ?_) <;> (refine sops_pure (.free rfl rfl) rfl rfl (pix rfl (tyS rfl)) ?_) <;> (first | refine sops_pure (.free rfl rfl) rfl rfl (po_field_bx rfl rfl (tyF rfl)) ?_ | refine sops_pure (.free rfl rfl) rfl rfl (po_field rfl rfl (tyF rfl)) ?_) <;> (first | refine sops_pure (.free rfl rfl) rfl rfl (po_load_bx rfl rfl (tyT rfl) rfl rfl) ?_ | refine sops_pure (.free rfl rfl) rfl rfl (po_load rfl rfl (tyT rfl) rfl) ?_) <;> (refine sops_pure (.free rfl rfl) rfl rfl (po_cmp rfl rfl rfl rfl) ?_) <;> (refine sops_nil ?_))
        | ((refine swp_region (id := 8) ?_) <;> (refine sops_pure (.free rfl rfl) rfl rfl (po_assign rfl rfl) ?_) <;> (refine sops_nil ?_))
        | ((refine swp_region (id := 9) ?_) <;> (refine sops_pure (.free rfl rfl) rfl rfl (po_assign rfl rfl) ?_) <;> (refine sops_nil ?_))
        | refine swp_ret ?_
        | refine swp_skip ?_
        | refine swp_block ?_
        | refine swp_exit ?_
        | refine block_go ?_
        | refine block_exit ?_
        | refine block_far rfl ?_
        | refine block_ret ?_
        | refine then_ret ?_
        | refine then_exit ?_
        | refine for_ret ?_
        | refine for_exit ?_
        | refine ct ?_
        | refine cf ?_
        | refine swp_cond rfl (fun hc => ?_) (fun hc => ?_)
        | refine retq (by first | exact .inr rfl | exact .inl rfl) rfl (.tmp rfl (by first | exact .t _ | exact .own rfl (by first | rfl | assumption | (simp; done) | (simp; omega)) | exact .nil _ | exact .emp _ | exact .fn _) (.tmp rfl (by first | exact .t _ | exact .own rfl (by first | rfl | assumption | (simp; done) | (simp; omega)) | exact .nil _ | exact .emp _ | exact .fn _) .nil)) ?_)
      refine swp_for (Y2 M l k l[k]) (fun j => (l[k].rules.take j).any M = false) l[k].rules.length (weak_sub (.cons rfl (by first | rfl | (first | rw [hso] | rw [hz])) rfl (.cons rfl (by first | rfl | (first | rw [hso] | rw [hz])) rfl (.cons rfl (by first | rfl | (first | rw [hso] | rw [hz])) rfl (.cons rfl (by first | rfl | (first | rw [hso] | rw [hz])) rfl (.cons rfl (by first | rfl | (first | rw [hso] | rw [hz])) rfl (.cons rfl (by first | rfl | (first | rw [hso] | rw [hz])) rfl (.cons rfl (by first | rfl | (first | rw [hso] | rw [hz])) rfl .nil))))))) .nil .nil) rfl ?_
      intro j hj hJ
      unfold Y2
      by_cases hjl : j < l[k].rules.length
      · cases hM : M l[k].rules[j] with
        | true =>
          have hz2 : decide ((if M l[k].rules[j] = true then (1 : Int) else 0) = 0) = false := by rw [hM]; rfl
          repeat' (first
            | refine then_go ?_
            | refine swp_seq ?_
            | ((refine swp_region (id := 10) ?_) <;> (refine sops_pure (.free rfl rfl) rfl rfl (po_move rfl rfl) ?_) <;> (refine sops_pure (.free rfl rfl) rfl rfl (po_move rfl rfl) ?_) <;> (refine sops_pure (.free rfl rfl) rfl rfl (po_move rfl rfl) ?_) <;> (refine sops_pure (.free rfl rfl) rfl rfl (pix rfl (tyS rfl)) ?_) <;> (first | refine sops_pure (.free rfl rfl) rfl rfl (po_field_bx rfl rfl (tyF rfl)) ?_ | refine sops_pure (.free rfl rfl) rfl rfl (po_field rfl rfl (tyF rfl)) ?_) <;> (first | refine sops_pure (.free rfl rfl) rfl rfl (po_load_bx rfl rfl (tyT rfl) rfl rfl) ?_ | refine sops_pure (.free rfl rfl) rfl rfl (po_load rfl rfl (tyT rfl) rfl) ?_) <;> (refine sops_pure (.free rfl rfl) rfl rfl (pln rfl (tyS rfl)) ?_) <;> (refine sops_pure (.free rfl rfl) rfl rfl (po_cmp rfl rfl rfl rfl) ?_) <;> (refine sops_nil ?_))
            | ((refine swp_region (id := 12) ?_) <;> (refine sops_pure (.free rfl rfl) rfl rfl (po_move rfl rfl) ?_) <;> (refine sops_pure (.free rfl rfl) rfl rfl (po_move rfl rfl) ?_) <;> (refine sops_pure (.free rfl rfl) rfl rfl (pix rfl (tyS rfl)) ?_) <;> (first | refine sops_pure (.free rfl rfl) rfl rfl (po_load_bx rfl rfl (tyT rfl) rfl rfl) ?_ | refine sops_pure (.free rfl rfl) rfl rfl (po_load rfl rfl (tyT rfl) rfl) ?_) <;> (refine sops_pure (.free rfl rfl) rfl rfl (po_move rfl rfl) ?_) <;> (refine sops_pure (.free rfl rfl) rfl rfl (pix rfl (tyS rfl)) ?_) <;> (first | refine sops_pure (.free rfl rfl) rfl rfl (po_load_bx rfl rfl (tyT rfl) rfl rfl) ?_ | refine sops_pure (.free rfl rfl) rfl rfl (po_load rfl rfl (tyT rfl) rfl) ?_) <;> (refine sops_pure (.free rfl rfl) rfl rfl (po_cmp rfl rfl rfl rfl) ?_) <;> (refine sops_nil ?_))
            | ((refine swp_region (id := 13) ?_) <;> (refine sops_pure (.free rfl rfl) rfl rfl (po_move rfl rfl) ?_) <;> (refine sops_pure (.free rfl rfl) rfl rfl (po_move rfl rfl) ?_) <;> (refine sops_pure (.free rfl rfl) rfl rfl (pix rfl (tyS rfl)) ?_) <;> (first | refine sops_pure (.free rfl rfl) rfl rfl (po_field_bx rfl rfl (tyF rfl)) ?_ | refine sops_pure (.free rfl rfl) rfl rfl (po_field rfl rfl (tyF rfl)) ?_) <;> (first | refine sops_pure (.free rfl rfl) rfl rfl (po_load_bx rfl rfl (tyT rfl) rfl rfl) ?_ | refine sops_pure (.free rfl rfl) rfl rfl (po_load rfl rfl (tyT rfl) rfl) ?_) <;> (refine sops_pure (.free rfl rfl) rfl rfl (po_cmp rfl rfl rfl rfl) ?_) <;> (refine sops_nil ?_))
            | ((refine swp_draw_all (id := 14) mixed (by kernel_rfl) (by kernel_rfl) ?_) <;> (refine sdraw_pure (.free rfl rfl) rfl (po_move rfl rfl) ?_) <;> (refine sdraw_pure (.free rfl rfl) rfl (po_move rfl rfl) ?_) <;> (refine sdraw_pure (.free rfl rfl) rfl (pix rfl (tyS rfl)) ?_) <;> (first | refine sdraw_pure (.free rfl rfl) rfl (po_field_bx rfl rfl (tyF rfl)) ?_ | refine sdraw_pure (.free rfl rfl) rfl (po_field rfl rfl (tyF rfl)) ?_) <;> (first | refine sdraw_pure (.free rfl rfl) rfl (po_load_bx rfl rfl (tyT rfl) rfl rfl) ?_ | refine sdraw_pure (.free rfl rfl) rfl (po_load rfl rfl (tyT rfl) rfl) ?_) <;> (refine sdraw_pure (.free rfl rfl) rfl (po_assign rfl rfl) ?_) <;> (refine sdraw_pure (.free rfl rfl) rfl (po_assign rfl rfl) ?_) <;> (refine sdraw_nil ?_) <;> (refine sops_nil ?_))
            | refine swp_ret ?_
            | refine swp_skip ?_
            | refine swp_block ?_
            | refine swp_exit ?_
            | refine block_go ?_
            | refine block_exit ?_
            | refine block_far rfl ?_
            | refine block_ret ?_
            | refine then_ret ?_
            | refine then_exit ?_
            | refine for_ret ?_
            | refine for_exit ?_
            | refine ct ?_
            | refine cf ?_
            | refine swp_cond rfl (fun hc => ?_) (fun hc => ?_)
            | refine retq (by first | exact .inr rfl | exact .inl rfl) rfl (.tmp rfl (by first | exact .t _ | exact .own rfl (by first | rfl | assumption | (simp; done) | (simp; omega)) | exact .nil _ | exact .emp _ | exact .fn _) (.tmp rfl (by first | exact .t _ | exact .own rfl (by first | rfl | assumption | (simp; done) | (simp; omega)) | exact .nil _ | exact .emp _ | exact .fn _) .nil)) ?_)
          refine eq_bi ?_ ?_
          · rw [deny_yes M hlt hjl hI hd hM]
          · rw [deny_yes M hlt hjl hI hd hM]
        | false =>
          have hz2 : decide ((if M l[k].rules[j] = true then (1 : Int) else 0) = 0) = true := by rw [hM]; rfl
          have hs := bySt_no M (A := l.take k) hjl hM
          repeat' (first
            | refine then_go ?_
            | refine swp_seq ?_
            | refine for_next hjl (weak_sub (.cons rfl (by first | rfl | (rw [hs]; try rfl)) rfl (.cons rfl (by first | rfl | (rw [hs]; try rfl)) rfl (.cons rfl (by first | rfl | (rw [hs]; try rfl)) rfl (.cons rfl (by first | rfl | (rw [hs]; try rfl)) rfl (.cons rfl (by first | rfl | (rw [hs]; try rfl)) rfl (.cons rfl (by first | rfl | (rw [hs]; try rfl)) rfl (.cons rfl (by first | rfl | (rw [hs]; try rfl)) rfl .nil))))))) .nil .nil) ?_
            | ((refine swp_region (id := 10) ?_) <;> (refine sops_pure (.free rfl rfl) rfl rfl (po_move rfl rfl) ?_) <;> (refine sops_pure (.free rfl rfl) rfl rfl (po_move rfl rfl) ?_) <;> (refine sops_pure (.free rfl rfl) rfl rfl (po_move rfl rfl) ?_) <;> (refine sops_pure (.free rfl rfl) rfl rfl (pix rfl (tyS rfl)) ?_) <;> (first | refine sops_pure (.free rfl rfl) rfl rfl (po_field_bx rfl rfl (tyF rfl)) ?_ | refine sops_pure (.free rfl rfl) rfl rfl (po_field rfl rfl (tyF rfl)) ?_) <;> (first | refine sops_pure (.free rfl rfl) rfl rfl (po_load_bx rfl rfl (tyT rfl) rfl rfl) ?_ | refine sops_pure (.free rfl rfl) rfl rfl (po_load rfl rfl (tyT rfl) rfl) ?_) <;> (refine sops_pure (.free rfl rfl) rfl rfl (pln rfl (tyS rfl)) ?_) <;> (refine sops_pure (.free rfl rfl) rfl rfl (po_cmp rfl rfl rfl rfl) ?_) <;> (refine sops_nil ?_))
            | ((refine swp_region (id := 12) ?_) <;> (refine sops_pure (.free rfl rfl) rfl rfl (po_move rfl rfl) ?_) <;> (refine sops_pure (.free rfl rfl) rfl rfl (po_move rfl rfl) ?_) <;> (refine sops_pure (.free rfl rfl) rfl rfl (pix rfl (tyS rfl)) ?_) <;> (first | refine sops_pure (.free rfl rfl) rfl rfl (po_load_bx rfl rfl (tyT rfl) rfl rfl) ?_ | refine sops_pure (.free rfl rfl) rfl rfl (po_load rfl rfl (tyT rfl) rfl) ?_) <;> (refine sops_pure (.free rfl rfl) rfl rfl (po_move rfl rfl) ?_) <;> (refine sops_pure (.free rfl rfl) rfl rfl (pix rfl (tyS rfl)) ?_) <;> (first | refine sops_pure (.free rfl rfl) rfl rfl (po_load_bx rfl rfl (tyT rfl) rfl rfl) ?_ | refine sops_pure (.free rfl rfl) rfl rfl (po_load rfl rfl (tyT rfl) rfl) ?_) <;> (refine sops_pure (.free rfl rfl) rfl rfl (po_cmp rfl rfl rfl rfl) ?_) <;> (refine sops_nil ?_))
            | ((refine swp_region (id := 11) ?_) <;> (refine sops_pure (.free rfl rfl) rfl rfl (po_move rfl rfl) ?_) <;> (first | refine sops_pure (.free rfl rfl) rfl rfl (po_inc rfl rfl rfl (by omega)) ?_ | refine sops_pure (.free rfl rfl) rfl rfl (po_arith rfl rfl rfl (ar_add (by first | rfl | (refine wrap_i64 ?_; omega)) rfl)) ?_) <;> (refine sops_pure (.free rfl rfl) rfl rfl (po_assign rfl rfl) ?_) <;> (refine sops_nil ?_))
            | refine swp_ret ?_
            | refine swp_skip ?_
            | refine swp_block ?_
            | refine swp_exit ?_
            | refine block_go ?_
            | refine block_exit ?_
            | refine block_far rfl ?_
            | refine block_ret ?_
            | refine then_ret ?_
            | refine then_exit ?_
            | refine for_ret ?_
            | refine for_exit ?_
            | refine ct ?_
            | refine cf ?_
            | refine swp_cond rfl (fun hc => ?_) (fun hc => ?_)
            | refine retq (by first | exact .inr rfl | exact .inl rfl) rfl (.tmp rfl (by first | exact .t _ | exact .own rfl (by first | rfl | assumption | (simp; done) | (simp; omega)) | exact .nil _ | exact .emp _ | exact .fn _) (.tmp rfl (by first | exact .t _ | exact .own rfl (by first | rfl | assumption | (simp; done) | (simp; omega)) | exact .nil _ | exact .emp _ | exact .fn _) .nil)) ?_)
          rw [any_snoc M hjl, hJ, hM]; rfl
      · obtain rfl : j = l[k].rules.length := by omega
        rw [List.take_length] at hJ
        rw [hkt, hJ] at hfi
        repeat' (first
          | refine then_go ?_
          | refine swp_seq ?_
          | refine for_next hlt (weak_sub (.cons rfl (by first | rfl | (rw [hby])) rfl (.cons rfl (by first | rfl | (rw [hby])) rfl (.cons rfl (by first | rfl | (rw [hby])) rfl (.cons rfl (by first | rfl | (rw [hby])) rfl (.cons rfl (by first | rfl | (rw [hby])) rfl (.cons rfl (by first | rfl | (rw [hby])) rfl .nil)))))) .nil .nil) hfi
          | ((refine swp_region (id := 10) ?_) <;> (refine sops_pure (.free rfl rfl) rfl rfl (po_move rfl rfl) ?_) <;> (refine sops_pure (.free rfl rfl) rfl rfl (po_move rfl rfl) ?_) <;> (refine sops_pure (.free rfl rfl) rfl rfl (po_move rfl rfl) ?_) <;> (refine sops_pure (.free rfl rfl) rfl rfl (pix rfl (tyS rfl)) ?_) <;> (first | refine sops_pure (.free rfl rfl) rfl rfl (po_field_bx rfl rfl (tyF rfl)) ?_ | refine sops_pure (.free rfl rfl) rfl rfl (po_field rfl rfl (tyF rfl)) ?_) <;> (first | refine sops_pure (.free rfl rfl) rfl rfl (po_load_bx rfl rfl (tyT rfl) rfl rfl) ?_ | refine sops_pure (.free rfl rfl) rfl rfl (po_load rfl rfl (tyT rfl) rfl) ?_) <;> (refine sops_pure (.free rfl rfl) rfl rfl (pln rfl (tyS rfl)) ?_) <;> (refine sops_pure (.free rfl rfl) rfl rfl (po_cmp rfl rfl rfl rfl) ?_) <;> (refine sops_nil ?_))
          | ((refine swp_region (id := 6) ?_) <;> (refine sops_pure (.free rfl rfl) rfl rfl (po_move rfl rfl) ?_) <;> (first | refine sops_pure (.free rfl rfl) rfl rfl (po_inc rfl rfl rfl (by omega)) ?_ | refine sops_pure (.free rfl rfl) rfl rfl (po_arith rfl rfl rfl (ar_add (by first | rfl | (refine wrap_i64 ?_; omega)) rfl)) ?_) <;> (refine sops_pure (.free rfl rfl) rfl rfl (po_assign rfl rfl) ?_) <;> (refine sops_nil ?_))
          | refine swp_ret ?_
          | refine swp_skip ?_
          | refine swp_block ?_
          | refine swp_exit ?_
          | refine block_go ?_
          | refine block_exit ?_
          | refine block_far rfl ?_
          | refine block_ret ?_
          | refine then_ret ?_
          | refine then_exit ?_
          | refine for_ret ?_
          | refine for_exit ?_
          | refine ct ?_
          | refine cf ?_
          | refine swp_cond rfl (fun hc => ?_) (fun hc => ?_)
          | refine retq (by first | exact .inr rfl | exact .inl rfl) rfl (.tmp rfl (by first | exact .t _ | exact .own rfl (by first | rfl | assumption | (simp; done) | (simp; omega)) | exact .nil _ | exact .emp _ | exact .fn _) (.tmp rfl (by first | exact .t _ | exact .own rfl (by first | rfl | assumption | (simp; done) | (simp; omega)) | exact .nil _ | exact .emp _ | exact .fn _) .nil)) ?_)
    · rw [decide_eq_false hd, Bool.not_false, Bool.or_true] at hso
      have hkt : Pl.kindP true l[k] = false := by simp [Pl.kindP, hd]
      have hkf : Pl.kindP false l[k] = true := by simp [Pl.kindP, hd]
      rw [hkt] at hfi
      repeat' (first
        | refine then_go ?_
        | refine swp_seq ?_
        | ((refine swp_region (id := 5) ?_) <;> (refine sops_pure (.free rfl rfl) rfl rfl (po_move rfl rfl) ?_) <;> (refine sops_pure (.free rfl rfl) rfl rfl (po_move rfl rfl) ?_) <;> (refine sops_pure (.free rfl rfl) rfl rfl (pln rfl (tyS rfl)) ?_) <;> (refine sops_pure (.free rfl rfl) rfl rfl (po_cmp rfl rfl rfl rfl) ?_) <;> (refine sops_nil ?_))
        | ((refine swp_region (id := 7) ?_) <;> (refine sops_pure (.free rfl rfl) rfl rfl (po_move rfl rfl) ?_) <;> (refine sops_pure (.free rfl rfl) rfl rfl (po_move rfl rfl) ?_) <;> (refine sops_pure (.free rfl rfl) rfl rfl (pix rfl (tyS rfl)) ?_) <;> (first | refine sops_pure (.free rfl rfl) rfl rfl (po_field_bx rfl rfl (tyF rfl)) ?_ | refine sops_pure (.free rfl rfl) rfl rfl (po_field rfl rfl (tyF rfl)) ?_) <;> (first | refine sops_pure (.free rfl rfl) rfl rfl (po_load_bx rfl rfl (tyT rfl) rfl rfl) ?_ | refine sops_pure (.free rfl rfl) rfl rfl (po_load rfl rfl (tyT rfl) rfl) ?_) <;> (refine sops_pure (.free rfl rfl) rfl rfl (po_cmp rfl rfl rfl rfl) ?_) <;> (refine sops_nil ?_))
        | ((refine swp_region (id := 8) ?_) <;> (refine sops_pure (.free rfl rfl) rfl rfl (po_assign rfl rfl) ?_) <;> (refine sops_nil ?_))
        | ((refine swp_region (id := 9) ?_) <;> (refine sops_pure (.free rfl rfl) rfl rfl (po_assign rfl rfl) ?_) <;> (refine sops_nil ?_))
        | refine swp_ret ?_
        | refine swp_skip ?_
        | refine swp_block ?_
        | refine swp_exit ?_
        | refine block_go ?_
        | refine block_exit ?_
        | refine block_far rfl ?_
        | refine block_ret ?_
        | refine then_ret ?_
        | refine then_exit ?_
        | refine for_ret ?_
        | refine for_exit ?_
        | refine ct ?_
        | refine cf ?_
        | refine swp_cond rfl (fun hc => ?_) (fun hc => ?_)
        | refine retq (by first | exact .inr rfl | exact .inl rfl) rfl (.tmp rfl (by first | exact .t _ | exact .own rfl (by first | rfl | assumption | (simp; done) | (simp; omega)) | exact .nil _ | exact .emp _ | exact .fn _) (.tmp rfl (by first | exact .t _ | exact .own rfl (by first | rfl | assumption | (simp; done) | (simp; omega)) | exact .nil _ | exact .emp _ | exact .fn _) .nil)) ?_)
      refine swp_for (Y2 M l k l[k]) (fun j => True) l[k].rules.length (weak_sub (.cons rfl (by first | rfl | (first | rw [hso] | rw [hz])) rfl (.cons rfl (by first | rfl | (first | rw [hso] | rw [hz])) rfl (.cons rfl (by first | rfl | (first | rw [hso] | rw [hz])) rfl (.cons rfl (by first | rfl | (first | rw [hso] | rw [hz])) rfl (.cons rfl (by first | rfl | (first | rw [hso] | rw [hz])) rfl (.cons rfl (by first | rfl | (first | rw [hso] | rw [hz])) rfl (.cons rfl (by first | rfl | (first | rw [hso] | rw [hz])) rfl .nil))))))) .nil .nil) trivial ?_
      intro j hj hJ
      unfold Y2
      by_cases hjl : j < l[k].rules.length
      · cases hM : M l[k].rules[j] with
        | true =>
          have hz2 : decide ((if M l[k].rules[j] = true then (1 : Int) else 0) = 0) = false := by rw [hM]; rfl
          cases ho : bySt M (l.take k) l[k] j with
          | none =>
            have hs := bySt_new M hjl hkf hM ho
            have hq : (!(none : Option Int).isSome) = true := rfl
            repeat' (first
              | refine then_go ?_
              | refine swp_seq ?_
              | refine for_next hjl (weak_sub (.cons rfl (by first | rfl | (rw [hs]; try rfl)) rfl (.cons rfl (by first | rfl | (rw [hs]; try rfl)) rfl (.cons rfl (by first | rfl | (rw [hs]; try rfl)) rfl (.cons rfl (by first | rfl | (rw [hs]; try rfl)) rfl (.cons rfl (by first | rfl | (rw [hs]; try rfl)) rfl (.cons rfl (by first | rfl | (rw [hs]; try rfl)) rfl (.cons rfl (by first | rfl | (rw [hs]; try rfl)) rfl .nil))))))) .nil .nil) trivial
              | ((refine swp_region (id := 10) ?_) <;> (refine sops_pure (.free rfl rfl) rfl rfl (po_move rfl rfl) ?_) <;> (refine sops_pure (.free rfl rfl) rfl rfl (po_move rfl rfl) ?_) <;> (refine sops_pure (.free rfl rfl) rfl rfl (po_move rfl rfl) ?_) <;> (refine sops_pure (.free rfl rfl) rfl rfl (pix rfl (tyS rfl)) ?_) <;> (first | refine sops_pure (.free rfl rfl) rfl rfl (po_field_bx rfl rfl (tyF rfl)) ?_ | refine sops_pure (.free rfl rfl) rfl rfl (po_field rfl rfl (tyF rfl)) ?_) <;> (first | refine sops_pure (.free rfl rfl) rfl rfl (po_load_bx rfl rfl (tyT rfl) rfl rfl) ?_ | refine sops_pure (.free rfl rfl) rfl rfl (po_load rfl rfl (tyT rfl) rfl) ?_) <;> (refine sops_pure (.free rfl rfl) rfl rfl (pln rfl (tyS rfl)) ?_) <;> (refine sops_pure (.free rfl rfl) rfl rfl (po_cmp rfl rfl rfl rfl) ?_) <;> (refine sops_nil ?_))
              | ((refine swp_region (id := 12) ?_) <;> (refine sops_pure (.free rfl rfl) rfl rfl (po_move rfl rfl) ?_) <;> (refine sops_pure (.free rfl rfl) rfl rfl (po_move rfl rfl) ?_) <;> (refine sops_pure (.free rfl rfl) rfl rfl (pix rfl (tyS rfl)) ?_) <;> (first | refine sops_pure (.free rfl rfl) rfl rfl (po_load_bx rfl rfl (tyT rfl) rfl rfl) ?_ | refine sops_pure (.free rfl rfl) rfl rfl (po_load rfl rfl (tyT rfl) rfl) ?_) <;> (refine sops_pure (.free rfl rfl) rfl rfl (po_move rfl rfl) ?_) <;> (refine sops_pure (.free rfl rfl) rfl rfl (pix rfl (tyS rfl)) ?_) <;> (first | refine sops_pure (.free rfl rfl) rfl rfl (po_load_bx rfl rfl (tyT rfl) rfl rfl) ?_ | refine sops_pure (.free rfl rfl) rfl rfl (po_load rfl rfl (tyT rfl) rfl) ?_) <;> (refine sops_pure (.free rfl rfl) rfl rfl (po_cmp rfl rfl rfl rfl) ?_) <;> (refine sops_nil ?_))
              | ((refine swp_region (id := 13) ?_) <;> (refine sops_pure (.free rfl rfl) rfl rfl (po_move rfl rfl) ?_) <;> (refine sops_pure (.free rfl rfl) rfl rfl (po_move rfl rfl) ?_) <;> (refine sops_pure (.free rfl rfl) rfl rfl (pix rfl (tyS rfl)) ?_) <;> (first | refine sops_pure (.free rfl rfl) rfl rfl (po_field_bx rfl rfl (tyF rfl)) ?_ | refine sops_pure (.free rfl rfl) rfl rfl (po_field rfl rfl (tyF rfl)) ?_) <;> (first | refine sops_pure (.free rfl rfl) rfl rfl (po_load_bx rfl rfl (tyT rfl) rfl rfl) ?_ | refine sops_pure (.free rfl rfl) rfl rfl (po_load rfl rfl (tyT rfl) rfl) ?_) <;> (refine sops_pure (.free rfl rfl) rfl rfl (po_cmp rfl rfl rfl rfl) ?_) <;> (refine sops_nil ?_))
              | ((refine swp_region (id := 15) ?_) <;> (refine sops_pure (.free rfl rfl) rfl rfl (po_move rfl rfl) ?_) <;> (refine sops_pure (.free rfl rfl) rfl rfl (po_not rfl rfl) ?_) <;> (refine sops_nil ?_))
              | ((refine swp_region (id := 16) ?_) <;> (refine sops_pure (.free rfl rfl) rfl rfl (po_assign rfl rfl) ?_) <;> (refine sops_nil ?_))
              | ((refine swp_region (id := 17) ?_) <;> (refine sops_pure (.free rfl rfl) rfl rfl (po_move rfl rfl) ?_) <;> (refine sops_pure (.free rfl rfl) rfl rfl (po_move rfl rfl) ?_) <;> (refine sops_pure (.free rfl rfl) rfl rfl (pix rfl (tyS rfl)) ?_) <;> (first | refine sops_pure (.free rfl rfl) rfl rfl (po_field_bx rfl rfl (tyF rfl)) ?_ | refine sops_pure (.free rfl rfl) rfl rfl (po_field rfl rfl (tyF rfl)) ?_) <;> (first | refine sops_pure (.free rfl rfl) rfl rfl (po_load_bx rfl rfl (tyT rfl) rfl rfl) ?_ | refine sops_pure (.free rfl rfl) rfl rfl (po_load rfl rfl (tyT rfl) rfl) ?_) <;> (refine sops_pure (.free rfl rfl) rfl rfl (po_assign rfl rfl) ?_) <;> (refine sops_nil ?_))
              | ((refine swp_region (id := 11) ?_) <;> (refine sops_pure (.free rfl rfl) rfl rfl (po_move rfl rfl) ?_) <;> (first | refine sops_pure (.free rfl rfl) rfl rfl (po_inc rfl rfl rfl (by omega)) ?_ | refine sops_pure (.free rfl rfl) rfl rfl (po_arith rfl rfl rfl (ar_add (by first | rfl | (refine wrap_i64 ?_; omega)) rfl)) ?_) <;> (refine sops_pure (.free rfl rfl) rfl rfl (po_assign rfl rfl) ?_) <;> (refine sops_nil ?_))
              | refine swp_ret ?_
              | refine swp_skip ?_
              | refine swp_block ?_
              | refine swp_exit ?_
              | refine block_go ?_
              | refine block_exit ?_
              | refine block_far rfl ?_
              | refine block_ret ?_
              | refine then_ret ?_
              | refine then_exit ?_
              | refine for_ret ?_
              | refine for_exit ?_
              | refine ct ?_
              | refine cf ?_
              | refine swp_cond rfl (fun hc => ?_) (fun hc => ?_)
              | refine retq (by first | exact .inr rfl | exact .inl rfl) rfl (.tmp rfl (by first | exact .t _ | exact .own rfl (by first | rfl | assumption | (simp; done) | (simp; omega)) | exact .nil _ | exact .emp _ | exact .fn _) (.tmp rfl (by first | exact .t _ | exact .own rfl (by first | rfl | assumption | (simp; done) | (simp; omega)) | exact .nil _ | exact .emp _ | exact .fn _) .nil)) ?_)
          | some x =>
            have hs := bySt_old M hjl ho
            have hq : (!(some x).isSome) = false := rfl
            repeat' (first
              | refine then_go ?_
              | refine swp_seq ?_
              | refine for_next hjl (weak_sub (.cons rfl (by first | rfl | (rw [hs]; try rfl)) rfl (.cons rfl (by first | rfl | (rw [hs]; try rfl)) rfl (.cons rfl (by first | rfl | (rw [hs]; try rfl)) rfl (.cons rfl (by first | rfl | (rw [hs]; try rfl)) rfl (.cons rfl (by first | rfl | (rw [hs]; try rfl)) rfl (.cons rfl (by first | rfl | (rw [hs]; try rfl)) rfl (.cons rfl (by first | rfl | (rw [hs]; try rfl)) rfl .nil))))))) .nil .nil) trivial
              | ((refine swp_region (id := 10) ?_) <;> (refine sops_pure (.free rfl rfl) rfl rfl (po_move rfl rfl) ?_) <;> (refine sops_pure (.free rfl rfl) rfl rfl (po_move rfl rfl) ?_) <;> (refine sops_pure (.free rfl rfl) rfl rfl (po_move rfl rfl) ?_) <;> (refine sops_pure (.free rfl rfl) rfl rfl (pix rfl (tyS rfl)) ?_) <;> (first | refine sops_pure (.free rfl rfl) rfl rfl (po_field_bx rfl rfl (tyF rfl)) ?_ | refine sops_pure (.free rfl rfl) rfl rfl (po_field rfl rfl (tyF rfl)) ?_) <;> (first | refine sops_pure (.free rfl rfl) rfl rfl (po_load_bx rfl rfl (tyT rfl) rfl rfl) ?_ | refine sops_pure (.free rfl rfl) rfl rfl (po_load rfl rfl (tyT rfl) rfl) ?_) <;> (refine sops_pure (.free rfl rfl) rfl rfl (pln rfl (tyS rfl)) ?_) <;> (refine sops_pure (.free rfl rfl) rfl rfl (po_cmp rfl rfl rfl rfl) ?_) <;> (refine sops_nil ?_))
              | ((refine swp_region (id := 12) ?_) <;> (refine sops_pure (.free rfl rfl) rfl rfl (po_move rfl rfl) ?_) <;> (refine sops_pure (.free rfl rfl) rfl rfl (po_move rfl rfl) ?_) <;> (refine sops_pure (.free rfl rfl) rfl rfl (pix rfl (tyS rfl)) ?_) <;> (first | refine sops_pure (.free rfl rfl) rfl rfl (po_load_bx rfl rfl (tyT rfl) rfl rfl) ?_ | refine sops_pure (.free rfl rfl) rfl rfl (po_load rfl rfl (tyT rfl) rfl) ?_) <;> (refine sops_pure (.free rfl rfl) rfl rfl (po_move rfl rfl) ?_) <;> (refine sops_pure (.free rfl rfl) rfl rfl (pix rfl (tyS rfl)) ?_) <;> (first | refine sops_pure (.free rfl rfl) rfl rfl (po_load_bx rfl rfl (tyT rfl) rfl rfl) ?_ | refine sops_pure (.free rfl rfl) rfl rfl (po_load rfl rfl (tyT rfl) rfl) ?_) <;> (refine sops_pure (.free rfl rfl) rfl rfl (po_cmp rfl rfl rfl rfl) ?_) <;> (refine sops_nil ?_))
              | ((refine swp_region (id := 13) ?_) <;> (refine sops_pure (.free rfl rfl) rfl rfl (po_move rfl rfl) ?_) <;> (refine sops_pure (.free rfl rfl) rfl rfl (po_move rfl rfl) ?_) <;> (refine sops_pure (.free rfl rfl) rfl rfl (pix rfl (tyS rfl)) ?_) <;> (first | refine sops_pure (.free rfl rfl) rfl rfl (po_field_bx rfl rfl (tyF rfl)) ?_ | refine sops_pure (.free rfl rfl) rfl rfl (po_field rfl rfl (tyF rfl)) ?_) <;> (first | refine sops_pure (.free rfl rfl) rfl rfl (po_load_bx rfl rfl (tyT rfl) rfl rfl) ?_ | refine sops_pure (.free rfl rfl) rfl rfl (po_load rfl rfl (tyT rfl) rfl) ?_) <;> (refine sops_pure (.free rfl rfl) rfl rfl (po_cmp rfl rfl rfl rfl) ?_) <;> (refine sops_nil ?_))
              | ((refine swp_region (id := 15) ?_) <;> (refine sops_pure (.free rfl rfl) rfl rfl (po_move rfl rfl) ?_) <;> (refine sops_pure (.free rfl rfl) rfl rfl (po_not rfl rfl) ?_) <;> (refine sops_nil ?_))
              | ((refine swp_region (id := 11) ?_) <;> (refine sops_pure (.free rfl rfl) rfl rfl (po_move rfl rfl) ?_) <;> (first | refine sops_pure (.free rfl rfl) rfl rfl (po_inc rfl rfl rfl (by omega)) ?_ | refine sops_pure (.free rfl rfl) rfl rfl (po_arith rfl rfl rfl (ar_add (by first | rfl | (refine wrap_i64 ?_; omega)) rfl)) ?_) <;> (refine sops_pure (.free rfl rfl) rfl rfl (po_assign rfl rfl) ?_) <;> (refine sops_nil ?_))
              | refine swp_ret ?_
              | refine swp_skip ?_
              | refine swp_block ?_
              | refine swp_exit ?_
              | refine block_go ?_
              | refine block_exit ?_
              | refine block_far rfl ?_
              | refine block_ret ?_
              | refine then_ret ?_
              | refine then_exit ?_
              | refine for_ret ?_
              | refine for_exit ?_
              | refine ct ?_
              | refine cf ?_
              | refine swp_cond rfl (fun hc => ?_) (fun hc => ?_)
              | refine retq (by first | exact .inr rfl | exact .inl rfl) rfl (.tmp rfl (by first | exact .t _ | exact .own rfl (by first | rfl | assumption | (simp; done) | (simp; omega)) | exact .nil _ | exact .emp _ | exact .fn _) (.tmp rfl (by first | exact .t _ | exact .own rfl (by first | rfl | assumption | (simp; done) | (simp; omega)) | exact .nil _ | exact .emp _ | exact .fn _) .nil)) ?_)
        | false =>
          have hz2 : decide ((if M l[k].rules[j] = true then (1 : Int) else 0) = 0) = true := by rw [hM]; rfl
          have hs := bySt_no M (A := l.take k) hjl hM
          repeat' (first
            | refine then_go ?_
            | refine swp_seq ?_
            | refine for_next hjl (weak_sub (.cons rfl (by first | rfl | (rw [hs]; try rfl)) rfl (.cons rfl (by first | rfl | (rw [hs]; try rfl)) rfl (.cons rfl (by first | rfl | (rw [hs]; try rfl)) rfl (.cons rfl (by first | rfl | (rw [hs]; try rfl)) rfl (.cons rfl (by first | rfl | (rw [hs]; try rfl)) rfl (.cons rfl (by first | rfl | (rw [hs]; try rfl)) rfl (.cons rfl (by first | rfl | (rw [hs]; try rfl)) rfl .nil))))))) .nil .nil) trivial
            | ((refine swp_region (id := 10) ?_) <;> (refine sops_pure (.free rfl rfl) rfl rfl (po_move rfl rfl) ?_) <;> (refine sops_pure (.free rfl rfl) rfl rfl (po_move rfl rfl) ?_) <;> (refine sops_pure (.free rfl rfl) rfl rfl (po_move rfl rfl) ?_) <;> (refine sops_pure (.free rfl rfl) rfl rfl (pix rfl (tyS rfl)) ?_) <;> (first | refine sops_pure (.free rfl rfl) rfl rfl (po_field_bx rfl rfl (tyF rfl)) ?_ | refine sops_pure (.free rfl rfl) rfl rfl (po_field rfl rfl (tyF rfl)) ?_) <;> (first | refine sops_pure (.free rfl rfl) rfl rfl (po_load_bx rfl rfl (tyT rfl) rfl rfl) ?_ | refine sops_pure (.free rfl rfl) rfl rfl (po_load rfl rfl (tyT rfl) rfl) ?_) <;> (refine sops_pure (.free rfl rfl) rfl rfl (pln rfl (tyS rfl)) ?_) <;> (refine sops_pure (.free rfl rfl) rfl rfl (po_cmp rfl rfl rfl rfl) ?_) <;> (refine sops_nil ?_))
            | ((refine swp_region (id := 12) ?_) <;> (refine sops_pure (.free rfl rfl) rfl rfl (po_move rfl rfl) ?_) <;> (refine sops_pure (.free rfl rfl) rfl rfl (po_move rfl rfl) ?_) <;> (refine sops_pure (.free rfl rfl) rfl rfl (pix rfl (tyS rfl)) ?_) <;> (first | refine sops_pure (.free rfl rfl) rfl rfl (po_load_bx rfl rfl (tyT rfl) rfl rfl) ?_ | refine sops_pure (.free rfl rfl) rfl rfl (po_load rfl rfl (tyT rfl) rfl) ?_) <;> (refine sops_pure (.free rfl rfl) rfl rfl (po_move rfl rfl) ?_) <;> (refine sops_pure (.free rfl rfl) rfl rfl (pix rfl (tyS rfl)) ?_) <;> (first | refine sops_pure (.free rfl rfl) rfl rfl (po_load_bx rfl rfl (tyT rfl) rfl rfl) ?_ | refine sops_pure (.free rfl rfl) rfl rfl (po_load rfl rfl (tyT rfl) rfl) ?_) <;> (refine sops_pure (.free rfl rfl) rfl rfl (po_cmp rfl rfl rfl rfl) ?_) <;> (refine sops_nil ?_))
            | ((refine swp_region (id := 11) ?_) <;> (refine sops_pure (.free rfl rfl) rfl rfl (po_move rfl rfl) ?_) <;> (first | refine sops_pure (.free rfl rfl) rfl rfl (po_inc rfl rfl rfl (by omega)) ?_ | refine sops_pure (.free rfl rfl) rfl rfl (po_arith rfl rfl rfl (ar_add (by first | rfl | (refine wrap_i64 ?_; omega)) rfl)) ?_) <;> (refine sops_pure (.free rfl rfl) rfl rfl (po_assign rfl rfl) ?_) <;> (refine sops_nil ?_))
            | refine swp_ret ?_
            | refine swp_skip ?_
            | refine swp_block ?_
            | refine swp_exit ?_
            | refine block_go ?_
            | refine block_exit ?_
            | refine block_far rfl ?_
            | refine block_ret ?_
            | refine then_ret ?_
            | refine then_exit ?_
            | refine for_ret ?_
            | refine for_exit ?_
            | refine ct ?_
            | refine cf ?_
            | refine swp_cond rfl (fun hc => ?_) (fun hc => ?_)
            | refine retq (by first | exact .inr rfl | exact .inl rfl) rfl (.tmp rfl (by first | exact .t _ | exact .own rfl (by first | rfl | assumption | (simp; done) | (simp; omega)) | exact .nil _ | exact .emp _ | exact .fn _) (.tmp rfl (by first | exact .t _ | exact .own rfl (by first | rfl | assumption | (simp; done) | (simp; omega)) | exact .nil _ | exact .emp _ | exact .fn _) .nil)) ?_)
      · obtain rfl : j = l[k].rules.length := by omega
        repeat' (first
          | refine then_go ?_
          | refine swp_seq ?_
          | refine for_next hlt (weak_sub (.cons rfl (by first | rfl | (rw [hby])) rfl (.cons rfl (by first | rfl | (rw [hby])) rfl (.cons rfl (by first | rfl | (rw [hby])) rfl (.cons rfl (by first | rfl | (rw [hby])) rfl (.cons rfl (by first | rfl | (rw [hby])) rfl (.cons rfl (by first | rfl | (rw [hby])) rfl .nil)))))) .nil .nil) hfi
          | ((refine swp_region (id := 10) ?_) <;> (refine sops_pure (.free rfl rfl) rfl rfl (po_move rfl rfl) ?_) <;> (refine sops_pure (.free rfl rfl) rfl rfl (po_move rfl rfl) ?_) <;> (refine sops_pure (.free rfl rfl) rfl rfl (po_move rfl rfl) ?_) <;> (refine sops_pure (.free rfl rfl) rfl rfl (pix rfl (tyS rfl)) ?_) <;> (first | refine sops_pure (.free rfl rfl) rfl rfl (po_field_bx rfl rfl (tyF rfl)) ?_ | refine sops_pure (.free rfl rfl) rfl rfl (po_field rfl rfl (tyF rfl)) ?_) <;> (first | refine sops_pure (.free rfl rfl) rfl rfl (po_load_bx rfl rfl (tyT rfl) rfl rfl) ?_ | refine sops_pure (.free rfl rfl) rfl rfl (po_load rfl rfl (tyT rfl) rfl) ?_) <;> (refine sops_pure (.free rfl rfl) rfl rfl (pln rfl (tyS rfl)) ?_) <;> (refine sops_pure (.free rfl rfl) rfl rfl (po_cmp rfl rfl rfl rfl) ?_) <;> (refine sops_nil ?_))
          | ((refine swp_region (id := 6) ?_) <;> (refine sops_pure (.free rfl rfl) rfl rfl (po_move rfl rfl) ?_) <;> (first | refine sops_pure (.free rfl rfl) rfl rfl (po_inc rfl rfl rfl (by omega)) ?_ | refine sops_pure (.free rfl rfl) rfl rfl (po_arith rfl rfl rfl (ar_add (by first | rfl | (refine wrap_i64 ?_; omega)) rfl)) ?_) <;> (refine sops_pure (.free rfl rfl) rfl rfl (po_assign rfl rfl) ?_) <;> (refine sops_nil ?_))
          | refine swp_ret ?_
          | refine swp_skip ?_
          | refine swp_block ?_
          | refine swp_exit ?_
          | refine block_go ?_
          | refine block_exit ?_
          | refine block_far rfl ?_
          | refine block_ret ?_
          | refine then_ret ?_
          | refine then_exit ?_
          | refine for_ret ?_
          | refine for_exit ?_
          | refine ct ?_
          | refine cf ?_
          | refine swp_cond rfl (fun hc => ?_) (fun hc => ?_)
          | refine retq (by first | exact .inr rfl | exact .inl rfl) rfl (.tmp rfl (by first | exact .t _ | exact .own rfl (by first | rfl | assumption | (simp; done) | (simp; omega)) | exact .nil _ | exact .emp _ | exact .fn _) (.tmp rfl (by first | exact .t _ | exact .own rfl (by first | rfl | assumption | (simp; done) | (simp; omega)) | exact .nil _ | exact .emp _ | exact .fn _) .nil)) ?_)
  · obtain rfl : k = l.length := by omega
    rw [List.take_length] at *
    rw [judge_end M hI]
    cases ho : byP M false l
    all_goals
      repeat' (first
        | refine then_go ?_
        | refine swp_seq ?_
        | ((refine swp_region (id := 5) ?_) <;> (refine sops_pure (.free rfl rfl) rfl rfl (po_move rfl rfl) ?_) <;> (refine sops_pure (.free rfl rfl) rfl rfl (po_move rfl rfl) ?_) <;> (refine sops_pure (.free rfl rfl) rfl rfl (pln rfl (tyS rfl)) ?_) <;> (refine sops_pure (.free rfl rfl) rfl rfl (po_cmp rfl rfl rfl rfl) ?_) <;> (refine sops_nil ?_))
        | ((refine swp_region (id := 18) ?_) <;> (refine sops_pure (.free rfl rfl) rfl rfl (po_move rfl rfl) ?_) <;> (refine sops_pure (.free rfl rfl) rfl rfl (po_move rfl rfl) ?_) <;> (first | refine sops_pure gy rfl rfl (po_move rfl rfl) ?_ | refine sops_skip gn0 rfl rfl ?_ | ((refine sops_split rfl rfl rfl (fun hc => ?_) (fun hc => ?_)) <;> (first | refine sops_pure gy rfl rfl (po_move rfl rfl) ?_ | refine sops_skip gn0 rfl rfl ?_))) <;> (first | refine sops_pure gy rfl rfl (po_not rfl rfl) ?_ | refine sops_skip gn0 rfl rfl ?_) <;> (first | refine sops_pure (.free rfl rfl) rfl rfl (pkt rfl) ?_ | refine sops_pure (.free rfl rfl) rfl rfl (pkf rfl) ?_) <;> (refine sops_pure (.free rfl rfl) rfl rfl (po_move rfl rfl) ?_) <;> (refine sops_pure (.free rfl rfl) rfl rfl (po_assign rfl rfl) ?_) <;> (refine sops_pure (.free rfl rfl) rfl rfl (po_assign rfl rfl) ?_) <;> (refine sops_nil ?_))
        | refine swp_ret ?_
        | refine swp_skip ?_
        | refine swp_block ?_
        | refine swp_exit ?_
        | refine block_go ?_
        | refine block_exit ?_
        | refine block_far rfl ?_
        | refine block_ret ?_
        | refine then_ret ?_
        | refine then_exit ?_
        | refine for_ret ?_
        | refine for_exit ?_
        | refine ct ?_
        | refine cf ?_
        | refine swp_cond rfl (fun hc => ?_) (fun hc => ?_)
        | refine retq (by first | exact .inr rfl | exact .inl rfl) rfl (.tmp rfl (by first | exact .t _ | exact .own rfl (by first | rfl | assumption | (simp; done) | (simp; omega)) | exact .nil _ | exact .emp _ | exact .fn _) (.tmp rfl (by first | exact .t _ | exact .own rfl (by first | rfl | assumption | (simp; done) | (simp; omega)) | exact .nil _ | exact .emp _ | exact .fn _) .nil)) ?_)
    all_goals
      refine eq_bi ?_ ?_ <;> simp_all
end Go.Proofs.YtlcecabfmemfeaaGreat.Pol

/- The document's answer for auth: Judge. -/
namespace Go.Proofs.YtlcecabfmemfeaaGreat.Pol
set_option linter.unusedVariables false
set_option linter.unusedSimpArgs false
open Go.RowKit Mem Sim Opn WAddr WName WMatch WAuth
section
variable (M : Pl.Rule → Bool) (l : List Pl.Policy) (a : Pl.Asker) (port : Int) (q : Pl.Req) (tg qu : ByteArray) (bd : Value)
def J1 (k : Nat) : St := ⟨[(0, .t (.sl 5 (l.map polT))), (2, .t (.v (.int .i64 port))), (5, .bp 5 0), (7, .bp 7 0), (10, .own 110 ((l.take k).map (hitP M)).length), (11, .t (.v (.int .i64 (k : Int))))], [(5, askA a), (7, reqA q tg qu bd)], [(110, ⟨70, 1, (l.take k).map (hitP M)⟩)]⟩
def J2 (k : Nat) (p : Pl.Policy) (j : Nat) : St := ⟨[(0, .t (.sl 5 (l.map polT))), (2, .t (.v (.int .i64 port))), (5, .bp 5 0), (7, .bp 7 0), (10, .own 110 ((l.take k).map (hitP M)).length), (11, .t (.v (.int .i64 (k : Int)))), (12, .own 112 ((p.rules.take j).map (hitR M)).length), (13, .t (.v (.int .i64 (j : Int))))], [(5, askA a), (7, reqA q tg qu bd)], [(110, ⟨70, 1, (l.take k).map (hitP M)⟩), (112, ⟨3, 1, (p.rules.take j).map (hitR M)⟩)]⟩
end
theorem few_p {α : Type} {f : α → List T} {l : List α} (k n : Nat) (h : l.length ≤ 1000) (hn : n ≤ 100) : (((l.take k).map f).length + 1) * n ≤ 140737488355328 := by
  rw [List.length_map, List.length_take]
  have h1 : min k l.length + 1 ≤ 1001 := by omega
  have := Nat.mul_le_mul h1 hn
  omega
end Go.Proofs.YtlcecabfmemfeaaGreat.Pol

/- The document's answer for split: Says. -/
namespace Go.Proofs.YtlcecabfmemfeaaGreat.Pol
set_option linter.unusedVariables false
set_option linter.unusedSimpArgs false
open Go.RowKit Mem Sim Opn WAddr WName WMatch WAuth
section
variable (M : Pl.Rule → Bool) (l : List Pl.Policy) (al : Int)
abbrev tabA : List A := [.t (.sl 5 (l.map polT)), .t (.v (.int .i64 al))]
def A1 (k : Nat) : St := ⟨[(1, .t (.sl 1 (l.map (hitP M)))), (2, .bp 2 0), (5, .t (.v (.int .i64 (k : Int))))], [(2, tabA l al)], []⟩
def A2 (k j : Nat) : St := ⟨[(1, .t (.sl 1 (l.map (hitP M)))), (2, .bp 2 0), (5, .t (.v (.int .i64 (k : Int)))), (6, .t (.v (.int .i64 (j : Int))))], [(2, tabA l al)], []⟩
end
/-- does a rule of a policy that allows match? -/
def allowedB (M : Pl.Rule → Bool) (l : List Pl.Policy) : Bool := Pl.hitP M false l
theorem allowed_no {M : Pl.Rule → Bool} {l : List Pl.Policy} (h : ∀ p ∈ l, p.deny ≠ 1 → ∀ r ∈ p.rules, M r = false) : Pl.hitP M false l = false := by
  cases hh : Pl.hitP M false l with
  | false => rfl
  | true =>
    unfold Pl.hitP at hh
    simp only [List.any_eq_true, Bool.and_eq_true] at hh
    obtain ⟨p, hp, hk, r, hr, hm⟩ := hh
    rw [h p hp (by unfold Pl.kindP at hk; simpa using hk) r hr] at hm; cases hm
theorem allowed_yes {M : Pl.Rule → Bool} {l : List Pl.Policy} {p : Pl.Policy} {r : Pl.Rule} (hp : p ∈ l) (hd : p.deny ≠ 1) (hr : r ∈ p.rules) (hm : M r = true) : Pl.hitP M false l = true := by
  unfold Pl.hitP
  simp only [List.any_eq_true, Bool.and_eq_true]
  exact ⟨p, hp, by unfold Pl.kindP; simp [hd], r, hr, hm⟩
set_option maxRecDepth 100000 in
set_option maxHeartbeats 2000000 in
theorem allowed_ (M : Pl.Rule → Bool) (l : List Pl.Policy) (al : Int) (hn : l.length ≤ 1000) (hr : ∀ p ∈ l, p.rules.length ≤ 1000) : PCalls Tryz.prog 35 [.agg [.sl 5 (l.map polT), .v (.int .i64 al)], .sl 1 (l.map (hitP M))] (.v (.bool (Pl.hitP M false l))) := by
  have hm1 : (l.map polT).length = l.length := List.length_map _
  refine pcalls_of Tryz.func35 rfl rfl Tryz.ntmps35 rfl ?_
  repeat' (first
    | refine then_go ?_
    | refine swp_seq ?_
    | ((refine swp_region (id := 0) ?_) <;> (refine sops_box (.free rfl rfl) rfl rfl rfl rfl rfl rfl ?_) <;> (refine sops_pure (.free rfl rfl) rfl rfl (po_assign rfl rfl) ?_) <;> (refine sops_nil ?_))
    | ((refine swp_region (id := 1) ?_) <;> (refine sops_pure (.free rfl rfl) rfl rfl (po_assign rfl rfl) ?_) <;> (refine sops_nil ?_))
    | refine swp_ret ?_
    | refine swp_skip ?_
    | refine swp_block ?_
    | refine swp_exit ?_
    | refine block_go ?_
    | refine block_exit ?_
    | refine block_far rfl ?_
    | refine block_ret ?_
    | refine then_ret ?_
    | refine then_exit ?_
    | refine for_ret ?_
    | refine for_exit ?_
    | refine ct ?_
    | refine cf ?_
    | refine swp_cond rfl (fun hc => ?_) (fun hc => ?_)
    | refine retq (by first | exact .inr rfl | exact .inl rfl) rfl (.tmp rfl (by first | exact .t _ | exact .own rfl (by first | rfl | assumption | (simp; done) | (simp; omega)) | exact .nil _ | exact .emp _ | exact .fn _) .nil) ?_)
  refine swp_for (A1 M l al) (fun k => ∀ j, j < k → ∀ p, l[j]? = some p → p.deny ≠ 1 → ∀ r ∈ p.rules, M r = false) l.length (weak_sub (.cons rfl rfl rfl (.cons rfl rfl rfl (.cons rfl rfl rfl .nil))) (.cons rfl rfl rfl .nil) .nil) (fun j hj => by omega) ?_
  intro k hk hI
  unfold A1
  by_cases hlt : k < l.length
  · have hm2 : (l[k].rules.map (hitR M)).length = l[k].rules.length := List.length_map _
    have hn2 := hr _ (List.getElem_mem hlt)
    repeat' (first
      | refine then_go ?_
      | refine swp_seq ?_
      | ((refine swp_region (id := 2) ?_) <;> (refine sops_pure (.free rfl rfl) rfl rfl (po_move rfl rfl) ?_) <;> (first | refine sops_pure (.free rfl rfl) rfl rfl (po_field_bx rfl rfl (tyF rfl)) ?_ | refine sops_pure (.free rfl rfl) rfl rfl (po_field rfl rfl (tyF rfl)) ?_) <;> (first | refine sops_pure (.free rfl rfl) rfl rfl (po_load_bx rfl rfl (tyT rfl) rfl rfl) ?_ | refine sops_pure (.free rfl rfl) rfl rfl (po_load rfl rfl (tyT rfl) rfl) ?_) <;> (refine sops_pure (.free rfl rfl) rfl rfl (pln rfl (tyS rfl)) ?_) <;> (refine sops_pure (.free rfl rfl) rfl rfl (po_cmp rfl rfl rfl rfl) ?_) <;> (refine sops_nil ?_))
      | ((refine swp_region (id := 4) ?_) <;> (refine sops_pure (.free rfl rfl) rfl rfl (po_assign rfl rfl) ?_) <;> (refine sops_nil ?_))
      | refine swp_ret ?_
      | refine swp_skip ?_
      | refine swp_block ?_
      | refine swp_exit ?_
      | refine block_go ?_
      | refine block_exit ?_
      | refine block_far rfl ?_
      | refine block_ret ?_
      | refine then_ret ?_
      | refine then_exit ?_
      | refine for_ret ?_
      | refine for_exit ?_
      | refine ct ?_
      | refine cf ?_
      | refine swp_cond rfl (fun hc => ?_) (fun hc => ?_)
      | refine retq (by first | exact .inr rfl | exact .inl rfl) rfl (.tmp rfl (by first | exact .t _ | exact .own rfl (by first | rfl | assumption | (simp; done) | (simp; omega)) | exact .nil _ | exact .emp _ | exact .fn _) .nil) ?_)
    refine swp_for (A2 M l al k) (fun j => ∀ i, i < j → ∀ r, l[k].rules[i]? = some r → l[k].deny ≠ 1 → M r = false) l[k].rules.length (weak_sub (.cons rfl rfl rfl (.cons rfl rfl rfl (.cons rfl rfl rfl (.cons rfl rfl rfl .nil)))) (.cons rfl rfl rfl .nil) .nil) (fun j hj => by omega) ?_
    intro j hj hJ
    unfold A2
    by_cases hjl : j < l[k].rules.length
    · by_cases hd : l[k].deny = 1
      · have hd1 : (!decide (l[k].deny = 1)) = false := by simp [hd]
        repeat' (first
          | refine then_go ?_
          | refine swp_seq ?_
          | refine for_next hjl (weak_sub (.cons rfl rfl rfl (.cons rfl rfl rfl (.cons rfl rfl rfl (.cons rfl rfl rfl .nil)))) (.cons rfl rfl rfl .nil) .nil) (fun i _ r _ h => absurd hd h)
          | ((refine swp_region (id := 5) ?_) <;> (refine sops_pure (.free rfl rfl) rfl rfl (po_move rfl rfl) ?_) <;> (refine sops_pure (.free rfl rfl) rfl rfl (po_move rfl rfl) ?_) <;> (refine sops_pure (.free rfl rfl) rfl rfl (po_move rfl rfl) ?_) <;> (refine sops_pure (.free rfl rfl) rfl rfl (pix rfl (tyS rfl)) ?_) <;> (first | refine sops_pure (.free rfl rfl) rfl rfl (po_load_bx rfl rfl (tyT rfl) rfl rfl) ?_ | refine sops_pure (.free rfl rfl) rfl rfl (po_load rfl rfl (tyT rfl) rfl) ?_) <;> (refine sops_pure (.free rfl rfl) rfl rfl (pln rfl (tyS rfl)) ?_) <;> (refine sops_pure (.free rfl rfl) rfl rfl (po_cmp rfl rfl rfl rfl) ?_) <;> (refine sops_nil ?_))
          | ((refine swp_region (id := 7) ?_) <;> (first | refine sops_pure (.free rfl rfl) rfl rfl (po_field_bx rfl rfl (tyF rfl)) ?_ | refine sops_pure (.free rfl rfl) rfl rfl (po_field rfl rfl (tyF rfl)) ?_) <;> (first | refine sops_pure (.free rfl rfl) rfl rfl (po_load_bx rfl rfl (tyT rfl) rfl rfl) ?_ | refine sops_pure (.free rfl rfl) rfl rfl (po_load rfl rfl (tyT rfl) rfl) ?_) <;> (refine sops_pure (.free rfl rfl) rfl rfl (po_move rfl rfl) ?_) <;> (refine sops_pure (.free rfl rfl) rfl rfl (pix rfl (tyS rfl)) ?_) <;> (first | refine sops_pure (.free rfl rfl) rfl rfl (po_field_bx rfl rfl (tyF rfl)) ?_ | refine sops_pure (.free rfl rfl) rfl rfl (po_field rfl rfl (tyF rfl)) ?_) <;> (first | refine sops_pure (.free rfl rfl) rfl rfl (po_load_bx rfl rfl (tyT rfl) rfl rfl) ?_ | refine sops_pure (.free rfl rfl) rfl rfl (po_load rfl rfl (tyT rfl) rfl) ?_) <;> (refine sops_pure (.free rfl rfl) rfl rfl (po_cmp rfl rfl rfl rfl) ?_) <;> (refine sops_pure (.free rfl rfl) rfl rfl (po_move rfl rfl) ?_) <;> (first | refine sops_pure gy rfl rfl (po_move rfl rfl) ?_ | refine sops_skip gn1 rfl rfl ?_ | ((refine sops_split rfl rfl rfl (fun hc => ?_) (fun hc => ?_)) <;> (first | refine sops_pure gy rfl rfl (po_move rfl rfl) ?_ | refine sops_skip gn1 rfl rfl ?_))) <;> (first | refine sops_pure gy rfl rfl (po_move rfl rfl) ?_ | refine sops_skip gn1 rfl rfl ?_) <;> (first | refine sops_pure gy rfl rfl (pix rfl (tyS rfl)) ?_ | refine sops_skip gn1 rfl rfl ?_) <;> (first | refine sops_pure gy rfl rfl (po_load_bx rfl rfl (tyT rfl) rfl rfl) ?_ | refine sops_pure gy rfl rfl (po_load rfl rfl (tyT rfl) rfl) ?_ | refine sops_skip gn1 rfl rfl ?_) <;> (first | refine sops_pure gy rfl rfl (po_move rfl rfl) ?_ | refine sops_skip gn1 rfl rfl ?_) <;> (first | refine sops_pure gy rfl rfl (pix rfl (tyS rfl)) ?_ | refine sops_skip gn1 rfl rfl ?_) <;> (first | refine sops_pure gy rfl rfl (po_load_bx rfl rfl (tyT rfl) rfl rfl) ?_ | refine sops_pure gy rfl rfl (po_load rfl rfl (tyT rfl) rfl) ?_ | refine sops_skip gn1 rfl rfl ?_) <;> (first | refine sops_pure gy rfl rfl (po_cmp rfl rfl rfl rfl) ?_ | refine sops_skip gn1 rfl rfl ?_) <;> (first | refine sops_pure (.free rfl rfl) rfl rfl (pkt rfl) ?_ | refine sops_pure (.free rfl rfl) rfl rfl (pkf rfl) ?_) <;> (refine sops_nil ?_))
          | ((refine swp_region (id := 6) ?_) <;> (refine sops_pure (.free rfl rfl) rfl rfl (po_move rfl rfl) ?_) <;> (first | refine sops_pure (.free rfl rfl) rfl rfl (po_inc rfl rfl rfl (by omega)) ?_ | refine sops_pure (.free rfl rfl) rfl rfl (po_arith rfl rfl rfl (ar_add (by first | rfl | (refine wrap_i64 ?_; omega)) rfl)) ?_) <;> (refine sops_pure (.free rfl rfl) rfl rfl (po_assign rfl rfl) ?_) <;> (refine sops_nil ?_))
          | refine swp_ret ?_
          | refine swp_skip ?_
          | refine swp_block ?_
          | refine swp_exit ?_
          | refine block_go ?_
          | refine block_exit ?_
          | refine block_far rfl ?_
          | refine block_ret ?_
          | refine then_ret ?_
          | refine then_exit ?_
          | refine for_ret ?_
          | refine for_exit ?_
          | refine ct ?_
          | refine cf ?_
          | refine swp_cond rfl (fun hc => ?_) (fun hc => ?_)
          | refine retq (by first | exact .inr rfl | exact .inl rfl) rfl (.tmp rfl (by first | exact .t _ | exact .own rfl (by first | rfl | assumption | (simp; done) | (simp; omega)) | exact .nil _ | exact .emp _ | exact .fn _) .nil) ?_)
      · have hd1 : (!decide (l[k].deny = 1)) = true := by simp [hd]
        cases hM : M l[k].rules[j] with
        | true =>
          have hrow : (l[k].rules.map (hitR M))[j]? = some [.v (.int .i64 1)] := by rw [List.getElem?_map, List.getElem?_eq_getElem hjl]; simp [hitR, hM]
          rw [allowed_yes (List.getElem_mem hlt) hd (List.getElem_mem hjl) hM]
          repeat' (first
            | refine then_go ?_
            | refine swp_seq ?_
            | ((refine swp_region (id := 5) ?_) <;> (refine sops_pure (.free rfl rfl) rfl rfl (po_move rfl rfl) ?_) <;> (refine sops_pure (.free rfl rfl) rfl rfl (po_move rfl rfl) ?_) <;> (refine sops_pure (.free rfl rfl) rfl rfl (po_move rfl rfl) ?_) <;> (refine sops_pure (.free rfl rfl) rfl rfl (pix rfl (tyS rfl)) ?_) <;> (first | refine sops_pure (.free rfl rfl) rfl rfl (po_load_bx rfl rfl (tyT rfl) rfl rfl) ?_ | refine sops_pure (.free rfl rfl) rfl rfl (po_load rfl rfl (tyT rfl) rfl) ?_) <;> (refine sops_pure (.free rfl rfl) rfl rfl (pln rfl (tyS rfl)) ?_) <;> (refine sops_pure (.free rfl rfl) rfl rfl (po_cmp rfl rfl rfl rfl) ?_) <;> (refine sops_nil ?_))
            | ((refine swp_region (id := 7) ?_) <;> (first | refine sops_pure (.free rfl rfl) rfl rfl (po_field_bx rfl rfl (tyF rfl)) ?_ | refine sops_pure (.free rfl rfl) rfl rfl (po_field rfl rfl (tyF rfl)) ?_) <;> (first | refine sops_pure (.free rfl rfl) rfl rfl (po_load_bx rfl rfl (tyT rfl) rfl rfl) ?_ | refine sops_pure (.free rfl rfl) rfl rfl (po_load rfl rfl (tyT rfl) rfl) ?_) <;> (refine sops_pure (.free rfl rfl) rfl rfl (po_move rfl rfl) ?_) <;> (refine sops_pure (.free rfl rfl) rfl rfl (pix rfl (tyS rfl)) ?_) <;> (first | refine sops_pure (.free rfl rfl) rfl rfl (po_field_bx rfl rfl (tyF rfl)) ?_ | refine sops_pure (.free rfl rfl) rfl rfl (po_field rfl rfl (tyF rfl)) ?_) <;> (first | refine sops_pure (.free rfl rfl) rfl rfl (po_load_bx rfl rfl (tyT rfl) rfl rfl) ?_ | refine sops_pure (.free rfl rfl) rfl rfl (po_load rfl rfl (tyT rfl) rfl) ?_) <;> (refine sops_pure (.free rfl rfl) rfl rfl (po_cmp rfl rfl rfl rfl) ?_) <;> (refine sops_pure (.free rfl rfl) rfl rfl (po_move rfl rfl) ?_) <;> (first | refine sops_pure gy rfl rfl (po_move rfl rfl) ?_ | refine sops_skip gn1 rfl rfl ?_ | ((refine sops_split rfl rfl rfl (fun hc => ?_) (fun hc => ?_)) <;> (first | refine sops_pure gy rfl rfl (po_move rfl rfl) ?_ | refine sops_skip gn1 rfl rfl ?_))) <;> (first | refine sops_pure gy rfl rfl (po_move rfl rfl) ?_ | refine sops_skip gn1 rfl rfl ?_) <;> (first | refine sops_pure gy rfl rfl (pix rfl (tyS rfl)) ?_ | refine sops_skip gn1 rfl rfl ?_) <;> (first | refine sops_pure gy rfl rfl (po_load_bx rfl rfl (tyT rfl) rfl rfl) ?_ | refine sops_pure gy rfl rfl (po_load rfl rfl (tyT rfl) rfl) ?_ | refine sops_skip gn1 rfl rfl ?_) <;> (first | refine sops_pure gy rfl rfl (po_move rfl rfl) ?_ | refine sops_skip gn1 rfl rfl ?_) <;> (first | refine sops_pure gy rfl rfl (pix rfl (tyS rfl)) ?_ | refine sops_skip gn1 rfl rfl ?_) <;> (first | refine sops_pure gy rfl rfl (po_load_bx rfl rfl (tyT rfl) rfl rfl) ?_ | refine sops_pure gy rfl rfl (po_load rfl rfl (tyT rfl) rfl) ?_ | refine sops_skip gn1 rfl rfl ?_) <;> (first | refine sops_pure gy rfl rfl (po_cmp rfl rfl rfl rfl) ?_ | refine sops_skip gn1 rfl rfl ?_) <;> (first | refine sops_pure (.free rfl rfl) rfl rfl (pkt rfl) ?_ | refine sops_pure (.free rfl rfl) rfl rfl (pkf rfl) ?_) <;> (refine sops_nil ?_))
            | ((refine swp_region (id := 8) ?_) <;> (refine sops_pure (.free rfl rfl) rfl rfl (po_assign rfl rfl) ?_) <;> (refine sops_nil ?_))
            | refine swp_ret ?_
            | refine swp_skip ?_
            | refine swp_block ?_
            | refine swp_exit ?_
            | refine block_go ?_
            | refine block_exit ?_
            | refine block_far rfl ?_
            | refine block_ret ?_
            | refine then_ret ?_
            | refine then_exit ?_
            | refine for_ret ?_
            | refine for_exit ?_
            | refine ct ?_
            | refine cf ?_
            | refine swp_cond rfl (fun hc => ?_) (fun hc => ?_)
            | refine retq (by first | exact .inr rfl | exact .inl rfl) rfl (.tmp rfl (by first | exact .t _ | exact .own rfl (by first | rfl | assumption | (simp; done) | (simp; omega)) | exact .nil _ | exact .emp _ | exact .fn _) .nil) ?_)
          rfl
        | false =>
          have hrow : (l[k].rules.map (hitR M))[j]? = some [.v (.int .i64 0)] := by rw [List.getElem?_map, List.getElem?_eq_getElem hjl]; simp [hitR, hM]
          repeat' (first
            | refine then_go ?_
            | refine swp_seq ?_
            | refine for_next hjl (weak_sub (.cons rfl rfl rfl (.cons rfl rfl rfl (.cons rfl rfl rfl (.cons rfl rfl rfl .nil)))) (.cons rfl rfl rfl .nil) .nil) ?_
            | ((refine swp_region (id := 5) ?_) <;> (refine sops_pure (.free rfl rfl) rfl rfl (po_move rfl rfl) ?_) <;> (refine sops_pure (.free rfl rfl) rfl rfl (po_move rfl rfl) ?_) <;> (refine sops_pure (.free rfl rfl) rfl rfl (po_move rfl rfl) ?_) <;> (refine sops_pure (.free rfl rfl) rfl rfl (pix rfl (tyS rfl)) ?_) <;> (first | refine sops_pure (.free rfl rfl) rfl rfl (po_load_bx rfl rfl (tyT rfl) rfl rfl) ?_ | refine sops_pure (.free rfl rfl) rfl rfl (po_load rfl rfl (tyT rfl) rfl) ?_) <;> (refine sops_pure (.free rfl rfl) rfl rfl (pln rfl (tyS rfl)) ?_) <;> (refine sops_pure (.free rfl rfl) rfl rfl (po_cmp rfl rfl rfl rfl) ?_) <;> (refine sops_nil ?_))
            | ((refine swp_region (id := 7) ?_) <;> (first | refine sops_pure (.free rfl rfl) rfl rfl (po_field_bx rfl rfl (tyF rfl)) ?_ | refine sops_pure (.free rfl rfl) rfl rfl (po_field rfl rfl (tyF rfl)) ?_) <;> (first | refine sops_pure (.free rfl rfl) rfl rfl (po_load_bx rfl rfl (tyT rfl) rfl rfl) ?_ | refine sops_pure (.free rfl rfl) rfl rfl (po_load rfl rfl (tyT rfl) rfl) ?_) <;> (refine sops_pure (.free rfl rfl) rfl rfl (po_move rfl rfl) ?_) <;> (refine sops_pure (.free rfl rfl) rfl rfl (pix rfl (tyS rfl)) ?_) <;> (first | refine sops_pure (.free rfl rfl) rfl rfl (po_field_bx rfl rfl (tyF rfl)) ?_ | refine sops_pure (.free rfl rfl) rfl rfl (po_field rfl rfl (tyF rfl)) ?_) <;> (first | refine sops_pure (.free rfl rfl) rfl rfl (po_load_bx rfl rfl (tyT rfl) rfl rfl) ?_ | refine sops_pure (.free rfl rfl) rfl rfl (po_load rfl rfl (tyT rfl) rfl) ?_) <;> (refine sops_pure (.free rfl rfl) rfl rfl (po_cmp rfl rfl rfl rfl) ?_) <;> (refine sops_pure (.free rfl rfl) rfl rfl (po_move rfl rfl) ?_) <;> (first | refine sops_pure gy rfl rfl (po_move rfl rfl) ?_ | refine sops_skip gn1 rfl rfl ?_ | ((refine sops_split rfl rfl rfl (fun hc => ?_) (fun hc => ?_)) <;> (first | refine sops_pure gy rfl rfl (po_move rfl rfl) ?_ | refine sops_skip gn1 rfl rfl ?_))) <;> (first | refine sops_pure gy rfl rfl (po_move rfl rfl) ?_ | refine sops_skip gn1 rfl rfl ?_) <;> (first | refine sops_pure gy rfl rfl (pix rfl (tyS rfl)) ?_ | refine sops_skip gn1 rfl rfl ?_) <;> (first | refine sops_pure gy rfl rfl (po_load_bx rfl rfl (tyT rfl) rfl rfl) ?_ | refine sops_pure gy rfl rfl (po_load rfl rfl (tyT rfl) rfl) ?_ | refine sops_skip gn1 rfl rfl ?_) <;> (first | refine sops_pure gy rfl rfl (po_move rfl rfl) ?_ | refine sops_skip gn1 rfl rfl ?_) <;> (first | refine sops_pure gy rfl rfl (pix rfl (tyS rfl)) ?_ | refine sops_skip gn1 rfl rfl ?_) <;> (first | refine sops_pure gy rfl rfl (po_load_bx rfl rfl (tyT rfl) rfl rfl) ?_ | refine sops_pure gy rfl rfl (po_load rfl rfl (tyT rfl) rfl) ?_ | refine sops_skip gn1 rfl rfl ?_) <;> (first | refine sops_pure gy rfl rfl (po_cmp rfl rfl rfl rfl) ?_ | refine sops_skip gn1 rfl rfl ?_) <;> (first | refine sops_pure (.free rfl rfl) rfl rfl (pkt rfl) ?_ | refine sops_pure (.free rfl rfl) rfl rfl (pkf rfl) ?_) <;> (refine sops_nil ?_))
            | ((refine swp_region (id := 6) ?_) <;> (refine sops_pure (.free rfl rfl) rfl rfl (po_move rfl rfl) ?_) <;> (first | refine sops_pure (.free rfl rfl) rfl rfl (po_inc rfl rfl rfl (by omega)) ?_ | refine sops_pure (.free rfl rfl) rfl rfl (po_arith rfl rfl rfl (ar_add (by first | rfl | (refine wrap_i64 ?_; omega)) rfl)) ?_) <;> (refine sops_pure (.free rfl rfl) rfl rfl (po_assign rfl rfl) ?_) <;> (refine sops_nil ?_))
            | refine swp_ret ?_
            | refine swp_skip ?_
            | refine swp_block ?_
            | refine swp_exit ?_
            | refine block_go ?_
            | refine block_exit ?_
            | refine block_far rfl ?_
            | refine block_ret ?_
            | refine then_ret ?_
            | refine then_exit ?_
            | refine for_ret ?_
            | refine for_exit ?_
            | refine ct ?_
            | refine cf ?_
            | refine swp_cond rfl (fun hc => ?_) (fun hc => ?_)
            | refine retq (by first | exact .inr rfl | exact .inl rfl) rfl (.tmp rfl (by first | exact .t _ | exact .own rfl (by first | rfl | assumption | (simp; done) | (simp; omega)) | exact .nil _ | exact .emp _ | exact .fn _) .nil) ?_)
          intro i hi r hr' _
          by_cases h : i = j
          · subst h; rw [List.getElem?_eq_getElem hjl] at hr'; injection hr' with hr'; subst hr'; exact hM
          · exact hJ i (by omega) r hr' hd
    · obtain rfl : j = l[k].rules.length := by omega
      repeat' (first
        | refine then_go ?_
        | refine swp_seq ?_
        | refine for_next hlt (weak_sub (.cons rfl rfl rfl (.cons rfl rfl rfl (.cons rfl rfl rfl .nil))) (.cons rfl rfl rfl .nil) .nil) ?_
        | ((refine swp_region (id := 5) ?_) <;> (refine sops_pure (.free rfl rfl) rfl rfl (po_move rfl rfl) ?_) <;> (refine sops_pure (.free rfl rfl) rfl rfl (po_move rfl rfl) ?_) <;> (refine sops_pure (.free rfl rfl) rfl rfl (po_move rfl rfl) ?_) <;> (refine sops_pure (.free rfl rfl) rfl rfl (pix rfl (tyS rfl)) ?_) <;> (first | refine sops_pure (.free rfl rfl) rfl rfl (po_load_bx rfl rfl (tyT rfl) rfl rfl) ?_ | refine sops_pure (.free rfl rfl) rfl rfl (po_load rfl rfl (tyT rfl) rfl) ?_) <;> (refine sops_pure (.free rfl rfl) rfl rfl (pln rfl (tyS rfl)) ?_) <;> (refine sops_pure (.free rfl rfl) rfl rfl (po_cmp rfl rfl rfl rfl) ?_) <;> (refine sops_nil ?_))
        | ((refine swp_region (id := 3) ?_) <;> (refine sops_pure (.free rfl rfl) rfl rfl (po_move rfl rfl) ?_) <;> (first | refine sops_pure (.free rfl rfl) rfl rfl (po_inc rfl rfl rfl (by omega)) ?_ | refine sops_pure (.free rfl rfl) rfl rfl (po_arith rfl rfl rfl (ar_add (by first | rfl | (refine wrap_i64 ?_; omega)) rfl)) ?_) <;> (refine sops_pure (.free rfl rfl) rfl rfl (po_assign rfl rfl) ?_) <;> (refine sops_nil ?_))
        | refine swp_ret ?_
        | refine swp_skip ?_
        | refine swp_block ?_
        | refine swp_exit ?_
        | refine block_go ?_
        | refine block_exit ?_
        | refine block_far rfl ?_
        | refine block_ret ?_
        | refine then_ret ?_
        | refine then_exit ?_
        | refine for_ret ?_
        | refine for_exit ?_
        | refine ct ?_
        | refine cf ?_
        | refine swp_cond rfl (fun hc => ?_) (fun hc => ?_)
        | refine retq (by first | exact .inr rfl | exact .inl rfl) rfl (.tmp rfl (by first | exact .t _ | exact .own rfl (by first | rfl | assumption | (simp; done) | (simp; omega)) | exact .nil _ | exact .emp _ | exact .fn _) .nil) ?_)
      intro i hi p hp hd r hr'
      by_cases h : i = k
      · subst h; rw [List.getElem?_eq_getElem hlt] at hp; injection hp with hp; subst hp
        obtain ⟨m, hm⟩ := List.getElem?_of_mem hr'
        exact hJ m (List.getElem?_eq_some_iff.1 hm).1 r hm hd
      · exact hI i (by omega) p hp hd r hr'
  · obtain rfl : k = l.length := by omega
    rw [allowed_no fun p hp hd r hr' => by
      obtain ⟨j, hj⟩ := List.getElem?_of_mem hp
      exact hI j (List.getElem?_eq_some_iff.1 hj).1 p hj hd r hr']
    repeat' (first
      | refine then_go ?_
      | refine swp_seq ?_
      | ((refine swp_region (id := 2) ?_) <;> (refine sops_pure (.free rfl rfl) rfl rfl (po_move rfl rfl) ?_) <;> (first | refine sops_pure (.free rfl rfl) rfl rfl (po_field_bx rfl rfl (tyF rfl)) ?_ | refine sops_pure (.free rfl rfl) rfl rfl (po_field rfl rfl (tyF rfl)) ?_) <;> (first | refine sops_pure (.free rfl rfl) rfl rfl (po_load_bx rfl rfl (tyT rfl) rfl rfl) ?_ | refine sops_pure (.free rfl rfl) rfl rfl (po_load rfl rfl (tyT rfl) rfl) ?_) <;> (refine sops_pure (.free rfl rfl) rfl rfl (pln rfl (tyS rfl)) ?_) <;> (refine sops_pure (.free rfl rfl) rfl rfl (po_cmp rfl rfl rfl rfl) ?_) <;> (refine sops_nil ?_))
      | ((refine swp_region (id := 9) ?_) <;> (refine sops_pure (.free rfl rfl) rfl rfl (po_assign rfl rfl) ?_) <;> (refine sops_nil ?_))
      | refine swp_ret ?_
      | refine swp_skip ?_
      | refine swp_block ?_
      | refine swp_exit ?_
      | refine block_go ?_
      | refine block_exit ?_
      | refine block_far rfl ?_
      | refine block_ret ?_
      | refine then_ret ?_
      | refine then_exit ?_
      | refine for_ret ?_
      | refine for_exit ?_
      | refine ct ?_
      | refine cf ?_
      | refine swp_cond rfl (fun hc => ?_) (fun hc => ?_)
      | refine retq (by first | exact .inr rfl | exact .inl rfl) rfl (.tmp rfl (by first | exact .t _ | exact .own rfl (by first | rfl | assumption | (simp; done) | (simp; omega)) | exact .nil _ | exact .emp _ | exact .fn _) .nil) ?_)
    rfl
/-- what Says answers of what the rows say, by whom, whether there is a policy that allows, whether one of those matches -/
def rs14 (J : Bool × Int) (al : Int) (H : Bool) : Bool × Int := if J.1 = true ∧ J.2 = 0 ∧ al = 1 ∧ H = false then (false, 0) else J
section
variable (M : Pl.Rule → Bool) (l : List Pl.Policy) (al : Int) (a : Pl.Asker) (port : Int) (q : Pl.Req) (tg qu : ByteArray) (bd : Value) (wi : Bool)
def G1 (k : Nat) : St := ⟨[(2, .t (.v (.int .i64 port))), (4, .t (.v (.bool wi))), (5, .bp 5 0), (6, .bp 6 0), (8, .bp 8 0), (12, .own 112 ((l.take k).map (hitP M)).length), (13, .t (.v (.int .i64 (k : Int))))], [(5, tabA l al), (6, askA a), (8, reqA q tg qu bd)], [(112, ⟨70, 1, (l.take k).map (hitP M)⟩)]⟩
def G2 (k : Nat) (p : Pl.Policy) (j : Nat) : St := ⟨[(2, .t (.v (.int .i64 port))), (4, .t (.v (.bool wi))), (5, .bp 5 0), (6, .bp 6 0), (8, .bp 8 0), (12, .own 112 ((l.take k).map (hitP M)).length), (13, .t (.v (.int .i64 (k : Int)))), (14, .own 114 ((p.rules.take j).map (hitR M)).length), (15, .t (.v (.int .i64 (j : Int))))], [(5, tabA l al), (6, askA a), (8, reqA q tg qu bd)], [(112, ⟨70, 1, (l.take k).map (hitP M)⟩), (114, ⟨3, 1, (p.rules.take j).map (hitR M)⟩)]⟩
end
/-- a rule as it is looked at -/
def Mw (wi : Bool) (a : Pl.Asker) (port : Int) (q : Pl.Req) (r : Pl.Rule) : Bool := matchP a port q (if wi = true then r else Pl.four r)
theorem okR_four {r : Pl.Rule} (h : okRule r) : okRule (Pl.four r) := by
  obtain ⟨h1, h2, h3⟩ := h
  refine ⟨h1, fun t ht => ?_, fun w hw => by cases hw⟩
  obtain ⟨t0, h4, rfl⟩ := List.mem_map.1 ht
  exact ⟨(h2 t0 h4).1, (fun y hy => by cases hy), (fun y hy => by cases hy), (fun y hy => by cases hy)⟩
theorem fewR_four {r : Pl.Rule} (h : FewR r) : FewR (Pl.four r) := by
  refine ⟨h.f, ?_, by simp [Pl.four], h.fs, fun t ht => ?_, fun w hw => by cases hw⟩
  · show (r.to_.map Pl.fourT).length ≤ 1000
    rw [List.length_map]; exact h.t
  · obtain ⟨t0, h4, rfl⟩ := List.mem_map.1 ht
    exact ⟨(h.ts t0 h4).1, by simp [Pl.fourT], by simp [Pl.fourT], by simp [Pl.fourT]⟩
set_option maxRecDepth 100000 in
set_option maxHeartbeats 4000000 in
theorem sSays14 (wi : Bool) (l : List Pl.Policy) (hl : ∀ p ∈ l, okPolicy p) (hf : FewL l) (al : Int) (a : Pl.Asker) (ha : OkAsk a) (port : Int) (q : Pl.Req) (hq : OkReq q) (tg qu : ByteArray) (bd : Value) :
    PCalls Tryz.prog 10 [.agg [.sl 5 (l.map polT), .v (.int .i64 al)], .agg (askT a), .v (.int .i64 port), .agg (reqT q tg qu bd), .v (.bool wi)]
      (.tup [.v (.bool (rs14 (Pl.judgeP (Mw wi a port q) l) al (Pl.hitP (Mw wi a port q) false l)).1), .v (.int .u64 (rs14 (Pl.judgeP (Mw wi a port q) l) al (Pl.hitP (Mw wi a port q) false l)).2)]) := by
  have hm1 : (l.map polT).length = l.length := List.length_map _
  have hn := hf.n
  have hsays := says_ (Mw wi a port q) l hn fun p hp => (hf.r p hp).1
  have hall := allowed_ (Mw wi a port q) l al hn fun p hp => (hf.r p hp).1
  have hmt : ∀ p ∈ l, ∀ r ∈ p.rules, PCalls Tryz.prog 33 [.agg (ruleT (if wi = true then r else Pl.four r)), .agg (askT a), .v (.int .i64 port), .agg (reqT q tg qu bd)] (.v (.bool (Mw wi a port q r))) := fun p hp r hr => by
    have h1 := (hl p hp).2.2.2.2 r hr
    have h2 := (hf.r p hp).2 r hr
    cases wi with
    | true => exact matches__ r h1 h2 a ha port q hq tg qu bd
    | false => exact matches__ (Pl.four r) (okR_four h1) (fewR_four h2) a ha port q hq tg qu bd
  generalize Mw wi a port q = M at *
  refine pcalls_of Tryz.func10 rfl rfl Tryz.ntmps10 rfl ?_
  repeat' (first
    | refine then_go ?_
    | refine swp_seq ?_
    | ((refine swp_region (id := 0) ?_) <;> (refine sops_box (.free rfl rfl) rfl rfl rfl rfl rfl rfl ?_) <;> (refine sops_box (.free rfl rfl) rfl rfl rfl rfl rfl rfl ?_) <;> (refine sops_box (.free rfl rfl) rfl rfl rfl rfl rfl rfl ?_) <;> (refine sops_pure (.free rfl rfl) rfl rfl (po_assign rfl rfl) ?_) <;> (refine sops_pure (.free rfl rfl) rfl rfl (po_assign rfl rfl) ?_) <;> (refine sops_nil ?_))
    | ((refine swp_region (id := 1) ?_) <;> (refine sops_pure (.free rfl rfl) rfl rfl (po_assign rfl rfl) ?_) <;> (refine sops_nil ?_))
    | ((refine swp_region (id := 2) ?_) <;> (refine sops_pure (.free rfl rfl) rfl rfl (po_assign rfl rfl) ?_) <;> (refine sops_nil ?_))
    | refine swp_ret ?_
    | refine swp_skip ?_
    | refine swp_block ?_
    | refine swp_exit ?_
    | refine block_go ?_
    | refine block_exit ?_
    | refine block_far rfl ?_
    | refine block_ret ?_
    | refine then_ret ?_
    | refine then_exit ?_
    | refine for_ret ?_
    | refine for_exit ?_
    | refine ct ?_
    | refine cf ?_
    | refine swp_cond rfl (fun hc => ?_) (fun hc => ?_)
    | refine retq (by first | exact .inr rfl | exact .inl rfl) rfl (.tmp rfl (by first | exact .t _ | exact .own rfl (by first | rfl | assumption | (simp; done) | (simp; omega)) | exact .nil _ | exact .emp _ | exact .fn _) (.tmp rfl (by first | exact .t _ | exact .own rfl (by first | rfl | assumption | (simp; done) | (simp; omega)) | exact .nil _ | exact .emp _ | exact .fn _) .nil)) ?_)
  refine swp_for (G1 M l al a port q tg qu bd wi) (fun k => True) l.length ?_ trivial ?_
  · refine Weak.trans (weak_own0 (i := 112) 70 1 (s := 12) rfl rfl) ?_
    exact (weak_sub (.cons rfl rfl rfl (.cons rfl rfl rfl (.cons rfl rfl rfl (.cons rfl rfl rfl (.cons rfl rfl rfl (.cons rfl rfl rfl (.cons rfl rfl rfl .nil))))))) (.cons rfl rfl rfl (.cons rfl rfl rfl (.cons rfl rfl rfl .nil))) (.cons rfl rfl .nil))
  intro k hk _
  unfold G1
  by_cases hlt : k < l.length
  · have hnr := (hf.r _ (List.getElem_mem hlt)).1
    have hm2 : (l[k].rules.map ruleT).length = l[k].rules.length := List.length_map _
    have hsn := map_take_succ (hitP M) hlt
    have g1 := few_p (f := hitP M) (l := l) k 24 hn (by omega)
    repeat' (first
      | refine then_go ?_
      | refine swp_seq ?_
      | ((refine swp_region (id := 3) ?_) <;> (refine sops_pure (.free rfl rfl) rfl rfl (po_move rfl rfl) ?_) <;> (first | refine sops_pure (.free rfl rfl) rfl rfl (po_field_bx rfl rfl (tyF rfl)) ?_ | refine sops_pure (.free rfl rfl) rfl rfl (po_field rfl rfl (tyF rfl)) ?_) <;> (first | refine sops_pure (.free rfl rfl) rfl rfl (po_load_bx rfl rfl (tyT rfl) rfl rfl) ?_ | refine sops_pure (.free rfl rfl) rfl rfl (po_load rfl rfl (tyT rfl) rfl) ?_) <;> (refine sops_pure (.free rfl rfl) rfl rfl (pln rfl (tyS rfl)) ?_) <;> (refine sops_pure (.free rfl rfl) rfl rfl (po_cmp rfl rfl rfl rfl) ?_) <;> (refine sops_nil ?_))
      | ((refine swp_region (id := 5) ?_) <;> (refine sops_pure (.free rfl rfl) rfl rfl (po_assign rfl rfl) ?_) <;> (refine sops_nil ?_))
      | ((refine swp_region (id := 6) ?_) <;> (refine sops_pure (.free rfl rfl) rfl rfl (po_assign rfl rfl) ?_) <;> (refine sops_nil ?_))
      | refine swp_ret ?_
      | refine swp_skip ?_
      | refine swp_block ?_
      | refine swp_exit ?_
      | refine block_go ?_
      | refine block_exit ?_
      | refine block_far rfl ?_
      | refine block_ret ?_
      | refine then_ret ?_
      | refine then_exit ?_
      | refine for_ret ?_
      | refine for_exit ?_
      | refine ct ?_
      | refine cf ?_
      | refine swp_cond rfl (fun hc => ?_) (fun hc => ?_)
      | refine retq (by first | exact .inr rfl | exact .inl rfl) rfl (.tmp rfl (by first | exact .t _ | exact .own rfl (by first | rfl | assumption | (simp; done) | (simp; omega)) | exact .nil _ | exact .emp _ | exact .fn _) (.tmp rfl (by first | exact .t _ | exact .own rfl (by first | rfl | assumption | (simp; done) | (simp; omega)) | exact .nil _ | exact .emp _ | exact .fn _) .nil)) ?_)
    refine swp_for (G2 M l al a port q tg qu bd wi k l[k]) (fun j => True) l[k].rules.length ?_ trivial ?_
    · refine Weak.trans (weak_own0 (i := 114) 3 1 (s := 14) rfl rfl) ?_
      exact (weak_sub (.cons rfl rfl rfl (.cons rfl rfl rfl (.cons rfl rfl rfl (.cons rfl rfl rfl (.cons rfl rfl rfl (.cons rfl rfl rfl (.cons rfl rfl rfl (.cons rfl rfl rfl (.cons rfl rfl rfl .nil))))))))) (.cons rfl rfl rfl (.cons rfl rfl rfl (.cons rfl rfl rfl .nil))) (.cons rfl rfl (.cons rfl rfl .nil)))
    intro j hj _
    unfold G2
    by_cases hjl : j < l[k].rules.length
    · have hmatch := hmt _ (List.getElem_mem hlt) _ (List.getElem_mem hjl)
      have hfour := fourR_ l[k].rules[j] ((hf.r _ (List.getElem_mem hlt)).2 _ (List.getElem_mem hjl))
      have g2 := few_p (f := hitR M) (l := l[k].rules) j 8 hnr (by omega)
      have hsn2 : (l[k].rules.take (j + 1)).map (hitR M) = (l[k].rules.take j).map (hitR M) ++ [hitR M l[k].rules[j]] := map_take_succ (hitR M) hjl
      cases hM : M l[k].rules[j] with
      | true =>
        rw [hM] at hmatch
        rw [show hitR M l[k].rules[j] = [.v (.int .i64 1)] by simp [hitR, hM]] at hsn2
        cases wi with
        | true =>
          rw [if_pos rfl] at hmatch
          repeat' (first
            | refine then_go ?_
            | refine swp_seq ?_
            | refine for_next hjl (weak_sub (.cons rfl (by first | rfl | (rw [hsn2]; try rfl)) rfl (.cons rfl (by first | rfl | (rw [hsn2]; try rfl)) rfl (.cons rfl (by first | rfl | (rw [hsn2]; try rfl)) rfl (.cons rfl (by first | rfl | (rw [hsn2]; try rfl)) rfl (.cons rfl (by first | rfl | (rw [hsn2]; try rfl)) rfl (.cons rfl (by first | rfl | (rw [hsn2]; try rfl)) rfl (.cons rfl (by first | rfl | (rw [hsn2]; try rfl)) rfl (.cons rfl (by first | rfl | (rw [hsn2]; try rfl)) rfl (.cons rfl (by first | rfl | (rw [hsn2]; try rfl)) rfl .nil))))))))) (.cons rfl (by first | rfl | (rw [hsn2]; try rfl)) rfl (.cons rfl (by first | rfl | (rw [hsn2]; try rfl)) rfl (.cons rfl (by first | rfl | (rw [hsn2]; try rfl)) rfl .nil))) (.cons rfl (by first | rfl | (rw [hsn2]; try rfl)) (.cons rfl (by first | rfl | (rw [hsn2]; try rfl)) .nil))) trivial
            | ((refine swp_region (id := 7) ?_) <;> (refine sops_pure (.free rfl rfl) rfl rfl (po_move rfl rfl) ?_) <;> (first | refine sops_pure (.free rfl rfl) rfl rfl (po_field_bx rfl rfl (tyF rfl)) ?_ | refine sops_pure (.free rfl rfl) rfl rfl (po_field rfl rfl (tyF rfl)) ?_) <;> (first | refine sops_pure (.free rfl rfl) rfl rfl (po_load_bx rfl rfl (tyT rfl) rfl rfl) ?_ | refine sops_pure (.free rfl rfl) rfl rfl (po_load rfl rfl (tyT rfl) rfl) ?_) <;> (refine sops_pure (.free rfl rfl) rfl rfl (po_move rfl rfl) ?_) <;> (refine sops_pure (.free rfl rfl) rfl rfl (pix rfl (tyS rfl)) ?_) <;> (first | refine sops_pure (.free rfl rfl) rfl rfl (po_field_bx rfl rfl (tyF rfl)) ?_ | refine sops_pure (.free rfl rfl) rfl rfl (po_field rfl rfl (tyF rfl)) ?_) <;> (first | refine sops_pure (.free rfl rfl) rfl rfl (po_load_bx rfl rfl (tyT rfl) rfl rfl) ?_ | refine sops_pure (.free rfl rfl) rfl rfl (po_load rfl rfl (tyT rfl) rfl) ?_) <;> (refine sops_pure (.free rfl rfl) rfl rfl (pln rfl (tyS rfl)) ?_) <;> (refine sops_pure (.free rfl rfl) rfl rfl (po_cmp rfl rfl rfl rfl) ?_) <;> (refine sops_nil ?_))
            | ((refine swp_region (id := 9) ?_) <;> (first | refine sops_pure (.free rfl rfl) rfl rfl (po_field_bx rfl rfl (tyF rfl)) ?_ | refine sops_pure (.free rfl rfl) rfl rfl (po_field rfl rfl (tyF rfl)) ?_) <;> (first | refine sops_pure (.free rfl rfl) rfl rfl (po_load_bx rfl rfl (tyT rfl) rfl rfl) ?_ | refine sops_pure (.free rfl rfl) rfl rfl (po_load rfl rfl (tyT rfl) rfl) ?_) <;> (refine sops_pure (.free rfl rfl) rfl rfl (po_move rfl rfl) ?_) <;> (refine sops_pure (.free rfl rfl) rfl rfl (pix rfl (tyS rfl)) ?_) <;> (first | refine sops_pure (.free rfl rfl) rfl rfl (po_field_bx rfl rfl (tyF rfl)) ?_ | refine sops_pure (.free rfl rfl) rfl rfl (po_field rfl rfl (tyF rfl)) ?_) <;> (first | refine sops_pure (.free rfl rfl) rfl rfl (po_load_bx rfl rfl (tyT rfl) rfl rfl) ?_ | refine sops_pure (.free rfl rfl) rfl rfl (po_load rfl rfl (tyT rfl) rfl) ?_) <;> (refine sops_pure (.free rfl rfl) rfl rfl (po_move rfl rfl) ?_) <;> (refine sops_pure (.free rfl rfl) rfl rfl (pix rfl (tyS rfl)) ?_) <;> (first | refine sops_pure (.free rfl rfl) rfl rfl (po_load_bx_agg rfl rfl (tyT rfl) rfl (vc (vc (vc .nil))) rfl) ?_ | refine sops_pure (.free rfl rfl) rfl rfl (po_load_agg rfl rfl (tyT rfl) rfl rfl) ?_) <;> (refine sops_allocS str46 (.free rfl rfl) rfl rfl rfl rfl ?_) <;> (refine sops_store (.free rfl rfl) rfl rfl rfl rfl rfl rfl (tyT rfl) rfl rfl ?_) <;> (refine sops_nil ?_))
            | ((refine swp_region (id := 10) ?_) <;> (refine sops_pure (.free rfl rfl) rfl rfl (po_move rfl rfl) ?_) <;> (refine sops_pure (.free rfl rfl) rfl rfl (po_not rfl rfl) ?_) <;> (refine sops_nil ?_))
            | ((refine swp_region (id := 12) ?_) <;> (refine sops_pure (.free rfl rfl) rfl rfl (po_assign rfl rfl) ?_) <;> (refine sops_nil ?_))
            | ((refine swp_region (id := 13) ?_) <;> (first | refine sops_pure (.free rfl rfl) rfl rfl (po_load_bx_agg rfl rfl (tyT rfl) rfl (vc (vc (vc .nil))) rfl) ?_ | refine sops_pure (.free rfl rfl) rfl rfl (po_load_agg rfl rfl (tyT rfl) rfl rfl) ?_) <;> (first | refine sops_pure (.free rfl rfl) rfl rfl (po_load_bx_agg rfl rfl (tyT rfl) rfl (vc (vc (vc .nil))) rfl) ?_ | refine sops_pure (.free rfl rfl) rfl rfl (po_load_agg rfl rfl (tyT rfl) rfl rfl) ?_) <;> (refine sops_pure (.free rfl rfl) rfl rfl (po_move rfl rfl) ?_) <;> (first | refine sops_pure (.free rfl rfl) rfl rfl (po_load_bx_agg rfl rfl (tyT rfl) rfl (vc (vc (vc (vc (vc (vc (vc .nil))))))) rfl) ?_ | refine sops_pure (.free rfl rfl) rfl rfl (po_load_agg rfl rfl (tyT rfl) rfl rfl) ?_) <;> (refine sops_pure (.free rfl rfl) rfl rfl (po_call (hmatch) rfl (ac (ac (ac (ac .nil))))) ?_) <;> (refine sops_nil ?_))
            | ((refine swp_region (id := 14) ?_) <;> (refine sops_pure (.free rfl rfl) rfl rfl (po_assign rfl rfl) ?_) <;> (refine sops_nil ?_))
            | ((refine swp_region (id := 15) ?_) <;> (refine sops_pure (.free rfl rfl) rfl rfl (po_move rfl rfl) ?_) <;> (refine sops_pure (.free rfl rfl) rfl rfl (po_move rfl rfl) ?_) <;> (refine sops_pure (.free rfl rfl) rfl rfl (po_buildSlice rfl (tyE rfl) (dc (.nil _)) rfl rfl rfl) ?_) <;> (first | refine sap rfl (tyE rfl) ?_ | refine san rfl (tyE rfl) ?_) <;> (refine sops_pure (.free rfl rfl) rfl rfl (po_assign rfl rfl) ?_) <;> (refine sops_nil ?_))
            | ((refine swp_region (id := 8) ?_) <;> (refine sops_pure (.free rfl rfl) rfl rfl (po_move rfl rfl) ?_) <;> (first | refine sops_pure (.free rfl rfl) rfl rfl (po_inc rfl rfl rfl (by omega)) ?_ | refine sops_pure (.free rfl rfl) rfl rfl (po_arith rfl rfl rfl (ar_add (by first | rfl | (refine wrap_i64 ?_; omega)) rfl)) ?_) <;> (refine sops_pure (.free rfl rfl) rfl rfl (po_assign rfl rfl) ?_) <;> (refine sops_nil ?_))
            | refine swp_ret ?_
            | refine swp_skip ?_
            | refine swp_block ?_
            | refine swp_exit ?_
            | refine block_go ?_
            | refine block_exit ?_
            | refine block_far rfl ?_
            | refine block_ret ?_
            | refine then_ret ?_
            | refine then_exit ?_
            | refine for_ret ?_
            | refine for_exit ?_
            | refine ct ?_
            | refine cf ?_
            | refine swp_cond rfl (fun hc => ?_) (fun hc => ?_)
            | refine retq (by first | exact .inr rfl | exact .inl rfl) rfl (.tmp rfl (by first | exact .t _ | exact .own rfl (by first | rfl | assumption | (simp; done) | (simp; omega)) | exact .nil _ | exact .emp _ | exact .fn _) (.tmp rfl (by first | exact .t _ | exact .own rfl (by first | rfl | assumption | (simp; done) | (simp; omega)) | exact .nil _ | exact .emp _ | exact .fn _) .nil)) ?_)
        | false =>
          rw [if_neg (by simp)] at hmatch
          repeat' (first
            | refine then_go ?_
            | refine swp_seq ?_
            | refine for_next hjl (weak_sub (.cons rfl (by first | rfl | (rw [hsn2]; try rfl)) rfl (.cons rfl (by first | rfl | (rw [hsn2]; try rfl)) rfl (.cons rfl (by first | rfl | (rw [hsn2]; try rfl)) rfl (.cons rfl (by first | rfl | (rw [hsn2]; try rfl)) rfl (.cons rfl (by first | rfl | (rw [hsn2]; try rfl)) rfl (.cons rfl (by first | rfl | (rw [hsn2]; try rfl)) rfl (.cons rfl (by first | rfl | (rw [hsn2]; try rfl)) rfl (.cons rfl (by first | rfl | (rw [hsn2]; try rfl)) rfl (.cons rfl (by first | rfl | (rw [hsn2]; try rfl)) rfl .nil))))))))) (.cons rfl (by first | rfl | (rw [hsn2]; try rfl)) rfl (.cons rfl (by first | rfl | (rw [hsn2]; try rfl)) rfl (.cons rfl (by first | rfl | (rw [hsn2]; try rfl)) rfl .nil))) (.cons rfl (by first | rfl | (rw [hsn2]; try rfl)) (.cons rfl (by first | rfl | (rw [hsn2]; try rfl)) .nil))) trivial
            | ((refine swp_region (id := 7) ?_) <;> (refine sops_pure (.free rfl rfl) rfl rfl (po_move rfl rfl) ?_) <;> (first | refine sops_pure (.free rfl rfl) rfl rfl (po_field_bx rfl rfl (tyF rfl)) ?_ | refine sops_pure (.free rfl rfl) rfl rfl (po_field rfl rfl (tyF rfl)) ?_) <;> (first | refine sops_pure (.free rfl rfl) rfl rfl (po_load_bx rfl rfl (tyT rfl) rfl rfl) ?_ | refine sops_pure (.free rfl rfl) rfl rfl (po_load rfl rfl (tyT rfl) rfl) ?_) <;> (refine sops_pure (.free rfl rfl) rfl rfl (po_move rfl rfl) ?_) <;> (refine sops_pure (.free rfl rfl) rfl rfl (pix rfl (tyS rfl)) ?_) <;> (first | refine sops_pure (.free rfl rfl) rfl rfl (po_field_bx rfl rfl (tyF rfl)) ?_ | refine sops_pure (.free rfl rfl) rfl rfl (po_field rfl rfl (tyF rfl)) ?_) <;> (first | refine sops_pure (.free rfl rfl) rfl rfl (po_load_bx rfl rfl (tyT rfl) rfl rfl) ?_ | refine sops_pure (.free rfl rfl) rfl rfl (po_load rfl rfl (tyT rfl) rfl) ?_) <;> (refine sops_pure (.free rfl rfl) rfl rfl (pln rfl (tyS rfl)) ?_) <;> (refine sops_pure (.free rfl rfl) rfl rfl (po_cmp rfl rfl rfl rfl) ?_) <;> (refine sops_nil ?_))
            | ((refine swp_region (id := 9) ?_) <;> (first | refine sops_pure (.free rfl rfl) rfl rfl (po_field_bx rfl rfl (tyF rfl)) ?_ | refine sops_pure (.free rfl rfl) rfl rfl (po_field rfl rfl (tyF rfl)) ?_) <;> (first | refine sops_pure (.free rfl rfl) rfl rfl (po_load_bx rfl rfl (tyT rfl) rfl rfl) ?_ | refine sops_pure (.free rfl rfl) rfl rfl (po_load rfl rfl (tyT rfl) rfl) ?_) <;> (refine sops_pure (.free rfl rfl) rfl rfl (po_move rfl rfl) ?_) <;> (refine sops_pure (.free rfl rfl) rfl rfl (pix rfl (tyS rfl)) ?_) <;> (first | refine sops_pure (.free rfl rfl) rfl rfl (po_field_bx rfl rfl (tyF rfl)) ?_ | refine sops_pure (.free rfl rfl) rfl rfl (po_field rfl rfl (tyF rfl)) ?_) <;> (first | refine sops_pure (.free rfl rfl) rfl rfl (po_load_bx rfl rfl (tyT rfl) rfl rfl) ?_ | refine sops_pure (.free rfl rfl) rfl rfl (po_load rfl rfl (tyT rfl) rfl) ?_) <;> (refine sops_pure (.free rfl rfl) rfl rfl (po_move rfl rfl) ?_) <;> (refine sops_pure (.free rfl rfl) rfl rfl (pix rfl (tyS rfl)) ?_) <;> (first | refine sops_pure (.free rfl rfl) rfl rfl (po_load_bx_agg rfl rfl (tyT rfl) rfl (vc (vc (vc .nil))) rfl) ?_ | refine sops_pure (.free rfl rfl) rfl rfl (po_load_agg rfl rfl (tyT rfl) rfl rfl) ?_) <;> (refine sops_allocS str46 (.free rfl rfl) rfl rfl rfl rfl ?_) <;> (refine sops_store (.free rfl rfl) rfl rfl rfl rfl rfl rfl (tyT rfl) rfl rfl ?_) <;> (refine sops_nil ?_))
            | ((refine swp_region (id := 10) ?_) <;> (refine sops_pure (.free rfl rfl) rfl rfl (po_move rfl rfl) ?_) <;> (refine sops_pure (.free rfl rfl) rfl rfl (po_not rfl rfl) ?_) <;> (refine sops_nil ?_))
            | ((refine swp_region (id := 11) ?_) <;> (first | refine sops_pure (.free rfl rfl) rfl rfl (po_load_bx_agg rfl rfl (tyT rfl) rfl (vc (vc (vc .nil))) rfl) ?_ | refine sops_pure (.free rfl rfl) rfl rfl (po_load_agg rfl rfl (tyT rfl) rfl rfl) ?_) <;> (first | refine sops_pure (.free rfl rfl) rfl rfl (po_call (hmatch) rfl (ac .nil)) ?_ | refine sops_pure (.free rfl rfl) rfl rfl (po_call (hfour) rfl (ac .nil)) ?_) <;> (refine sops_store (.free rfl rfl) rfl rfl rfl rfl rfl rfl (tyT rfl) rfl rfl ?_) <;> (refine sops_nil ?_))
            | ((refine swp_region (id := 12) ?_) <;> (refine sops_pure (.free rfl rfl) rfl rfl (po_assign rfl rfl) ?_) <;> (refine sops_nil ?_))
            | ((refine swp_region (id := 13) ?_) <;> (first | refine sops_pure (.free rfl rfl) rfl rfl (po_load_bx_agg rfl rfl (tyT rfl) rfl (vc (vc (vc .nil))) rfl) ?_ | refine sops_pure (.free rfl rfl) rfl rfl (po_load_agg rfl rfl (tyT rfl) rfl rfl) ?_) <;> (first | refine sops_pure (.free rfl rfl) rfl rfl (po_load_bx_agg rfl rfl (tyT rfl) rfl (vc (vc (vc .nil))) rfl) ?_ | refine sops_pure (.free rfl rfl) rfl rfl (po_load_agg rfl rfl (tyT rfl) rfl rfl) ?_) <;> (refine sops_pure (.free rfl rfl) rfl rfl (po_move rfl rfl) ?_) <;> (first | refine sops_pure (.free rfl rfl) rfl rfl (po_load_bx_agg rfl rfl (tyT rfl) rfl (vc (vc (vc (vc (vc (vc (vc .nil))))))) rfl) ?_ | refine sops_pure (.free rfl rfl) rfl rfl (po_load_agg rfl rfl (tyT rfl) rfl rfl) ?_) <;> (first | refine sops_pure (.free rfl rfl) rfl rfl (po_call (hmatch) rfl (ac (ac (ac (ac .nil))))) ?_ | refine sops_pure (.free rfl rfl) rfl rfl (po_call (hfour) rfl (ac (ac (ac (ac .nil))))) ?_) <;> (refine sops_nil ?_))
            | ((refine swp_region (id := 14) ?_) <;> (refine sops_pure (.free rfl rfl) rfl rfl (po_assign rfl rfl) ?_) <;> (refine sops_nil ?_))
            | ((refine swp_region (id := 15) ?_) <;> (refine sops_pure (.free rfl rfl) rfl rfl (po_move rfl rfl) ?_) <;> (refine sops_pure (.free rfl rfl) rfl rfl (po_move rfl rfl) ?_) <;> (refine sops_pure (.free rfl rfl) rfl rfl (po_buildSlice rfl (tyE rfl) (dc (.nil _)) rfl rfl rfl) ?_) <;> (first | refine sap rfl (tyE rfl) ?_ | refine san rfl (tyE rfl) ?_) <;> (refine sops_pure (.free rfl rfl) rfl rfl (po_assign rfl rfl) ?_) <;> (refine sops_nil ?_))
            | ((refine swp_region (id := 8) ?_) <;> (refine sops_pure (.free rfl rfl) rfl rfl (po_move rfl rfl) ?_) <;> (first | refine sops_pure (.free rfl rfl) rfl rfl (po_inc rfl rfl rfl (by omega)) ?_ | refine sops_pure (.free rfl rfl) rfl rfl (po_arith rfl rfl rfl (ar_add (by first | rfl | (refine wrap_i64 ?_; omega)) rfl)) ?_) <;> (refine sops_pure (.free rfl rfl) rfl rfl (po_assign rfl rfl) ?_) <;> (refine sops_nil ?_))
            | refine swp_ret ?_
            | refine swp_skip ?_
            | refine swp_block ?_
            | refine swp_exit ?_
            | refine block_go ?_
            | refine block_exit ?_
            | refine block_far rfl ?_
            | refine block_ret ?_
            | refine then_ret ?_
            | refine then_exit ?_
            | refine for_ret ?_
            | refine for_exit ?_
            | refine ct ?_
            | refine cf ?_
            | refine swp_cond rfl (fun hc => ?_) (fun hc => ?_)
            | refine retq (by first | exact .inr rfl | exact .inl rfl) rfl (.tmp rfl (by first | exact .t _ | exact .own rfl (by first | rfl | assumption | (simp; done) | (simp; omega)) | exact .nil _ | exact .emp _ | exact .fn _) (.tmp rfl (by first | exact .t _ | exact .own rfl (by first | rfl | assumption | (simp; done) | (simp; omega)) | exact .nil _ | exact .emp _ | exact .fn _) .nil)) ?_)
      | false =>
        rw [hM] at hmatch
        rw [show hitR M l[k].rules[j] = [.v (.int .i64 0)] by simp [hitR, hM]] at hsn2
        cases wi with
        | true =>
          rw [if_pos rfl] at hmatch
          repeat' (first
            | refine then_go ?_
            | refine swp_seq ?_
            | refine for_next hjl (weak_sub (.cons rfl (by first | rfl | (rw [hsn2]; try rfl)) rfl (.cons rfl (by first | rfl | (rw [hsn2]; try rfl)) rfl (.cons rfl (by first | rfl | (rw [hsn2]; try rfl)) rfl (.cons rfl (by first | rfl | (rw [hsn2]; try rfl)) rfl (.cons rfl (by first | rfl | (rw [hsn2]; try rfl)) rfl (.cons rfl (by first | rfl | (rw [hsn2]; try rfl)) rfl (.cons rfl (by first | rfl | (rw [hsn2]; try rfl)) rfl (.cons rfl (by first | rfl | (rw [hsn2]; try rfl)) rfl (.cons rfl (by first | rfl | (rw [hsn2]; try rfl)) rfl .nil))))))))) (.cons rfl (by first | rfl | (rw [hsn2]; try rfl)) rfl (.cons rfl (by first | rfl | (rw [hsn2]; try rfl)) rfl (.cons rfl (by first | rfl | (rw [hsn2]; try rfl)) rfl .nil))) (.cons rfl (by first | rfl | (rw [hsn2]; try rfl)) (.cons rfl (by first | rfl | (rw [hsn2]; try rfl)) .nil))) trivial
            | ((refine swp_region (id := 7) ?_) <;> (refine sops_pure (.free rfl rfl) rfl rfl (po_move rfl rfl) ?_) <;> (first | refine sops_pure (.free rfl rfl) rfl rfl (po_field_bx rfl rfl (tyF rfl)) ?_ | refine sops_pure (.free rfl rfl) rfl rfl (po_field rfl rfl (tyF rfl)) ?_) <;> (first | refine sops_pure (.free rfl rfl) rfl rfl (po_load_bx rfl rfl (tyT rfl) rfl rfl) ?_ | refine sops_pure (.free rfl rfl) rfl rfl (po_load rfl rfl (tyT rfl) rfl) ?_) <;> (refine sops_pure (.free rfl rfl) rfl rfl (po_move rfl rfl) ?_) <;> (refine sops_pure (.free rfl rfl) rfl rfl (pix rfl (tyS rfl)) ?_) <;> (first | refine sops_pure (.free rfl rfl) rfl rfl (po_field_bx rfl rfl (tyF rfl)) ?_ | refine sops_pure (.free rfl rfl) rfl rfl (po_field rfl rfl (tyF rfl)) ?_) <;> (first | refine sops_pure (.free rfl rfl) rfl rfl (po_load_bx rfl rfl (tyT rfl) rfl rfl) ?_ | refine sops_pure (.free rfl rfl) rfl rfl (po_load rfl rfl (tyT rfl) rfl) ?_) <;> (refine sops_pure (.free rfl rfl) rfl rfl (pln rfl (tyS rfl)) ?_) <;> (refine sops_pure (.free rfl rfl) rfl rfl (po_cmp rfl rfl rfl rfl) ?_) <;> (refine sops_nil ?_))
            | ((refine swp_region (id := 9) ?_) <;> (first | refine sops_pure (.free rfl rfl) rfl rfl (po_field_bx rfl rfl (tyF rfl)) ?_ | refine sops_pure (.free rfl rfl) rfl rfl (po_field rfl rfl (tyF rfl)) ?_) <;> (first | refine sops_pure (.free rfl rfl) rfl rfl (po_load_bx rfl rfl (tyT rfl) rfl rfl) ?_ | refine sops_pure (.free rfl rfl) rfl rfl (po_load rfl rfl (tyT rfl) rfl) ?_) <;> (refine sops_pure (.free rfl rfl) rfl rfl (po_move rfl rfl) ?_) <;> (refine sops_pure (.free rfl rfl) rfl rfl (pix rfl (tyS rfl)) ?_) <;> (first | refine sops_pure (.free rfl rfl) rfl rfl (po_field_bx rfl rfl (tyF rfl)) ?_ | refine sops_pure (.free rfl rfl) rfl rfl (po_field rfl rfl (tyF rfl)) ?_) <;> (first | refine sops_pure (.free rfl rfl) rfl rfl (po_load_bx rfl rfl (tyT rfl) rfl rfl) ?_ | refine sops_pure (.free rfl rfl) rfl rfl (po_load rfl rfl (tyT rfl) rfl) ?_) <;> (refine sops_pure (.free rfl rfl) rfl rfl (po_move rfl rfl) ?_) <;> (refine sops_pure (.free rfl rfl) rfl rfl (pix rfl (tyS rfl)) ?_) <;> (first | refine sops_pure (.free rfl rfl) rfl rfl (po_load_bx_agg rfl rfl (tyT rfl) rfl (vc (vc (vc .nil))) rfl) ?_ | refine sops_pure (.free rfl rfl) rfl rfl (po_load_agg rfl rfl (tyT rfl) rfl rfl) ?_) <;> (refine sops_allocS str46 (.free rfl rfl) rfl rfl rfl rfl ?_) <;> (refine sops_store (.free rfl rfl) rfl rfl rfl rfl rfl rfl (tyT rfl) rfl rfl ?_) <;> (refine sops_nil ?_))
            | ((refine swp_region (id := 10) ?_) <;> (refine sops_pure (.free rfl rfl) rfl rfl (po_move rfl rfl) ?_) <;> (refine sops_pure (.free rfl rfl) rfl rfl (po_not rfl rfl) ?_) <;> (refine sops_nil ?_))
            | ((refine swp_region (id := 12) ?_) <;> (refine sops_pure (.free rfl rfl) rfl rfl (po_assign rfl rfl) ?_) <;> (refine sops_nil ?_))
            | ((refine swp_region (id := 13) ?_) <;> (first | refine sops_pure (.free rfl rfl) rfl rfl (po_load_bx_agg rfl rfl (tyT rfl) rfl (vc (vc (vc .nil))) rfl) ?_ | refine sops_pure (.free rfl rfl) rfl rfl (po_load_agg rfl rfl (tyT rfl) rfl rfl) ?_) <;> (first | refine sops_pure (.free rfl rfl) rfl rfl (po_load_bx_agg rfl rfl (tyT rfl) rfl (vc (vc (vc .nil))) rfl) ?_ | refine sops_pure (.free rfl rfl) rfl rfl (po_load_agg rfl rfl (tyT rfl) rfl rfl) ?_) <;> (refine sops_pure (.free rfl rfl) rfl rfl (po_move rfl rfl) ?_) <;> (first | refine sops_pure (.free rfl rfl) rfl rfl (po_load_bx_agg rfl rfl (tyT rfl) rfl (vc (vc (vc (vc (vc (vc (vc .nil))))))) rfl) ?_ | refine sops_pure (.free rfl rfl) rfl rfl (po_load_agg rfl rfl (tyT rfl) rfl rfl) ?_) <;> (refine sops_pure (.free rfl rfl) rfl rfl (po_call (hmatch) rfl (ac (ac (ac (ac .nil))))) ?_) <;> (refine sops_nil ?_))
            | ((refine swp_region (id := 15) ?_) <;> (refine sops_pure (.free rfl rfl) rfl rfl (po_move rfl rfl) ?_) <;> (refine sops_pure (.free rfl rfl) rfl rfl (po_move rfl rfl) ?_) <;> (refine sops_pure (.free rfl rfl) rfl rfl (po_buildSlice rfl (tyE rfl) (dc (.nil _)) rfl rfl rfl) ?_) <;> (first | refine sap rfl (tyE rfl) ?_ | refine san rfl (tyE rfl) ?_) <;> (refine sops_pure (.free rfl rfl) rfl rfl (po_assign rfl rfl) ?_) <;> (refine sops_nil ?_))
            | ((refine swp_region (id := 8) ?_) <;> (refine sops_pure (.free rfl rfl) rfl rfl (po_move rfl rfl) ?_) <;> (first | refine sops_pure (.free rfl rfl) rfl rfl (po_inc rfl rfl rfl (by omega)) ?_ | refine sops_pure (.free rfl rfl) rfl rfl (po_arith rfl rfl rfl (ar_add (by first | rfl | (refine wrap_i64 ?_; omega)) rfl)) ?_) <;> (refine sops_pure (.free rfl rfl) rfl rfl (po_assign rfl rfl) ?_) <;> (refine sops_nil ?_))
            | refine swp_ret ?_
            | refine swp_skip ?_
            | refine swp_block ?_
            | refine swp_exit ?_
            | refine block_go ?_
            | refine block_exit ?_
            | refine block_far rfl ?_
            | refine block_ret ?_
            | refine then_ret ?_
            | refine then_exit ?_
            | refine for_ret ?_
            | refine for_exit ?_
            | refine ct ?_
            | refine cf ?_
            | refine swp_cond rfl (fun hc => ?_) (fun hc => ?_)
            | refine retq (by first | exact .inr rfl | exact .inl rfl) rfl (.tmp rfl (by first | exact .t _ | exact .own rfl (by first | rfl | assumption | (simp; done) | (simp; omega)) | exact .nil _ | exact .emp _ | exact .fn _) (.tmp rfl (by first | exact .t _ | exact .own rfl (by first | rfl | assumption | (simp; done) | (simp; omega)) | exact .nil _ | exact .emp _ | exact .fn _) .nil)) ?_)
        | false =>
          rw [if_neg (by simp)] at hmatch
          repeat' (first
            | refine then_go ?_
            | refine swp_seq ?_
            | refine for_next hjl (weak_sub (.cons rfl (by first | rfl | (rw [hsn2]; try rfl)) rfl (.cons rfl (by first | rfl | (rw [hsn2]; try rfl)) rfl (.cons rfl (by first | rfl | (rw [hsn2]; try rfl)) rfl (.cons rfl (by first | rfl | (rw [hsn2]; try rfl)) rfl (.cons rfl (by first | rfl | (rw [hsn2]; try rfl)) rfl (.cons rfl (by first | rfl | (rw [hsn2]; try rfl)) rfl (.cons rfl (by first | rfl | (rw [hsn2]; try rfl)) rfl (.cons rfl (by first | rfl | (rw [hsn2]; try rfl)) rfl (.cons rfl (by first | rfl | (rw [hsn2]; try rfl)) rfl .nil))))))))) (.cons rfl (by first | rfl | (rw [hsn2]; try rfl)) rfl (.cons rfl (by first | rfl | (rw [hsn2]; try rfl)) rfl (.cons rfl (by first | rfl | (rw [hsn2]; try rfl)) rfl .nil))) (.cons rfl (by first | rfl | (rw [hsn2]; try rfl)) (.cons rfl (by first | rfl | (rw [hsn2]; try rfl)) .nil))) trivial
            | ((refine swp_region (id := 7) ?_) <;> (refine sops_pure (.free rfl rfl) rfl rfl (po_move rfl rfl) ?_) <;> (first | refine sops_pure (.free rfl rfl) rfl rfl (po_field_bx rfl rfl (tyF rfl)) ?_ | refine sops_pure (.free rfl rfl) rfl rfl (po_field rfl rfl (tyF rfl)) ?_) <;> (first | refine sops_pure (.free rfl rfl) rfl rfl (po_load_bx rfl rfl (tyT rfl) rfl rfl) ?_ | refine sops_pure (.free rfl rfl) rfl rfl (po_load rfl rfl (tyT rfl) rfl) ?_) <;> (refine sops_pure (.free rfl rfl) rfl rfl (po_move rfl rfl) ?_) <;> (refine sops_pure (.free rfl rfl) rfl rfl (pix rfl (tyS rfl)) ?_) <;> (first | refine sops_pure (.free rfl rfl) rfl rfl (po_field_bx rfl rfl (tyF rfl)) ?_ | refine sops_pure (.free rfl rfl) rfl rfl (po_field rfl rfl (tyF rfl)) ?_) <;> (first | refine sops_pure (.free rfl rfl) rfl rfl (po_load_bx rfl rfl (tyT rfl) rfl rfl) ?_ | refine sops_pure (.free rfl rfl) rfl rfl (po_load rfl rfl (tyT rfl) rfl) ?_) <;> (refine sops_pure (.free rfl rfl) rfl rfl (pln rfl (tyS rfl)) ?_) <;> (refine sops_pure (.free rfl rfl) rfl rfl (po_cmp rfl rfl rfl rfl) ?_) <;> (refine sops_nil ?_))
            | ((refine swp_region (id := 9) ?_) <;> (first | refine sops_pure (.free rfl rfl) rfl rfl (po_field_bx rfl rfl (tyF rfl)) ?_ | refine sops_pure (.free rfl rfl) rfl rfl (po_field rfl rfl (tyF rfl)) ?_) <;> (first | refine sops_pure (.free rfl rfl) rfl rfl (po_load_bx rfl rfl (tyT rfl) rfl rfl) ?_ | refine sops_pure (.free rfl rfl) rfl rfl (po_load rfl rfl (tyT rfl) rfl) ?_) <;> (refine sops_pure (.free rfl rfl) rfl rfl (po_move rfl rfl) ?_) <;> (refine sops_pure (.free rfl rfl) rfl rfl (pix rfl (tyS rfl)) ?_) <;> (first | refine sops_pure (.free rfl rfl) rfl rfl (po_field_bx rfl rfl (tyF rfl)) ?_ | refine sops_pure (.free rfl rfl) rfl rfl (po_field rfl rfl (tyF rfl)) ?_) <;> (first | refine sops_pure (.free rfl rfl) rfl rfl (po_load_bx rfl rfl (tyT rfl) rfl rfl) ?_ | refine sops_pure (.free rfl rfl) rfl rfl (po_load rfl rfl (tyT rfl) rfl) ?_) <;> (refine sops_pure (.free rfl rfl) rfl rfl (po_move rfl rfl) ?_) <;> (refine sops_pure (.free rfl rfl) rfl rfl (pix rfl (tyS rfl)) ?_) <;> (first | refine sops_pure (.free rfl rfl) rfl rfl (po_load_bx_agg rfl rfl (tyT rfl) rfl (vc (vc (vc .nil))) rfl) ?_ | refine sops_pure (.free rfl rfl) rfl rfl (po_load_agg rfl rfl (tyT rfl) rfl rfl) ?_) <;> (refine sops_allocS str46 (.free rfl rfl) rfl rfl rfl rfl ?_) <;> (refine sops_store (.free rfl rfl) rfl rfl rfl rfl rfl rfl (tyT rfl) rfl rfl ?_) <;> (refine sops_nil ?_))
            | ((refine swp_region (id := 10) ?_) <;> (refine sops_pure (.free rfl rfl) rfl rfl (po_move rfl rfl) ?_) <;> (refine sops_pure (.free rfl rfl) rfl rfl (po_not rfl rfl) ?_) <;> (refine sops_nil ?_))
            | ((refine swp_region (id := 11) ?_) <;> (first | refine sops_pure (.free rfl rfl) rfl rfl (po_load_bx_agg rfl rfl (tyT rfl) rfl (vc (vc (vc .nil))) rfl) ?_ | refine sops_pure (.free rfl rfl) rfl rfl (po_load_agg rfl rfl (tyT rfl) rfl rfl) ?_) <;> (first | refine sops_pure (.free rfl rfl) rfl rfl (po_call (hmatch) rfl (ac .nil)) ?_ | refine sops_pure (.free rfl rfl) rfl rfl (po_call (hfour) rfl (ac .nil)) ?_) <;> (refine sops_store (.free rfl rfl) rfl rfl rfl rfl rfl rfl (tyT rfl) rfl rfl ?_) <;> (refine sops_nil ?_))
            | ((refine swp_region (id := 12) ?_) <;> (refine sops_pure (.free rfl rfl) rfl rfl (po_assign rfl rfl) ?_) <;> (refine sops_nil ?_))
            | ((refine swp_region (id := 13) ?_) <;> (first | refine sops_pure (.free rfl rfl) rfl rfl (po_load_bx_agg rfl rfl (tyT rfl) rfl (vc (vc (vc .nil))) rfl) ?_ | refine sops_pure (.free rfl rfl) rfl rfl (po_load_agg rfl rfl (tyT rfl) rfl rfl) ?_) <;> (first | refine sops_pure (.free rfl rfl) rfl rfl (po_load_bx_agg rfl rfl (tyT rfl) rfl (vc (vc (vc .nil))) rfl) ?_ | refine sops_pure (.free rfl rfl) rfl rfl (po_load_agg rfl rfl (tyT rfl) rfl rfl) ?_) <;> (refine sops_pure (.free rfl rfl) rfl rfl (po_move rfl rfl) ?_) <;> (first | refine sops_pure (.free rfl rfl) rfl rfl (po_load_bx_agg rfl rfl (tyT rfl) rfl (vc (vc (vc (vc (vc (vc (vc .nil))))))) rfl) ?_ | refine sops_pure (.free rfl rfl) rfl rfl (po_load_agg rfl rfl (tyT rfl) rfl rfl) ?_) <;> (first | refine sops_pure (.free rfl rfl) rfl rfl (po_call (hmatch) rfl (ac (ac (ac (ac .nil))))) ?_ | refine sops_pure (.free rfl rfl) rfl rfl (po_call (hfour) rfl (ac (ac (ac (ac .nil))))) ?_) <;> (refine sops_nil ?_))
            | ((refine swp_region (id := 15) ?_) <;> (refine sops_pure (.free rfl rfl) rfl rfl (po_move rfl rfl) ?_) <;> (refine sops_pure (.free rfl rfl) rfl rfl (po_move rfl rfl) ?_) <;> (refine sops_pure (.free rfl rfl) rfl rfl (po_buildSlice rfl (tyE rfl) (dc (.nil _)) rfl rfl rfl) ?_) <;> (first | refine sap rfl (tyE rfl) ?_ | refine san rfl (tyE rfl) ?_) <;> (refine sops_pure (.free rfl rfl) rfl rfl (po_assign rfl rfl) ?_) <;> (refine sops_nil ?_))
            | ((refine swp_region (id := 8) ?_) <;> (refine sops_pure (.free rfl rfl) rfl rfl (po_move rfl rfl) ?_) <;> (first | refine sops_pure (.free rfl rfl) rfl rfl (po_inc rfl rfl rfl (by omega)) ?_ | refine sops_pure (.free rfl rfl) rfl rfl (po_arith rfl rfl rfl (ar_add (by first | rfl | (refine wrap_i64 ?_; omega)) rfl)) ?_) <;> (refine sops_pure (.free rfl rfl) rfl rfl (po_assign rfl rfl) ?_) <;> (refine sops_nil ?_))
            | refine swp_ret ?_
            | refine swp_skip ?_
            | refine swp_block ?_
            | refine swp_exit ?_
            | refine block_go ?_
            | refine block_exit ?_
            | refine block_far rfl ?_
            | refine block_ret ?_
            | refine then_ret ?_
            | refine then_exit ?_
            | refine for_ret ?_
            | refine for_exit ?_
            | refine ct ?_
            | refine cf ?_
            | refine swp_cond rfl (fun hc => ?_) (fun hc => ?_)
            | refine retq (by first | exact .inr rfl | exact .inl rfl) rfl (.tmp rfl (by first | exact .t _ | exact .own rfl (by first | rfl | assumption | (simp; done) | (simp; omega)) | exact .nil _ | exact .emp _ | exact .fn _) (.tmp rfl (by first | exact .t _ | exact .own rfl (by first | rfl | assumption | (simp; done) | (simp; omega)) | exact .nil _ | exact .emp _ | exact .fn _) .nil)) ?_)
    · obtain rfl : j = l[k].rules.length := by omega
      rw [List.take_length]
      repeat' (first
        | refine then_go ?_
        | refine swp_seq ?_
        | refine for_next hlt (weak_sub (.cons rfl (by first | rfl | (rw [hsn]; try rfl)) rfl (.cons rfl (by first | rfl | (rw [hsn]; try rfl)) rfl (.cons rfl (by first | rfl | (rw [hsn]; try rfl)) rfl (.cons rfl (by first | rfl | (rw [hsn]; try rfl)) rfl (.cons rfl (by first | rfl | (rw [hsn]; try rfl)) rfl (.cons rfl (by first | rfl | (rw [hsn]; try rfl)) rfl (.cons rfl (by first | rfl | (rw [hsn]; try rfl)) rfl .nil))))))) (.cons rfl (by first | rfl | (rw [hsn]; try rfl)) rfl (.cons rfl (by first | rfl | (rw [hsn]; try rfl)) rfl (.cons rfl (by first | rfl | (rw [hsn]; try rfl)) rfl .nil))) (.cons rfl (by first | rfl | (rw [hsn]; try rfl)) .nil)) trivial
        | ((refine swp_region (id := 7) ?_) <;> (refine sops_pure (.free rfl rfl) rfl rfl (po_move rfl rfl) ?_) <;> (first | refine sops_pure (.free rfl rfl) rfl rfl (po_field_bx rfl rfl (tyF rfl)) ?_ | refine sops_pure (.free rfl rfl) rfl rfl (po_field rfl rfl (tyF rfl)) ?_) <;> (first | refine sops_pure (.free rfl rfl) rfl rfl (po_load_bx rfl rfl (tyT rfl) rfl rfl) ?_ | refine sops_pure (.free rfl rfl) rfl rfl (po_load rfl rfl (tyT rfl) rfl) ?_) <;> (refine sops_pure (.free rfl rfl) rfl rfl (po_move rfl rfl) ?_) <;> (refine sops_pure (.free rfl rfl) rfl rfl (pix rfl (tyS rfl)) ?_) <;> (first | refine sops_pure (.free rfl rfl) rfl rfl (po_field_bx rfl rfl (tyF rfl)) ?_ | refine sops_pure (.free rfl rfl) rfl rfl (po_field rfl rfl (tyF rfl)) ?_) <;> (first | refine sops_pure (.free rfl rfl) rfl rfl (po_load_bx rfl rfl (tyT rfl) rfl rfl) ?_ | refine sops_pure (.free rfl rfl) rfl rfl (po_load rfl rfl (tyT rfl) rfl) ?_) <;> (refine sops_pure (.free rfl rfl) rfl rfl (pln rfl (tyS rfl)) ?_) <;> (refine sops_pure (.free rfl rfl) rfl rfl (po_cmp rfl rfl rfl rfl) ?_) <;> (refine sops_nil ?_))
        | ((refine swp_region (id := 16) ?_) <;> (refine sops_pure (.free rfl rfl) rfl rfl (po_move rfl rfl) ?_) <;> (refine sops_pure (.free rfl rfl) rfl rfl (po_move rfl rfl) ?_) <;> (refine sops_pure (.free rfl rfl) rfl rfl (po_buildSlice rfl (tyE rfl) (dc (.nil _)) rfl rfl rfl) ?_) <;> (first | refine sap rfl (tyE rfl) ?_ | refine san rfl (tyE rfl) ?_) <;> (refine sops_pure (.free rfl rfl) rfl rfl (po_assign rfl rfl) ?_) <;> (refine sops_nil ?_))
        | ((refine swp_region (id := 4) ?_) <;> (refine sops_pure (.free rfl rfl) rfl rfl (po_move rfl rfl) ?_) <;> (first | refine sops_pure (.free rfl rfl) rfl rfl (po_inc rfl rfl rfl (by omega)) ?_ | refine sops_pure (.free rfl rfl) rfl rfl (po_arith rfl rfl rfl (ar_add (by first | rfl | (refine wrap_i64 ?_; omega)) rfl)) ?_) <;> (refine sops_pure (.free rfl rfl) rfl rfl (po_assign rfl rfl) ?_) <;> (refine sops_nil ?_))
        | refine swp_ret ?_
        | refine swp_skip ?_
        | refine swp_block ?_
        | refine swp_exit ?_
        | refine block_go ?_
        | refine block_exit ?_
        | refine block_far rfl ?_
        | refine block_ret ?_
        | refine then_ret ?_
        | refine then_exit ?_
        | refine for_ret ?_
        | refine for_exit ?_
        | refine ct ?_
        | refine cf ?_
        | refine swp_cond rfl (fun hc => ?_) (fun hc => ?_)
        | refine retq (by first | exact .inr rfl | exact .inl rfl) rfl (.tmp rfl (by first | exact .t _ | exact .own rfl (by first | rfl | assumption | (simp; done) | (simp; omega)) | exact .nil _ | exact .emp _ | exact .fn _) (.tmp rfl (by first | exact .t _ | exact .own rfl (by first | rfl | assumption | (simp; done) | (simp; omega)) | exact .nil _ | exact .emp _ | exact .fn _) .nil)) ?_)
  · obtain rfl : k = l.length := by omega
    rw [List.take_length]
    generalize Pl.judgeP M l = J at *
    generalize Pl.hitP M false l = H at *
    obtain ⟨x, y⟩ := J
    dsimp only at hsays
    by_cases hc : x = true ∧ y = 0 ∧ al = 1 ∧ H = false
    · obtain ⟨rfl, rfl, rfl, rfl⟩ := hc
      unfold rs14
      rw [if_pos ⟨rfl, rfl, rfl, rfl⟩]
      repeat' (first
        | refine then_go ?_
        | refine swp_seq ?_
        | ((refine swp_region (id := 3) ?_) <;> (refine sops_pure (.free rfl rfl) rfl rfl (po_move rfl rfl) ?_) <;> (first | refine sops_pure (.free rfl rfl) rfl rfl (po_field_bx rfl rfl (tyF rfl)) ?_ | refine sops_pure (.free rfl rfl) rfl rfl (po_field rfl rfl (tyF rfl)) ?_) <;> (first | refine sops_pure (.free rfl rfl) rfl rfl (po_load_bx rfl rfl (tyT rfl) rfl rfl) ?_ | refine sops_pure (.free rfl rfl) rfl rfl (po_load rfl rfl (tyT rfl) rfl) ?_) <;> (refine sops_pure (.free rfl rfl) rfl rfl (pln rfl (tyS rfl)) ?_) <;> (refine sops_pure (.free rfl rfl) rfl rfl (po_cmp rfl rfl rfl rfl) ?_) <;> (refine sops_nil ?_))
        | ((refine swp_region (id := 17) ?_) <;> (first | refine sops_pure (.free rfl rfl) rfl rfl (po_field_bx rfl rfl (tyF rfl)) ?_ | refine sops_pure (.free rfl rfl) rfl rfl (po_field rfl rfl (tyF rfl)) ?_) <;> (first | refine sops_pure (.free rfl rfl) rfl rfl (po_load_bx rfl rfl (tyT rfl) rfl rfl) ?_ | refine sops_pure (.free rfl rfl) rfl rfl (po_load rfl rfl (tyT rfl) rfl) ?_) <;> (refine sops_pure (.free rfl rfl) rfl rfl (po_move rfl rfl) ?_) <;> (first | refine sops_pure (.free rfl rfl) rfl rfl (po_call (hsays) rfl (ac (ac .nil))) ?_ | refine sops_pure (.free rfl rfl) rfl rfl (po_call (hall) rfl (ac (ac .nil))) ?_) <;> (refine sops_pure (.free rfl rfl) rfl rfl (po_move rfl rfl) ?_) <;> (refine sops_pure (.free rfl rfl) rfl rfl (po_extract rfl rfl rfl) ?_) <;> (refine sops_pure (.free rfl rfl) rfl rfl (po_extract rfl rfl rfl) ?_) <;> (refine sops_pure (.free rfl rfl) rfl rfl (po_assign rfl rfl) ?_) <;> (refine sops_pure (.free rfl rfl) rfl rfl (po_assign rfl rfl) ?_) <;> (refine sops_nil ?_))
        | ((refine swp_region (id := 18) ?_) <;> (refine sops_pure (.free rfl rfl) rfl rfl (po_move rfl rfl) ?_) <;> (refine sops_pure (.free rfl rfl) rfl rfl (po_move rfl rfl) ?_) <;> (first | refine sops_pure gy rfl rfl (po_move rfl rfl) ?_ | refine sops_skip gn1 rfl rfl ?_ | ((refine sops_split rfl rfl rfl (fun hc => ?_) (fun hc => ?_)) <;> (first | refine sops_pure gy rfl rfl (po_move rfl rfl) ?_ | refine sops_skip gn1 rfl rfl ?_))) <;> (first | refine sops_pure gy rfl rfl (po_cmp rfl rfl rfl rfl) ?_ | refine sops_skip gn1 rfl rfl ?_) <;> (first | refine sops_pure (.free rfl rfl) rfl rfl (pkt rfl) ?_ | refine sops_pure (.free rfl rfl) rfl rfl (pkf rfl) ?_) <;> (refine sops_pure (.free rfl rfl) rfl rfl (po_move rfl rfl) ?_) <;> (first | refine sops_pure gy rfl rfl (po_field_bx rfl rfl (tyF rfl)) ?_ | refine sops_pure gy rfl rfl (po_field rfl rfl (tyF rfl)) ?_ | refine sops_skip gn1 rfl rfl ?_ | ((refine sops_split rfl rfl rfl (fun hc => ?_) (fun hc => ?_)) <;> (first | refine sops_pure gy rfl rfl (po_field_bx rfl rfl (tyF rfl)) ?_ | refine sops_pure gy rfl rfl (po_field rfl rfl (tyF rfl)) ?_ | refine sops_skip gn1 rfl rfl ?_))) <;> (first | refine sops_pure gy rfl rfl (po_load_bx rfl rfl (tyT rfl) rfl rfl) ?_ | refine sops_pure gy rfl rfl (po_load rfl rfl (tyT rfl) rfl) ?_ | refine sops_skip gn1 rfl rfl ?_) <;> (first | refine sops_pure gy rfl rfl (po_cmp rfl rfl rfl rfl) ?_ | refine sops_skip gn1 rfl rfl ?_) <;> (first | refine sops_pure (.free rfl rfl) rfl rfl (pkt rfl) ?_ | refine sops_pure (.free rfl rfl) rfl rfl (pkf rfl) ?_) <;> (refine sops_pure (.free rfl rfl) rfl rfl (po_move rfl rfl) ?_) <;> (first | refine sops_pure gy rfl rfl (po_load_bx_agg rfl rfl (tyT rfl) rfl (vc (vc .nil)) rfl) ?_ | refine sops_pure gy rfl rfl (po_load_agg rfl rfl (tyT rfl) rfl rfl) ?_ | refine sops_skip gn1 rfl rfl ?_ | ((refine sops_split rfl rfl rfl (fun hc => ?_) (fun hc => ?_)) <;> (first | refine sops_pure gy rfl rfl (po_load_bx_agg rfl rfl (tyT rfl) rfl (vc (vc .nil)) rfl) ?_ | refine sops_pure gy rfl rfl (po_load_agg rfl rfl (tyT rfl) rfl rfl) ?_ | refine sops_skip gn1 rfl rfl ?_))) <;> (first | refine sops_pure gy rfl rfl (po_move rfl rfl) ?_ | refine sops_skip gn1 rfl rfl ?_) <;> (first | refine sops_pure gy rfl rfl (po_call (hsays) rfl (ac (ac .nil))) ?_ | refine sops_pure gy rfl rfl (po_call (hall) rfl (ac (ac .nil))) ?_ | refine sops_skip gn1 rfl rfl ?_) <;> (first | refine sops_pure gy rfl rfl (po_not rfl rfl) ?_ | refine sops_skip gn1 rfl rfl ?_) <;> (first | refine sops_pure (.free rfl rfl) rfl rfl (pkt rfl) ?_ | refine sops_pure (.free rfl rfl) rfl rfl (pkf rfl) ?_) <;> (refine sops_nil ?_))
        | ((refine swp_region (id := 19) ?_) <;> (refine sops_pure (.free rfl rfl) rfl rfl (po_assign rfl rfl) ?_) <;> (refine sops_pure (.free rfl rfl) rfl rfl (po_assign rfl rfl) ?_) <;> (refine sops_nil ?_))
        | refine swp_ret ?_
        | refine swp_skip ?_
        | refine swp_block ?_
        | refine swp_exit ?_
        | refine block_go ?_
        | refine block_exit ?_
        | refine block_far rfl ?_
        | refine block_ret ?_
        | refine then_ret ?_
        | refine then_exit ?_
        | refine for_ret ?_
        | refine for_exit ?_
        | refine ct ?_
        | refine cf ?_
        | refine swp_cond rfl (fun hc => ?_) (fun hc => ?_)
        | refine retq (by first | exact .inr rfl | exact .inl rfl) rfl (.tmp rfl (by first | exact .t _ | exact .own rfl (by first | rfl | assumption | (simp; done) | (simp; omega)) | exact .nil _ | exact .emp _ | exact .fn _) (.tmp rfl (by first | exact .t _ | exact .own rfl (by first | rfl | assumption | (simp; done) | (simp; omega)) | exact .nil _ | exact .emp _ | exact .fn _) .nil)) ?_)
      rfl
    · unfold rs14
      rw [if_neg hc]
      cases x with
      | false =>
        repeat' (first
          | refine then_go ?_
          | refine swp_seq ?_
          | ((refine swp_region (id := 3) ?_) <;> (refine sops_pure (.free rfl rfl) rfl rfl (po_move rfl rfl) ?_) <;> (first | refine sops_pure (.free rfl rfl) rfl rfl (po_field_bx rfl rfl (tyF rfl)) ?_ | refine sops_pure (.free rfl rfl) rfl rfl (po_field rfl rfl (tyF rfl)) ?_) <;> (first | refine sops_pure (.free rfl rfl) rfl rfl (po_load_bx rfl rfl (tyT rfl) rfl rfl) ?_ | refine sops_pure (.free rfl rfl) rfl rfl (po_load rfl rfl (tyT rfl) rfl) ?_) <;> (refine sops_pure (.free rfl rfl) rfl rfl (pln rfl (tyS rfl)) ?_) <;> (refine sops_pure (.free rfl rfl) rfl rfl (po_cmp rfl rfl rfl rfl) ?_) <;> (refine sops_nil ?_))
          | ((refine swp_region (id := 17) ?_) <;> (first | refine sops_pure (.free rfl rfl) rfl rfl (po_field_bx rfl rfl (tyF rfl)) ?_ | refine sops_pure (.free rfl rfl) rfl rfl (po_field rfl rfl (tyF rfl)) ?_) <;> (first | refine sops_pure (.free rfl rfl) rfl rfl (po_load_bx rfl rfl (tyT rfl) rfl rfl) ?_ | refine sops_pure (.free rfl rfl) rfl rfl (po_load rfl rfl (tyT rfl) rfl) ?_) <;> (refine sops_pure (.free rfl rfl) rfl rfl (po_move rfl rfl) ?_) <;> (first | refine sops_pure (.free rfl rfl) rfl rfl (po_call (hsays) rfl (ac (ac .nil))) ?_ | refine sops_pure (.free rfl rfl) rfl rfl (po_call (hall) rfl (ac (ac .nil))) ?_) <;> (refine sops_pure (.free rfl rfl) rfl rfl (po_move rfl rfl) ?_) <;> (refine sops_pure (.free rfl rfl) rfl rfl (po_extract rfl rfl rfl) ?_) <;> (refine sops_pure (.free rfl rfl) rfl rfl (po_extract rfl rfl rfl) ?_) <;> (refine sops_pure (.free rfl rfl) rfl rfl (po_assign rfl rfl) ?_) <;> (refine sops_pure (.free rfl rfl) rfl rfl (po_assign rfl rfl) ?_) <;> (refine sops_nil ?_))
          | ((refine swp_region (id := 18) ?_) <;> (refine sops_pure (.free rfl rfl) rfl rfl (po_move rfl rfl) ?_) <;> (refine sops_pure (.free rfl rfl) rfl rfl (po_move rfl rfl) ?_) <;> (first | refine sops_pure gy rfl rfl (po_move rfl rfl) ?_ | refine sops_skip gn1 rfl rfl ?_ | ((refine sops_split rfl rfl rfl (fun hc => ?_) (fun hc => ?_)) <;> (first | refine sops_pure gy rfl rfl (po_move rfl rfl) ?_ | refine sops_skip gn1 rfl rfl ?_))) <;> (first | refine sops_pure gy rfl rfl (po_cmp rfl rfl rfl rfl) ?_ | refine sops_skip gn1 rfl rfl ?_) <;> (first | refine sops_pure (.free rfl rfl) rfl rfl (pkt rfl) ?_ | refine sops_pure (.free rfl rfl) rfl rfl (pkf rfl) ?_) <;> (refine sops_pure (.free rfl rfl) rfl rfl (po_move rfl rfl) ?_) <;> (first | refine sops_pure gy rfl rfl (po_field_bx rfl rfl (tyF rfl)) ?_ | refine sops_pure gy rfl rfl (po_field rfl rfl (tyF rfl)) ?_ | refine sops_skip gn1 rfl rfl ?_ | ((refine sops_split rfl rfl rfl (fun hc => ?_) (fun hc => ?_)) <;> (first | refine sops_pure gy rfl rfl (po_field_bx rfl rfl (tyF rfl)) ?_ | refine sops_pure gy rfl rfl (po_field rfl rfl (tyF rfl)) ?_ | refine sops_skip gn1 rfl rfl ?_))) <;> (first | refine sops_pure gy rfl rfl (po_load_bx rfl rfl (tyT rfl) rfl rfl) ?_ | refine sops_pure gy rfl rfl (po_load rfl rfl (tyT rfl) rfl) ?_ | refine sops_skip gn1 rfl rfl ?_) <;> (first | refine sops_pure gy rfl rfl (po_cmp rfl rfl rfl rfl) ?_ | refine sops_skip gn1 rfl rfl ?_) <;> (first | refine sops_pure (.free rfl rfl) rfl rfl (pkt rfl) ?_ | refine sops_pure (.free rfl rfl) rfl rfl (pkf rfl) ?_) <;> (refine sops_pure (.free rfl rfl) rfl rfl (po_move rfl rfl) ?_) <;> (first | refine sops_pure gy rfl rfl (po_load_bx_agg rfl rfl (tyT rfl) rfl (vc (vc .nil)) rfl) ?_ | refine sops_pure gy rfl rfl (po_load_agg rfl rfl (tyT rfl) rfl rfl) ?_ | refine sops_skip gn1 rfl rfl ?_ | ((refine sops_split rfl rfl rfl (fun hc => ?_) (fun hc => ?_)) <;> (first | refine sops_pure gy rfl rfl (po_load_bx_agg rfl rfl (tyT rfl) rfl (vc (vc .nil)) rfl) ?_ | refine sops_pure gy rfl rfl (po_load_agg rfl rfl (tyT rfl) rfl rfl) ?_ | refine sops_skip gn1 rfl rfl ?_))) <;> (first | refine sops_pure gy rfl rfl (po_move rfl rfl) ?_ | refine sops_skip gn1 rfl rfl ?_) <;> (first | refine sops_pure gy rfl rfl (po_call (hsays) rfl (ac (ac .nil))) ?_ | refine sops_pure gy rfl rfl (po_call (hall) rfl (ac (ac .nil))) ?_ | refine sops_skip gn1 rfl rfl ?_) <;> (first | refine sops_pure gy rfl rfl (po_not rfl rfl) ?_ | refine sops_skip gn1 rfl rfl ?_) <;> (first | refine sops_pure (.free rfl rfl) rfl rfl (pkt rfl) ?_ | refine sops_pure (.free rfl rfl) rfl rfl (pkf rfl) ?_) <;> (refine sops_nil ?_))
          | ((refine swp_region (id := 20) ?_) <;> (refine sops_pure (.free rfl rfl) rfl rfl (po_move rfl rfl) ?_) <;> (refine sops_pure (.free rfl rfl) rfl rfl (po_move rfl rfl) ?_) <;> (refine sops_pure (.free rfl rfl) rfl rfl (po_assign rfl rfl) ?_) <;> (refine sops_pure (.free rfl rfl) rfl rfl (po_assign rfl rfl) ?_) <;> (refine sops_nil ?_))
          | refine swp_ret ?_
          | refine swp_skip ?_
          | refine swp_block ?_
          | refine swp_exit ?_
          | refine block_go ?_
          | refine block_exit ?_
          | refine block_far rfl ?_
          | refine block_ret ?_
          | refine then_ret ?_
          | refine then_exit ?_
          | refine for_ret ?_
          | refine for_exit ?_
          | refine ct ?_
          | refine cf ?_
          | refine swp_cond rfl (fun hc => ?_) (fun hc => ?_)
          | refine retq (by first | exact .inr rfl | exact .inl rfl) rfl (.tmp rfl (by first | exact .t _ | exact .own rfl (by first | rfl | assumption | (simp; done) | (simp; omega)) | exact .nil _ | exact .emp _ | exact .fn _) (.tmp rfl (by first | exact .t _ | exact .own rfl (by first | rfl | assumption | (simp; done) | (simp; omega)) | exact .nil _ | exact .emp _ | exact .fn _) .nil)) ?_)
        rfl
      | true =>
        by_cases hy : y = 0
        · subst hy
          by_cases h1 : al = 1
          · subst h1
            cases H with
            | false => exact absurd ⟨rfl, rfl, rfl, rfl⟩ hc
            | true =>
              repeat' (first
                | refine then_go ?_
                | refine swp_seq ?_
                | ((refine swp_region (id := 3) ?_) <;> (refine sops_pure (.free rfl rfl) rfl rfl (po_move rfl rfl) ?_) <;> (first | refine sops_pure (.free rfl rfl) rfl rfl (po_field_bx rfl rfl (tyF rfl)) ?_ | refine sops_pure (.free rfl rfl) rfl rfl (po_field rfl rfl (tyF rfl)) ?_) <;> (first | refine sops_pure (.free rfl rfl) rfl rfl (po_load_bx rfl rfl (tyT rfl) rfl rfl) ?_ | refine sops_pure (.free rfl rfl) rfl rfl (po_load rfl rfl (tyT rfl) rfl) ?_) <;> (refine sops_pure (.free rfl rfl) rfl rfl (pln rfl (tyS rfl)) ?_) <;> (refine sops_pure (.free rfl rfl) rfl rfl (po_cmp rfl rfl rfl rfl) ?_) <;> (refine sops_nil ?_))
                | ((refine swp_region (id := 17) ?_) <;> (first | refine sops_pure (.free rfl rfl) rfl rfl (po_field_bx rfl rfl (tyF rfl)) ?_ | refine sops_pure (.free rfl rfl) rfl rfl (po_field rfl rfl (tyF rfl)) ?_) <;> (first | refine sops_pure (.free rfl rfl) rfl rfl (po_load_bx rfl rfl (tyT rfl) rfl rfl) ?_ | refine sops_pure (.free rfl rfl) rfl rfl (po_load rfl rfl (tyT rfl) rfl) ?_) <;> (refine sops_pure (.free rfl rfl) rfl rfl (po_move rfl rfl) ?_) <;> (first | refine sops_pure (.free rfl rfl) rfl rfl (po_call (hsays) rfl (ac (ac .nil))) ?_ | refine sops_pure (.free rfl rfl) rfl rfl (po_call (hall) rfl (ac (ac .nil))) ?_) <;> (refine sops_pure (.free rfl rfl) rfl rfl (po_move rfl rfl) ?_) <;> (refine sops_pure (.free rfl rfl) rfl rfl (po_extract rfl rfl rfl) ?_) <;> (refine sops_pure (.free rfl rfl) rfl rfl (po_extract rfl rfl rfl) ?_) <;> (refine sops_pure (.free rfl rfl) rfl rfl (po_assign rfl rfl) ?_) <;> (refine sops_pure (.free rfl rfl) rfl rfl (po_assign rfl rfl) ?_) <;> (refine sops_nil ?_))
                | ((refine swp_region (id := 18) ?_) <;> (refine sops_pure (.free rfl rfl) rfl rfl (po_move rfl rfl) ?_) <;> (refine sops_pure (.free rfl rfl) rfl rfl (po_move rfl rfl) ?_) <;> (first | refine sops_pure gy rfl rfl (po_move rfl rfl) ?_ | refine sops_skip gn1 rfl rfl ?_ | ((refine sops_split rfl rfl rfl (fun hc => ?_) (fun hc => ?_)) <;> (first | refine sops_pure gy rfl rfl (po_move rfl rfl) ?_ | refine sops_skip gn1 rfl rfl ?_))) <;> (first | refine sops_pure gy rfl rfl (po_cmp rfl rfl rfl rfl) ?_ | refine sops_skip gn1 rfl rfl ?_) <;> (first | refine sops_pure (.free rfl rfl) rfl rfl (pkt rfl) ?_ | refine sops_pure (.free rfl rfl) rfl rfl (pkf rfl) ?_) <;> (refine sops_pure (.free rfl rfl) rfl rfl (po_move rfl rfl) ?_) <;> (first | refine sops_pure gy rfl rfl (po_field_bx rfl rfl (tyF rfl)) ?_ | refine sops_pure gy rfl rfl (po_field rfl rfl (tyF rfl)) ?_ | refine sops_skip gn1 rfl rfl ?_ | ((refine sops_split rfl rfl rfl (fun hc => ?_) (fun hc => ?_)) <;> (first | refine sops_pure gy rfl rfl (po_field_bx rfl rfl (tyF rfl)) ?_ | refine sops_pure gy rfl rfl (po_field rfl rfl (tyF rfl)) ?_ | refine sops_skip gn1 rfl rfl ?_))) <;> (first | refine sops_pure gy rfl rfl (po_load_bx rfl rfl (tyT rfl) rfl rfl) ?_ | refine sops_pure gy rfl rfl (po_load rfl rfl (tyT rfl) rfl) ?_ | refine sops_skip gn1 rfl rfl ?_) <;> (first | refine sops_pure gy rfl rfl (po_cmp rfl rfl rfl rfl) ?_ | refine sops_skip gn1 rfl rfl ?_) <;> (first | refine sops_pure (.free rfl rfl) rfl rfl (pkt rfl) ?_ | refine sops_pure (.free rfl rfl) rfl rfl (pkf rfl) ?_) <;> (refine sops_pure (.free rfl rfl) rfl rfl (po_move rfl rfl) ?_) <;> (first | refine sops_pure gy rfl rfl (po_load_bx_agg rfl rfl (tyT rfl) rfl (vc (vc .nil)) rfl) ?_ | refine sops_pure gy rfl rfl (po_load_agg rfl rfl (tyT rfl) rfl rfl) ?_ | refine sops_skip gn1 rfl rfl ?_ | ((refine sops_split rfl rfl rfl (fun hc => ?_) (fun hc => ?_)) <;> (first | refine sops_pure gy rfl rfl (po_load_bx_agg rfl rfl (tyT rfl) rfl (vc (vc .nil)) rfl) ?_ | refine sops_pure gy rfl rfl (po_load_agg rfl rfl (tyT rfl) rfl rfl) ?_ | refine sops_skip gn1 rfl rfl ?_))) <;> (first | refine sops_pure gy rfl rfl (po_move rfl rfl) ?_ | refine sops_skip gn1 rfl rfl ?_) <;> (first | refine sops_pure gy rfl rfl (po_call (hsays) rfl (ac (ac .nil))) ?_ | refine sops_pure gy rfl rfl (po_call (hall) rfl (ac (ac .nil))) ?_ | refine sops_skip gn1 rfl rfl ?_) <;> (first | refine sops_pure gy rfl rfl (po_not rfl rfl) ?_ | refine sops_skip gn1 rfl rfl ?_) <;> (first | refine sops_pure (.free rfl rfl) rfl rfl (pkt rfl) ?_ | refine sops_pure (.free rfl rfl) rfl rfl (pkf rfl) ?_) <;> (refine sops_nil ?_))
                | ((refine swp_region (id := 20) ?_) <;> (refine sops_pure (.free rfl rfl) rfl rfl (po_move rfl rfl) ?_) <;> (refine sops_pure (.free rfl rfl) rfl rfl (po_move rfl rfl) ?_) <;> (refine sops_pure (.free rfl rfl) rfl rfl (po_assign rfl rfl) ?_) <;> (refine sops_pure (.free rfl rfl) rfl rfl (po_assign rfl rfl) ?_) <;> (refine sops_nil ?_))
                | refine swp_ret ?_
                | refine swp_skip ?_
                | refine swp_block ?_
                | refine swp_exit ?_
                | refine block_go ?_
                | refine block_exit ?_
                | refine block_far rfl ?_
                | refine block_ret ?_
                | refine then_ret ?_
                | refine then_exit ?_
                | refine for_ret ?_
                | refine for_exit ?_
                | refine ct ?_
                | refine cf ?_
                | refine swp_cond rfl (fun hc => ?_) (fun hc => ?_)
                | refine retq (by first | exact .inr rfl | exact .inl rfl) rfl (.tmp rfl (by first | exact .t _ | exact .own rfl (by first | rfl | assumption | (simp; done) | (simp; omega)) | exact .nil _ | exact .emp _ | exact .fn _) (.tmp rfl (by first | exact .t _ | exact .own rfl (by first | rfl | assumption | (simp; done) | (simp; omega)) | exact .nil _ | exact .emp _ | exact .fn _) .nil)) ?_)
              rfl
          · have hd : decide (al = 1) = false := by simp [h1]
            repeat' (first
              | refine then_go ?_
              | refine swp_seq ?_
              | ((refine swp_region (id := 3) ?_) <;> (refine sops_pure (.free rfl rfl) rfl rfl (po_move rfl rfl) ?_) <;> (first | refine sops_pure (.free rfl rfl) rfl rfl (po_field_bx rfl rfl (tyF rfl)) ?_ | refine sops_pure (.free rfl rfl) rfl rfl (po_field rfl rfl (tyF rfl)) ?_) <;> (first | refine sops_pure (.free rfl rfl) rfl rfl (po_load_bx rfl rfl (tyT rfl) rfl rfl) ?_ | refine sops_pure (.free rfl rfl) rfl rfl (po_load rfl rfl (tyT rfl) rfl) ?_) <;> (refine sops_pure (.free rfl rfl) rfl rfl (pln rfl (tyS rfl)) ?_) <;> (refine sops_pure (.free rfl rfl) rfl rfl (po_cmp rfl rfl rfl rfl) ?_) <;> (refine sops_nil ?_))
              | ((refine swp_region (id := 17) ?_) <;> (first | refine sops_pure (.free rfl rfl) rfl rfl (po_field_bx rfl rfl (tyF rfl)) ?_ | refine sops_pure (.free rfl rfl) rfl rfl (po_field rfl rfl (tyF rfl)) ?_) <;> (first | refine sops_pure (.free rfl rfl) rfl rfl (po_load_bx rfl rfl (tyT rfl) rfl rfl) ?_ | refine sops_pure (.free rfl rfl) rfl rfl (po_load rfl rfl (tyT rfl) rfl) ?_) <;> (refine sops_pure (.free rfl rfl) rfl rfl (po_move rfl rfl) ?_) <;> (first | refine sops_pure (.free rfl rfl) rfl rfl (po_call (hsays) rfl (ac (ac .nil))) ?_ | refine sops_pure (.free rfl rfl) rfl rfl (po_call (hall) rfl (ac (ac .nil))) ?_) <;> (refine sops_pure (.free rfl rfl) rfl rfl (po_move rfl rfl) ?_) <;> (refine sops_pure (.free rfl rfl) rfl rfl (po_extract rfl rfl rfl) ?_) <;> (refine sops_pure (.free rfl rfl) rfl rfl (po_extract rfl rfl rfl) ?_) <;> (refine sops_pure (.free rfl rfl) rfl rfl (po_assign rfl rfl) ?_) <;> (refine sops_pure (.free rfl rfl) rfl rfl (po_assign rfl rfl) ?_) <;> (refine sops_nil ?_))
              | ((refine swp_region (id := 18) ?_) <;> (refine sops_pure (.free rfl rfl) rfl rfl (po_move rfl rfl) ?_) <;> (refine sops_pure (.free rfl rfl) rfl rfl (po_move rfl rfl) ?_) <;> (first | refine sops_pure gy rfl rfl (po_move rfl rfl) ?_ | refine sops_skip gn1 rfl rfl ?_ | ((refine sops_split rfl rfl rfl (fun hc => ?_) (fun hc => ?_)) <;> (first | refine sops_pure gy rfl rfl (po_move rfl rfl) ?_ | refine sops_skip gn1 rfl rfl ?_))) <;> (first | refine sops_pure gy rfl rfl (po_cmp rfl rfl rfl rfl) ?_ | refine sops_skip gn1 rfl rfl ?_) <;> (first | refine sops_pure (.free rfl rfl) rfl rfl (pkt rfl) ?_ | refine sops_pure (.free rfl rfl) rfl rfl (pkf rfl) ?_) <;> (refine sops_pure (.free rfl rfl) rfl rfl (po_move rfl rfl) ?_) <;> (first | refine sops_pure gy rfl rfl (po_field_bx rfl rfl (tyF rfl)) ?_ | refine sops_pure gy rfl rfl (po_field rfl rfl (tyF rfl)) ?_ | refine sops_skip gn1 rfl rfl ?_ | ((refine sops_split rfl rfl rfl (fun hc => ?_) (fun hc => ?_)) <;> (first | refine sops_pure gy rfl rfl (po_field_bx rfl rfl (tyF rfl)) ?_ | refine sops_pure gy rfl rfl (po_field rfl rfl (tyF rfl)) ?_ | refine sops_skip gn1 rfl rfl ?_))) <;> (first | refine sops_pure gy rfl rfl (po_load_bx rfl rfl (tyT rfl) rfl rfl) ?_ | refine sops_pure gy rfl rfl (po_load rfl rfl (tyT rfl) rfl) ?_ | refine sops_skip gn1 rfl rfl ?_) <;> (first | refine sops_pure gy rfl rfl (po_cmp rfl rfl rfl rfl) ?_ | refine sops_skip gn1 rfl rfl ?_) <;> (first | refine sops_pure (.free rfl rfl) rfl rfl (pkt rfl) ?_ | refine sops_pure (.free rfl rfl) rfl rfl (pkf rfl) ?_) <;> (refine sops_pure (.free rfl rfl) rfl rfl (po_move rfl rfl) ?_) <;> (first | refine sops_pure gy rfl rfl (po_load_bx_agg rfl rfl (tyT rfl) rfl (vc (vc .nil)) rfl) ?_ | refine sops_pure gy rfl rfl (po_load_agg rfl rfl (tyT rfl) rfl rfl) ?_ | refine sops_skip gn1 rfl rfl ?_ | ((refine sops_split rfl rfl rfl (fun hc => ?_) (fun hc => ?_)) <;> (first | refine sops_pure gy rfl rfl (po_load_bx_agg rfl rfl (tyT rfl) rfl (vc (vc .nil)) rfl) ?_ | refine sops_pure gy rfl rfl (po_load_agg rfl rfl (tyT rfl) rfl rfl) ?_ | refine sops_skip gn1 rfl rfl ?_))) <;> (first | refine sops_pure gy rfl rfl (po_move rfl rfl) ?_ | refine sops_skip gn1 rfl rfl ?_) <;> (first | refine sops_pure gy rfl rfl (po_call (hsays) rfl (ac (ac .nil))) ?_ | refine sops_pure gy rfl rfl (po_call (hall) rfl (ac (ac .nil))) ?_ | refine sops_skip gn1 rfl rfl ?_) <;> (first | refine sops_pure gy rfl rfl (po_not rfl rfl) ?_ | refine sops_skip gn1 rfl rfl ?_) <;> (first | refine sops_pure (.free rfl rfl) rfl rfl (pkt rfl) ?_ | refine sops_pure (.free rfl rfl) rfl rfl (pkf rfl) ?_) <;> (refine sops_nil ?_))
              | ((refine swp_region (id := 20) ?_) <;> (refine sops_pure (.free rfl rfl) rfl rfl (po_move rfl rfl) ?_) <;> (refine sops_pure (.free rfl rfl) rfl rfl (po_move rfl rfl) ?_) <;> (refine sops_pure (.free rfl rfl) rfl rfl (po_assign rfl rfl) ?_) <;> (refine sops_pure (.free rfl rfl) rfl rfl (po_assign rfl rfl) ?_) <;> (refine sops_nil ?_))
              | refine swp_ret ?_
              | refine swp_skip ?_
              | refine swp_block ?_
              | refine swp_exit ?_
              | refine block_go ?_
              | refine block_exit ?_
              | refine block_far rfl ?_
              | refine block_ret ?_
              | refine then_ret ?_
              | refine then_exit ?_
              | refine for_ret ?_
              | refine for_exit ?_
              | refine ct ?_
              | refine cf ?_
              | refine swp_cond rfl (fun hc => ?_) (fun hc => ?_)
              | refine retq (by first | exact .inr rfl | exact .inl rfl) rfl (.tmp rfl (by first | exact .t _ | exact .own rfl (by first | rfl | assumption | (simp; done) | (simp; omega)) | exact .nil _ | exact .emp _ | exact .fn _) (.tmp rfl (by first | exact .t _ | exact .own rfl (by first | rfl | assumption | (simp; done) | (simp; omega)) | exact .nil _ | exact .emp _ | exact .fn _) .nil)) ?_)
            rfl
        · have hd : decide (y = 0) = false := by simp [hy]
          repeat' (first
            | refine then_go ?_
            | refine swp_seq ?_
            | ((refine swp_region (id := 3) ?_) <;> (refine sops_pure (.free rfl rfl) rfl rfl (po_move rfl rfl) ?_) <;> (first | refine sops_pure (.free rfl rfl) rfl rfl (po_field_bx rfl rfl (tyF rfl)) ?_ | refine sops_pure (.free rfl rfl) rfl rfl (po_field rfl rfl (tyF rfl)) ?_) <;> (first | refine sops_pure (.free rfl rfl) rfl rfl (po_load_bx rfl rfl (tyT rfl) rfl rfl) ?_ | refine sops_pure (.free rfl rfl) rfl rfl (po_load rfl rfl (tyT rfl) rfl) ?_) <;> (refine sops_pure (.free rfl rfl) rfl rfl (pln rfl (tyS rfl)) ?_) <;> (refine sops_pure (.free rfl rfl) rfl rfl (po_cmp rfl rfl rfl rfl) ?_) <;> (refine sops_nil ?_))
            | ((refine swp_region (id := 17) ?_) <;> (first | refine sops_pure (.free rfl rfl) rfl rfl (po_field_bx rfl rfl (tyF rfl)) ?_ | refine sops_pure (.free rfl rfl) rfl rfl (po_field rfl rfl (tyF rfl)) ?_) <;> (first | refine sops_pure (.free rfl rfl) rfl rfl (po_load_bx rfl rfl (tyT rfl) rfl rfl) ?_ | refine sops_pure (.free rfl rfl) rfl rfl (po_load rfl rfl (tyT rfl) rfl) ?_) <;> (refine sops_pure (.free rfl rfl) rfl rfl (po_move rfl rfl) ?_) <;> (first | refine sops_pure (.free rfl rfl) rfl rfl (po_call (hsays) rfl (ac (ac .nil))) ?_ | refine sops_pure (.free rfl rfl) rfl rfl (po_call (hall) rfl (ac (ac .nil))) ?_) <;> (refine sops_pure (.free rfl rfl) rfl rfl (po_move rfl rfl) ?_) <;> (refine sops_pure (.free rfl rfl) rfl rfl (po_extract rfl rfl rfl) ?_) <;> (refine sops_pure (.free rfl rfl) rfl rfl (po_extract rfl rfl rfl) ?_) <;> (refine sops_pure (.free rfl rfl) rfl rfl (po_assign rfl rfl) ?_) <;> (refine sops_pure (.free rfl rfl) rfl rfl (po_assign rfl rfl) ?_) <;> (refine sops_nil ?_))
            | ((refine swp_region (id := 18) ?_) <;> (refine sops_pure (.free rfl rfl) rfl rfl (po_move rfl rfl) ?_) <;> (refine sops_pure (.free rfl rfl) rfl rfl (po_move rfl rfl) ?_) <;> (first | refine sops_pure gy rfl rfl (po_move rfl rfl) ?_ | refine sops_skip gn1 rfl rfl ?_ | ((refine sops_split rfl rfl rfl (fun hc => ?_) (fun hc => ?_)) <;> (first | refine sops_pure gy rfl rfl (po_move rfl rfl) ?_ | refine sops_skip gn1 rfl rfl ?_))) <;> (first | refine sops_pure gy rfl rfl (po_cmp rfl rfl rfl rfl) ?_ | refine sops_skip gn1 rfl rfl ?_) <;> (first | refine sops_pure (.free rfl rfl) rfl rfl (pkt rfl) ?_ | refine sops_pure (.free rfl rfl) rfl rfl (pkf rfl) ?_) <;> (refine sops_pure (.free rfl rfl) rfl rfl (po_move rfl rfl) ?_) <;> (first | refine sops_pure gy rfl rfl (po_field_bx rfl rfl (tyF rfl)) ?_ | refine sops_pure gy rfl rfl (po_field rfl rfl (tyF rfl)) ?_ | refine sops_skip gn1 rfl rfl ?_ | ((refine sops_split rfl rfl rfl (fun hc => ?_) (fun hc => ?_)) <;> (first | refine sops_pure gy rfl rfl (po_field_bx rfl rfl (tyF rfl)) ?_ | refine sops_pure gy rfl rfl (po_field rfl rfl (tyF rfl)) ?_ | refine sops_skip gn1 rfl rfl ?_))) <;> (first | refine sops_pure gy rfl rfl (po_load_bx rfl rfl (tyT rfl) rfl rfl) ?_ | refine sops_pure gy rfl rfl (po_load rfl rfl (tyT rfl) rfl) ?_ | refine sops_skip gn1 rfl rfl ?_) <;> (first | refine sops_pure gy rfl rfl (po_cmp rfl rfl rfl rfl) ?_ | refine sops_skip gn1 rfl rfl ?_) <;> (first | refine sops_pure (.free rfl rfl) rfl rfl (pkt rfl) ?_ | refine sops_pure (.free rfl rfl) rfl rfl (pkf rfl) ?_) <;> (refine sops_pure (.free rfl rfl) rfl rfl (po_move rfl rfl) ?_) <;> (first | refine sops_pure gy rfl rfl (po_load_bx_agg rfl rfl (tyT rfl) rfl (vc (vc .nil)) rfl) ?_ | refine sops_pure gy rfl rfl (po_load_agg rfl rfl (tyT rfl) rfl rfl) ?_ | refine sops_skip gn1 rfl rfl ?_ | ((refine sops_split rfl rfl rfl (fun hc => ?_) (fun hc => ?_)) <;> (first | refine sops_pure gy rfl rfl (po_load_bx_agg rfl rfl (tyT rfl) rfl (vc (vc .nil)) rfl) ?_ | refine sops_pure gy rfl rfl (po_load_agg rfl rfl (tyT rfl) rfl rfl) ?_ | refine sops_skip gn1 rfl rfl ?_))) <;> (first | refine sops_pure gy rfl rfl (po_move rfl rfl) ?_ | refine sops_skip gn1 rfl rfl ?_) <;> (first | refine sops_pure gy rfl rfl (po_call (hsays) rfl (ac (ac .nil))) ?_ | refine sops_pure gy rfl rfl (po_call (hall) rfl (ac (ac .nil))) ?_ | refine sops_skip gn1 rfl rfl ?_) <;> (first | refine sops_pure gy rfl rfl (po_not rfl rfl) ?_ | refine sops_skip gn1 rfl rfl ?_) <;> (first | refine sops_pure (.free rfl rfl) rfl rfl (pkt rfl) ?_ | refine sops_pure (.free rfl rfl) rfl rfl (pkf rfl) ?_) <;> (refine sops_nil ?_))
            | ((refine swp_region (id := 20) ?_) <;> (refine sops_pure (.free rfl rfl) rfl rfl (po_move rfl rfl) ?_) <;> (refine sops_pure (.free rfl rfl) rfl rfl (po_move rfl rfl) ?_) <;> (refine sops_pure (.free rfl rfl) rfl rfl (po_assign rfl rfl) ?_) <;> (refine sops_pure (.free rfl rfl) rfl rfl (po_assign rfl rfl) ?_) <;> (refine sops_nil ?_))
            | refine swp_ret ?_
            | refine swp_skip ?_
            | refine swp_block ?_
            | refine swp_exit ?_
            | refine block_go ?_
            | refine block_exit ?_
            | refine block_far rfl ?_
            | refine block_ret ?_
            | refine then_ret ?_
            | refine then_exit ?_
            | refine for_ret ?_
            | refine for_exit ?_
            | refine ct ?_
            | refine cf ?_
            | refine swp_cond rfl (fun hc => ?_) (fun hc => ?_)
            | refine retq (by first | exact .inr rfl | exact .inl rfl) rfl (.tmp rfl (by first | exact .t _ | exact .own rfl (by first | rfl | assumption | (simp; done) | (simp; omega)) | exact .nil _ | exact .emp _ | exact .fn _) (.tmp rfl (by first | exact .t _ | exact .own rfl (by first | rfl | assumption | (simp; done) | (simp; omega)) | exact .nil _ | exact .emp _ | exact .fn _) .nil)) ?_)
          rfl
end Go.Proofs.YtlcecabfmemfeaaGreat.Pol

/- For every table, asker, port and request, the law SplitSays returns true. -/
namespace Go.Proofs.YtlcecabfmemfeaaGreat.SplitSays
set_option linter.unusedVariables false
set_option linter.unusedSimpArgs false
open Go.RowKit Mem Sim Opn WAddr WName WMatch WAuth Pol
theorem po_beq {P : Program} {bx : List (Nat × List A)} {ow : List (Nat × Own)} {o : Oper} {ρ : Operand → Option A} {t t2 : TypeId} {x y : Operand} {i j : Bool} (c : Bool) (ho : o.op = .binOp .eql t x y t2) (hx : ρ x = some (.t (.v (.bool i)))) (hy : ρ y = some (.t (.v (.bool j)))) (hu : P.underlying t = some .bool) (hc : (i == j) = c) : PureOp P bx ow o ρ (.t (.v (.bool c))) := by
  have := po_boolq (bx := bx) (ow := ow) ho hx hy hu (.inl rfl)
  rw [if_pos rfl, hc] at this
  exact this
theorem ok_req {q : Pl.Req} (h : OkReq0 q) (hf : q.heads.length ≤ 1000) : OkReq q := ⟨h.method, h.path, h.host, h.heads, hf⟩
set_option maxRecDepth 100000 in
set_option maxHeartbeats 4000000 in
theorem law_ (l : List Pl.Policy) (hl : ∀ p ∈ l, okPolicy p) (al : Int) (a : Pl.Asker) (ha : OkAsk a) (port : Int) (q : Pl.Req) (hq : OkReq0 q) (tg qu : ByteArray) (bd : Value) : PCalls Tryz.prog 3 [.agg [.sl 5 (l.map polT), .v (.int .i64 al)], .agg (askT a), .v (.int .i64 port), .agg (reqT q tg qu bd)] (.v (.bool true)) := by
  have hlong := p_long l hl a ha q hq tg qu bd
  have haw := awake14
  cases hlo : long13 l a q with
  | true =>
    rw [hlo] at hlong
    refine pcalls_of Tryz.func3 rfl rfl Tryz.ntmps3 rfl ?_
    repeat' (first
      | refine then_go ?_
      | refine swp_seq ?_
      | ((refine swp_region (id := 0) ?_) <;> (refine sops_box (.free rfl rfl) rfl rfl rfl rfl rfl rfl ?_) <;> (refine sops_box (.free rfl rfl) rfl rfl rfl rfl rfl rfl ?_) <;> (refine sops_box (.free rfl rfl) rfl rfl rfl rfl rfl rfl ?_) <;> (refine sops_pure (.free rfl rfl) rfl rfl (po_assign rfl rfl) ?_) <;> (refine sops_nil ?_))
      | ((refine swp_region (id := 1) ?_) <;> (first | refine sops_pure (.free rfl rfl) rfl rfl (po_field_bx rfl rfl (tyF rfl)) ?_ | refine sops_pure (.free rfl rfl) rfl rfl (po_field rfl rfl (tyF rfl)) ?_) <;> (first | refine sops_pure (.free rfl rfl) rfl rfl (po_load_bx rfl rfl (tyT rfl) rfl rfl) ?_ | refine sops_pure (.free rfl rfl) rfl rfl (po_load rfl rfl (tyT rfl) rfl) ?_) <;> (first | refine sops_pure (.free rfl rfl) rfl rfl (po_load_bx_agg rfl rfl (tyT rfl) rfl (vc (vc (vc .nil))) rfl) ?_ | refine sops_pure (.free rfl rfl) rfl rfl (po_load_agg rfl rfl (tyT rfl) rfl rfl) ?_) <;> (first | refine sops_pure (.free rfl rfl) rfl rfl (po_load_bx_agg rfl rfl (tyT rfl) rfl (vc (vc (vc (vc (vc (vc (vc .nil))))))) rfl) ?_ | refine sops_pure (.free rfl rfl) rfl rfl (po_load_agg rfl rfl (tyT rfl) rfl rfl) ?_) <;> (first | refine sops_pure (.free rfl rfl) rfl rfl (po_call (hlong) rfl (ac (ac (ac .nil)))) ?_ | refine sops_pure (.free rfl rfl) rfl rfl (po_call (haw) rfl (ac (ac (ac .nil)))) ?_) <;> (refine sops_nil ?_))
      | ((refine swp_region (id := 2) ?_) <;> (first | refine sops_pure (.free rfl rfl) rfl rfl (po_call (hlong) rfl .nil) ?_ | refine sops_pure (.free rfl rfl) rfl rfl (po_call (haw) rfl .nil) ?_) <;> (refine sops_pure (.free rfl rfl) rfl rfl (po_assign rfl rfl) ?_) <;> (refine sops_nil ?_))
      | refine swp_ret ?_
      | refine swp_skip ?_
      | refine swp_block ?_
      | refine swp_exit ?_
      | refine block_go ?_
      | refine block_exit ?_
      | refine block_far rfl ?_
      | refine block_ret ?_
      | refine then_ret ?_
      | refine then_exit ?_
      | refine for_ret ?_
      | refine for_exit ?_
      | refine ct ?_
      | refine cf ?_
      | refine swp_cond rfl (fun hc => ?_) (fun hc => ?_)
      | refine retq (by first | exact .inr rfl | exact .inl rfl) rfl (.tmp rfl (by first | exact .t _ | exact .own rfl (by first | rfl | assumption | (simp; done) | (simp; omega)) | exact .nil _ | exact .emp _ | exact .fn _) .nil) ?_)
    rfl
  | false =>
    rw [hlo] at hlong
    obtain ⟨hfl, n30, n100, hfp⟩ := few_long hlo
    have n1 : l.length ≤ 1000 := by omega
    have c1 := fourS_ l hl hfp n1 al a ha port
    have c2 := sSays14 false l hl hfl al a ha port req0 (ok_req okReq0_0 (by decide)) ⟨#[]⟩ ⟨#[]⟩ (.slice none 0 0)
    have c3 := seven_ l hl n1 al a ha port q hq (by omega) tg qu bd
    have c4 := sSays14 true l hl hfl al a ha port q (ok_req hq (by omega)) tg qu bd
    have e1 : rs14 (Pl.judgeP (Mw false a port req0) l) al (Pl.hitP (Mw false a port req0) false l) = Pl.judgeP (matchP a port req0) (Pl.saysL (l.map Pl.four4) al) := by
      rw [Pl.says_four, Pl.judge_map]
      exact Pl.says14_eq _ l al
    have e2 : rs14 (Pl.judgeP (Mw true a port q) l) al (Pl.hitP (Mw true a port q) false l) = Pl.judgeP (matchP a port q) (Pl.saysL l al) := Pl.says14_eq _ l al
    rw [e1] at c2
    rw [e2] at c4
    clear e1 e2
    generalize Pl.judgeP (matchP a port req0) (Pl.saysL (l.map Pl.four4) al) = J at *
    generalize Pl.judgeP (matchP a port q) (Pl.saysL l al) = K at *
    obtain ⟨x, y⟩ := J
    obtain ⟨z, u⟩ := K
    dsimp only at c1 c2 c3 c4
    have h1 : (x == x) = true := by simp
    have h2 : decide (y = y) = true := by simp
    have h3 : (z == z) = true := by simp
    have h4 : decide (u = u) = true := by simp
    refine pcalls_of Tryz.func3 rfl rfl Tryz.ntmps3 rfl ?_
    repeat' (first
      | refine then_go ?_
      | refine swp_seq ?_
      | ((refine swp_region (id := 0) ?_) <;> (first | refine sops_pure (.free rfl rfl) rfl rfl (po_call (c2) rfl (.cons rfl (.t _) (.cons rfl (.t _) (.cons rfl (.t _) (.cons rfl (.le req_le) (.cons rfl (.t _) .nil)))))) ?_ | refine sops_pure (.free rfl rfl) rfl rfl (po_beq true rfl rfl rfl (by kernel_rfl) h1) ?_ | refine sops_pure (.free rfl rfl) rfl rfl (po_beq true rfl rfl rfl (by kernel_rfl) h3) ?_ | refine sops_box (.free rfl rfl) rfl rfl rfl rfl rfl rfl ?_) <;> (first | refine sops_pure (.free rfl rfl) rfl rfl (po_call (c2) rfl (.cons rfl (.t _) (.cons rfl (.t _) (.cons rfl (.t _) (.cons rfl (.le req_le) (.cons rfl (.t _) .nil)))))) ?_ | refine sops_pure (.free rfl rfl) rfl rfl (po_beq true rfl rfl rfl (by kernel_rfl) h1) ?_ | refine sops_pure (.free rfl rfl) rfl rfl (po_beq true rfl rfl rfl (by kernel_rfl) h3) ?_ | refine sops_box (.free rfl rfl) rfl rfl rfl rfl rfl rfl ?_) <;> (first | refine sops_pure (.free rfl rfl) rfl rfl (po_call (c2) rfl (.cons rfl (.t _) (.cons rfl (.t _) (.cons rfl (.t _) (.cons rfl (.le req_le) (.cons rfl (.t _) .nil)))))) ?_ | refine sops_pure (.free rfl rfl) rfl rfl (po_beq true rfl rfl rfl (by kernel_rfl) h1) ?_ | refine sops_pure (.free rfl rfl) rfl rfl (po_beq true rfl rfl rfl (by kernel_rfl) h3) ?_ | refine sops_box (.free rfl rfl) rfl rfl rfl rfl rfl rfl ?_) <;> (first | refine sops_pure (.free rfl rfl) rfl rfl (po_call (c2) rfl (.cons rfl (.t _) (.cons rfl (.t _) (.cons rfl (.t _) (.cons rfl (.le req_le) (.cons rfl (.t _) .nil)))))) ?_ | refine sops_pure (.free rfl rfl) rfl rfl (po_beq true rfl rfl rfl (by kernel_rfl) h1) ?_ | refine sops_pure (.free rfl rfl) rfl rfl (po_beq true rfl rfl rfl (by kernel_rfl) h3) ?_ | refine sops_pure (.free rfl rfl) rfl rfl (po_assign rfl rfl) ?_) <;> (refine sops_nil ?_))
      | ((refine swp_region (id := 1) ?_) <;> (first | refine sops_pure (.free rfl rfl) rfl rfl (po_call (c2) rfl (.cons rfl (.t _) (.cons rfl (.t _) (.cons rfl (.t _) (.cons rfl (.le req_le) (.cons rfl (.t _) .nil)))))) ?_ | refine sops_pure (.free rfl rfl) rfl rfl (po_beq true rfl rfl rfl (by kernel_rfl) h1) ?_ | refine sops_pure (.free rfl rfl) rfl rfl (po_beq true rfl rfl rfl (by kernel_rfl) h3) ?_ | refine sops_pure (.free rfl rfl) rfl rfl (po_field_bx rfl rfl (tyF rfl)) ?_ | refine sops_pure (.free rfl rfl) rfl rfl (po_field rfl rfl (tyF rfl)) ?_) <;> (first | refine sops_pure (.free rfl rfl) rfl rfl (po_call (c2) rfl (.cons rfl (.t _) (.cons rfl (.t _) (.cons rfl (.t _) (.cons rfl (.le req_le) (.cons rfl (.t _) .nil)))))) ?_ | refine sops_pure (.free rfl rfl) rfl rfl (po_beq true rfl rfl rfl (by kernel_rfl) h1) ?_ | refine sops_pure (.free rfl rfl) rfl rfl (po_beq true rfl rfl rfl (by kernel_rfl) h3) ?_ | refine sops_pure (.free rfl rfl) rfl rfl (po_load_bx rfl rfl (tyT rfl) rfl rfl) ?_ | refine sops_pure (.free rfl rfl) rfl rfl (po_load rfl rfl (tyT rfl) rfl) ?_) <;> (first | refine sops_pure (.free rfl rfl) rfl rfl (po_call (c2) rfl (.cons rfl (.t _) (.cons rfl (.t _) (.cons rfl (.t _) (.cons rfl (.le req_le) (.cons rfl (.t _) .nil)))))) ?_ | refine sops_pure (.free rfl rfl) rfl rfl (po_beq true rfl rfl rfl (by kernel_rfl) h1) ?_ | refine sops_pure (.free rfl rfl) rfl rfl (po_beq true rfl rfl rfl (by kernel_rfl) h3) ?_ | refine sops_pure (.free rfl rfl) rfl rfl (po_load_bx_agg rfl rfl (tyT rfl) rfl (vc (vc (vc .nil))) rfl) ?_ | refine sops_pure (.free rfl rfl) rfl rfl (po_load_agg rfl rfl (tyT rfl) rfl rfl) ?_) <;> (first | refine sops_pure (.free rfl rfl) rfl rfl (po_call (c2) rfl (.cons rfl (.t _) (.cons rfl (.t _) (.cons rfl (.t _) (.cons rfl (.le req_le) (.cons rfl (.t _) .nil)))))) ?_ | refine sops_pure (.free rfl rfl) rfl rfl (po_beq true rfl rfl rfl (by kernel_rfl) h1) ?_ | refine sops_pure (.free rfl rfl) rfl rfl (po_beq true rfl rfl rfl (by kernel_rfl) h3) ?_ | refine sops_pure (.free rfl rfl) rfl rfl (po_load_bx_agg rfl rfl (tyT rfl) rfl (vc (vc (vc (vc (vc (vc (vc .nil))))))) rfl) ?_ | refine sops_pure (.free rfl rfl) rfl rfl (po_load_agg rfl rfl (tyT rfl) rfl rfl) ?_) <;> (first | refine sops_pure (.free rfl rfl) rfl rfl (po_call (c2) rfl (.cons rfl (.t _) (.cons rfl (.t _) (.cons rfl (.t _) (.cons rfl (.le req_le) (.cons rfl (.t _) .nil)))))) ?_ | refine sops_pure (.free rfl rfl) rfl rfl (po_beq true rfl rfl rfl (by kernel_rfl) h1) ?_ | refine sops_pure (.free rfl rfl) rfl rfl (po_beq true rfl rfl rfl (by kernel_rfl) h3) ?_ | refine sops_pure (.free rfl rfl) rfl rfl (po_call (hlong) rfl (ac (ac (ac .nil)))) ?_ | refine sops_pure (.free rfl rfl) rfl rfl (po_call (haw) rfl (ac (ac (ac .nil)))) ?_ | refine sops_pure (.free rfl rfl) rfl rfl (po_call (c1) rfl (ac (ac (ac .nil)))) ?_ | refine sops_pure (.free rfl rfl) rfl rfl (po_call (c3) rfl (ac (ac (ac .nil)))) ?_ | refine sops_pure (.free rfl rfl) rfl rfl (po_call (c4) rfl (ac (ac (ac .nil)))) ?_) <;> (refine sops_nil ?_))
      | ((refine swp_region (id := 3) ?_) <;> (first | refine sops_pure (.free rfl rfl) rfl rfl (po_call (c2) rfl (.cons rfl (.t _) (.cons rfl (.t _) (.cons rfl (.t _) (.cons rfl (.le req_le) (.cons rfl (.t _) .nil)))))) ?_ | refine sops_pure (.free rfl rfl) rfl rfl (po_beq true rfl rfl rfl (by kernel_rfl) h1) ?_ | refine sops_pure (.free rfl rfl) rfl rfl (po_beq true rfl rfl rfl (by kernel_rfl) h3) ?_ | refine sops_pure (.free rfl rfl) rfl rfl (po_load_bx_agg rfl rfl (tyT rfl) rfl (vc (vc .nil)) rfl) ?_ | refine sops_pure (.free rfl rfl) rfl rfl (po_load_agg rfl rfl (tyT rfl) rfl rfl) ?_) <;> (first | refine sops_pure (.free rfl rfl) rfl rfl (po_call (c2) rfl (.cons rfl (.t _) (.cons rfl (.t _) (.cons rfl (.t _) (.cons rfl (.le req_le) (.cons rfl (.t _) .nil)))))) ?_ | refine sops_pure (.free rfl rfl) rfl rfl (po_beq true rfl rfl rfl (by kernel_rfl) h1) ?_ | refine sops_pure (.free rfl rfl) rfl rfl (po_beq true rfl rfl rfl (by kernel_rfl) h3) ?_ | refine sops_pure (.free rfl rfl) rfl rfl (po_load_bx_agg rfl rfl (tyT rfl) rfl (vc (vc (vc .nil))) rfl) ?_ | refine sops_pure (.free rfl rfl) rfl rfl (po_load_agg rfl rfl (tyT rfl) rfl rfl) ?_) <;> (first | refine sops_pure (.free rfl rfl) rfl rfl (po_call (c2) rfl (.cons rfl (.t _) (.cons rfl (.t _) (.cons rfl (.t _) (.cons rfl (.le req_le) (.cons rfl (.t _) .nil)))))) ?_ | refine sops_pure (.free rfl rfl) rfl rfl (po_beq true rfl rfl rfl (by kernel_rfl) h1) ?_ | refine sops_pure (.free rfl rfl) rfl rfl (po_beq true rfl rfl rfl (by kernel_rfl) h3) ?_ | refine sops_pure (.free rfl rfl) rfl rfl (po_move rfl rfl) ?_) <;> (first | refine sops_pure (.free rfl rfl) rfl rfl (po_call (c2) rfl (.cons rfl (.t _) (.cons rfl (.t _) (.cons rfl (.t _) (.cons rfl (.le req_le) (.cons rfl (.t _) .nil)))))) ?_ | refine sops_pure (.free rfl rfl) rfl rfl (po_beq true rfl rfl rfl (by kernel_rfl) h1) ?_ | refine sops_pure (.free rfl rfl) rfl rfl (po_beq true rfl rfl rfl (by kernel_rfl) h3) ?_ | refine sops_pure (.free rfl rfl) rfl rfl (po_call (hlong) rfl (ac (ac (ac .nil)))) ?_ | refine sops_pure (.free rfl rfl) rfl rfl (po_call (haw) rfl (ac (ac (ac .nil)))) ?_ | refine sops_pure (.free rfl rfl) rfl rfl (po_call (c1) rfl (ac (ac (ac .nil)))) ?_ | refine sops_pure (.free rfl rfl) rfl rfl (po_call (c3) rfl (ac (ac (ac .nil)))) ?_ | refine sops_pure (.free rfl rfl) rfl rfl (po_call (c4) rfl (ac (ac (ac .nil)))) ?_) <;> (first | refine sops_pure (.free rfl rfl) rfl rfl (po_call (c2) rfl (.cons rfl (.t _) (.cons rfl (.t _) (.cons rfl (.t _) (.cons rfl (.le req_le) (.cons rfl (.t _) .nil)))))) ?_ | refine sops_pure (.free rfl rfl) rfl rfl (po_beq true rfl rfl rfl (by kernel_rfl) h1) ?_ | refine sops_pure (.free rfl rfl) rfl rfl (po_beq true rfl rfl rfl (by kernel_rfl) h3) ?_ | refine sops_pure (.free rfl rfl) rfl rfl (po_move rfl rfl) ?_) <;> (first | refine sops_pure (.free rfl rfl) rfl rfl (po_call (c2) rfl (.cons rfl (.t _) (.cons rfl (.t _) (.cons rfl (.t _) (.cons rfl (.le req_le) (.cons rfl (.t _) .nil)))))) ?_ | refine sops_pure (.free rfl rfl) rfl rfl (po_beq true rfl rfl rfl (by kernel_rfl) h1) ?_ | refine sops_pure (.free rfl rfl) rfl rfl (po_beq true rfl rfl rfl (by kernel_rfl) h3) ?_ | refine sops_pure (.free rfl rfl) rfl rfl (po_extract rfl rfl rfl) ?_) <;> (first | refine sops_pure (.free rfl rfl) rfl rfl (po_call (c2) rfl (.cons rfl (.t _) (.cons rfl (.t _) (.cons rfl (.t _) (.cons rfl (.le req_le) (.cons rfl (.t _) .nil)))))) ?_ | refine sops_pure (.free rfl rfl) rfl rfl (po_beq true rfl rfl rfl (by kernel_rfl) h1) ?_ | refine sops_pure (.free rfl rfl) rfl rfl (po_beq true rfl rfl rfl (by kernel_rfl) h3) ?_ | refine sops_pure (.free rfl rfl) rfl rfl (po_extract rfl rfl rfl) ?_) <;> (first | refine sops_pure (.free rfl rfl) rfl rfl (po_call (c2) rfl (.cons rfl (.t _) (.cons rfl (.t _) (.cons rfl (.t _) (.cons rfl (.le req_le) (.cons rfl (.t _) .nil)))))) ?_ | refine sops_pure (.free rfl rfl) rfl rfl (po_beq true rfl rfl rfl (by kernel_rfl) h1) ?_ | refine sops_pure (.free rfl rfl) rfl rfl (po_beq true rfl rfl rfl (by kernel_rfl) h3) ?_ | refine sops_pure (.free rfl rfl) rfl rfl (po_assign rfl rfl) ?_) <;> (first | refine sops_pure (.free rfl rfl) rfl rfl (po_call (c2) rfl (.cons rfl (.t _) (.cons rfl (.t _) (.cons rfl (.t _) (.cons rfl (.le req_le) (.cons rfl (.t _) .nil)))))) ?_ | refine sops_pure (.free rfl rfl) rfl rfl (po_beq true rfl rfl rfl (by kernel_rfl) h1) ?_ | refine sops_pure (.free rfl rfl) rfl rfl (po_beq true rfl rfl rfl (by kernel_rfl) h3) ?_ | refine sops_pure (.free rfl rfl) rfl rfl (po_assign rfl rfl) ?_) <;> (refine sops_nil ?_))
      | ((refine swp_region (id := 4) ?_) <;> (first | refine sops_pure (.free rfl rfl) rfl rfl (po_call (c2) rfl (.cons rfl (.t _) (.cons rfl (.t _) (.cons rfl (.t _) (.cons rfl (.le req_le) (.cons rfl (.t _) .nil)))))) ?_ | refine sops_pure (.free rfl rfl) rfl rfl (po_beq true rfl rfl rfl (by kernel_rfl) h1) ?_ | refine sops_pure (.free rfl rfl) rfl rfl (po_beq true rfl rfl rfl (by kernel_rfl) h3) ?_ | refine sops_pure (.free rfl rfl) rfl rfl (po_load_bx_agg rfl rfl (tyT rfl) rfl (vc (vc .nil)) rfl) ?_ | refine sops_pure (.free rfl rfl) rfl rfl (po_load_agg rfl rfl (tyT rfl) rfl rfl) ?_) <;> (first | refine sops_pure (.free rfl rfl) rfl rfl (po_call (c2) rfl (.cons rfl (.t _) (.cons rfl (.t _) (.cons rfl (.t _) (.cons rfl (.le req_le) (.cons rfl (.t _) .nil)))))) ?_ | refine sops_pure (.free rfl rfl) rfl rfl (po_beq true rfl rfl rfl (by kernel_rfl) h1) ?_ | refine sops_pure (.free rfl rfl) rfl rfl (po_beq true rfl rfl rfl (by kernel_rfl) h3) ?_ | refine sops_pure (.free rfl rfl) rfl rfl (po_load_bx_agg rfl rfl (tyT rfl) rfl (vc (vc (vc .nil))) rfl) ?_ | refine sops_pure (.free rfl rfl) rfl rfl (po_load_agg rfl rfl (tyT rfl) rfl rfl) ?_) <;> (first | refine sops_pure (.free rfl rfl) rfl rfl (po_call (c2) rfl (.cons rfl (.t _) (.cons rfl (.t _) (.cons rfl (.t _) (.cons rfl (.le req_le) (.cons rfl (.t _) .nil)))))) ?_ | refine sops_pure (.free rfl rfl) rfl rfl (po_beq true rfl rfl rfl (by kernel_rfl) h1) ?_ | refine sops_pure (.free rfl rfl) rfl rfl (po_beq true rfl rfl rfl (by kernel_rfl) h3) ?_ | refine sops_pure (.free rfl rfl) rfl rfl (po_move rfl rfl) ?_) <;> (first | refine sops_pure (.free rfl rfl) rfl rfl (po_call (c2) rfl (.cons rfl (.t _) (.cons rfl (.t _) (.cons rfl (.t _) (.cons rfl (.le req_le) (.cons rfl (.t _) .nil)))))) ?_ | refine sops_pure (.free rfl rfl) rfl rfl (po_beq true rfl rfl rfl (by kernel_rfl) h1) ?_ | refine sops_pure (.free rfl rfl) rfl rfl (po_beq true rfl rfl rfl (by kernel_rfl) h3) ?_ | refine sops_pure (.free rfl rfl) rfl rfl (po_buildS str33 rfl .nil rfl) ?_) <;> (first | refine sops_pure (.free rfl rfl) rfl rfl (po_call (c2) rfl (.cons rfl (.t _) (.cons rfl (.t _) (.cons rfl (.t _) (.cons rfl (.le req_le) (.cons rfl (.t _) .nil)))))) ?_ | refine sops_pure (.free rfl rfl) rfl rfl (po_beq true rfl rfl rfl (by kernel_rfl) h1) ?_ | refine sops_pure (.free rfl rfl) rfl rfl (po_beq true rfl rfl rfl (by kernel_rfl) h3) ?_ | refine sops_pure (.free rfl rfl) rfl rfl (po_call (hlong) rfl (ac (ac (ac (ac (ac .nil)))))) ?_ | refine sops_pure (.free rfl rfl) rfl rfl (po_call (haw) rfl (ac (ac (ac (ac (ac .nil)))))) ?_ | refine sops_pure (.free rfl rfl) rfl rfl (po_call (c1) rfl (ac (ac (ac (ac (ac .nil)))))) ?_ | refine sops_pure (.free rfl rfl) rfl rfl (po_call (c3) rfl (ac (ac (ac (ac (ac .nil)))))) ?_ | refine sops_pure (.free rfl rfl) rfl rfl (po_call (c4) rfl (ac (ac (ac (ac (ac .nil)))))) ?_) <;> (first | refine sops_pure (.free rfl rfl) rfl rfl (po_call (c2) rfl (.cons rfl (.t _) (.cons rfl (.t _) (.cons rfl (.t _) (.cons rfl (.le req_le) (.cons rfl (.t _) .nil)))))) ?_ | refine sops_pure (.free rfl rfl) rfl rfl (po_beq true rfl rfl rfl (by kernel_rfl) h1) ?_ | refine sops_pure (.free rfl rfl) rfl rfl (po_beq true rfl rfl rfl (by kernel_rfl) h3) ?_ | refine sops_pure (.free rfl rfl) rfl rfl (po_move rfl rfl) ?_) <;> (first | refine sops_pure (.free rfl rfl) rfl rfl (po_call (c2) rfl (.cons rfl (.t _) (.cons rfl (.t _) (.cons rfl (.t _) (.cons rfl (.le req_le) (.cons rfl (.t _) .nil)))))) ?_ | refine sops_pure (.free rfl rfl) rfl rfl (po_beq true rfl rfl rfl (by kernel_rfl) h1) ?_ | refine sops_pure (.free rfl rfl) rfl rfl (po_beq true rfl rfl rfl (by kernel_rfl) h3) ?_ | refine sops_pure (.free rfl rfl) rfl rfl (po_extract rfl rfl rfl) ?_) <;> (first | refine sops_pure (.free rfl rfl) rfl rfl (po_call (c2) rfl (.cons rfl (.t _) (.cons rfl (.t _) (.cons rfl (.t _) (.cons rfl (.le req_le) (.cons rfl (.t _) .nil)))))) ?_ | refine sops_pure (.free rfl rfl) rfl rfl (po_beq true rfl rfl rfl (by kernel_rfl) h1) ?_ | refine sops_pure (.free rfl rfl) rfl rfl (po_beq true rfl rfl rfl (by kernel_rfl) h3) ?_ | refine sops_pure (.free rfl rfl) rfl rfl (po_extract rfl rfl rfl) ?_) <;> (first | refine sops_pure (.free rfl rfl) rfl rfl (po_call (c2) rfl (.cons rfl (.t _) (.cons rfl (.t _) (.cons rfl (.t _) (.cons rfl (.le req_le) (.cons rfl (.t _) .nil)))))) ?_ | refine sops_pure (.free rfl rfl) rfl rfl (po_beq true rfl rfl rfl (by kernel_rfl) h1) ?_ | refine sops_pure (.free rfl rfl) rfl rfl (po_beq true rfl rfl rfl (by kernel_rfl) h3) ?_ | refine sops_pure (.free rfl rfl) rfl rfl (po_assign rfl rfl) ?_) <;> (first | refine sops_pure (.free rfl rfl) rfl rfl (po_call (c2) rfl (.cons rfl (.t _) (.cons rfl (.t _) (.cons rfl (.t _) (.cons rfl (.le req_le) (.cons rfl (.t _) .nil)))))) ?_ | refine sops_pure (.free rfl rfl) rfl rfl (po_beq true rfl rfl rfl (by kernel_rfl) h1) ?_ | refine sops_pure (.free rfl rfl) rfl rfl (po_beq true rfl rfl rfl (by kernel_rfl) h3) ?_ | refine sops_pure (.free rfl rfl) rfl rfl (po_assign rfl rfl) ?_) <;> (refine sops_nil ?_))
      | ((refine swp_region (id := 5) ?_) <;> (first | refine sops_pure (.free rfl rfl) rfl rfl (po_call (c2) rfl (.cons rfl (.t _) (.cons rfl (.t _) (.cons rfl (.t _) (.cons rfl (.le req_le) (.cons rfl (.t _) .nil)))))) ?_ | refine sops_pure (.free rfl rfl) rfl rfl (po_beq true rfl rfl rfl (by kernel_rfl) h1) ?_ | refine sops_pure (.free rfl rfl) rfl rfl (po_beq true rfl rfl rfl (by kernel_rfl) h3) ?_ | refine sops_pure (.free rfl rfl) rfl rfl (po_load_bx_agg rfl rfl (tyT rfl) rfl (vc (vc .nil)) rfl) ?_ | refine sops_pure (.free rfl rfl) rfl rfl (po_load_agg rfl rfl (tyT rfl) rfl rfl) ?_) <;> (first | refine sops_pure (.free rfl rfl) rfl rfl (po_call (c2) rfl (.cons rfl (.t _) (.cons rfl (.t _) (.cons rfl (.t _) (.cons rfl (.le req_le) (.cons rfl (.t _) .nil)))))) ?_ | refine sops_pure (.free rfl rfl) rfl rfl (po_beq true rfl rfl rfl (by kernel_rfl) h1) ?_ | refine sops_pure (.free rfl rfl) rfl rfl (po_beq true rfl rfl rfl (by kernel_rfl) h3) ?_ | refine sops_pure (.free rfl rfl) rfl rfl (po_load_bx_agg rfl rfl (tyT rfl) rfl (vc (vc (vc .nil))) rfl) ?_ | refine sops_pure (.free rfl rfl) rfl rfl (po_load_agg rfl rfl (tyT rfl) rfl rfl) ?_) <;> (first | refine sops_pure (.free rfl rfl) rfl rfl (po_call (c2) rfl (.cons rfl (.t _) (.cons rfl (.t _) (.cons rfl (.t _) (.cons rfl (.le req_le) (.cons rfl (.t _) .nil)))))) ?_ | refine sops_pure (.free rfl rfl) rfl rfl (po_beq true rfl rfl rfl (by kernel_rfl) h1) ?_ | refine sops_pure (.free rfl rfl) rfl rfl (po_beq true rfl rfl rfl (by kernel_rfl) h3) ?_ | refine sops_pure (.free rfl rfl) rfl rfl (po_move rfl rfl) ?_) <;> (first | refine sops_pure (.free rfl rfl) rfl rfl (po_call (c2) rfl (.cons rfl (.t _) (.cons rfl (.t _) (.cons rfl (.t _) (.cons rfl (.le req_le) (.cons rfl (.t _) .nil)))))) ?_ | refine sops_pure (.free rfl rfl) rfl rfl (po_beq true rfl rfl rfl (by kernel_rfl) h1) ?_ | refine sops_pure (.free rfl rfl) rfl rfl (po_beq true rfl rfl rfl (by kernel_rfl) h3) ?_ | refine sops_pure (.free rfl rfl) rfl rfl (po_load_bx_agg rfl rfl (tyT rfl) rfl (vc (vc (vc (vc (vc (vc (vc .nil))))))) rfl) ?_ | refine sops_pure (.free rfl rfl) rfl rfl (po_load_agg rfl rfl (tyT rfl) rfl rfl) ?_) <;> (first | refine sops_pure (.free rfl rfl) rfl rfl (po_call (c2) rfl (.cons rfl (.t _) (.cons rfl (.t _) (.cons rfl (.t _) (.cons rfl (.le req_le) (.cons rfl (.t _) .nil)))))) ?_ | refine sops_pure (.free rfl rfl) rfl rfl (po_beq true rfl rfl rfl (by kernel_rfl) h1) ?_ | refine sops_pure (.free rfl rfl) rfl rfl (po_beq true rfl rfl rfl (by kernel_rfl) h3) ?_ | refine sops_pure (.free rfl rfl) rfl rfl (po_call (hlong) rfl (ac (ac (ac (ac .nil))))) ?_ | refine sops_pure (.free rfl rfl) rfl rfl (po_call (haw) rfl (ac (ac (ac (ac .nil))))) ?_ | refine sops_pure (.free rfl rfl) rfl rfl (po_call (c1) rfl (ac (ac (ac (ac .nil))))) ?_ | refine sops_pure (.free rfl rfl) rfl rfl (po_call (c3) rfl (ac (ac (ac (ac .nil))))) ?_ | refine sops_pure (.free rfl rfl) rfl rfl (po_call (c4) rfl (ac (ac (ac (ac .nil))))) ?_) <;> (first | refine sops_pure (.free rfl rfl) rfl rfl (po_call (c2) rfl (.cons rfl (.t _) (.cons rfl (.t _) (.cons rfl (.t _) (.cons rfl (.le req_le) (.cons rfl (.t _) .nil)))))) ?_ | refine sops_pure (.free rfl rfl) rfl rfl (po_beq true rfl rfl rfl (by kernel_rfl) h1) ?_ | refine sops_pure (.free rfl rfl) rfl rfl (po_beq true rfl rfl rfl (by kernel_rfl) h3) ?_ | refine sops_pure (.free rfl rfl) rfl rfl (po_move rfl rfl) ?_) <;> (first | refine sops_pure (.free rfl rfl) rfl rfl (po_call (c2) rfl (.cons rfl (.t _) (.cons rfl (.t _) (.cons rfl (.t _) (.cons rfl (.le req_le) (.cons rfl (.t _) .nil)))))) ?_ | refine sops_pure (.free rfl rfl) rfl rfl (po_beq true rfl rfl rfl (by kernel_rfl) h1) ?_ | refine sops_pure (.free rfl rfl) rfl rfl (po_beq true rfl rfl rfl (by kernel_rfl) h3) ?_ | refine sops_pure (.free rfl rfl) rfl rfl (po_extract rfl rfl rfl) ?_) <;> (first | refine sops_pure (.free rfl rfl) rfl rfl (po_call (c2) rfl (.cons rfl (.t _) (.cons rfl (.t _) (.cons rfl (.t _) (.cons rfl (.le req_le) (.cons rfl (.t _) .nil)))))) ?_ | refine sops_pure (.free rfl rfl) rfl rfl (po_beq true rfl rfl rfl (by kernel_rfl) h1) ?_ | refine sops_pure (.free rfl rfl) rfl rfl (po_beq true rfl rfl rfl (by kernel_rfl) h3) ?_ | refine sops_pure (.free rfl rfl) rfl rfl (po_extract rfl rfl rfl) ?_) <;> (first | refine sops_pure (.free rfl rfl) rfl rfl (po_call (c2) rfl (.cons rfl (.t _) (.cons rfl (.t _) (.cons rfl (.t _) (.cons rfl (.le req_le) (.cons rfl (.t _) .nil)))))) ?_ | refine sops_pure (.free rfl rfl) rfl rfl (po_beq true rfl rfl rfl (by kernel_rfl) h1) ?_ | refine sops_pure (.free rfl rfl) rfl rfl (po_beq true rfl rfl rfl (by kernel_rfl) h3) ?_ | refine sops_pure (.free rfl rfl) rfl rfl (po_assign rfl rfl) ?_) <;> (first | refine sops_pure (.free rfl rfl) rfl rfl (po_call (c2) rfl (.cons rfl (.t _) (.cons rfl (.t _) (.cons rfl (.t _) (.cons rfl (.le req_le) (.cons rfl (.t _) .nil)))))) ?_ | refine sops_pure (.free rfl rfl) rfl rfl (po_beq true rfl rfl rfl (by kernel_rfl) h1) ?_ | refine sops_pure (.free rfl rfl) rfl rfl (po_beq true rfl rfl rfl (by kernel_rfl) h3) ?_ | refine sops_pure (.free rfl rfl) rfl rfl (po_assign rfl rfl) ?_) <;> (refine sops_nil ?_))
      | ((refine swp_region (id := 6) ?_) <;> (first | refine sops_pure (.free rfl rfl) rfl rfl (po_call (c2) rfl (.cons rfl (.t _) (.cons rfl (.t _) (.cons rfl (.t _) (.cons rfl (.le req_le) (.cons rfl (.t _) .nil)))))) ?_ | refine sops_pure (.free rfl rfl) rfl rfl (po_beq true rfl rfl rfl (by kernel_rfl) h1) ?_ | refine sops_pure (.free rfl rfl) rfl rfl (po_beq true rfl rfl rfl (by kernel_rfl) h3) ?_ | refine sops_pure (.free rfl rfl) rfl rfl (po_load_bx_agg rfl rfl (tyT rfl) rfl (vc (vc .nil)) rfl) ?_ | refine sops_pure (.free rfl rfl) rfl rfl (po_load_agg rfl rfl (tyT rfl) rfl rfl) ?_) <;> (first | refine sops_pure (.free rfl rfl) rfl rfl (po_call (c2) rfl (.cons rfl (.t _) (.cons rfl (.t _) (.cons rfl (.t _) (.cons rfl (.le req_le) (.cons rfl (.t _) .nil)))))) ?_ | refine sops_pure (.free rfl rfl) rfl rfl (po_beq true rfl rfl rfl (by kernel_rfl) h1) ?_ | refine sops_pure (.free rfl rfl) rfl rfl (po_beq true rfl rfl rfl (by kernel_rfl) h3) ?_ | refine sops_pure (.free rfl rfl) rfl rfl (po_load_bx_agg rfl rfl (tyT rfl) rfl (vc (vc (vc .nil))) rfl) ?_ | refine sops_pure (.free rfl rfl) rfl rfl (po_load_agg rfl rfl (tyT rfl) rfl rfl) ?_) <;> (first | refine sops_pure (.free rfl rfl) rfl rfl (po_call (c2) rfl (.cons rfl (.t _) (.cons rfl (.t _) (.cons rfl (.t _) (.cons rfl (.le req_le) (.cons rfl (.t _) .nil)))))) ?_ | refine sops_pure (.free rfl rfl) rfl rfl (po_beq true rfl rfl rfl (by kernel_rfl) h1) ?_ | refine sops_pure (.free rfl rfl) rfl rfl (po_beq true rfl rfl rfl (by kernel_rfl) h3) ?_ | refine sops_pure (.free rfl rfl) rfl rfl (po_move rfl rfl) ?_) <;> (first | refine sops_pure (.free rfl rfl) rfl rfl (po_call (c2) rfl (.cons rfl (.t _) (.cons rfl (.t _) (.cons rfl (.t _) (.cons rfl (.le req_le) (.cons rfl (.t _) .nil)))))) ?_ | refine sops_pure (.free rfl rfl) rfl rfl (po_beq true rfl rfl rfl (by kernel_rfl) h1) ?_ | refine sops_pure (.free rfl rfl) rfl rfl (po_beq true rfl rfl rfl (by kernel_rfl) h3) ?_ | refine sops_pure (.free rfl rfl) rfl rfl (po_load_bx_agg rfl rfl (tyT rfl) rfl (vc (vc (vc (vc (vc (vc (vc .nil))))))) rfl) ?_ | refine sops_pure (.free rfl rfl) rfl rfl (po_load_agg rfl rfl (tyT rfl) rfl rfl) ?_) <;> (first | refine sops_pure (.free rfl rfl) rfl rfl (po_call (c2) rfl (.cons rfl (.t _) (.cons rfl (.t _) (.cons rfl (.t _) (.cons rfl (.le req_le) (.cons rfl (.t _) .nil)))))) ?_ | refine sops_pure (.free rfl rfl) rfl rfl (po_beq true rfl rfl rfl (by kernel_rfl) h1) ?_ | refine sops_pure (.free rfl rfl) rfl rfl (po_beq true rfl rfl rfl (by kernel_rfl) h3) ?_ | refine sops_pure (.free rfl rfl) rfl rfl (po_call (hlong) rfl (ac (ac (ac (ac (ac .nil)))))) ?_ | refine sops_pure (.free rfl rfl) rfl rfl (po_call (haw) rfl (ac (ac (ac (ac (ac .nil)))))) ?_ | refine sops_pure (.free rfl rfl) rfl rfl (po_call (c1) rfl (ac (ac (ac (ac (ac .nil)))))) ?_ | refine sops_pure (.free rfl rfl) rfl rfl (po_call (c3) rfl (ac (ac (ac (ac (ac .nil)))))) ?_ | refine sops_pure (.free rfl rfl) rfl rfl (po_call (c4) rfl (ac (ac (ac (ac (ac .nil)))))) ?_) <;> (first | refine sops_pure (.free rfl rfl) rfl rfl (po_call (c2) rfl (.cons rfl (.t _) (.cons rfl (.t _) (.cons rfl (.t _) (.cons rfl (.le req_le) (.cons rfl (.t _) .nil)))))) ?_ | refine sops_pure (.free rfl rfl) rfl rfl (po_beq true rfl rfl rfl (by kernel_rfl) h1) ?_ | refine sops_pure (.free rfl rfl) rfl rfl (po_beq true rfl rfl rfl (by kernel_rfl) h3) ?_ | refine sops_pure (.free rfl rfl) rfl rfl (po_move rfl rfl) ?_) <;> (first | refine sops_pure (.free rfl rfl) rfl rfl (po_call (c2) rfl (.cons rfl (.t _) (.cons rfl (.t _) (.cons rfl (.t _) (.cons rfl (.le req_le) (.cons rfl (.t _) .nil)))))) ?_ | refine sops_pure (.free rfl rfl) rfl rfl (po_beq true rfl rfl rfl (by kernel_rfl) h1) ?_ | refine sops_pure (.free rfl rfl) rfl rfl (po_beq true rfl rfl rfl (by kernel_rfl) h3) ?_ | refine sops_pure (.free rfl rfl) rfl rfl (po_extract rfl rfl rfl) ?_) <;> (first | refine sops_pure (.free rfl rfl) rfl rfl (po_call (c2) rfl (.cons rfl (.t _) (.cons rfl (.t _) (.cons rfl (.t _) (.cons rfl (.le req_le) (.cons rfl (.t _) .nil)))))) ?_ | refine sops_pure (.free rfl rfl) rfl rfl (po_beq true rfl rfl rfl (by kernel_rfl) h1) ?_ | refine sops_pure (.free rfl rfl) rfl rfl (po_beq true rfl rfl rfl (by kernel_rfl) h3) ?_ | refine sops_pure (.free rfl rfl) rfl rfl (po_extract rfl rfl rfl) ?_) <;> (first | refine sops_pure (.free rfl rfl) rfl rfl (po_call (c2) rfl (.cons rfl (.t _) (.cons rfl (.t _) (.cons rfl (.t _) (.cons rfl (.le req_le) (.cons rfl (.t _) .nil)))))) ?_ | refine sops_pure (.free rfl rfl) rfl rfl (po_beq true rfl rfl rfl (by kernel_rfl) h1) ?_ | refine sops_pure (.free rfl rfl) rfl rfl (po_beq true rfl rfl rfl (by kernel_rfl) h3) ?_ | refine sops_pure (.free rfl rfl) rfl rfl (po_assign rfl rfl) ?_) <;> (first | refine sops_pure (.free rfl rfl) rfl rfl (po_call (c2) rfl (.cons rfl (.t _) (.cons rfl (.t _) (.cons rfl (.t _) (.cons rfl (.le req_le) (.cons rfl (.t _) .nil)))))) ?_ | refine sops_pure (.free rfl rfl) rfl rfl (po_beq true rfl rfl rfl (by kernel_rfl) h1) ?_ | refine sops_pure (.free rfl rfl) rfl rfl (po_beq true rfl rfl rfl (by kernel_rfl) h3) ?_ | refine sops_pure (.free rfl rfl) rfl rfl (po_assign rfl rfl) ?_) <;> (refine sops_nil ?_))
      | ((refine swp_region (id := 7) ?_) <;> (first | refine sops_pure (.free rfl rfl) rfl rfl (po_call (c2) rfl (.cons rfl (.t _) (.cons rfl (.t _) (.cons rfl (.t _) (.cons rfl (.le req_le) (.cons rfl (.t _) .nil)))))) ?_ | refine sops_pure (.free rfl rfl) rfl rfl (po_beq true rfl rfl rfl (by kernel_rfl) h1) ?_ | refine sops_pure (.free rfl rfl) rfl rfl (po_beq true rfl rfl rfl (by kernel_rfl) h3) ?_ | refine sops_pure (.free rfl rfl) rfl rfl (po_move rfl rfl) ?_) <;> (first | refine sops_pure (.free rfl rfl) rfl rfl (po_call (c2) rfl (.cons rfl (.t _) (.cons rfl (.t _) (.cons rfl (.t _) (.cons rfl (.le req_le) (.cons rfl (.t _) .nil)))))) ?_ | refine sops_pure (.free rfl rfl) rfl rfl (po_beq true rfl rfl rfl (by kernel_rfl) h1) ?_ | refine sops_pure (.free rfl rfl) rfl rfl (po_beq true rfl rfl rfl (by kernel_rfl) h3) ?_ | refine sops_pure (.free rfl rfl) rfl rfl (po_move rfl rfl) ?_) <;> (first | refine sops_pure (.free rfl rfl) rfl rfl (po_call (c2) rfl (.cons rfl (.t _) (.cons rfl (.t _) (.cons rfl (.t _) (.cons rfl (.le req_le) (.cons rfl (.t _) .nil)))))) ?_ | refine sops_pure (.free rfl rfl) rfl rfl (po_beq true rfl rfl rfl (by kernel_rfl) h1) ?_ | refine sops_pure (.free rfl rfl) rfl rfl (po_beq true rfl rfl rfl (by kernel_rfl) h3) ?_ | refine sops_pure (.free rfl rfl) rfl rfl (po_boolq rfl rfl rfl (by kernel_rfl) (by first | exact .inl rfl | exact .inr rfl)) ?_) <;> (first | refine sops_pure (.free rfl rfl) rfl rfl (po_call (c2) rfl (.cons rfl (.t _) (.cons rfl (.t _) (.cons rfl (.t _) (.cons rfl (.le req_le) (.cons rfl (.t _) .nil)))))) ?_ | refine sops_pure (.free rfl rfl) rfl rfl (po_beq true rfl rfl rfl (by kernel_rfl) h1) ?_ | refine sops_pure (.free rfl rfl) rfl rfl (po_beq true rfl rfl rfl (by kernel_rfl) h3) ?_ | refine sops_pure (.free rfl rfl) rfl rfl (po_move rfl rfl) ?_) <;> (first | refine sops_pure gy rfl rfl (po_call (c2) rfl (.cons rfl (.t _) (.cons rfl (.t _) (.cons rfl (.t _) (.cons rfl (.le req_le) (.cons rfl (.t _) .nil)))))) ?_ | refine sops_pure gy rfl rfl (po_beq true rfl rfl rfl (by kernel_rfl) h1) ?_ | refine sops_pure gy rfl rfl (po_beq true rfl rfl rfl (by kernel_rfl) h3) ?_ | refine sops_pure gy rfl rfl (po_move rfl rfl) ?_ | refine sops_skip gn1 rfl rfl ?_ | ((refine sops_split rfl rfl rfl (fun hc => ?_) (fun hc => ?_)) <;> (first | refine sops_pure gy rfl rfl (po_call (c2) rfl (.cons rfl (.t _) (.cons rfl (.t _) (.cons rfl (.t _) (.cons rfl (.le req_le) (.cons rfl (.t _) .nil)))))) ?_ | refine sops_pure gy rfl rfl (po_beq true rfl rfl rfl (by kernel_rfl) h1) ?_ | refine sops_pure gy rfl rfl (po_beq true rfl rfl rfl (by kernel_rfl) h3) ?_ | refine sops_pure gy rfl rfl (po_move rfl rfl) ?_ | refine sops_skip gn1 rfl rfl ?_))) <;> (first | refine sops_pure gy rfl rfl (po_call (c2) rfl (.cons rfl (.t _) (.cons rfl (.t _) (.cons rfl (.t _) (.cons rfl (.le req_le) (.cons rfl (.t _) .nil)))))) ?_ | refine sops_pure gy rfl rfl (po_beq true rfl rfl rfl (by kernel_rfl) h1) ?_ | refine sops_pure gy rfl rfl (po_beq true rfl rfl rfl (by kernel_rfl) h3) ?_ | refine sops_pure gy rfl rfl (po_move rfl rfl) ?_ | refine sops_skip gn1 rfl rfl ?_) <;> (first | refine sops_pure gy rfl rfl (po_call (c2) rfl (.cons rfl (.t _) (.cons rfl (.t _) (.cons rfl (.t _) (.cons rfl (.le req_le) (.cons rfl (.t _) .nil)))))) ?_ | refine sops_pure gy rfl rfl (po_beq true rfl rfl rfl (by kernel_rfl) h1) ?_ | refine sops_pure gy rfl rfl (po_beq true rfl rfl rfl (by kernel_rfl) h3) ?_ | refine sops_pure gy rfl rfl (po_cmp rfl rfl rfl rfl) ?_ | refine sops_skip gn1 rfl rfl ?_) <;> (first | refine sops_pure (.free rfl rfl) rfl rfl (po_call (c2) rfl (.cons rfl (.t _) (.cons rfl (.t _) (.cons rfl (.t _) (.cons rfl (.le req_le) (.cons rfl (.t _) .nil)))))) ?_ | refine sops_pure (.free rfl rfl) rfl rfl (po_beq true rfl rfl rfl (by kernel_rfl) h1) ?_ | refine sops_pure (.free rfl rfl) rfl rfl (po_beq true rfl rfl rfl (by kernel_rfl) h3) ?_ | refine sops_pure (.free rfl rfl) rfl rfl (pkt rfl) ?_ | refine sops_pure (.free rfl rfl) rfl rfl (pkf rfl) ?_) <;> (first | refine sops_pure (.free rfl rfl) rfl rfl (po_call (c2) rfl (.cons rfl (.t _) (.cons rfl (.t _) (.cons rfl (.t _) (.cons rfl (.le req_le) (.cons rfl (.t _) .nil)))))) ?_ | refine sops_pure (.free rfl rfl) rfl rfl (po_beq true rfl rfl rfl (by kernel_rfl) h1) ?_ | refine sops_pure (.free rfl rfl) rfl rfl (po_beq true rfl rfl rfl (by kernel_rfl) h3) ?_ | refine sops_pure (.free rfl rfl) rfl rfl (po_move rfl rfl) ?_) <;> (first | refine sops_pure gy rfl rfl (po_call (c2) rfl (.cons rfl (.t _) (.cons rfl (.t _) (.cons rfl (.t _) (.cons rfl (.le req_le) (.cons rfl (.t _) .nil)))))) ?_ | refine sops_pure gy rfl rfl (po_beq true rfl rfl rfl (by kernel_rfl) h1) ?_ | refine sops_pure gy rfl rfl (po_beq true rfl rfl rfl (by kernel_rfl) h3) ?_ | refine sops_pure gy rfl rfl (po_move rfl rfl) ?_ | refine sops_skip gn1 rfl rfl ?_ | ((refine sops_split rfl rfl rfl (fun hc => ?_) (fun hc => ?_)) <;> (first | refine sops_pure gy rfl rfl (po_call (c2) rfl (.cons rfl (.t _) (.cons rfl (.t _) (.cons rfl (.t _) (.cons rfl (.le req_le) (.cons rfl (.t _) .nil)))))) ?_ | refine sops_pure gy rfl rfl (po_beq true rfl rfl rfl (by kernel_rfl) h1) ?_ | refine sops_pure gy rfl rfl (po_beq true rfl rfl rfl (by kernel_rfl) h3) ?_ | refine sops_pure gy rfl rfl (po_move rfl rfl) ?_ | refine sops_skip gn1 rfl rfl ?_))) <;> (first | refine sops_pure gy rfl rfl (po_call (c2) rfl (.cons rfl (.t _) (.cons rfl (.t _) (.cons rfl (.t _) (.cons rfl (.le req_le) (.cons rfl (.t _) .nil)))))) ?_ | refine sops_pure gy rfl rfl (po_beq true rfl rfl rfl (by kernel_rfl) h1) ?_ | refine sops_pure gy rfl rfl (po_beq true rfl rfl rfl (by kernel_rfl) h3) ?_ | refine sops_pure gy rfl rfl (po_move rfl rfl) ?_ | refine sops_skip gn1 rfl rfl ?_) <;> (first | refine sops_pure gy rfl rfl (po_call (c2) rfl (.cons rfl (.t _) (.cons rfl (.t _) (.cons rfl (.t _) (.cons rfl (.le req_le) (.cons rfl (.t _) .nil)))))) ?_ | refine sops_pure gy rfl rfl (po_beq true rfl rfl rfl (by kernel_rfl) h1) ?_ | refine sops_pure gy rfl rfl (po_beq true rfl rfl rfl (by kernel_rfl) h3) ?_ | refine sops_pure gy rfl rfl (po_boolq rfl rfl rfl (by kernel_rfl) (by first | exact .inl rfl | exact .inr rfl)) ?_ | refine sops_skip gn1 rfl rfl ?_) <;> (first | refine sops_pure (.free rfl rfl) rfl rfl (po_call (c2) rfl (.cons rfl (.t _) (.cons rfl (.t _) (.cons rfl (.t _) (.cons rfl (.le req_le) (.cons rfl (.t _) .nil)))))) ?_ | refine sops_pure (.free rfl rfl) rfl rfl (po_beq true rfl rfl rfl (by kernel_rfl) h1) ?_ | refine sops_pure (.free rfl rfl) rfl rfl (po_beq true rfl rfl rfl (by kernel_rfl) h3) ?_ | refine sops_pure (.free rfl rfl) rfl rfl (pkt rfl) ?_ | refine sops_pure (.free rfl rfl) rfl rfl (pkf rfl) ?_) <;> (first | refine sops_pure (.free rfl rfl) rfl rfl (po_call (c2) rfl (.cons rfl (.t _) (.cons rfl (.t _) (.cons rfl (.t _) (.cons rfl (.le req_le) (.cons rfl (.t _) .nil)))))) ?_ | refine sops_pure (.free rfl rfl) rfl rfl (po_beq true rfl rfl rfl (by kernel_rfl) h1) ?_ | refine sops_pure (.free rfl rfl) rfl rfl (po_beq true rfl rfl rfl (by kernel_rfl) h3) ?_ | refine sops_pure (.free rfl rfl) rfl rfl (po_move rfl rfl) ?_) <;> (first | refine sops_pure gy rfl rfl (po_call (c2) rfl (.cons rfl (.t _) (.cons rfl (.t _) (.cons rfl (.t _) (.cons rfl (.le req_le) (.cons rfl (.t _) .nil)))))) ?_ | refine sops_pure gy rfl rfl (po_beq true rfl rfl rfl (by kernel_rfl) h1) ?_ | refine sops_pure gy rfl rfl (po_beq true rfl rfl rfl (by kernel_rfl) h3) ?_ | refine sops_pure gy rfl rfl (po_move rfl rfl) ?_ | refine sops_skip gn1 rfl rfl ?_ | ((refine sops_split rfl rfl rfl (fun hc => ?_) (fun hc => ?_)) <;> (first | refine sops_pure gy rfl rfl (po_call (c2) rfl (.cons rfl (.t _) (.cons rfl (.t _) (.cons rfl (.t _) (.cons rfl (.le req_le) (.cons rfl (.t _) .nil)))))) ?_ | refine sops_pure gy rfl rfl (po_beq true rfl rfl rfl (by kernel_rfl) h1) ?_ | refine sops_pure gy rfl rfl (po_beq true rfl rfl rfl (by kernel_rfl) h3) ?_ | refine sops_pure gy rfl rfl (po_move rfl rfl) ?_ | refine sops_skip gn1 rfl rfl ?_))) <;> (first | refine sops_pure gy rfl rfl (po_call (c2) rfl (.cons rfl (.t _) (.cons rfl (.t _) (.cons rfl (.t _) (.cons rfl (.le req_le) (.cons rfl (.t _) .nil)))))) ?_ | refine sops_pure gy rfl rfl (po_beq true rfl rfl rfl (by kernel_rfl) h1) ?_ | refine sops_pure gy rfl rfl (po_beq true rfl rfl rfl (by kernel_rfl) h3) ?_ | refine sops_pure gy rfl rfl (po_move rfl rfl) ?_ | refine sops_skip gn1 rfl rfl ?_) <;> (first | refine sops_pure gy rfl rfl (po_call (c2) rfl (.cons rfl (.t _) (.cons rfl (.t _) (.cons rfl (.t _) (.cons rfl (.le req_le) (.cons rfl (.t _) .nil)))))) ?_ | refine sops_pure gy rfl rfl (po_beq true rfl rfl rfl (by kernel_rfl) h1) ?_ | refine sops_pure gy rfl rfl (po_beq true rfl rfl rfl (by kernel_rfl) h3) ?_ | refine sops_pure gy rfl rfl (po_cmp rfl rfl rfl rfl) ?_ | refine sops_skip gn1 rfl rfl ?_) <;> (first | refine sops_pure (.free rfl rfl) rfl rfl (po_call (c2) rfl (.cons rfl (.t _) (.cons rfl (.t _) (.cons rfl (.t _) (.cons rfl (.le req_le) (.cons rfl (.t _) .nil)))))) ?_ | refine sops_pure (.free rfl rfl) rfl rfl (po_beq true rfl rfl rfl (by kernel_rfl) h1) ?_ | refine sops_pure (.free rfl rfl) rfl rfl (po_beq true rfl rfl rfl (by kernel_rfl) h3) ?_ | refine sops_pure (.free rfl rfl) rfl rfl (pkt rfl) ?_ | refine sops_pure (.free rfl rfl) rfl rfl (pkf rfl) ?_) <;> (first | refine sops_pure (.free rfl rfl) rfl rfl (po_call (c2) rfl (.cons rfl (.t _) (.cons rfl (.t _) (.cons rfl (.t _) (.cons rfl (.le req_le) (.cons rfl (.t _) .nil)))))) ?_ | refine sops_pure (.free rfl rfl) rfl rfl (po_beq true rfl rfl rfl (by kernel_rfl) h1) ?_ | refine sops_pure (.free rfl rfl) rfl rfl (po_beq true rfl rfl rfl (by kernel_rfl) h3) ?_ | refine sops_pure (.free rfl rfl) rfl rfl (po_move rfl rfl) ?_) <;> (first | refine sops_pure gy rfl rfl (po_call (c2) rfl (.cons rfl (.t _) (.cons rfl (.t _) (.cons rfl (.t _) (.cons rfl (.le req_le) (.cons rfl (.t _) .nil)))))) ?_ | refine sops_pure gy rfl rfl (po_beq true rfl rfl rfl (by kernel_rfl) h1) ?_ | refine sops_pure gy rfl rfl (po_beq true rfl rfl rfl (by kernel_rfl) h3) ?_ | refine sops_pure gy rfl rfl (po_call (hlong) rfl .nil) ?_ | refine sops_pure gy rfl rfl (po_call (haw) rfl .nil) ?_ | refine sops_pure gy rfl rfl (po_call (c1) rfl .nil) ?_ | refine sops_pure gy rfl rfl (po_call (c3) rfl .nil) ?_ | refine sops_pure gy rfl rfl (po_call (c4) rfl .nil) ?_ | refine sops_skip gn1 rfl rfl ?_ | ((refine sops_split rfl rfl rfl (fun hc => ?_) (fun hc => ?_)) <;> (first | refine sops_pure gy rfl rfl (po_call (c2) rfl (.cons rfl (.t _) (.cons rfl (.t _) (.cons rfl (.t _) (.cons rfl (.le req_le) (.cons rfl (.t _) .nil)))))) ?_ | refine sops_pure gy rfl rfl (po_beq true rfl rfl rfl (by kernel_rfl) h1) ?_ | refine sops_pure gy rfl rfl (po_beq true rfl rfl rfl (by kernel_rfl) h3) ?_ | refine sops_pure gy rfl rfl (po_call (hlong) rfl .nil) ?_ | refine sops_pure gy rfl rfl (po_call (haw) rfl .nil) ?_ | refine sops_pure gy rfl rfl (po_call (c1) rfl .nil) ?_ | refine sops_pure gy rfl rfl (po_call (c3) rfl .nil) ?_ | refine sops_pure gy rfl rfl (po_call (c4) rfl .nil) ?_ | refine sops_skip gn1 rfl rfl ?_))) <;> (first | refine sops_pure (.free rfl rfl) rfl rfl (po_call (c2) rfl (.cons rfl (.t _) (.cons rfl (.t _) (.cons rfl (.t _) (.cons rfl (.le req_le) (.cons rfl (.t _) .nil)))))) ?_ | refine sops_pure (.free rfl rfl) rfl rfl (po_beq true rfl rfl rfl (by kernel_rfl) h1) ?_ | refine sops_pure (.free rfl rfl) rfl rfl (po_beq true rfl rfl rfl (by kernel_rfl) h3) ?_ | refine sops_pure (.free rfl rfl) rfl rfl (pkt rfl) ?_ | refine sops_pure (.free rfl rfl) rfl rfl (pkf rfl) ?_) <;> (first | refine sops_pure (.free rfl rfl) rfl rfl (po_call (c2) rfl (.cons rfl (.t _) (.cons rfl (.t _) (.cons rfl (.t _) (.cons rfl (.le req_le) (.cons rfl (.t _) .nil)))))) ?_ | refine sops_pure (.free rfl rfl) rfl rfl (po_beq true rfl rfl rfl (by kernel_rfl) h1) ?_ | refine sops_pure (.free rfl rfl) rfl rfl (po_beq true rfl rfl rfl (by kernel_rfl) h3) ?_ | refine sops_pure (.free rfl rfl) rfl rfl (po_assign rfl rfl) ?_) <;> (refine sops_nil ?_))
      | refine swp_ret ?_
      | refine swp_skip ?_
      | refine swp_block ?_
      | refine swp_exit ?_
      | refine block_go ?_
      | refine block_exit ?_
      | refine block_far rfl ?_
      | refine block_ret ?_
      | refine then_ret ?_
      | refine then_exit ?_
      | refine for_ret ?_
      | refine for_exit ?_
      | refine ct ?_
      | refine cf ?_
      | refine swp_cond rfl (fun hc => ?_) (fun hc => ?_)
      | refine retq (by first | exact .inr rfl | exact .inl rfl) rfl (.tmp rfl (by first | exact .t _ | exact .own rfl (by first | rfl | assumption | (simp; done) | (simp; omega)) | exact .nil _ | exact .emp _ | exact .fn _) .nil) ?_)
    rfl
theorem walk (tb : Pl.Table) (tcs : Array Value) (a : Pl.Asker) (port : Int) (q : Pl.Req) (A : Option Addr) (cap : Nat) (tg qu : ByteArray) (bd : Value) (hbd : bd.oneCell' = true) (w : World) (hA : TableR w.heap.size w tb tcs.toList) (hadr : (Lit.int .u32 a.addr).wf = true) (hf : Fits0 w.heap.size w a q A) (hc1 : q.heads.length ≤ cap) (hc2 : cap ≤ maxLen) :
    Calls Tryz.prog 3 #[.agg tcs, .agg #[.string a.ns, .string a.sa, .int .u32 a.addr], .int .i64 port, .agg #[.string q.method, .string tg, .string q.path, .string qu, .string q.host, .slice A q.heads.length cap, bd]] w fun e w' => e = .returned (.bool true) ∧ Lo w w' := by
  obtain ⟨d0, d1, e, hpol, hal⟩ := hA
  obtain ⟨l, al⟩ := tb
  obtain ⟨tl⟩ := tcs
  have e' : tl = [d0, d1] := e
  subst e'
  dsimp only at hpol hal
  have hhd : SliceC HeadR 2 w.heap.size w q.heads [.slice A q.heads.length cap] := ⟨A, cap, rfl, hf.heads, hc1, hc2⟩
  have h := law_ l (sl_ok policy_ok hpol) al a ⟨hf.ns, hf.sa, hadr⟩ port q ⟨hf.method, hf.path, hf.host, sl_ok head_ok hhd⟩ tg qu bd
  exact h.law w _ rfl fun i t v h1 h2 => by
    match i, h1, h2 with
    | 0, h1, h2 => simp at h1 h2; subst h1 h2; exact agg_bwd (vs := [_, _]) (cellsAre_cons (sl_bwd (enc := polT) (fun _ => rfl) policy_bwd hpol).1 (sl_bwd (enc := polT) (fun _ => rfl) policy_bwd hpol).2 (cellsAre_cons (int_bwd hal).1 (int_bwd hal).2 (cellsAre_nil _)))
    | 1, h1, h2 => simp at h1 h2; subst h1 h2; exact agg_bwd (vs := [_, _, _]) (cellsAre_cons (.v _) rfl (cellsAre_cons (.v _) rfl (cellsAre_cons (.v _) rfl (cellsAre_nil _))))
    | 2, h1, h2 => simp at h1 h2; subst h1 h2; exact .v _
    | 3, h1, h2 => simp at h1 h2; subst h1 h2; exact agg_bwd (vs := [_, _, _, _, _, _, _]) (cellsAre_cons (.v _) rfl (cellsAre_cons (.v _) rfl (cellsAre_cons (.v _) rfl (cellsAre_cons (.v _) rfl (cellsAre_cons (.v _) rfl (cellsAre_cons (sl_bwd (enc := headT) (fun _ => rfl) head_bwd hhd).1 rfl (cellsAre_cons (.v _) hbd (cellsAre_nil _))))))))
end Go.Proofs.YtlcecabfmemfeaaGreat.SplitSays
