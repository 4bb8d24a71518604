/- Merged by bundles.py: SimNl6, SimPf, SimPg. -/
import Derived.Test.YtabejnjnkpdjbaaS27
import Derived.Test.YtabejnjnkpdjbaaS25
/- Done. (Printed by mk_nl6.py.) -/
namespace Go.Proofs.Ytabejnjnkpdjbaa.Sim
set_option linter.unusedVariables false
set_option linter.unusedSimpArgs false
open Go.RowKit Mem
def answered (d : PTk) : PTk := ⟨d.n, 1, d.code, d.bytes⟩
def doneK (d : PTk) (t : PIn) : PIn := match cutL (fun q : PTk => decide (q.n = d.n)) t.taken with
  | none => t
  | some (C, q, D) => if q.done = 1 then t else { t with taken := C ++ answered d :: D }
def doneP (l : List PIn) (a b c : Int) (d : PTk) : List PIn := match cutL (pIn a b c) l with
  | none => l
  | some (A, x, B) => A ++ doneK d x :: B
def SDn (a b c : Int) (d : PTk) (n : Nat) (rows : List (List T)) (F : List (Value × Own)) (tm : List (Nat × A)) : St := ⟨(3, .bp 3 0) :: (4, .bp 4 0) :: (5, .bp 5 0) :: (6, .bp 6 0) :: tm, [(3, [.own 1001 n]), (4, [.t (i64T a), .t (u64T b), .t (u64T c)]), (5, (takR d).map .t), (6, [.t (.v (.slice none 0 0))]), (1100, [.rs (FamR F)])], [(1001, ⟨42, 14, rows⟩)]⟩
def SDf (n : Nat) (rows : List (List T)) (F : List (Value × Own)) (tm : List (Nat × A)) : St := ⟨(3, .bp 3 0) :: (6, .bp 6 0) :: tm, [(3, [.own 1001 n]), (6, [.t (.v (.slice none 0 0))]), (1100, [.rs (FamR F)])], [(1001, ⟨42, 14, rows⟩)]⟩
theorem famI_set {A B : List AIn} {x : AIn} {t : PIn} {l : List (List T)} (h : t.taken.map takR = l) : famI A ++ (x.u, (⟨46, 4, l⟩ : Own)) :: famI B = famI (A ++ ⟨t, x.u⟩ :: B) := by subst h; rw [famI_split]; rfl
theorem setK {C D : List PTk} {q d : PTk} : ((C ++ q :: D).map takR).set C.length (takR d) = (C ++ d :: D).map takR := by
  rw [List.map_append, List.map_cons, List.set_append_right _ _ (by rw [List.length_map]; exact Nat.le_refl _), List.length_map, Nat.sub_self, List.set_cons_zero, List.map_append]; rfl
set_option maxRecDepth 100000 in
set_option maxHeartbeats 4000000 in
theorem done_ (l : List PIn) (a b c : Int) (d : PTk) (hn : l.length ≤ 500) (hq : ∀ t ∈ l, FewIn t) (hd : FewK d) : LCalls Try.prog 13 [.t (.agg (inlT l)), .t (idT a b c), .t (.agg (takR d))] [] [] (.t (.agg (inlT (doneP l a b c d)))) [] [] := by
  have c1 := ownInlet_ l (by omega) hq
  have c4 := clone_ d.bytes (by have := hd.bytes; omega)
  refine lcalls_of Try.func13 rfl rfl Try.ntmps13 rfl ?_
  unfold inlT idT takR
  repeat' (first | (refine rg 0 ?_; refine sbx ?_; refine sbx ?_; refine sbx ?_; refine sal str29 ?_; refine oN ?_) | refine gc ?_ | refine ct ?_ | refine cf ?_ | refine swp_cond rfl (fun hc => ?_) (fun hc => ?_) | refine rq rfl (.cell rfl rfl (tyT rfl) (vc .nil) rfl .nil) ?_)
  refine rg 1 ?_
  refine sp (po_load_bx_agg rfl rfl (tyT rfl) rfl (vc .nil) rfl) ?_
  refine sops_ecall c1 (fun i => i) (fun i => i) (.free rfl rfl) rfl rfl rfl (.cons rfl rfl rfl .nil) .nil .nil rfl (fun _ => rfl) fun L => ?_
  obtain ⟨L, hl⟩ := L
  have hll : L.length = l.length := by have := congrArg List.length hl; rw [List.length_map] at this; exact this
  dsimp only
  refine oS ?_
  refine oN ?_
  have c2 := inbound_ L a b c (by omega)
  unfold idT at c2
  rw [← hll]
  repeat' (first | (refine rg 2 ?_; (first | refine sp (po_load_bx_agg rfl rfl (tyT rfl) rfl (vc .nil) rfl) ?_ | refine sp (po_load_agg rfl rfl (tyT rfl) rfl rfl) ?_ | refine sp (lda rfl) ?_ | refine sp (po_load_bx_ag rfl rfl (tyT rfl) rfl rfl rfl rfl) ?_); (refine sp (po_load_bx_agg rfl rfl (tyT rfl) rfl (vc (vc (vc .nil))) rfl) ?_); refine sops_lcall (c2) (fun i => i) (fun i => bif Nat.beq i 2001 then 1001 else i) (fun i => Nat.beq i 2001) (.free rfl rfl) rfl rfl rfl (by ((repeat' (first | exact .nil | refine .cons rfl rfl rfl ?_)) <;> fail)) .nil (.cons rfl rfl .nil) rfl rfl (kp_id 2001 rfl rfl rfl (by rfl)) ?_; refine oAs ?_; refine oN ?_) | refine gc ?_ | refine ct ?_ | refine cf ?_ | refine swp_cond rfl (fun hc => ?_) (fun hc => ?_) | refine rq rfl (.cell rfl rfl (tyT rfl) (vc .nil) rfl .nil) ?_)
  rcases idxP_split (fun x : AIn => pIn a b c x.t) L with ⟨h1, h2⟩ | ⟨A, x, B, rfl, h1, h2, h3⟩
  · rw [h1]
    refine swp_weak (st' := SDn a b c d L.length (L.map inR) (famI L) [(7, .t (i64T (-1)))]) (weak_sub (.cons rfl rfl rfl (.cons rfl rfl rfl (.cons rfl rfl rfl (.cons rfl rfl rfl (.cons rfl rfl rfl .nil))))) (.cons rfl rfl rfl (.cons rfl rfl rfl (.cons rfl rfl rfl (.cons rfl rfl rfl (.cons rfl rfl rfl .nil))))) (.cons rfl rfl .nil)) ?_
    have hr : doneP l a b c d = l := by unfold doneP; rw [in_miss hl h2]
    rw [hr]
    unfold SDn
    repeat' (first | (refine rg 3 ?_; refine oMv ?_; refine oCm ?_; refine oN ?_) | refine gc ?_ | refine ct ?_ | refine cf ?_ | refine swp_cond rfl (fun hc => ?_) (fun hc => ?_) | refine rq rfl (.cell rfl rfl (tyT rfl) (vc .nil) rfl .nil) ?_)
    have hK : L.map (fun a => inT' a.t) = l.map inT' := by rw [← hl, List.map_map]; rfl
    have hKl : L.length = (l.map inT').length := by rw [← hK, List.length_map]
    refine swp_weak (weak_famshow 1100 1001 ((L).map fun a : AIn => inT' a.t) (fs := famI (L)) (o := inO (L)) rfl rfl (by show (List.map _ _).length = (List.map _ _).length; rw [List.length_map, List.length_map]) (by intro r hr; obtain ⟨a, _, rfl⟩ := List.mem_map.1 hr; rfl) (upl_in (L))) ?_
    rw [hK]
    refine swp_weak (weak_show 1001 101 rfl rfl rfl rfl) ?_
    repeat' (first | (refine rg 8 ?_; refine sp (po_load_bx_agg rfl rfl (tyT rfl) rfl (vc .nil) rfl) ?_; refine oS ?_; refine oN ?_) | refine gc ?_ | refine ct ?_ | refine cf ?_ | refine swp_cond rfl (fun hc => ?_) (fun hc => ?_) | refine rq rfl (.cell rfl rfl (tyT rfl) (vc .nil) rfl .nil) ?_)
    exact retl1 (.inr rfl) rfl (.cellT rfl rfl (tyT rfl) (vc .nil) rfl .nil) rfl .nil .nil
  · rw [h1]
    refine swp_weak (st' := SDn a b c d (A ++ x :: B).length ((A ++ x :: B).map inR) (famI A ++ (x.u, takO x.t) :: famI B) [(7, .t (i64T ((A.length : Nat) : Int)))]) (by rw [← famI_split]; exact (weak_sub (.cons rfl rfl rfl (.cons rfl rfl rfl (.cons rfl rfl rfl (.cons rfl rfl rfl (.cons rfl rfl rfl .nil))))) (.cons rfl rfl rfl (.cons rfl rfl rfl (.cons rfl rfl rfl (.cons rfl rfl rfl (.cons rfl rfl rfl .nil))))) (.cons rfl rfl .nil))) ?_
    have hr : doneP l a b c d = A.map AIn.t ++ doneK d x.t :: B.map AIn.t := by unfold doneP; rw [in_split hl rfl h2 h3]
    rw [hr]
    have hge : (0 : Int) ≤ ((A.length : Nat) : Int) := by omega
    have hat : ((A ++ x :: B).map inR)[A.length]? = some (inR x) := inO_at
    have hlt : A.length < (A ++ x :: B).length := by rw [List.length_append, List.length_cons]; omega
    have hml : (A ++ x :: B).length = ((A ++ x :: B).map inR).length := (List.length_map _).symm
    have hfx := hq x.t (by rw [← hl]; exact List.mem_map_of_mem (by simp))
    have c3 := idxDn d x.t.taken hfx.taken
    unfold SDn
    repeat' (first | (refine rg 3 ?_; refine oMv ?_; refine oCm ?_; refine oN ?_) | (refine rg 4 ?_; refine oFb ?_; refine oLb ?_; refine oMv ?_; refine sp (ixo rfl) ?_; refine oAs ?_; refine oN ?_) | refine gc ?_ | refine ct ?_ | refine cf ?_ | refine swp_cond rfl (fun hc => ?_) (fun hc => ?_) | refine rq rfl (.cell rfl rfl (tyT rfl) (vc .nil) rfl .nil) ?_)
    refine rg 5 ?_
    refine oMv ?_
    refine sp (po_nilcheck_oe rfl rfl rfl hml) ?_
    refine sp (fdo rfl) ?_
    refine sp (ldo rfl) ?_
    refine sops_weak (weak_openF 24 1100 1005 90000 (a := famI A) (b := famI B) (o := takO x.t) rfl rfl rfl) ?_
    refine sp (po_func_cl rfl (.cons rfl rfl .nil)) ?_
    refine sops_lcall c3 (fun i => bif Nat.beq i 2000 then 5 else i) (fun i => bif Nat.beq i 2000 then 1005 else i) (fun i => Nat.beq i 2000) (.free rfl rfl) rfl rfl rfl (.cons rfl rfl rfl (.cons rfl rfl rfl .nil)) (.cons rfl rfl .nil) (.cons rfl rfl .nil) rfl rfl (kp_id 2000 rfl rfl rfl rfl) ?_
    refine oAs ?_
    refine sops_weak (weak_closeV 24 1100 1005 90000 (famI A) (famI B) rfl rfl rfl rfl rfl rfl) ?_
    refine oN ?_
    refine then_go ?_
    have hKx : (A ++ x :: B).map (fun a => inT' a.t) = (A.map AIn.t ++ x.t :: B.map AIn.t).map inT' := by simp; rfl
    have hKxl : (A ++ x :: B).length = ((A.map AIn.t ++ x.t :: B.map AIn.t).map inT').length := by simp
    rcases idxP_split (fun q : PTk => decide (q.n = d.n)) x.t.taken with ⟨g1, g2⟩ | ⟨C, q, D, he, g1, g2, g3⟩
    · rw [g1]
      have hr2 : doneK d x.t = x.t := by unfold doneK; rw [cutL_miss g2]
      rw [hr2]
      refine swp_weak (st' := SDf (A ++ x :: B).length ((A ++ x :: B).map inR) (famI (A ++ x :: B)) [(9, .t (i64T (-1)))]) (by rw [famI_split]; exact (weak_sub (.cons rfl rfl rfl (.cons rfl rfl rfl (.cons rfl rfl rfl .nil))) (.cons rfl rfl rfl (.cons rfl rfl rfl (.cons rfl rfl rfl .nil))) (.cons rfl rfl .nil))) ?_
      unfold SDf
      repeat' (first | (refine rg 6 ?_; refine oMv ?_; refine oCm ?_; refine oMv ?_; (first | refine oMv ?_ | refine oK ?_) <;> (first | refine sp (po_nilcheck rfl rfl) ?_ | refine sp (po_nilcheck_oe rfl rfl rfl (by rfl)) ?_ | refine oK ?_) <;> (first | refine oFb ?_ | refine oFd ?_ | refine sp (fdo rfl) ?_ | refine oK ?_) <;> (first | refine oLb ?_ | refine oLd ?_ | refine sp (ldo rfl) ?_ | refine oK ?_) <;> (first | refine oMv ?_ | refine oK ?_) <;> (first | refine sp (ixo rfl) ?_ | refine sp (pix rfl (tyS rfl)) ?_ | refine oK ?_) <;> (first | refine oFb ?_ | refine oFd ?_ | refine sp (fdo rfl) ?_ | refine oK ?_) <;> (first | refine oLb ?_ | refine oLd ?_ | refine sp (ldo rfl) ?_ | refine oK ?_) <;> (first | refine oCm ?_ | refine oK ?_) <;> (first | refine oPt ?_ | refine oPf ?_) <;> refine oN ?_) | refine gc ?_ | refine ct ?_ | refine cf ?_ | refine swp_cond rfl (fun hc => ?_) (fun hc => ?_) | refine rq rfl (.cell rfl rfl (tyT rfl) (vc .nil) rfl .nil) ?_)
      have hK := hKx
      have hKl := hKxl
      refine swp_weak (weak_famshow 1100 1001 ((A ++ x :: B).map fun a : AIn => inT' a.t) (fs := famI (A ++ x :: B)) (o := inO (A ++ x :: B)) rfl rfl (by show (List.map _ _).length = (List.map _ _).length; rw [List.length_map, List.length_map]) (by intro r hr; obtain ⟨a, _, rfl⟩ := List.mem_map.1 hr; rfl) (upl_in (A ++ x :: B))) ?_
      rw [hK]
      refine swp_weak (weak_show 1001 101 rfl rfl rfl rfl) ?_
      repeat' (first | (refine rg 8 ?_; refine sp (po_load_bx_agg rfl rfl (tyT rfl) rfl (vc .nil) rfl) ?_; refine oS ?_; refine oN ?_) | refine gc ?_ | refine ct ?_ | refine cf ?_ | refine swp_cond rfl (fun hc => ?_) (fun hc => ?_) | refine rq rfl (.cell rfl rfl (tyT rfl) (vc .nil) rfl .nil) ?_)
      exact retl1 (.inr rfl) rfl (.cellT rfl rfl (tyT rfl) (vc .nil) rfl .nil) rfl .nil .nil
    · rw [g1]
      have hgq : (0 : Int) ≤ ((C.length : Nat) : Int) := by omega
      have hatq : (x.t.taken.map takR)[C.length]? = some (takR q) := by rw [he]; exact mid_at
      have hltq : C.length < (x.t.taken.map takR).length := by rw [he, List.length_map, List.length_append, List.length_cons]; omega
      have hmq : (x.t.taken.map takR).length = x.t.taken.length := List.length_map _
      refine swp_weak (st' := SDn a b c d (A ++ x :: B).length ((A ++ x :: B).map inR) (famI A ++ (x.u, takO x.t) :: famI B) [(8, .oe 1001 (A ++ x :: B).length 14 A.length 0), (9, .t (i64T ((C.length : Nat) : Int)))]) (weak_sub (.cons rfl rfl rfl (.cons rfl rfl rfl (.cons rfl rfl rfl (.cons rfl rfl rfl (.cons rfl rfl rfl (.cons rfl rfl rfl .nil)))))) (.cons rfl rfl rfl (.cons rfl rfl rfl (.cons rfl rfl rfl (.cons rfl rfl rfl (.cons rfl rfl rfl .nil))))) (.cons rfl rfl .nil)) ?_
      unfold SDn
      refine gc ?_
      refine rg 6 ?_
      refine oMv ?_
      refine oCm ?_
      refine oMv ?_
      refine oMv ?_
      refine sp (po_nilcheck_oe rfl rfl rfl hml) ?_
      refine sp (fdo rfl) ?_
      refine sp (ldo rfl) ?_
      refine sops_weak (weak_openF 33 1100 1005 90000 (a := famI A) (b := famI B) (o := takO x.t) rfl rfl rfl) ?_
      refine oMv ?_
      refine sp (po_index_own (k := C.length) rfl rfl rfl rfl rfl (tyS rfl) rfl hltq) ?_
      refine sp (fdo rfl) ?_
      refine sp (ldo rfl) ?_
      refine oCm ?_
      refine oPt ?_
      refine sops_weak (weak_closeV 33 1100 1005 90000 (famI A) (famI B) rfl rfl rfl rfl rfl rfl) ?_
      refine oN ?_
      refine then_go ?_
      by_cases hq1 : q.done = 1
      · have hr2 : doneK d x.t = x.t := by unfold doneK; rw [he, cutL_hit g3 g2]; dsimp only; rw [if_pos hq1]
        rw [hr2]
        have hdd : (!decide (q.done = 1)) = false := by rw [decide_eq_true hq1]; rfl
        refine cf ?_
        refine swp_weak (st' := SDf (A ++ x :: B).length ((A ++ x :: B).map inR) (famI (A ++ x :: B)) []) (by rw [famI_split]; exact (weak_sub (.cons rfl rfl rfl (.cons rfl rfl rfl .nil)) (.cons rfl rfl rfl (.cons rfl rfl rfl (.cons rfl rfl rfl .nil))) (.cons rfl rfl .nil))) ?_
        unfold SDf
        refine gc ?_
        have hK := hKx
        have hKl := hKxl
        refine swp_weak (weak_famshow 1100 1001 ((A ++ x :: B).map fun a : AIn => inT' a.t) (fs := famI (A ++ x :: B)) (o := inO (A ++ x :: B)) rfl rfl (by show (List.map _ _).length = (List.map _ _).length; rw [List.length_map, List.length_map]) (by intro r hr; obtain ⟨a, _, rfl⟩ := List.mem_map.1 hr; rfl) (upl_in (A ++ x :: B))) ?_
        rw [hK]
        refine swp_weak (weak_show 1001 101 rfl rfl rfl rfl) ?_
        repeat' (first | (refine rg 8 ?_; refine sp (po_load_bx_agg rfl rfl (tyT rfl) rfl (vc .nil) rfl) ?_; refine oS ?_; refine oN ?_) | refine gc ?_ | refine ct ?_ | refine cf ?_ | refine swp_cond rfl (fun hc => ?_) (fun hc => ?_) | refine rq rfl (.cell rfl rfl (tyT rfl) (vc .nil) rfl .nil) ?_)
        exact retl1 (.inr rfl) rfl (.cellT rfl rfl (tyT rfl) (vc .nil) rfl .nil) rfl .nil .nil
      · have hr2 : doneK d x.t = { x.t with taken := C ++ answered d :: D } := by unfold doneK; rw [he, cutL_hit g3 g2]; dsimp only; rw [if_neg hq1]
        rw [hr2]
        have hdd : (!decide (q.done = 1)) = true := by rw [decide_eq_false hq1]; rfl
        refine ct ?_
        refine swp_weak (st' := SDn a b c d (A ++ x :: B).length ((A ++ x :: B).map inR) (famI A ++ (x.u, takO x.t) :: famI B) [(8, .oe 1001 (A ++ x :: B).length 14 A.length 0), (9, .t (i64T ((C.length : Nat) : Int)))]) (weak_sub (.cons rfl rfl rfl (.cons rfl rfl rfl (.cons rfl rfl rfl (.cons rfl rfl rfl (.cons rfl rfl rfl (.cons rfl rfl rfl .nil)))))) (.cons rfl rfl rfl (.cons rfl rfl rfl (.cons rfl rfl rfl (.cons rfl rfl rfl (.cons rfl rfl rfl .nil))))) (.cons rfl rfl .nil)) ?_
        unfold SDn
        refine swp_weak (weak_openN 1100 1005 90000 (a := famI A) (b := famI B) (u := x.u) (o := takO x.t) rfl rfl) ?_
        refine swp_weak (weak_evbx 90000 4 0 rfl rfl) ?_
        dsimp only
        refine swp_any (id := 7) [[], [], [], [], [], [], [], [], [], [], [], [], [], [], [1005]] [[], [], [], [], [], [], [], [], [], [], [], [], [], [], []] mixed (by kernel_rfl) ?_
        refine yp (fun _ _ => po_move rfl rfl) ?_
        refine yp (fun _ _ => po_nilcheck_oe rfl rfl rfl hml) ?_
        refine yp (fun _ _ => po_field_own rfl rfl rfl hml (tyF rfl)) ?_
        refine yp (fun _ _ => po_load_ev (B := 4) (q := 0) rfl rfl rfl hml (tyT rfl) hat rfl rfl rfl rfl rfl) ?_
        refine yp (fun _ _ => po_move rfl rfl) ?_
        refine yp (fun _ _ => po_field_bx rfl rfl (tyF rfl)) ?_
        refine yp (fun _ _ => po_load_bx rfl rfl (tyT rfl) rfl rfl) ?_
        refine yp (fun _ _ => po_field_bx rfl rfl (tyF rfl)) ?_
        refine yp (fun _ _ => po_load_bx rfl rfl (tyT rfl) rfl rfl) ?_
        refine yp (fun _ _ => po_field_bx rfl rfl (tyF rfl)) ?_
        refine yp (fun _ _ => po_load_bx rfl rfl (tyT rfl) rfl rfl) ?_
        refine yp (fun _ _ => po_call c4 rfl (.cons rfl (.t _) .nil)) ?_
        refine yp (fun _ _ => po_buildS str46 rfl (pc (pc (pc (pc .nil)))) rfl) ?_
        refine yp (fun _ _ => po_index_own (k := C.length) rfl rfl rfl rfl rfl (tyS rfl) rfl hltq) ?_
        refine sany_eff [] [(1005, _)] (.free rfl rfl) rfl rfl (fun _ _ _ _ => e_store_own (ts := takR (answered d)) (by rfl) rfl rfl rfl rfl rfl rfl (.t _) rfl rfl (tyT rfl) rfl hatq rfl) ?_
        refine sany_nil ?_
        refine then_go ?_
        have hset : (x.t.taken.map takR).set C.length (takR (answered d)) = (C ++ answered d :: D).map takR := by rw [he]; exact setK
        have hsl : (x.t.taken.map takR).length = ((x.t.taken.map takR).set C.length (takR (answered d))).length := (List.length_set).symm
        refine swp_weak (weak_closeV 43 1100 1005 90000 (famI A) (famI B) rfl rfl rfl rfl hsl hsl) ?_
        have hfs := famI_set (A := A) (B := B) (x := x) (t := { x.t with taken := C ++ answered d :: D }) hset.symm
        have hfg := congrArg (fun f => [Sim.A.rs (FamR f)]) hfs
        have hrw : (⟨42, 14, (A ++ x :: B).map inR⟩ : Own) = ⟨42, 14, (A ++ (⟨{ x.t with taken := C ++ answered d :: D }, x.u⟩ : AIn) :: B).map inR⟩ := by rw [List.map_append, List.map_append]; rfl
        refine swp_weak (st' := SDf (A ++ x :: B).length ((A ++ ⟨{ x.t with taken := C ++ answered d :: D }, x.u⟩ :: B).map inR) (famI (A ++ ⟨{ x.t with taken := C ++ answered d :: D }, x.u⟩ :: B)) []) (weak_sub (.cons rfl (by first | rfl | (first | (exact hfg) | (exact hrw))) rfl (.cons rfl (by first | rfl | (first | (exact hfg) | (exact hrw))) rfl .nil)) (.cons rfl (by first | rfl | (first | (exact hfg) | (exact hrw))) rfl (.cons rfl (by first | rfl | (first | (exact hfg) | (exact hrw))) rfl (.cons rfl (by first | rfl | (first | (exact hfg) | (exact hrw))) rfl .nil))) (.cons rfl (by first | rfl | (first | (exact hfg) | (exact hrw))) .nil)) ?_
        unfold SDf
        refine gc ?_
        have hK : (A ++ (⟨{ x.t with taken := C ++ answered d :: D }, x.u⟩ : AIn) :: B).map (fun a => inT' a.t) = (A.map AIn.t ++ { x.t with taken := C ++ answered d :: D } :: B.map AIn.t).map inT' := by simp; rfl
        have hKl : (A ++ x :: B).length = ((A.map AIn.t ++ { x.t with taken := C ++ answered d :: D } :: B.map AIn.t).map inT').length := by simp
        refine swp_weak (weak_famshow 1100 1001 ((A ++ (⟨{ x.t with taken := C ++ answered d :: D }, x.u⟩ : AIn) :: B).map fun a : AIn => inT' a.t) (fs := famI (A ++ (⟨{ x.t with taken := C ++ answered d :: D }, x.u⟩ : AIn) :: B)) (o := inO (A ++ (⟨{ x.t with taken := C ++ answered d :: D }, x.u⟩ : AIn) :: B)) rfl rfl (by show (List.map _ _).length = (List.map _ _).length; rw [List.length_map, List.length_map]) (by intro r hr; obtain ⟨a, _, rfl⟩ := List.mem_map.1 hr; rfl) (upl_in (A ++ (⟨{ x.t with taken := C ++ answered d :: D }, x.u⟩ : AIn) :: B))) ?_
        rw [hK]
        refine swp_weak (weak_show 1001 101 rfl rfl rfl rfl) ?_
        repeat' (first | (refine rg 8 ?_; refine sp (po_load_bx_agg rfl rfl (tyT rfl) rfl (vc .nil) rfl) ?_; refine oS ?_; refine oN ?_) | refine gc ?_ | refine ct ?_ | refine cf ?_ | refine swp_cond rfl (fun hc => ?_) (fun hc => ?_) | refine rq rfl (.cell rfl rfl (tyT rfl) (vc .nil) rfl .nil) ?_)
        exact retl1 (.inr rfl) rfl (.cellT rfl rfl (tyT rfl) (vc .nil) rfl .nil) rfl .nil .nil
end Go.Proofs.Ytabejnjnkpdjbaa.Sim

/- room. -/
namespace Go.Proofs.Ytabejnjnkpdjbaa.Sim
set_option linter.unusedVariables false
set_option linter.unusedSimpArgs false
open Go.RowKit Mem
section
variable {P : Program} {bx : List (Nat × List A)} {ow : List (Nat × Own)} {o : Oper} {ρ : Operand → Option A}
/-- how long a row of a family is -/
theorem po_len_fam {x : Operand} {t i sz : Nat} {u : Value} {fs a b : List (Value × Own)} {o' : Own} (ho : o.op = .call { callee := .builtin .len, args := #[x], argTypes := #[t] }) (hx : ρ x = some (.t (.v u))) (hb : get bx i = some [.rs (FamR fs)]) (hfs : fs = a ++ (u, o') :: b) (hT : sliceSz P t = some sz) (hc : chB i = true := by rfl) : PureOp P bx ow o ρ (.t (.v (.int .i64 (o'.rows.length : Int)))) := pure_run fun C m g w ac he h => by
  subst hfs
  have h1 : ac.eval x = u := tr_v (show TR m (.v u) _ from h x (by simp [ho, Op.operands, Call.operands]) _ hx)
  obtain ⟨⟨_, f2, _⟩, _⟩ := he.rs.1 i _ hc hb
  obtain ⟨⟨vs, k1, _⟩, _⟩ := f2 a.length (u, o') ins_at
  obtain ⟨e, ii, hu, _⟩ := sliceSz_spec hT
  have hu2 : ∃ A c, u = .slice A o'.rows.length c := by
    rcases k1.2 with ⟨h5, h6⟩ | ⟨g5, cap, cur, h5, _⟩
    · dsimp only at h5 h6; exact ⟨none, 0, by rw [h5, h6]⟩
    · dsimp only at h5; exact ⟨some ⟨g5, 0, none⟩, cap, h5⟩
  obtain ⟨A0, c0, hu3⟩ := hu2
  refine ⟨.int .i64 o'.rows.length, ?_, .v _⟩
  simp [execOp, ho, resolve, invoke, builtin, h1, hu3, Builtin.len_, Builtin.lenOf, run_underlying hu, goInt]
end
/-- the tunnel that nothing is asked on and that was used least lately, of the first so many: where, when -/
def lruI (l : List PTun) : Nat → Option (Nat × Int)
  | 0 => none
  | j + 1 => match l[j]? with
    | none => lruI l j
    | some t => if t.asks.length = 0 then (match lruI l j with
      | none => some (j, t.used)
      | some (k, u) => if t.used < u then some (j, t.used) else some (k, u)) else lruI l j
def kOf : Option (Nat × Int) → Int
  | none => -1
  | some (k, _) => (k : Int)
theorem lruI_ok (l : List PTun) : ∀ j k u, lruI l j = some (k, u) → k < j ∧ ∃ t, l[k]? = some t ∧ t.used = u ∧ t.asks.length = 0
  | 0, k, u, h => by cases h
  | j + 1, k, u, h => by
    unfold lruI at h
    cases hj : l[j]? with
    | none => rw [hj] at h; obtain ⟨h1, h2⟩ := lruI_ok l j k u h; exact ⟨by omega, h2⟩
    | some t =>
      rw [hj] at h
      dsimp only at h
      split at h
      · rename_i ha
        cases hl : lruI l j with
        | none => rw [hl] at h; injection h with h; injection h with h1 h2; subst h1 h2; exact ⟨by omega, t, hj, rfl, ha⟩
        | some x =>
          obtain ⟨k0, u0⟩ := x
          rw [hl] at h
          dsimp only at h
          split at h
          · injection h with h; injection h with h1 h2; subst h1 h2; exact ⟨by omega, t, hj, rfl, ha⟩
          · injection h with h; injection h with h1 h2; subst h1 h2
            obtain ⟨h1, h2⟩ := lruI_ok l j k0 u0 hl; exact ⟨by omega, h2⟩
      · obtain ⟨h1, h2⟩ := lruI_ok l j k u h; exact ⟨by omega, h2⟩
theorem lruI_skip {l : List PTun} {j : Nat} {t : PTun} (h : l[j]? = some t) (ha : ¬ t.asks.length = 0) : lruI l (j + 1) = lruI l j := by
  show (match l[j]? with | none => _ | some t => _) = _
  rw [h]; dsimp only; rw [if_neg ha]
theorem lruI_first {l : List PTun} {j : Nat} {t : PTun} (h : l[j]? = some t) (ha : t.asks.length = 0) (hl : lruI l j = none) : lruI l (j + 1) = some (j, t.used) := by
  show (match l[j]? with | none => _ | some t => _) = _
  rw [h]; dsimp only; rw [if_pos ha, hl]
theorem lruI_less {l : List PTun} {j : Nat} {t : PTun} {k : Nat} {u : Int} (h : l[j]? = some t) (ha : t.asks.length = 0) (hl : lruI l j = some (k, u)) (hu : t.used < u) : lruI l (j + 1) = some (j, t.used) := by
  show (match l[j]? with | none => _ | some t => _) = _
  rw [h]; dsimp only; rw [if_pos ha, hl]; dsimp only; rw [if_pos hu]
theorem lruI_more {l : List PTun} {j : Nat} {t : PTun} {k : Nat} {u : Int} (h : l[j]? = some t) (ha : t.asks.length = 0) (hl : lruI l j = some (k, u)) (hu : ¬ t.used < u) : lruI l (j + 1) = lruI l j := by
  show (match l[j]? with | none => _ | some t => _) = _
  rw [h, hl]; dsimp only; rw [if_pos ha, if_neg hu]
def SRm (W : PWk) (j : Nat) : St := ⟨[(0, .bp 2000 0), (2, .t (.v (.bool false))), (3, .t (.v (.int .i64 (kOf (lruI (W.tuns.map ATun.t) j))))), (10, .own 2001 W.tuns.length), (11, .t (.v (.int .i64 (W.tuns.length : Int)))), (12, .t (.v (.int .i64 (j : Int))))], wB 2000 3000 2001 2002 2003 W, wO 2001 2002 2003 W⟩
def roomX (W : PWk) : List (Nat × List A) × List (Nat × Own) := match lruI (W.tuns.map ATun.t) W.tuns.length with
  | none => (wB 2000 3000 2001 2002 2003 W, wO 2001 2002 2003 W)
  | some (k, _) => match W.tuns[k]? with
    | none => (wB 2000 3000 2001 2002 2003 W, wO 2001 2002 2003 W)
    | some a => (wB 2000 3000 1001 1002 1003 (goW W (W.tuns.take k) (W.tuns.drop (k + 1)) a 0), wO 1001 1002 1003 (goW W (W.tuns.take k) (W.tuns.drop (k + 1)) a 0))
theorem split_at {α : Type} {l : List α} {k : Nat} {a : α} (h : l[k]? = some a) : l = l.take k ++ a :: l.drop (k + 1) := by
  obtain ⟨h1, h2⟩ := List.getElem?_eq_some_iff.1 h
  rw [← h2, ← List.drop_eq_getElem_cons h1, List.take_append_drop]
set_option maxRecDepth 100000 in
set_option maxHeartbeats 4000000 in
theorem room_ (W : PWk) (hn : W.tuns.length ≤ 1000) (hf : W.fails.length ≤ 1000000) (hd : W.dos.length ≤ 1000000) : LCalls Try.prog 70 [.bp 2000 0] (wB 2000 3000 2001 2002 2003 W) (wO 2001 2002 2003 W) (.t (.v (.bool (lruI (W.tuns.map ATun.t) W.tuns.length).isSome))) (roomX W).1 (roomX W).2 := by
  refine lcalls_of Try.func70 rfl rfl Try.ntmps70 rfl ?_
  unfold wB wO wC
  repeat' (first | (refine rg 0 ?_; refine oAs ?_; refine oN ?_) | (refine rg 1 ?_; refine oAs ?_; refine oN ?_) | (refine rg 2 ?_; refine oMv ?_; refine sp (po_nilcheck rfl rfl) ?_; refine oFb ?_; refine oFb ?_; refine oLb ?_; refine sp (po_len_own rfl rfl (tyS rfl)) ?_; refine oMv ?_; refine oN ?_) | refine gc ?_ | refine ct ?_ | refine cf ?_ | refine swp_cond rfl (fun hc => ?_) (fun hc => ?_) | refine rq rfl (rt .nil) ?_)
  refine swp_for (SRm W) (fun _ => True) W.tuns.length ?_ trivial ?_
  · exact (weak_sub (.cons rfl rfl rfl (.cons rfl rfl rfl (.cons rfl rfl rfl (.cons rfl rfl rfl (.cons rfl rfl rfl (.cons rfl rfl rfl .nil)))))) (.cons rfl rfl rfl (.cons rfl rfl rfl .nil)) (.cons rfl rfl (.cons rfl rfl (.cons rfl rfl .nil))))
  intro j hj _
  unfold SRm wB wO wC
  by_cases hlt : j < W.tuns.length
  · have hltI : (j : Int) < (W.tuns.length : Int) := by omega
    have hx : W.tuns[j]? = some W.tuns[j] := List.getElem?_eq_getElem hlt
    have hxt : (W.tuns.map ATun.t)[j]? = some (W.tuns[j]).t := by rw [List.getElem?_map, hx]; rfl
    have hat : (W.tuns.map tunR)[j]? = some (tunR W.tuns[j]) := by rw [List.getElem?_map, hx]; rfl
    have hfs : famT W.tuns = famT (W.tuns.take j) ++ ((W.tuns[j]).u, askO (W.tuns[j]).t) :: famT (W.tuns.drop (j + 1)) := by
      have h0 := congrArg famT (split_at hx)
      rw [famT_open] at h0; exact h0
    have hml : W.tuns.length = (W.tuns.map tunR).length := (List.length_map _).symm
    have hla : (askO (W.tuns[j]).t).rows.length = (W.tuns[j]).t.asks.length := List.length_map _
    generalize W.tuns[j] = x at *
    by_cases he : x.t.asks.length = 0
    · have heI : (((askO x.t).rows.length : Nat) : Int) = 0 := by rw [hla]; omega
      cases hl : lruI (W.tuns.map ATun.t) j with
      | none =>
        have hs := lruI_first hxt he hl
        dsimp only [kOf]
        repeat' (first | refine for_next hlt (weak_sub (.cons rfl (by rfl) rfl (.cons rfl (by rfl) rfl (.cons rfl (by first | rfl | ((exact congrArg (fun z => Sim.A.t (T.v (Value.int .i64 (kOf z)))) hs.symm))) rfl (.cons rfl (by rfl) rfl (.cons rfl (by rfl) rfl (.cons rfl (by rfl) rfl .nil)))))) (.cons rfl (by rfl) rfl (.cons rfl (by rfl) rfl .nil)) (.cons rfl (by rfl) (.cons rfl (by rfl) (.cons rfl (by rfl) .nil)))) trivial | (refine rg 3 ?_; refine oCm ?_; refine oN ?_) | (refine rg 4 ?_; refine oMv ?_; refine sp (ixo rfl) ?_; refine sp (po_load_own_agg (ts := tunR x) rfl rfl rfl hml (tyT rfl) hat rfl rfl) ?_; refine sal str118 ?_; refine oAs ?_; refine oS ?_; refine oN ?_) | (refine rd 5 ?_; refine dFb ?_; (first | refine dp (po_load_own_agg (ts := tunR x) rfl rfl rfl hml (tyT rfl) hat rfl rfl) ?_ | refine dLb ?_); refine dp (po_len_fam (i := 3000) rfl rfl rfl hfs (tyS rfl)) ?_; refine dCm ?_; refine dMv ?_; refine dMv ?_ <;> refine dCm ?_ <;> refine dMv ?_ <;> (first | refine dFb ?_ | refine dFd ?_ | refine dp (fdo rfl) ?_ | refine dK ?_) <;> (first | refine dp (po_load_own_agg (ts := tunR x) rfl rfl rfl hml (tyT rfl) hat rfl rfl) ?_ | refine dLb ?_ | refine dLd ?_ | refine dp (ldo rfl) ?_ | refine dK ?_) <;> (first | refine dMv ?_ | refine dK ?_) <;> (first | refine dp (po_nilcheck rfl rfl) ?_ | refine dp (po_nilcheck_oe rfl rfl rfl (by rfl)) ?_ | refine dK ?_) <;> (first | refine dFb ?_ | refine dFd ?_ | refine dp (fdo rfl) ?_ | refine dK ?_) <;> (first | refine dFb ?_ | refine dFd ?_ | refine dp (fdo rfl) ?_ | refine dK ?_) <;> (first | refine dp (po_load_own_agg (ts := tunR x) rfl rfl rfl hml (tyT rfl) hat rfl rfl) ?_ | refine dLb ?_ | refine dLd ?_ | refine dp (ldo rfl) ?_ | refine dK ?_) <;> (first | refine dMv ?_ | refine dK ?_) <;> (first | refine dp (ixo rfl) ?_ | refine dp (pix rfl (tyS rfl)) ?_ | refine dK ?_) <;> (first | refine dFb ?_ | refine dFd ?_ | refine dp (fdo rfl) ?_ | refine dK ?_) <;> (first | refine dp (po_load_own_agg (ts := tunR x) rfl rfl rfl hml (tyT rfl) hat rfl rfl) ?_ | refine dLb ?_ | refine dLd ?_ | refine dp (ldo rfl) ?_ | refine dK ?_) <;> (first | refine dCm ?_ | refine dK ?_) <;> refine dPt ?_ <;> refine dPt ?_ <;> refine dN ?_ <;> refine oN ?_) | (refine rg 6 ?_; refine oMv ?_; refine oAs ?_; refine oN ?_) | (refine rg 7 ?_; refine sp (xinc rfl) ?_; refine oMv ?_; refine oN ?_) | refine gc ?_ | refine ct ?_)
      | some ku =>
        obtain ⟨k, u⟩ := ku
        obtain ⟨hk1, b, hb1, hb2, hb3⟩ := lruI_ok _ _ _ _ hl
        rw [List.getElem?_map] at hb1
        cases hy : W.tuns[k]? with
        | none => rw [hy] at hb1; cases hb1
        | some y =>
          rw [hy] at hb1
          injection hb1 with hb1
          subst hb1
          subst hb2
          have hatk : (W.tuns.map tunR)[k]? = some (tunR y) := by rw [List.getElem?_map, hy]; rfl
          have hkI : ¬ ((k : Int) < 0) := by omega
          have hkn : k < W.tuns.length := by omega
          dsimp only [kOf]
          by_cases hu : x.t.used < y.t.used
          · have hs := lruI_less hxt he hl hu
            repeat' (first | refine for_next hlt (weak_sub (.cons rfl (by rfl) rfl (.cons rfl (by rfl) rfl (.cons rfl (by first | rfl | ((exact congrArg (fun z => Sim.A.t (T.v (Value.int .i64 (kOf z)))) hs.symm))) rfl (.cons rfl (by rfl) rfl (.cons rfl (by rfl) rfl (.cons rfl (by rfl) rfl .nil)))))) (.cons rfl (by rfl) rfl (.cons rfl (by rfl) rfl .nil)) (.cons rfl (by rfl) (.cons rfl (by rfl) (.cons rfl (by rfl) .nil)))) trivial | (refine rg 3 ?_; refine oCm ?_; refine oN ?_) | (refine rg 4 ?_; refine oMv ?_; refine sp (ixo rfl) ?_; refine sp (po_load_own_agg (ts := tunR x) rfl rfl rfl hml (tyT rfl) hat rfl rfl) ?_; refine sal str118 ?_; refine oAs ?_; refine oS ?_; refine oN ?_) | (refine rd 5 ?_; refine dFb ?_; (first | refine dp (po_load_own_agg (ts := tunR x) rfl rfl rfl hml (tyT rfl) hat rfl rfl) ?_ | refine dLb ?_); refine dp (po_len_fam (i := 3000) rfl rfl rfl hfs (tyS rfl)) ?_; refine dCm ?_; refine dMv ?_; refine dMv ?_ <;> refine dCm ?_ <;> refine dMv ?_ <;> refine dFb ?_ <;> (first | refine dp (po_load_own_agg (ts := tunR x) rfl rfl rfl hml (tyT rfl) hat rfl rfl) ?_ | refine dLb ?_) <;> refine dMv ?_ <;> refine dp (po_nilcheck rfl rfl) ?_ <;> refine dFb ?_ <;> refine dFb ?_ <;> (first | refine dp (po_load_own_agg (ts := tunR x) rfl rfl rfl hml (tyT rfl) hat rfl rfl) ?_ | refine dLb ?_) <;> refine dMv ?_ <;> refine dp (ixo rfl) ?_ <;> (first | refine dFb ?_ | refine dFd ?_ | refine dp (fdo rfl) ?_) <;> (first | refine dp (po_load_own_agg (ts := tunR x) rfl rfl rfl hml (tyT rfl) hat rfl rfl) ?_ | refine dLb ?_ | refine dLd ?_ | refine dp (ldo rfl) ?_) <;> refine dCm ?_ <;> (first | refine dPt ?_ | refine dPf ?_) <;> refine dPt ?_ <;> refine dN ?_ <;> refine oN ?_) | (refine rg 6 ?_; refine oMv ?_; refine oAs ?_; refine oN ?_) | (refine rg 7 ?_; refine sp (xinc rfl) ?_; refine oMv ?_; refine oN ?_) | refine gc ?_ | refine ct ?_)
          · have hs := (lruI_more hxt he hl hu).trans hl
            repeat' (first | refine for_next hlt (weak_sub (.cons rfl (by rfl) rfl (.cons rfl (by rfl) rfl (.cons rfl (by first | rfl | ((exact congrArg (fun z => Sim.A.t (T.v (Value.int .i64 (kOf z)))) hs.symm))) rfl (.cons rfl (by rfl) rfl (.cons rfl (by rfl) rfl (.cons rfl (by rfl) rfl .nil)))))) (.cons rfl (by rfl) rfl (.cons rfl (by rfl) rfl .nil)) (.cons rfl (by rfl) (.cons rfl (by rfl) (.cons rfl (by rfl) .nil)))) trivial | (refine rg 3 ?_; refine oCm ?_; refine oN ?_) | (refine rg 4 ?_; refine oMv ?_; refine sp (ixo rfl) ?_; refine sp (po_load_own_agg (ts := tunR x) rfl rfl rfl hml (tyT rfl) hat rfl rfl) ?_; refine sal str118 ?_; refine oAs ?_; refine oS ?_; refine oN ?_) | (refine rd 5 ?_; refine dFb ?_; (first | refine dp (po_load_own_agg (ts := tunR x) rfl rfl rfl hml (tyT rfl) hat rfl rfl) ?_ | refine dLb ?_); refine dp (po_len_fam (i := 3000) rfl rfl rfl hfs (tyS rfl)) ?_; refine dCm ?_; refine dMv ?_; refine dMv ?_ <;> refine dCm ?_ <;> refine dMv ?_ <;> refine dFb ?_ <;> (first | refine dp (po_load_own_agg (ts := tunR x) rfl rfl rfl hml (tyT rfl) hat rfl rfl) ?_ | refine dLb ?_) <;> refine dMv ?_ <;> refine dp (po_nilcheck rfl rfl) ?_ <;> refine dFb ?_ <;> refine dFb ?_ <;> (first | refine dp (po_load_own_agg (ts := tunR x) rfl rfl rfl hml (tyT rfl) hat rfl rfl) ?_ | refine dLb ?_) <;> refine dMv ?_ <;> refine dp (ixo rfl) ?_ <;> (first | refine dFb ?_ | refine dFd ?_ | refine dp (fdo rfl) ?_) <;> (first | refine dp (po_load_own_agg (ts := tunR x) rfl rfl rfl hml (tyT rfl) hat rfl rfl) ?_ | refine dLb ?_ | refine dLd ?_ | refine dp (ldo rfl) ?_) <;> refine dCm ?_ <;> (first | refine dPt ?_ | refine dPf ?_) <;> refine dPt ?_ <;> refine dN ?_ <;> refine oN ?_) | (refine rg 7 ?_; refine sp (xinc rfl) ?_; refine oMv ?_; refine oN ?_) | refine gc ?_ | refine ct ?_ | refine cf ?_)
    · have hs := lruI_skip hxt he
      have heI : ¬ ((((askO x.t).rows.length : Nat) : Int) = 0) := by rw [hla]; omega
      repeat' (first | refine for_next hlt (weak_sub (.cons rfl (by rfl) rfl (.cons rfl (by rfl) rfl (.cons rfl (by first | rfl | ((rw [hs]))) rfl (.cons rfl (by rfl) rfl (.cons rfl (by rfl) rfl (.cons rfl (by rfl) rfl .nil)))))) (.cons rfl (by rfl) rfl (.cons rfl (by rfl) rfl .nil)) (.cons rfl (by rfl) (.cons rfl (by rfl) (.cons rfl (by rfl) .nil)))) trivial | (refine rg 3 ?_; refine oCm ?_; refine oN ?_) | (refine rg 4 ?_; refine oMv ?_; refine sp (ixo rfl) ?_; refine sp (po_load_own_agg (ts := tunR x) rfl rfl rfl hml (tyT rfl) hat rfl rfl) ?_; refine sal str118 ?_; refine oAs ?_; refine oS ?_; refine oN ?_) | (refine rd 5 ?_; refine dFb ?_; (first | refine dp (po_load_own_agg (ts := tunR x) rfl rfl rfl hml (tyT rfl) hat rfl rfl) ?_ | refine dLb ?_); refine dp (po_len_fam (i := 3000) rfl rfl rfl hfs (tyS rfl)) ?_; refine dCm ?_; refine dMv ?_; (first | refine dMv ?_ | refine dK ?_) <;> (first | refine dCm ?_ | refine dK ?_) <;> (first | refine dMv ?_ | refine dK ?_) <;> (first | refine dFb ?_ | refine dFd ?_ | refine dp (fdo rfl) ?_ | refine dK ?_) <;> (first | refine dp (po_load_own_agg (ts := tunR x) rfl rfl rfl hml (tyT rfl) hat rfl rfl) ?_ | refine dLb ?_ | refine dLd ?_ | refine dp (ldo rfl) ?_ | refine dK ?_) <;> (first | refine dMv ?_ | refine dK ?_) <;> (first | refine dp (po_nilcheck rfl rfl) ?_ | refine dp (po_nilcheck_oe rfl rfl rfl (by rfl)) ?_ | refine dK ?_) <;> (first | refine dFb ?_ | refine dFd ?_ | refine dp (fdo rfl) ?_ | refine dK ?_) <;> (first | refine dFb ?_ | refine dFd ?_ | refine dp (fdo rfl) ?_ | refine dK ?_) <;> (first | refine dp (po_load_own_agg (ts := tunR x) rfl rfl rfl hml (tyT rfl) hat rfl rfl) ?_ | refine dLb ?_ | refine dLd ?_ | refine dp (ldo rfl) ?_ | refine dK ?_) <;> (first | refine dMv ?_ | refine dK ?_) <;> (first | refine dp (ixo rfl) ?_ | refine dp (pix rfl (tyS rfl)) ?_ | refine dK ?_) <;> (first | refine dFb ?_ | refine dFd ?_ | refine dp (fdo rfl) ?_ | refine dK ?_) <;> (first | refine dp (po_load_own_agg (ts := tunR x) rfl rfl rfl hml (tyT rfl) hat rfl rfl) ?_ | refine dLb ?_ | refine dLd ?_ | refine dp (ldo rfl) ?_ | refine dK ?_) <;> (first | refine dCm ?_ | refine dK ?_) <;> (first | refine dPt ?_ | refine dPf ?_ | refine dK ?_) <;> (first | refine dPt ?_ | refine dPf ?_) <;> refine dN ?_ <;> refine oN ?_) | (refine rg 7 ?_; refine sp (xinc rfl) ?_; refine oMv ?_; refine oN ?_) | refine gc ?_ | refine ct ?_ | refine cf ?_)
  · obtain rfl : j = W.tuns.length := by omega
    have hnI : ¬ ((W.tuns.length : Int) < (W.tuns.length : Int)) := by omega
    unfold roomX
    cases hl : lruI (W.tuns.map ATun.t) W.tuns.length with
    | none =>
      dsimp only [kOf]
      repeat' (first | (refine rg 3 ?_; refine oCm ?_; refine oN ?_) | (refine rg 8 ?_; refine oMv ?_; refine oCm ?_; refine oN ?_) | (refine rg 10 ?_; refine oMv ?_; refine oCm ?_; refine oAs ?_; refine oN ?_) | refine gc ?_ | refine ct ?_ | refine cf ?_ | refine swp_cond rfl (fun hc => ?_) (fun hc => ?_) | refine retl (by exact .inr rfl) rfl (.tmp rfl rfl .nil) ?_ rfl (.cons rfl (by rfl) rfl (.cons rfl (by rfl) rfl .nil)) (.cons rfl (by rfl) (.cons rfl (by rfl) (.cons rfl (by rfl) .nil))))
      rfl
    | some ku =>
      obtain ⟨k, u⟩ := ku
      obtain ⟨hk1, b, hb1, hb2, hb3⟩ := lruI_ok _ _ _ _ hl
      rw [List.getElem?_map] at hb1
      dsimp only [kOf]
      cases hy : W.tuns[k]? with
      | none => rw [hy] at hb1; cases hb1
      | some y =>
        rw [hy] at hb1
        injection hb1 with hb1
        subst hb1
        have c4 := goes_ W (W.tuns.take k) (W.tuns.drop (k + 1)) y 0 (split_at hy) (by omega) hf hn hd
        rw [List.length_take, Nat.min_eq_left (by omega)] at c4
        unfold wB wO wC at c4
        have hkI : (0 : Int) ≤ (k : Int) := by omega
        dsimp only
        unfold wB wO wC
        repeat' (first | (refine rg 3 ?_; refine oCm ?_; refine oN ?_) | (refine rg 8 ?_; refine oMv ?_; refine oCm ?_; refine oN ?_) | (refine rg 9 ?_; refine oMv ?_; refine oMv ?_; refine sops_lcall (c4) (fun i => i) (fun i => i) (fun _ => false) (.free rfl rfl) rfl rfl rfl (by ((repeat' (first | exact .nil | refine .cons rfl rfl rfl ?_)) <;> fail)) (.cons rfl rfl (.cons rfl rfl .nil)) (.cons rfl rfl (.cons rfl rfl (.cons rfl rfl .nil))) rfl rfl (fun _ h => Bool.noConfusion h) ?_; refine oN ?_) | (refine rg 10 ?_; refine oMv ?_; refine oCm ?_; refine oAs ?_; refine oN ?_) | refine gc ?_ | refine ct ?_ | refine cf ?_ | refine swp_cond rfl (fun hc => ?_) (fun hc => ?_) | refine retl (by exact .inr rfl) rfl (.tmp rfl rfl .nil) ?_ rfl (.cons rfl (by rfl) rfl (.cons rfl (by rfl) rfl .nil)) (.cons rfl (by rfl) (.cons rfl (by rfl) (.cons rfl (by rfl) .nil))))
        rw [show decide ((0 : Int) ≤ (k : Int)) = true from decide_eq_true hkI]
        rfl
end Go.Proofs.Ytabejnjnkpdjbaa.Sim

/- open of a new tunnel. -/
namespace Go.Proofs.Ytabejnjnkpdjbaa.Sim
set_option linter.unusedVariables false
set_option linter.unusedSimpArgs false
open Go.RowKit Mem
def wXb (b c : Nat) (W : PWk) (x : ATun) : List (Nat × List A) := [(2000, wC 2001 b c W), (2010, (tunR x).map .t)]
set_option maxRecDepth 100000 in
set_option maxHeartbeats 2000000 in
theorem openb_ (W : PWk) (x : ATun) (hd : W.dos.length ≤ 1000000) : LCalls Try.prog 72 [.bp 2000 0, .bp 2010 0] (wXb 2002 2003 W x) (wO 2001 2002 2003 W) (resA []) (wXb 1002 2003 (addD W (opnD x.t)) ⟨sinT W.now x.t, x.u⟩) (wO 2001 1002 2003 (addD W (opnD x.t))) := by
  obtain ⟨wn, wi, wx, now, tuns, dos, fails⟩ := W
  dsimp only at hd
  refine lcalls_of Try.func72 rfl rfl Try.ntmps72 rfl ?_
  unfold wXb wO wC
  refine swp_weak (weak_ren 2002 1002 rfl rfl rfl rfl rfl rfl rfl) ?_
  repeat' (first | (refine rg 0 ?_; refine oMv ?_; refine oMv ?_; refine sp (po_nilcheck rfl rfl) ?_; refine oFb ?_; refine oLb ?_; refine sp (po_nilcheck rfl rfl) ?_; refine oFb ?_; refine oS ?_; refine oN ?_) | refine gc ?_ | refine ct ?_ | refine cf ?_ | refine swp_cond rfl (fun hc => ?_) (fun hc => ?_) | refine rq rfl .nil ?_)
  refine swp_weak (st' := ⟨[(0, .bp 2000 0), (1, .bp 2010 0)], wXb 1002 2003 ⟨wn, wi, wx, now, tuns, dos, fails⟩ ⟨sinT now x.t, x.u⟩, wO 2001 1002 2003 ⟨wn, wi, wx, now, tuns, dos, fails⟩⟩) (weak_sub (.cons rfl rfl rfl (.cons rfl rfl rfl .nil)) (.cons rfl rfl rfl (.cons rfl rfl rfl .nil)) (.cons rfl rfl (.cons rfl rfl (.cons rfl rfl .nil)))) ?_
  unfold wXb wO wC
  repeat' (first | ((refine swp_any (id := 1) [[], [], [], [], [], [], [], [], [], [], [], [], [], [], [], [], [], [], [], [], [], [], [], [1002], [], [], [2000]] [[1002], [], [], [], [], [], [], [], [], [], [], [], [], [], [], [], [], [], [], [], [], [], [], [], [], [], []] mixed (by kernel_rfl) ?_) <;> refine yp (fun _ _ => po_move rfl rfl) ?_ <;> refine yp (fun _ _ => po_move rfl rfl) ?_ <;> refine yp (fun _ _ => po_nilcheck rfl rfl) ?_ <;> refine yp (fun _ _ => po_field_bx rfl rfl (tyF rfl)) ?_ <;> refine yp (fun _ _ => po_load_bx rfl rfl (tyT rfl) rfl rfl) ?_ <;> refine yp (fun _ _ => po_move rfl rfl) ?_ <;> refine yp (fun _ _ => po_nilcheck rfl rfl) ?_ <;> refine yp (fun _ _ => po_field_bx rfl rfl (tyF rfl)) ?_ <;> refine yp (fun _ _ => po_load_bx rfl rfl (tyT rfl) rfl rfl) ?_ <;> refine yp (fun _ _ => po_move rfl rfl) ?_ <;> refine yp (fun _ _ => po_nilcheck rfl rfl) ?_ <;> refine yp (fun _ _ => po_field_bx rfl rfl (tyF rfl)) ?_ <;> (refine yp (fun _ _ => po_load_bx_agg rfl rfl (tyT rfl) rfl (vc (vc (vc .nil))) rfl) ?_) <;> refine yp (fun _ _ => po_move rfl rfl) ?_ <;> refine yp (fun _ _ => po_nilcheck rfl rfl) ?_ <;> refine yp (fun _ _ => po_field_bx rfl rfl (tyF rfl)) ?_ <;> refine yp (fun _ _ => po_load_bx rfl rfl (tyT rfl) rfl rfl) ?_ <;> refine yp (fun _ _ => po_move rfl rfl) ?_ <;> refine yp (fun _ _ => po_nilcheck rfl rfl) ?_ <;> refine yp (fun _ _ => po_field_bx rfl rfl (tyF rfl)) ?_ <;> (refine yp (fun _ _ => po_load_bx_agg rfl rfl (tyT rfl) rfl (vc (vc (vc .nil))) rfl) ?_) <;> (refine yp (fun _ _ => po_buildS str84 rfl (pc (pc (pc (pc (pc .nil))))) rfl) ?_) <;> refine yp (fun _ _ => po_buildSlice rfl (tyE rfl) (dc (.nil _)) rfl rfl rfl) ?_ <;> refine sany_eff [] [(1002, _)] (.free rfl rfl) rfl rfl (fun _ _ _ _ => e_append rfl rfl rfl (by first | rfl | simp) rfl (by exact .t _) (tyE rfl) (by first | assumption | (simp only [List.length_map, List.length_cons, List.length_nil]; omega)) (by first | assumption | (unfold maxLen; simp only [List.length_map, List.length_cons, List.length_nil]; omega))) ?_ <;> refine yp (fun _ _ => po_nilcheck rfl rfl) ?_ <;> refine yp (fun _ _ => po_field_bx rfl rfl (tyF rfl)) ?_ <;> refine sany_eff [(2000, _)] [] (.free rfl rfl) rfl rfl (fun _ _ _ _ => e_store rfl rfl rfl rfl rfl rfl (tyT rfl) rfl rfl) ?_ <;> refine sany_nil ?_) | refine gc ?_ | refine ct ?_ | refine cf ?_ | refine swp_cond rfl (fun hc => ?_) (fun hc => ?_) | refine rq rfl .nil ?_)
  refine retl (.inl rfl) rfl .nil rfl rfl (.cons rfl ?_ rfl (.cons rfl rfl rfl .nil)) (.cons rfl rfl (.cons rfl ?_ (.cons rfl rfl .nil)))
  · exact congrArg (fun n => [Sim.A.t (i64T wn), Sim.A.t (u64T wi), Sim.A.t (u64T wx), Sim.A.own 2001 tuns.length, Sim.A.t (u64T now), Sim.A.own 1002 n, Sim.A.own 2003 fails.length]) (doN_app dos (opnD x.t))
  · exact doO_app dos (opnD x.t)
end Go.Proofs.Ytabejnjnkpdjbaa.Sim
