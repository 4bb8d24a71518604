/- Merged by bundles.py: SimNl6. -/
import Derived.Test.YtabejnjnkpdjbaaT34
import Derived.Test.YtabejnjnkpdjbaaT15
/- Done. (Printed by mk_nl6.py.) -/
namespace Go.Proofs.Ytabejnjnkpdjbaa.Sim
set_option linter.unusedVariables false
set_option linter.unusedSimpArgs false
open Go.RowKit Mem
def answered (d : PTk) : PTk := ⟨d.n, 1, d.code, d.bytes⟩
def doneK (d : PTk) (t : PIn) : PIn := match cutL (fun q : PTk => decide (q.n = d.n)) t.taken with
  | none => t
  | some (C, q, D) => if q.done = 1 then t else { t with taken := C ++ answered d :: D }
def doneP (l : List PIn) (a b c : Int) (d : PTk) : List PIn := match cutL (pIn a b c) l with
  | none => l
  | some (A, x, B) => A ++ doneK d x :: B
def SDn (a b c : Int) (d : PTk) (n : Nat) (rows : List (List T)) (F : List (Value × Own)) (tm : List (Nat × A)) : St := ⟨(3, .bp 3 0) :: (4, .bp 4 0) :: (5, .bp 5 0) :: (6, .bp 6 0) :: tm, [(3, [.own 1001 n]), (4, [.t (i64T a), .t (u64T b), .t (u64T c)]), (5, (takR d).map .t), (6, [.t (.v (.slice none 0 0))]), (1100, [.rs (FamR F)])], [(1001, ⟨42, 14, rows⟩)]⟩
def SDf (n : Nat) (rows : List (List T)) (F : List (Value × Own)) (tm : List (Nat × A)) : St := ⟨(3, .bp 3 0) :: (6, .bp 6 0) :: tm, [(3, [.own 1001 n]), (6, [.t (.v (.slice none 0 0))]), (1100, [.rs (FamR F)])], [(1001, ⟨42, 14, rows⟩)]⟩
theorem famI_set {A B : List AIn} {x : AIn} {t : PIn} {l : List (List T)} (h : t.taken.map takR = l) : famI A ++ (x.u, (⟨46, 4, l⟩ : Own)) :: famI B = famI (A ++ ⟨t, x.u⟩ :: B) := by subst h; rw [famI_split]; rfl
theorem setK {C D : List PTk} {q d : PTk} : ((C ++ q :: D).map takR).set C.length (takR d) = (C ++ d :: D).map takR := by
  rw [List.map_append, List.map_cons, List.set_append_right _ _ (by rw [List.length_map]; exact Nat.le_refl _), List.length_map, Nat.sub_self, List.set_cons_zero, List.map_append]; rfl
set_option maxRecDepth 100000 in
set_option maxHeartbeats 4000000 in
theorem done_ (l : List PIn) (a b c : Int) (d : PTk) (hn : l.length ≤ 500) (hq : ∀ t ∈ l, FewIn t) (hd : FewK d) : LCalls Try.prog 13 [.t (.agg (inlT l)), .t (idT a b c), .t (.agg (takR d))] [] [] (.t (.agg (inlT (doneP l a b c d)))) [] [] := by
  have c1 := ownInlet_ l (by omega) hq
  have c4 := clone_ d.bytes (by have := hd.bytes; omega)
  refine lcalls_of Try.func13 rfl rfl Try.ntmps13 rfl ?_
  unfold inlT idT takR
  repeat' (first | (refine rg 0 ?_; refine sbx ?_; refine sbx ?_; refine sbx ?_; refine sal str29 ?_; refine oN ?_) | refine gc ?_ | refine ct ?_ | refine cf ?_ | refine sc ?_ ?_ <;> intro hc | refine rq rfl (.cell rfl rfl (tyT rfl) (vc .nil) rfl .nil) ?_)
  refine rg 1 ?_
  refine sp (po_load_bx_agg rfl rfl (tyT rfl) rfl (vc .nil) rfl) ?_
  refine sops_ecall c1 (fun i => i) (fun i => i) (.free rfl rfl) rfl rfl rfl (.cons rfl rfl rfl .nil) .nil .nil rfl (fun _ => rfl) fun L => ?_
  obtain ⟨L, hl⟩ := L
  have hll : L.length = l.length := by have := congrArg List.length hl; rw [List.length_map] at this; exact this
  dsimp only
  refine oS ?_
  refine oN ?_
  have c2 := inbound_ L a b c (by omega)
  unfold idT at c2
  rw [← hll]
  repeat' (first | (refine rg 2 ?_; (first | refine sp (po_load_bx_agg rfl rfl (tyT rfl) rfl (vc .nil) rfl) ?_ | refine sp (po_load_agg rfl rfl (tyT rfl) rfl rfl) ?_ | refine sp (lda rfl) ?_ | refine sp (po_load_bx_ag rfl rfl (tyT rfl) rfl rfl rfl rfl) ?_); refine sp (po_load_bx_agg rfl rfl (tyT rfl) rfl (vc (vc (vc .nil))) rfl) ?_; refine sops_lcall (c2) (fun i => i) (fun i => bif Nat.beq i 2001 then 1001 else i) (fun i => Nat.beq i 2001) (.free rfl rfl) rfl rfl rfl (by ((repeat' (first | exact .nil | refine .cons rfl rfl rfl ?_)) <;> fail)) .nil (.cons rfl rfl .nil) rfl rfl (kp_id 2001 rfl rfl rfl (by rfl)) ?_; refine aq0 ?_) | refine gc ?_ | refine ct ?_ | refine cf ?_ | refine sc ?_ ?_ <;> intro hc | refine rq rfl (.cell rfl rfl (tyT rfl) (vc .nil) rfl .nil) ?_)
  rcases idxP_split (fun x : AIn => pIn a b c x.t) L with ⟨h1, h2⟩ | ⟨A, x, B, rfl, h1, h2, h3⟩
  · rw [h1]
    refine swp_weak (st' := SDn a b c d L.length (L.map inR) (famI L) [(7, .t (i64T (-1)))]) (weak_sub (.cons rfl rfl rfl (.cons rfl rfl rfl (.cons rfl rfl rfl (.cons rfl rfl rfl (.cons rfl rfl rfl .nil))))) (.cons rfl rfl rfl (.cons rfl rfl rfl (.cons rfl rfl rfl (.cons rfl rfl rfl (.cons rfl rfl rfl .nil))))) (.cons rfl rfl .nil)) ?_
    have hr : doneP l a b c d = l := by unfold doneP; rw [in_miss hl h2]
    rw [hr]
    unfold SDn
    repeat' (first | refine rg 3 (aq27 ?_) | refine gc ?_ | refine ct ?_ | refine cf ?_ | refine sc ?_ ?_ <;> intro hc | refine rq rfl (.cell rfl rfl (tyT rfl) (vc .nil) rfl .nil) ?_)
    have hK : L.map (fun a => inT' a.t) = l.map inT' := by rw [← hl, List.map_map]; rfl
    have hKl : L.length = (l.map inT').length := by rw [← hK, List.length_map]
    refine swp_weak (weak_famshow 1100 1001 ((L).map fun a : AIn => inT' a.t) (fs := famI (L)) (o := inO (L)) rfl rfl (by show (List.map _ _).length = (List.map _ _).length; rw [List.length_map, List.length_map]) (by intro r hr; obtain ⟨a, _, rfl⟩ := List.mem_map.1 hr; rfl) (upl_in (L))) ?_
    rw [hK]
    refine swp_weak (weak_show 1001 101 rfl rfl rfl rfl) ?_
    repeat' (first | refine rg 8 (aq66 ?_) | refine gc ?_ | refine ct ?_ | refine cf ?_ | refine sc ?_ ?_ <;> intro hc | refine rq rfl (.cell rfl rfl (tyT rfl) (vc .nil) rfl .nil) ?_)
    exact retl1 (.inr rfl) rfl (.cellT rfl rfl (tyT rfl) (vc .nil) rfl .nil) rfl .nil .nil
  · rw [h1]
    refine swp_weak (st' := SDn a b c d (A ++ x :: B).length ((A ++ x :: B).map inR) (famI A ++ (x.u, takO x.t) :: famI B) [(7, .t (i64T ((A.length : Nat) : Int)))]) (by rw [← famI_split]; exact (weak_sub (.cons rfl rfl rfl (.cons rfl rfl rfl (.cons rfl rfl rfl (.cons rfl rfl rfl (.cons rfl rfl rfl .nil))))) (.cons rfl rfl rfl (.cons rfl rfl rfl (.cons rfl rfl rfl (.cons rfl rfl rfl (.cons rfl rfl rfl .nil))))) (.cons rfl rfl .nil))) ?_
    have hr : doneP l a b c d = A.map AIn.t ++ doneK d x.t :: B.map AIn.t := by unfold doneP; rw [in_split hl rfl h2 h3]
    rw [hr]
    have hge : (0 : Int) ≤ ((A.length : Nat) : Int) := by omega
    have hat : ((A ++ x :: B).map inR)[A.length]? = some (inR x) := inO_at
    have hlt : A.length < (A ++ x :: B).length := by rw [List.length_append, List.length_cons]; omega
    have hml : (A ++ x :: B).length = ((A ++ x :: B).map inR).length := (List.length_map _).symm
    have hfx := hq x.t (by rw [← hl]; exact List.mem_map_of_mem (by simp))
    have c3 := idxDn d x.t.taken hfx.taken
    unfold SDn
    repeat' (first | refine rg 3 (aq27 ?_) | refine rg 4 (aq61 ?_) | refine gc ?_ | refine ct ?_ | refine cf ?_ | refine sc ?_ ?_ <;> intro hc | refine rq rfl (.cell rfl rfl (tyT rfl) (vc .nil) rfl .nil) ?_)
    refine rg 5 ?_
    refine oMv ?_
    refine sp (po_nilcheck_oe rfl rfl rfl hml) ?_
    refine sp (fdo rfl) ?_
    refine sp (ldo rfl) ?_
    refine sops_weak (weak_openF 24 1100 1005 90000 (a := famI A) (b := famI B) (o := takO x.t) rfl rfl rfl) ?_
    refine sp (po_func_cl rfl (.cons rfl rfl .nil)) ?_
    refine sops_lcall c3 (fun i => bif Nat.beq i 2000 then 5 else i) (fun i => bif Nat.beq i 2000 then 1005 else i) (fun i => Nat.beq i 2000) (.free rfl rfl) rfl rfl rfl (.cons rfl rfl rfl (.cons rfl rfl rfl .nil)) (.cons rfl rfl .nil) (.cons rfl rfl .nil) rfl rfl (kp_id 2000 rfl rfl rfl rfl) ?_
    refine oAs ?_
    refine sops_weak (weak_closeV 24 1100 1005 90000 (famI A) (famI B) rfl rfl rfl rfl rfl rfl) ?_
    refine oN ?_
    refine then_go ?_
    have hKx : (A ++ x :: B).map (fun a => inT' a.t) = (A.map AIn.t ++ x.t :: B.map AIn.t).map inT' := by simp; rfl
    have hKxl : (A ++ x :: B).length = ((A.map AIn.t ++ x.t :: B.map AIn.t).map inT').length := by simp
    rcases idxP_split (fun q : PTk => decide (q.n = d.n)) x.t.taken with ⟨g1, g2⟩ | ⟨C, q, D, he, g1, g2, g3⟩
    · rw [g1]
      have hr2 : doneK d x.t = x.t := by unfold doneK; rw [cutL_miss g2]
      rw [hr2]
      refine swp_weak (st' := SDf (A ++ x :: B).length ((A ++ x :: B).map inR) (famI (A ++ x :: B)) [(9, .t (i64T (-1)))]) (by rw [famI_split]; exact (weak_sub (.cons rfl rfl rfl (.cons rfl rfl rfl (.cons rfl rfl rfl .nil))) (.cons rfl rfl rfl (.cons rfl rfl rfl (.cons rfl rfl rfl .nil))) (.cons rfl rfl .nil))) ?_
      unfold SDf
      repeat' (first | (refine rg 6 (aq28 ?_) <;> (first | refine sp (po_nilcheck rfl rfl) ?_ | refine sp (po_nilcheck_oe rfl rfl rfl (by rfl)) ?_ | refine oK ?_) <;> (first | refine oFb ?_ | refine oFd ?_ | refine sp (fdo rfl) ?_ | refine oK ?_) <;> (first | refine oLb ?_ | refine oLd ?_ | refine sp (ldo rfl) ?_ | refine oK ?_) <;> (first | refine oMv ?_ | refine oK ?_) <;> (first | refine sp (ixo rfl) ?_ | refine sp (pix rfl (tyS rfl)) ?_ | refine oK ?_) <;> (first | refine oFb ?_ | refine oFd ?_ | refine sp (fdo rfl) ?_ | refine oK ?_) <;> (first | refine oLb ?_ | refine oLd ?_ | refine sp (ldo rfl) ?_ | refine oK ?_) <;> (first | refine oCm ?_ | refine oK ?_) <;> (first | refine oPt ?_ | refine oPf ?_) <;> refine oN ?_) | refine gc ?_ | refine ct ?_ | refine cf ?_ | refine sc ?_ ?_ <;> intro hc | refine rq rfl (.cell rfl rfl (tyT rfl) (vc .nil) rfl .nil) ?_)
      have hK := hKx
      have hKl := hKxl
      refine swp_weak (weak_famshow 1100 1001 ((A ++ x :: B).map fun a : AIn => inT' a.t) (fs := famI (A ++ x :: B)) (o := inO (A ++ x :: B)) rfl rfl (by show (List.map _ _).length = (List.map _ _).length; rw [List.length_map, List.length_map]) (by intro r hr; obtain ⟨a, _, rfl⟩ := List.mem_map.1 hr; rfl) (upl_in (A ++ x :: B))) ?_
      rw [hK]
      refine swp_weak (weak_show 1001 101 rfl rfl rfl rfl) ?_
      repeat' (first | refine rg 8 (aq66 ?_) | refine gc ?_ | refine ct ?_ | refine cf ?_ | refine sc ?_ ?_ <;> intro hc | refine rq rfl (.cell rfl rfl (tyT rfl) (vc .nil) rfl .nil) ?_)
      exact retl1 (.inr rfl) rfl (.cellT rfl rfl (tyT rfl) (vc .nil) rfl .nil) rfl .nil .nil
    · rw [g1]
      have hgq : (0 : Int) ≤ ((C.length : Nat) : Int) := by omega
      have hatq : (x.t.taken.map takR)[C.length]? = some (takR q) := by rw [he]; exact mid_at
      have hltq : C.length < (x.t.taken.map takR).length := by rw [he, List.length_map, List.length_append, List.length_cons]; omega
      have hmq : (x.t.taken.map takR).length = x.t.taken.length := List.length_map _
      refine swp_weak (st' := SDn a b c d (A ++ x :: B).length ((A ++ x :: B).map inR) (famI A ++ (x.u, takO x.t) :: famI B) [(8, .oe 1001 (A ++ x :: B).length 14 A.length 0), (9, .t (i64T ((C.length : Nat) : Int)))]) (weak_sub (.cons rfl rfl rfl (.cons rfl rfl rfl (.cons rfl rfl rfl (.cons rfl rfl rfl (.cons rfl rfl rfl (.cons rfl rfl rfl .nil)))))) (.cons rfl rfl rfl (.cons rfl rfl rfl (.cons rfl rfl rfl (.cons rfl rfl rfl (.cons rfl rfl rfl .nil))))) (.cons rfl rfl .nil)) ?_
      unfold SDn
      refine gc ?_
      refine rg 6 ?_
      refine oMv ?_
      refine oCm ?_
      refine oMv ?_
      refine oMv ?_
      refine sp (po_nilcheck_oe rfl rfl rfl hml) ?_
      refine sp (fdo rfl) ?_
      refine sp (ldo rfl) ?_
      refine sops_weak (weak_openF 33 1100 1005 90000 (a := famI A) (b := famI B) (o := takO x.t) rfl rfl rfl) ?_
      refine oMv ?_
      refine sp (po_index_own (k := C.length) rfl rfl rfl rfl rfl (tyS rfl) rfl hltq) ?_
      refine sp (fdo rfl) ?_
      refine sp (ldo rfl) ?_
      refine oCm ?_
      refine oPt ?_
      refine sops_weak (weak_closeV 33 1100 1005 90000 (famI A) (famI B) rfl rfl rfl rfl rfl rfl) ?_
      refine oN ?_
      refine then_go ?_
      by_cases hq1 : q.done = 1
      · have hr2 : doneK d x.t = x.t := by unfold doneK; rw [he, cutL_hit g3 g2]; dsimp only; rw [if_pos hq1]
        rw [hr2]
        have hdd : (!decide (q.done = 1)) = false := by rw [decide_eq_true hq1]; rfl
        refine cf ?_
        refine swp_weak (st' := SDf (A ++ x :: B).length ((A ++ x :: B).map inR) (famI (A ++ x :: B)) []) (by rw [famI_split]; exact (weak_sub (.cons rfl rfl rfl (.cons rfl rfl rfl .nil)) (.cons rfl rfl rfl (.cons rfl rfl rfl (.cons rfl rfl rfl .nil))) (.cons rfl rfl .nil))) ?_
        unfold SDf
        refine gc ?_
        have hK := hKx
        have hKl := hKxl
        refine swp_weak (weak_famshow 1100 1001 ((A ++ x :: B).map fun a : AIn => inT' a.t) (fs := famI (A ++ x :: B)) (o := inO (A ++ x :: B)) rfl rfl (by show (List.map _ _).length = (List.map _ _).length; rw [List.length_map, List.length_map]) (by intro r hr; obtain ⟨a, _, rfl⟩ := List.mem_map.1 hr; rfl) (upl_in (A ++ x :: B))) ?_
        rw [hK]
        refine swp_weak (weak_show 1001 101 rfl rfl rfl rfl) ?_
        repeat' (first | refine rg 8 (aq66 ?_) | refine gc ?_ | refine ct ?_ | refine cf ?_ | refine sc ?_ ?_ <;> intro hc | refine rq rfl (.cell rfl rfl (tyT rfl) (vc .nil) rfl .nil) ?_)
        exact retl1 (.inr rfl) rfl (.cellT rfl rfl (tyT rfl) (vc .nil) rfl .nil) rfl .nil .nil
      · have hr2 : doneK d x.t = { x.t with taken := C ++ answered d :: D } := by unfold doneK; rw [he, cutL_hit g3 g2]; dsimp only; rw [if_neg hq1]
        rw [hr2]
        have hdd : (!decide (q.done = 1)) = true := by rw [decide_eq_false hq1]; rfl
        refine ct ?_
        refine swp_weak (st' := SDn a b c d (A ++ x :: B).length ((A ++ x :: B).map inR) (famI A ++ (x.u, takO x.t) :: famI B) [(8, .oe 1001 (A ++ x :: B).length 14 A.length 0), (9, .t (i64T ((C.length : Nat) : Int)))]) (weak_sub (.cons rfl rfl rfl (.cons rfl rfl rfl (.cons rfl rfl rfl (.cons rfl rfl rfl (.cons rfl rfl rfl (.cons rfl rfl rfl .nil)))))) (.cons rfl rfl rfl (.cons rfl rfl rfl (.cons rfl rfl rfl (.cons rfl rfl rfl (.cons rfl rfl rfl .nil))))) (.cons rfl rfl .nil)) ?_
        unfold SDn
        refine swp_weak (weak_openN 1100 1005 90000 (a := famI A) (b := famI B) (u := x.u) (o := takO x.t) rfl rfl) ?_
        refine swp_weak (weak_evbx 90000 4 0 rfl rfl) ?_
        dsimp only
        refine swp_any (id := 7) [[], [], [], [], [], [], [], [], [], [], [], [], [], [], [1005]] [[], [], [], [], [], [], [], [], [], [], [], [], [], [], []] mixed (by kernel_rfl) ?_
        refine yp (fun _ _ => po_move rfl rfl) ?_
        refine yp (fun _ _ => po_nilcheck_oe rfl rfl rfl hml) ?_
        refine yp (fun _ _ => po_field_own rfl rfl rfl hml (tyF rfl)) ?_
        refine yp (fun _ _ => po_load_ev (B := 4) (q := 0) rfl rfl rfl hml (tyT rfl) hat rfl rfl rfl rfl rfl) ?_
        refine yp (fun _ _ => po_move rfl rfl) ?_
        refine yp (fun _ _ => po_field_bx rfl rfl (tyF rfl)) ?_
        refine yp (fun _ _ => po_load_bx rfl rfl (tyT rfl) rfl rfl) ?_
        refine yp (fun _ _ => po_field_bx rfl rfl (tyF rfl)) ?_
        refine yp (fun _ _ => po_load_bx rfl rfl (tyT rfl) rfl rfl) ?_
        refine yp (fun _ _ => po_field_bx rfl rfl (tyF rfl)) ?_
        refine yp (fun _ _ => po_load_bx rfl rfl (tyT rfl) rfl rfl) ?_
        refine yp (fun _ _ => po_call c4 rfl (.cons rfl (.t _) .nil)) ?_
        refine yp (fun _ _ => po_buildS str46 rfl (pc (pc (pc (pc .nil)))) rfl) ?_
        refine yp (fun _ _ => po_index_own (k := C.length) rfl rfl rfl rfl rfl (tyS rfl) rfl hltq) ?_
        refine sany_eff [] [(1005, _)] (.free rfl rfl) rfl rfl (fun _ _ _ _ => e_store_own (ts := takR (answered d)) (by rfl) rfl rfl rfl rfl rfl rfl (.t _) rfl rfl (tyT rfl) rfl hatq rfl) ?_
        refine sany_nil ?_
        refine then_go ?_
        have hset : (x.t.taken.map takR).set C.length (takR (answered d)) = (C ++ answered d :: D).map takR := by rw [he]; exact setK
        have hsl : (x.t.taken.map takR).length = ((x.t.taken.map takR).set C.length (takR (answered d))).length := (List.length_set).symm
        refine swp_weak (weak_closeV 43 1100 1005 90000 (famI A) (famI B) rfl rfl rfl rfl hsl hsl) ?_
        have hfs := famI_set (A := A) (B := B) (x := x) (t := { x.t with taken := C ++ answered d :: D }) hset.symm
        have hfg := congrArg (fun f => [Sim.A.rs (FamR f)]) hfs
        have hrw : (⟨42, 14, (A ++ x :: B).map inR⟩ : Own) = ⟨42, 14, (A ++ (⟨{ x.t with taken := C ++ answered d :: D }, x.u⟩ : AIn) :: B).map inR⟩ := by rw [List.map_append, List.map_append]; rfl
        refine swp_weak (st' := SDf (A ++ x :: B).length ((A ++ ⟨{ x.t with taken := C ++ answered d :: D }, x.u⟩ :: B).map inR) (famI (A ++ ⟨{ x.t with taken := C ++ answered d :: D }, x.u⟩ :: B)) []) (weak_sub (.cons rfl (by first | rfl | (first | (exact hfg) | (exact hrw))) rfl (.cons rfl (by first | rfl | (first | (exact hfg) | (exact hrw))) rfl .nil)) (.cons rfl (by first | rfl | (first | (exact hfg) | (exact hrw))) rfl (.cons rfl (by first | rfl | (first | (exact hfg) | (exact hrw))) rfl (.cons rfl (by first | rfl | (first | (exact hfg) | (exact hrw))) rfl .nil))) (.cons rfl (by first | rfl | (first | (exact hfg) | (exact hrw))) .nil)) ?_
        unfold SDf
        refine gc ?_
        have hK : (A ++ (⟨{ x.t with taken := C ++ answered d :: D }, x.u⟩ : AIn) :: B).map (fun a => inT' a.t) = (A.map AIn.t ++ { x.t with taken := C ++ answered d :: D } :: B.map AIn.t).map inT' := by simp; rfl
        have hKl : (A ++ x :: B).length = ((A.map AIn.t ++ { x.t with taken := C ++ answered d :: D } :: B.map AIn.t).map inT').length := by simp
        refine swp_weak (weak_famshow 1100 1001 ((A ++ (⟨{ x.t with taken := C ++ answered d :: D }, x.u⟩ : AIn) :: B).map fun a : AIn => inT' a.t) (fs := famI (A ++ (⟨{ x.t with taken := C ++ answered d :: D }, x.u⟩ : AIn) :: B)) (o := inO (A ++ (⟨{ x.t with taken := C ++ answered d :: D }, x.u⟩ : AIn) :: B)) rfl rfl (by show (List.map _ _).length = (List.map _ _).length; rw [List.length_map, List.length_map]) (by intro r hr; obtain ⟨a, _, rfl⟩ := List.mem_map.1 hr; rfl) (upl_in (A ++ (⟨{ x.t with taken := C ++ answered d :: D }, x.u⟩ : AIn) :: B))) ?_
        rw [hK]
        refine swp_weak (weak_show 1001 101 rfl rfl rfl rfl) ?_
        repeat' (first | refine rg 8 (aq66 ?_) | refine gc ?_ | refine ct ?_ | refine cf ?_ | refine sc ?_ ?_ <;> intro hc | refine rq rfl (.cell rfl rfl (tyT rfl) (vc .nil) rfl .nil) ?_)
        exact retl1 (.inr rfl) rfl (.cellT rfl rfl (tyT rfl) (vc .nil) rfl .nil) rfl .nil .nil
end Go.Proofs.Ytabejnjnkpdjbaa.Sim
