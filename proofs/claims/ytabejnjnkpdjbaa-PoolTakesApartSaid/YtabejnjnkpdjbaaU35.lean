/- Merged by bundles.py: SimNl7. -/
import Derived.Test.YtabejnjnkpdjbaaU27
import Derived.Test.YtabejnjnkpdjbaaU34
import Derived.Test.YtabejnjnkpdjbaaU15
/- Take. (Printed by mk_nl7.py.) -/
namespace Go.Proofs.Ytabejnjnkpdjbaa.Sim
set_option linter.unusedVariables false
set_option linter.unusedSimpArgs false
open Go.RowKit Mem
def zeroK : PTk := ⟨0, 0, 0, []⟩
def newK (n : Int) : PTk := ⟨n, 0, 0, []⟩
def trimK (l : List PTk) : List PTk := if 16 < l.length then l.drop 1 else l
def takeT (now n : Int) (t : PIn) : PIn × Int × PTk := match cutL (fun q : PTk => decide (q.n = n)) t.taken with
  | some (_, q, _) => if q.done = 1 then (usedI now t, 2, q) else (usedI now t, 3, zeroK)
  | none => if 16 ≤ t.taken.length ∧ n < minN t.taken then (usedI now t, 3, zeroK) else ({ t with used := now, taken := trimK (isort (t.taken ++ [newK n])) }, 1, zeroK)
def takeP (l : List PIn) (now peer a b c owner n : Int) : List PIn × Int × PTk := match cutL (pOf peer a b c owner) l with
  | none => (l, 0, zeroK)
  | some (A, x, B) => if n = 0 then (l, 0, zeroK) else (A ++ (takeT now n x).1 :: B, (takeT now n x).2.1, (takeT now n x).2.2)
def rTake (X : List PIn × Int × PTk) : Sim.A := .tu [.t (.agg (inlT X.1)), .t (i64T X.2.1), .t (.agg (takR X.2.2))]
abbrev zT : List A := [.t (u64T 0), .t (i64T 0), .t (i64T 0), .t (.v (.slice none 0 0))]
def SKa (now n : Int) (N : Nat) (rows : List (List T)) (F : List (Value × Own)) (tm : List (Nat × A)) : St := ⟨(6, .bp 6 0) :: (11, .bp 11 0) :: (12, .bp 12 0) :: (13, .t (i64T 0)) :: (14, .bp 14 0) :: tm, [(6, [.own 1001 N]), (11, [.t (u64T n)]), (12, [.t (.v (.slice none 0 0))]), (14, zT), (1100, [.rs (FamR F)])], [(1001, ⟨42, 14, rows⟩)]⟩
def SKb (now n : Int) (a b c : Int) (N : Nat) (rows : List (List T)) (F : List (Value × Own)) (tm : List (Nat × A)) : St := ⟨(1, .t (u64T now)) :: (6, .bp 6 0) :: (9, .bp 9 0) :: (11, .bp 11 0) :: (12, .bp 12 0) :: (13, .t (i64T 0)) :: (14, .bp 14 0) :: tm, [(6, [.own 1001 N]), (9, [.t (i64T a), .t (u64T b), .t (u64T c)]), (11, [.t (u64T n)]), (12, [.t (.v (.slice none 0 0))]), (14, zT), (1100, [.rs (FamR F)])], [(1001, ⟨42, 14, rows⟩)]⟩
def SKo (now n : Int) (b c : Int) (N m : Nat) (u : Value) (rows : List (List T)) (ks : List PTk) (F : List (Value × Own)) (tm : List (Nat × A)) : St := ⟨(6, .bp 6 0) :: (9, .bp 9 0) :: (11, .bp 11 0) :: (12, .bp 12 0) :: (13, .t (i64T 0)) :: (14, .bp 14 0) :: (90000, .ev 1005 m u) :: tm, [(6, [.own 1001 N]), (9, [.ev 1005 m u, .t (u64T b), .t (u64T c)]), (11, [.t (u64T n)]), (12, [.t (.v (.slice none 0 0))]), (14, zT), (1100, [.rs (FamR F)])], [(1001, ⟨42, 14, rows⟩), (1005, ⟨46, 4, ks.map takR⟩)]⟩
theorem inT_set {A B : List AIn} {x : AIn} (t : PIn) : ((A ++ x :: B).map inR).set A.length (inT' t) = A.map inR ++ inT' t :: B.map inR := by
  rw [List.map_append, List.map_cons, List.set_append_right _ _ (by rw [List.length_map]; exact Nat.le_refl _), List.length_map, Nat.sub_self, List.set_cons_zero]
theorem upl_mid (A B : List AIn) (t : PIn) : UpL (famI A ++ famI B) (A.map inR ++ inT' t :: B.map inR).flatten (A.map (fun a => inT' a.t) ++ inT' t :: B.map fun a => inT' a.t).flatten := by
  rw [List.flatten_append, List.flatten_append, List.flatten_cons, List.flatten_cons]
  exact ((upl_in A).mono fun p hp => List.mem_append_left _ hp).app ((UpL.keeps _).app ((upl_in B).mono fun p hp => List.mem_append_right _ hp))
set_option maxRecDepth 100000 in
set_option maxHeartbeats 4000000 in
theorem takeNew_ {c0 d0 : Code} (hc0 : fS 14 (bodyOf Try.f11) = some (.seq c0 d0)) {Q : Exit → St → Prop} (now n b c : Int) (A B : List AIn) (x : AIn) (N : Nat) (hN : N = (A ++ x :: B).length) (hb : N ≤ 500) (hk : x.t.taken.length + 1 ≤ sortB)
    (hret : ∀ st, RetL Try.prog Try.f11 (rTake (A.map AIn.t ++ { x.t with used := now, taken := trimK (isort (x.t.taken ++ [newK n])) } :: B.map AIn.t, 1, zeroK)) [] [] .ret st → Q .ret st) : SWp Try.prog 118 c0 (Then Try.prog 118 d0 Q) (SKo now n b c N (x.t.taken.map takR).length x.u ((A ++ ⟨usedI now x.t, x.u⟩ :: B).map inR) x.t.taken (famI A ++ famI B) [(16, .oe 1001 N 14 A.length 0)]) := by
  obtain ⟨rfl, rfl⟩ := Code.seq.inj (Option.some.inj hc0)
  have hat : ((A ++ (⟨usedI now x.t, x.u⟩ : AIn) :: B).map inR)[A.length]? = some (inR ⟨usedI now x.t, x.u⟩) := inO_at
  have hlt : A.length < N := by rw [hN, List.length_append, List.length_cons]; omega
  have hml : N = ((A ++ (⟨usedI now x.t, x.u⟩ : AIn) :: B).map inR).length := by rw [List.length_map, hN]; exact len_mid
  have hmk : (x.t.taken.map takR).length = x.t.taken.length := List.length_map _
  unfold sortB at hk
  unfold SKo
  refine swp_anyN (id := 14) 9 [[], [], [], [], [], [], [], [], [1005], [], [], []] [[1005], [], [], [], [], [], [], [], [], [], [], []] mixed (by kernel_rfl) (by kernel_rfl) rfl ?_
  refine yp (fun _ _ => po_move rfl rfl) ?_
  refine yp (fun _ _ => po_move rfl rfl) ?_
  refine yp (fun _ _ => po_nilcheck_oe rfl rfl rfl hml) ?_
  refine yp (fun _ _ => po_field_own rfl rfl rfl hml (tyF rfl)) ?_
  refine yp (fun _ _ => po_load_ev (B := 9) (q := 0) rfl rfl rfl hml (tyT rfl) hat rfl rfl rfl rfl rfl) ?_
  refine yp (fun _ _ => po_load_bx rfl rfl (tyT rfl) rfl rfl) ?_
  refine yp (fun _ _ => po_build_agl str46 rfl (.cons rfl .nil) rfl rfl) ?_
  refine yp (fun _ _ => po_buildSlice (rows := [takR (newK n)]) rfl (tyE rfl) (.cons rfl (.agc (.t _) (.agc (.t _) (.agc (.t _) (.agc (.nil 1) .agn)))) rfl rfl (.nil _)) rfl rfl rfl) ?_
  refine sany_eff [] [(1005, _)] (.free rfl rfl) rfl rfl (fun _ _ _ _ => e_append rfl rfl rfl rfl rfl (.t _) (tyE rfl) (by simp only [List.length_map, List.length_cons, List.length_nil]; omega) (by unfold maxLen; simp only [List.length_map, List.length_cons, List.length_nil]; omega)) ?_
  refine sany_nil ?_
  refine sops_weakE (weak_closeS 94 1100 1005 (famI A) (famI B) rfl rfl rfl rfl) fun y => ?_
  refine sp (po_nilcheck_oe rfl rfl rfl hml) ?_
  refine sp (fdo rfl) ?_
  refine sso ?_
  refine oN ?_
  refine then_go ?_
  have hmapp : x.t.taken.map takR ++ [takR (newK n)] = (x.t.taken ++ [newK n]).map takR := by rw [List.map_append]; rfl
  have hfr := congrArg (fun r => [Sim.A.rs (FamR (famI A ++ (.slice y.1 y.2.1 y.2.2, (⟨46, 4, r⟩ : Own)) :: famI B))]) hmapp
  have hset' := congrArg (fun r => (⟨42, 14, r⟩ : Own)) (inO_set (A := A) (B := B) (a := ⟨usedI now x.t, x.u⟩) ⟨usedI now x.t, .slice y.1 y.2.1 y.2.2⟩)
  refine swp_weak (st' := SKa now n N ((A ++ ⟨usedI now x.t, .slice y.1 y.2.1 y.2.2⟩ :: B).map inR) (famI A ++ (.slice y.1 y.2.1 y.2.2, (⟨46, 4, (x.t.taken ++ [newK n]).map takR⟩ : Own)) :: famI B) [(16, .oe 1001 N 14 A.length 0)]) (weak_sub (.cons rfl (by first | rfl | (first | (exact hset') | (exact hfr))) rfl (.cons rfl (by first | rfl | (first | (exact hset') | (exact hfr))) rfl (.cons rfl (by first | rfl | (first | (exact hset') | (exact hfr))) rfl (.cons rfl (by first | rfl | (first | (exact hset') | (exact hfr))) rfl (.cons rfl (by first | rfl | (first | (exact hset') | (exact hfr))) rfl (.cons rfl (by first | rfl | (first | (exact hset') | (exact hfr))) rfl .nil)))))) (.cons rfl (by first | rfl | (first | (exact hset') | (exact hfr))) rfl (.cons rfl (by first | rfl | (first | (exact hset') | (exact hfr))) rfl (.cons rfl (by first | rfl | (first | (exact hset') | (exact hfr))) rfl (.cons rfl (by first | rfl | (first | (exact hset') | (exact hfr))) rfl (.cons rfl (by first | rfl | (first | (exact hset') | (exact hfr))) rfl .nil))))) (.cons rfl (by first | rfl | (first | (exact hset') | (exact hfr))) .nil)) ?_
  generalize Value.slice y.1 y.2.1 y.2.2 = u
  have hkl : (x.t.taken ++ [newK n]).length ≤ 501 := by rw [List.length_append]; exact hk
  generalize x.t.taken ++ [newK n] = ks at *
  clear hat hml hset' hfr hmapp hmk
  have hat : ((A ++ (⟨usedI now x.t, u⟩ : AIn) :: B).map inR)[A.length]? = some (inR ⟨usedI now x.t, u⟩) := inO_at
  have hml : N = ((A ++ (⟨usedI now x.t, u⟩ : AIn) :: B).map inR).length := by rw [List.length_map, hN]; exact len_mid
  have c7 := sortS_ ks hkl
  have hks : (ks.map takR).length = ks.length := List.length_map _
  have hksi : ((isort ks).map takR).length = ks.length := by rw [List.length_map, isort_len]
  unfold SKa
  refine gc ?_
  refine rg 15 ?_
  refine oMv ?_
  refine sp (po_nilcheck_oe rfl rfl rfl hml) ?_
  refine sp (fdo rfl) ?_
  refine sp (ldo rfl) ?_
  refine sops_weak (weak_openF 100 1100 1005 90000 (a := famI A) (b := famI B) (o := ⟨46, 4, ks.map takR⟩) rfl rfl rfl) ?_
  dsimp only
  rw [hks]
  refine sops_lcall c7 (fun i => i) (fun i => bif Nat.beq i 2000 then 1005 else i) (fun i => Nat.beq i 2000) (.free rfl rfl) rfl rfl rfl (.cons rfl rfl rfl (.vw rfl (.fn _) .nil)) .nil (.cons rfl rfl .nil) rfl rfl (kp_id 2000 rfl rfl rfl (by show ((isort ks).map takR).length = (ks.map takR).length; rw [hksi, hks])) ?_
  refine sops_weak (weak_closeV 100 1100 1005 90000 (famI A) (famI B) rfl rfl rfl rfl hksi.symm hksi.symm) ?_
  refine oN ?_
  refine then_go ?_
  refine swp_weak (st' := SKa now n N ((A ++ ⟨usedI now x.t, u⟩ :: B).map inR) (famI A ++ (u, (⟨46, 4, (isort ks).map takR⟩ : Own)) :: famI B) [(16, .oe 1001 N 14 A.length 0)]) (weak_sub (.cons rfl rfl rfl (.cons rfl rfl rfl (.cons rfl rfl rfl (.cons rfl rfl rfl (.cons rfl rfl rfl (.cons rfl rfl rfl .nil)))))) (.cons rfl rfl rfl (.cons rfl rfl rfl (.cons rfl rfl rfl (.cons rfl rfl rfl (.cons rfl rfl rfl .nil))))) (.cons rfl rfl .nil)) ?_
  have hil : (isort ks).length ≤ 501 := by rw [isort_len]; exact hkl
  generalize isort ks = zs at *
  have hzs : (zs.map takR).length = zs.length := List.length_map _
  unfold SKa
  refine gc ?_
  refine rg 16 ?_
  refine oMv ?_
  refine sp (po_nilcheck_oe rfl rfl rfl hml) ?_
  refine sp (fdo rfl) ?_
  refine sp (ldo rfl) ?_
  refine sops_weak (weak_openF 105 1100 1005 90000 (a := famI A) (b := famI B) (o := ⟨46, 4, zs.map takR⟩) rfl rfl rfl) ?_
  refine sp (po_len_own rfl rfl (tyS rfl)) ?_
  refine oCm ?_
  refine sops_weak (weak_closeV 105 1100 1005 90000 (famI A) (famI B) rfl rfl rfl rfl rfl rfl) ?_
  refine oN ?_
  refine then_go ?_
  dsimp only
  by_cases h17 : 16 < zs.length
  · have hd : decide ((16 : Int) < ((zs.map takR).length : Int)) = true := decide_eq_true (by rw [hzs]; omega)
    rw [show trimK zs = zs.drop 1 from if_pos h17] at hret
    refine ct ?_
    refine swp_weak (st' := SKa now n N ((A ++ ⟨usedI now x.t, u⟩ :: B).map inR) (famI A ++ (u, (⟨46, 4, zs.map takR⟩ : Own)) :: famI B) [(16, .oe 1001 N 14 A.length 0)]) (weak_sub (.cons rfl rfl rfl (.cons rfl rfl rfl (.cons rfl rfl rfl (.cons rfl rfl rfl (.cons rfl rfl rfl (.cons rfl rfl rfl .nil)))))) (.cons rfl rfl rfl (.cons rfl rfl rfl (.cons rfl rfl rfl (.cons rfl rfl rfl (.cons rfl rfl rfl .nil))))) (.cons rfl rfl .nil)) ?_
    unfold SKa
    refine rg 17 ?_
    refine oMv ?_
    refine oMv ?_
    refine sp (po_nilcheck_oe rfl rfl rfl hml) ?_
    refine sp (fdo rfl) ?_
    refine sp (ldo rfl) ?_
    refine sops_weak (weak_openF 112 1100 1005 90000 (a := famI A) (b := famI B) (o := ⟨46, 4, zs.map takR⟩) rfl rfl rfl) ?_
    refine sops_weak (weak_show 1005 105 rfl rfl rfl rfl) ?_
    dsimp only
    refine sp (po_slice (l := 1) (h' := (zs.map takR).length) rfl rfl (.own rfl rfl) (tyS rfl) ⟨_, rfl⟩ rfl (by omega) (Nat.le_refl _)) ?_
    refine sp (po_nilcheck_oe rfl rfl rfl hml) ?_
    refine sp (fdo rfl) ?_
    refine sso ?_
    refine oN ?_
    refine then_go ?_
    have hdr : ((zs.map takR).take (zs.map takR).length).drop 1 = (zs.drop 1).map takR := by rw [List.take_length, List.map_drop]
    have hsetT : (⟨42, 14, ((A ++ (⟨usedI now x.t, u⟩ : AIn) :: B).map inR).set A.length (inC (usedI now x.t) (.sl 4 (((zs.map takR).take (zs.map takR).length).drop 1)))⟩ : Own) = ⟨42, 14, A.map inR ++ inT' { x.t with used := now, taken := zs.drop 1 } :: B.map inR⟩ := by rw [hdr]; exact congrArg (fun r => (⟨42, 14, r⟩ : Own)) (inT_set (A := A) (B := B) (x := ⟨usedI now x.t, u⟩) { x.t with used := now, taken := zs.drop 1 })
    refine swp_weak (st' := SKa now n N (A.map inR ++ inT' { x.t with used := now, taken := zs.drop 1 } :: B.map inR) (famI A ++ famI B) []) (weak_sub (.cons rfl (by first | rfl | (first | (exact hsetT))) rfl (.cons rfl (by first | rfl | (first | (exact hsetT))) rfl (.cons rfl (by first | rfl | (first | (exact hsetT))) rfl (.cons rfl (by first | rfl | (first | (exact hsetT))) rfl (.cons rfl (by first | rfl | (first | (exact hsetT))) rfl .nil))))) (.cons rfl (by first | rfl | (first | (exact hsetT))) rfl (.cons rfl (by first | rfl | (first | (exact hsetT))) rfl (.cons rfl (by first | rfl | (first | (exact hsetT))) rfl (.cons rfl (by first | rfl | (first | (exact hsetT))) rfl (.cons rfl (by first | rfl | (first | (exact hsetT))) rfl .nil))))) (.cons rfl (by first | rfl | (first | (exact hsetT))) .nil)) ?_
    unfold SKa
    refine gc ?_
    have hK : A.map (fun a => inT' a.t) ++ inT' { x.t with used := now, taken := zs.drop 1 } :: B.map (fun a => inT' a.t) = (A.map AIn.t ++ { x.t with used := now, taken := zs.drop 1 } :: B.map AIn.t).map inT' := by simp; rfl
    have hKl : N = ((A.map AIn.t ++ { x.t with used := now, taken := zs.drop 1 } :: B.map AIn.t).map inT').length := by rw [hN]; simp
    refine swp_weak (weak_famshow 1100 1001 (A.map (fun a => inT' a.t) ++ inT' { x.t with used := now, taken := zs.drop 1 } :: B.map (fun a => inT' a.t)) (fs := famI A ++ famI B) (o := ⟨42, 14, A.map inR ++ inT' { x.t with used := now, taken := zs.drop 1 } :: B.map inR⟩) rfl rfl (by simp) (by intro r hr; rcases List.mem_append.1 hr with h | h; obtain ⟨a, _, rfl⟩ := List.mem_map.1 h; rfl; rcases List.mem_cons.1 h with rfl | h; rfl; obtain ⟨a, _, rfl⟩ := List.mem_map.1 h; rfl) (upl_mid A B _)) ?_
    rw [hK]
    refine swp_weak (weak_show 1001 101 rfl rfl rfl rfl) ?_
    repeat' (first | (refine rg 18 (aq64 ?_); refine sp (po_buildS str46 rfl .nil rfl) ?_; refine aq65 ?_) | refine gc ?_ | refine ct ?_ | refine cf ?_ | refine sc ?_ ?_ <;> intro hc | refine rq rfl (.cell rfl rfl (tyT rfl) (vc .nil) rfl (rt (.cell rfl rfl (tyT rfl) (vc (vc (vc (vc .nil)))) rfl .nil))) ?_)
    refine hret _ ?_
    exact retl (.inr rfl) rfl (.cellT rfl rfl (tyT rfl) (vc .nil) rfl (.tmp rfl rfl (.cellT rfl rfl (tyT rfl) (vc (vc (vc (vc .nil)))) rfl .nil))) rfl rfl .nil .nil
  · have hd : decide ((16 : Int) < ((zs.map takR).length : Int)) = false := decide_eq_false (by rw [hzs]; omega)
    rw [show trimK zs = zs from if_neg h17] at hret
    have hfam : famI A ++ (u, (⟨46, 4, zs.map takR⟩ : Own)) :: famI B = famI (A ++ (⟨{ x.t with used := now, taken := zs }, u⟩ : AIn) :: B) := by rw [famI_split]; rfl
    have hfg := congrArg (fun f => [Sim.A.rs (FamR f)]) hfam
    have hrw : (⟨42, 14, (A ++ (⟨usedI now x.t, u⟩ : AIn) :: B).map inR⟩ : Own) = ⟨42, 14, (A ++ (⟨{ x.t with used := now, taken := zs }, u⟩ : AIn) :: B).map inR⟩ := by rw [List.map_append, List.map_append]; rfl
    refine cf ?_
    refine swp_weak (st' := SKa now n N ((A ++ ⟨{ x.t with used := now, taken := zs }, u⟩ :: B).map inR) (famI (A ++ ⟨{ x.t with used := now, taken := zs }, u⟩ :: B)) []) (weak_sub (.cons rfl (by first | rfl | (first | (exact hrw) | (exact hfg))) rfl (.cons rfl (by first | rfl | (first | (exact hrw) | (exact hfg))) rfl (.cons rfl (by first | rfl | (first | (exact hrw) | (exact hfg))) rfl (.cons rfl (by first | rfl | (first | (exact hrw) | (exact hfg))) rfl (.cons rfl (by first | rfl | (first | (exact hrw) | (exact hfg))) rfl .nil))))) (.cons rfl (by first | rfl | (first | (exact hrw) | (exact hfg))) rfl (.cons rfl (by first | rfl | (first | (exact hrw) | (exact hfg))) rfl (.cons rfl (by first | rfl | (first | (exact hrw) | (exact hfg))) rfl (.cons rfl (by first | rfl | (first | (exact hrw) | (exact hfg))) rfl (.cons rfl (by first | rfl | (first | (exact hrw) | (exact hfg))) rfl .nil))))) (.cons rfl (by first | rfl | (first | (exact hrw) | (exact hfg))) .nil)) ?_
    unfold SKa
    refine gc ?_
    have hK : (A ++ (⟨{ x.t with used := now, taken := zs }, u⟩ : AIn) :: B).map (fun a => inT' a.t) = (A.map AIn.t ++ { x.t with used := now, taken := zs } :: B.map AIn.t).map inT' := by simp; rfl
    have hKl : N = ((A.map AIn.t ++ { x.t with used := now, taken := zs } :: B.map AIn.t).map inT').length := by rw [hN]; simp
    refine swp_weak (weak_famshow 1100 1001 ((A ++ (⟨{ x.t with used := now, taken := zs }, u⟩ : AIn) :: B).map fun a : AIn => inT' a.t) (fs := famI (A ++ (⟨{ x.t with used := now, taken := zs }, u⟩ : AIn) :: B)) (o := inO (A ++ (⟨{ x.t with used := now, taken := zs }, u⟩ : AIn) :: B)) rfl rfl (by show (List.map _ _).length = (List.map _ _).length; rw [List.length_map, List.length_map]) (by intro r hr; obtain ⟨a, _, rfl⟩ := List.mem_map.1 hr; rfl) (upl_in (A ++ (⟨{ x.t with used := now, taken := zs }, u⟩ : AIn) :: B))) ?_
    rw [hK]
    refine swp_weak (weak_show 1001 101 rfl rfl rfl rfl) ?_
    repeat' (first | (refine rg 18 (aq64 ?_); refine sp (po_buildS str46 rfl .nil rfl) ?_; refine aq65 ?_) | refine gc ?_ | refine ct ?_ | refine cf ?_ | refine sc ?_ ?_ <;> intro hc | refine rq rfl (.cell rfl rfl (tyT rfl) (vc .nil) rfl (rt (.cell rfl rfl (tyT rfl) (vc (vc (vc (vc .nil)))) rfl .nil))) ?_)
    refine hret _ ?_
    exact retl (.inr rfl) rfl (.cellT rfl rfl (tyT rfl) (vc .nil) rfl (.tmp rfl rfl (.cellT rfl rfl (tyT rfl) (vc (vc (vc (vc .nil)))) rfl .nil))) rfl rfl .nil .nil
set_option maxRecDepth 100000 in
set_option maxHeartbeats 4000000 in
theorem take_ (l : List PIn) (now peer a b c owner n : Int) (hn : l.length ≤ 500) (hq : ∀ t ∈ l, FewIn t) (hk : ∀ t ∈ l, t.taken.length + 1 ≤ sortB) : LCalls Try.prog 11 [.t (.agg (inlT l)), .t (u64T now), .t (i64T peer), .t (idT a b c), .t (u64T owner), .t (u64T n)] [] [] (rTake (takeP l now peer a b c owner n)) [] [] := by
  have c1 := ownInlet_ l (by omega) hq
  refine lcalls_of Try.func11 rfl rfl Try.ntmps11 rfl ?_
  unfold inlT idT
  repeat' (first | (refine rg 0 ?_; refine sbx ?_; refine sbx ?_; refine sbx ?_; refine sal str29 ?_; refine oAs ?_; refine sal str46 ?_; refine oN ?_) | refine gc ?_ | refine ct ?_ | refine cf ?_ | refine sc ?_ ?_ <;> intro hc | refine rq rfl (.cell rfl rfl (tyT rfl) (vc .nil) rfl (rt (.cell rfl rfl (tyT rfl) (vc (vc (vc (vc .nil)))) rfl .nil))) ?_)
  refine rg 1 ?_
  refine sp (po_load_bx_agg rfl rfl (tyT rfl) rfl (vc .nil) rfl) ?_
  refine sops_ecall c1 (fun i => i) (fun i => i) (.free rfl rfl) rfl rfl rfl (.cons rfl rfl rfl .nil) .nil .nil rfl (fun _ => rfl) fun L => ?_
  obtain ⟨L, hl⟩ := L
  have hll : L.length = l.length := by have := congrArg List.length hl; rw [List.length_map] at this; exact this
  dsimp only
  refine oS ?_
  refine oN ?_
  have c2 := of_ L peer a b c owner (by omega)
  unfold idT at c2
  rw [← hll]
  repeat' (first | (refine rg 2 (aq66 ?_); refine sops_lcall (c2) (fun i => i) (fun i => bif Nat.beq i 2001 then 1001 else i) (fun i => Nat.beq i 2001) (.free rfl rfl) rfl rfl rfl (by ((repeat' (first | exact .nil | refine .cons rfl rfl rfl ?_)) <;> fail)) .nil (.cons rfl rfl .nil) rfl rfl (kp_id 2001 rfl rfl rfl (by rfl)) ?_; refine aq0 ?_) | refine gc ?_ | refine ct ?_ | refine cf ?_ | refine sc ?_ ?_ <;> intro hc | refine rq rfl (.cell rfl rfl (tyT rfl) (vc .nil) rfl (rt (.cell rfl rfl (tyT rfl) (vc (vc (vc (vc .nil)))) rfl .nil))) ?_)
  have hK0 : L.map (fun a => inT' a.t) = l.map inT' := by rw [← hl, List.map_map]; rfl
  have hKl0 : L.length = (l.map inT').length := by rw [← hK0, List.length_map]
  rcases idxP_split (fun x : AIn => pOf peer a b c owner x.t) L with ⟨h1, h2⟩ | ⟨A, x, B, rfl, h1, h2, h3⟩
  · rw [h1]
    refine swp_weak (st' := SKa now n L.length (L.map inR) (famI L) [(15, .t (i64T (-1)))]) (weak_sub (.cons rfl rfl rfl (.cons rfl rfl rfl (.cons rfl rfl rfl (.cons rfl rfl rfl (.cons rfl rfl rfl (.cons rfl rfl rfl .nil)))))) (.cons rfl rfl rfl (.cons rfl rfl rfl (.cons rfl rfl rfl (.cons rfl rfl rfl (.cons rfl rfl rfl .nil))))) (.cons rfl rfl .nil)) ?_
    have hr : takeP l now peer a b c owner n = (l, 0, zeroK) := by unfold takeP; rw [in_miss hl h2]
    rw [hr]
    unfold SKa
    repeat' (first | refine rg 3 (aq36 ?_) | refine gc ?_ | refine ct ?_ | refine cf ?_ | refine sc ?_ ?_ <;> intro hc | refine rq rfl (.cell rfl rfl (tyT rfl) (vc .nil) rfl (rt (.cell rfl rfl (tyT rfl) (vc (vc (vc (vc .nil)))) rfl .nil))) ?_)
    have hK := hK0
    have hKl := hKl0
    refine swp_weak (weak_famshow 1100 1001 ((L).map fun a : AIn => inT' a.t) (fs := famI (L)) (o := inO (L)) rfl rfl (by show (List.map _ _).length = (List.map _ _).length; rw [List.length_map, List.length_map]) (by intro r hr; obtain ⟨a, _, rfl⟩ := List.mem_map.1 hr; rfl) (upl_in (L))) ?_
    rw [hK]
    refine swp_weak (weak_show 1001 101 rfl rfl rfl rfl) ?_
    repeat' (first | (refine rg 4 (aq64 ?_); refine sp (po_buildS str46 rfl .nil rfl) ?_; refine aq65 ?_) | refine gc ?_ | refine ct ?_ | refine cf ?_ | refine sc ?_ ?_ <;> intro hc | refine rq rfl (.cell rfl rfl (tyT rfl) (vc .nil) rfl (rt (.cell rfl rfl (tyT rfl) (vc (vc (vc (vc .nil)))) rfl .nil))) ?_)
    exact retl (.inr rfl) rfl (.cellT rfl rfl (tyT rfl) (vc .nil) rfl (.tmp rfl rfl (.cellT rfl rfl (tyT rfl) (vc (vc (vc (vc .nil)))) rfl .nil))) rfl rfl .nil .nil
  · rw [h1]
    refine swp_weak (st' := SKb now n a b c (A ++ x :: B).length ((A ++ x :: B).map inR) (famI (A ++ x :: B)) [(15, .t (i64T ((A.length : Nat) : Int)))]) (weak_sub (.cons rfl rfl rfl (.cons rfl rfl rfl (.cons rfl rfl rfl (.cons rfl rfl rfl (.cons rfl rfl rfl (.cons rfl rfl rfl (.cons rfl rfl rfl (.cons rfl rfl rfl .nil)))))))) (.cons rfl rfl rfl (.cons rfl rfl rfl (.cons rfl rfl rfl (.cons rfl rfl rfl (.cons rfl rfl rfl (.cons rfl rfl rfl .nil)))))) (.cons rfl rfl .nil)) ?_
    have hge : ¬ ((A.length : Nat) : Int) < (0 : Int) := by omega
    by_cases hn0 : n = 0
    · have hr : takeP l now peer a b c owner n = (l, 0, zeroK) := by unfold takeP; rw [in_split hl rfl h2 h3]; dsimp only; rw [if_pos hn0]
      have hnd : decide (n = 0) = true := decide_eq_true hn0
      rw [hr]
      unfold SKb
      repeat' (first | refine rg 3 (aq38 ?_) | refine gc ?_ | refine ct ?_ | refine cf ?_ | refine sc ?_ ?_ <;> intro hc | refine rq rfl (.cell rfl rfl (tyT rfl) (vc .nil) rfl (rt (.cell rfl rfl (tyT rfl) (vc (vc (vc (vc .nil)))) rfl .nil))) ?_)
      have hK := hK0
      have hKl := hKl0
      refine swp_weak (weak_famshow 1100 1001 ((A ++ x :: B).map fun a : AIn => inT' a.t) (fs := famI (A ++ x :: B)) (o := inO (A ++ x :: B)) rfl rfl (by show (List.map _ _).length = (List.map _ _).length; rw [List.length_map, List.length_map]) (by intro r hr; obtain ⟨a, _, rfl⟩ := List.mem_map.1 hr; rfl) (upl_in (A ++ x :: B))) ?_
      rw [hK]
      refine swp_weak (weak_show 1001 101 rfl rfl rfl rfl) ?_
      repeat' (first | (refine rg 4 (aq64 ?_); refine sp (po_buildS str46 rfl .nil rfl) ?_; refine aq65 ?_) | refine gc ?_ | refine ct ?_ | refine cf ?_ | refine sc ?_ ?_ <;> intro hc | refine rq rfl (.cell rfl rfl (tyT rfl) (vc .nil) rfl (rt (.cell rfl rfl (tyT rfl) (vc (vc (vc (vc .nil)))) rfl .nil))) ?_)
      exact retl (.inr rfl) rfl (.cellT rfl rfl (tyT rfl) (vc .nil) rfl (.tmp rfl rfl (.cellT rfl rfl (tyT rfl) (vc (vc (vc (vc .nil)))) rfl .nil))) rfl rfl .nil .nil
    have hnd : decide (n = 0) = false := decide_eq_false hn0
    have hr : takeP l now peer a b c owner n = (A.map AIn.t ++ (takeT now n x.t).1 :: B.map AIn.t, (takeT now n x.t).2.1, (takeT now n x.t).2.2) := by unfold takeP; rw [in_split hl rfl h2 h3]; dsimp only; rw [if_neg hn0]
    rw [hr]
    clear hr
    have hat : ((A ++ x :: B).map inR)[A.length]? = some (inR x) := inO_at
    have hlt : A.length < (A ++ x :: B).length := by rw [List.length_append, List.length_cons]; omega
    have hml : (A ++ x :: B).length = ((A ++ x :: B).map inR).length := (List.length_map _).symm
    have hfx := hq x.t (by rw [← hl]; exact List.mem_map_of_mem (by simp))
    have hkx := hk x.t (by rw [← hl]; exact List.mem_map_of_mem (by simp))
    have c3 := idxTk n x.t.taken hfx.taken
    unfold SKb
    repeat' (first | refine rg 3 (aq38 ?_) | refine rg 5 (aq40 ?_) | (refine rg 6 (aq16 ?_); (first | refine sp (po_nilcheck rfl rfl) ?_ | refine sp (po_nilcheck_oe rfl rfl rfl (by first | rfl | assumption)) ?_); refine aq13 ?_) | refine gc ?_ | refine ct ?_ | refine cf ?_ | refine sc ?_ ?_ <;> intro hc | refine rq rfl (.cell rfl rfl (tyT rfl) (vc .nil) rfl (rt (.cell rfl rfl (tyT rfl) (vc (vc (vc (vc .nil)))) rfl .nil))) ?_)
    have hset := congrArg (fun r => (⟨42, 14, r⟩ : Own)) (inO_set (A := A) (B := B) (a := x) ⟨usedI now x.t, x.u⟩)
    refine swp_weak (st' := SKb now n a b c (A ++ x :: B).length ((A ++ ⟨usedI now x.t, x.u⟩ :: B).map inR) (famI A ++ (x.u, takO x.t) :: famI B) [(16, .oe 1001 (A ++ x :: B).length 14 A.length 0)]) (by rw [← famI_split]; exact (weak_sub (.cons rfl (by first | rfl | (first | (exact hset))) rfl (.cons rfl (by first | rfl | (first | (exact hset))) rfl (.cons rfl (by first | rfl | (first | (exact hset))) rfl (.cons rfl (by first | rfl | (first | (exact hset))) rfl (.cons rfl (by first | rfl | (first | (exact hset))) rfl (.cons rfl (by first | rfl | (first | (exact hset))) rfl (.cons rfl (by first | rfl | (first | (exact hset))) rfl (.cons rfl (by first | rfl | (first | (exact hset))) rfl .nil)))))))) (.cons rfl (by first | rfl | (first | (exact hset))) rfl (.cons rfl (by first | rfl | (first | (exact hset))) rfl (.cons rfl (by first | rfl | (first | (exact hset))) rfl (.cons rfl (by first | rfl | (first | (exact hset))) rfl (.cons rfl (by first | rfl | (first | (exact hset))) rfl (.cons rfl (by first | rfl | (first | (exact hset))) rfl .nil)))))) (.cons rfl (by first | rfl | (first | (exact hset))) .nil))) ?_
    clear hat hml
    have hat : ((A ++ (⟨usedI now x.t, x.u⟩ : AIn) :: B).map inR)[A.length]? = some (inR ⟨usedI now x.t, x.u⟩) := inO_at
    have hml : (A ++ x :: B).length = ((A ++ (⟨usedI now x.t, x.u⟩ : AIn) :: B).map inR).length := by rw [List.length_map]; exact len_mid
    have hKx : (A ++ (⟨usedI now x.t, x.u⟩ : AIn) :: B).map (fun a => inT' a.t) = (A.map AIn.t ++ usedI now x.t :: B.map AIn.t).map inT' := by simp; rfl
    have hKxl : (A ++ x :: B).length = ((A.map AIn.t ++ usedI now x.t :: B.map AIn.t).map inT').length := by simp
    have hfam : famI A ++ (x.u, takO x.t) :: famI B = famI (A ++ (⟨usedI now x.t, x.u⟩ : AIn) :: B) := by rw [famI_split]; rfl
    have hmk : (x.t.taken.map takR).length = x.t.taken.length := List.length_map _
    unfold SKb
    refine swp_weak (weak_openN 1100 1005 90000 (a := famI A) (b := famI B) (u := x.u) (o := takO x.t) rfl rfl) ?_
    refine swp_weak (weak_evbx 90000 9 0 rfl rfl) ?_
    refine swp_weak (st' := SKo now n b c (A ++ x :: B).length (x.t.taken.map takR).length x.u ((A ++ ⟨usedI now x.t, x.u⟩ :: B).map inR) x.t.taken (famI A ++ famI B) [(16, .oe 1001 (A ++ x :: B).length 14 A.length 0)]) (weak_sub (.cons rfl rfl rfl (.cons rfl rfl rfl (.cons rfl rfl rfl (.cons rfl rfl rfl (.cons rfl rfl rfl (.cons rfl rfl rfl (.cons rfl rfl rfl (.cons rfl rfl rfl .nil)))))))) (.cons rfl rfl rfl (.cons rfl rfl rfl (.cons rfl rfl rfl (.cons rfl rfl rfl (.cons rfl rfl rfl (.cons rfl rfl rfl .nil)))))) (.cons rfl rfl (.cons rfl rfl .nil))) ?_
    unfold SKo
    refine rg 7 ?_
    refine oMv ?_
    refine sp (po_nilcheck_oe rfl rfl rfl hml) ?_
    refine sp (fdo rfl) ?_
    refine sp (po_load_ev (B := 9) (q := 0) rfl rfl rfl hml (tyT rfl) hat rfl rfl rfl rfl rfl) ?_
    refine sp (po_func_cl rfl (.cons rfl rfl .nil)) ?_
    refine sops_lcall c3 (fun i => bif Nat.beq i 2000 then 11 else i) (fun i => bif Nat.beq i 2000 then 1005 else i) (fun i => Nat.beq i 2000) (.free rfl rfl) rfl rfl rfl (.cons rfl rfl rfl (.cons rfl rfl rfl .nil)) (.cons rfl rfl .nil) (.cons rfl rfl .nil) rfl rfl (kp_id 2000 rfl rfl rfl rfl) ?_
    refine oAs ?_
    refine oN ?_
    refine then_go ?_
    rcases idxP_split (fun q : PTk => decide (q.n = n)) x.t.taken with ⟨g1, g2⟩ | ⟨C, q, D, he, g1, g2, g3⟩
    · rw [g1]
      have hcut := cutL_miss g2
      refine swp_weak (st' := SKo now n b c (A ++ x :: B).length (x.t.taken.map takR).length x.u ((A ++ ⟨usedI now x.t, x.u⟩ :: B).map inR) x.t.taken (famI A ++ famI B) [(16, .oe 1001 (A ++ x :: B).length 14 A.length 0), (17, .t (i64T (-1)))]) (weak_sub (.cons rfl rfl rfl (.cons rfl rfl rfl (.cons rfl rfl rfl (.cons rfl rfl rfl (.cons rfl rfl rfl (.cons rfl rfl rfl (.cons rfl rfl rfl (.cons rfl rfl rfl (.cons rfl rfl rfl .nil))))))))) (.cons rfl rfl rfl (.cons rfl rfl rfl (.cons rfl rfl rfl (.cons rfl rfl rfl (.cons rfl rfl rfl (.cons rfl rfl rfl .nil)))))) (.cons rfl rfl (.cons rfl rfl .nil))) ?_
      unfold SKo
      refine gc ?_
      repeat' (first | refine rg 8 (aq32 ?_) | refine gc ?_ | refine ct ?_ | refine cf ?_ | refine sc ?_ ?_ <;> intro hc | refine rq rfl (.cell rfl rfl (tyT rfl) (vc .nil) rfl (rt (.cell rfl rfl (tyT rfl) (vc (vc (vc (vc .nil)))) rfl .nil))) ?_)
      by_cases h16 : 16 ≤ x.t.taken.length
      · have hb16 : (16 : Int) ≤ ((x.t.taken.map takR).length : Int) := by omega
        have c6 := least_ x.t.taken (by omega) hfx.taken
        by_cases hm2 : n < minN x.t.taken
        · have hr2 : takeT now n x.t = (usedI now x.t, 3, zeroK) := by unfold takeT; rw [hcut]; dsimp only; rw [if_pos ⟨h16, hm2⟩]
          rw [hr2]
          repeat' (first | (refine rd 12 ?_; (first | refine dp (po_load_ev (B := 9) (q := 0) rfl rfl rfl hml (tyT rfl) hat rfl rfl rfl rfl rfl) ?_ | refine dMv ?_); (first | refine dp (po_load_ev (B := 9) (q := 0) rfl rfl rfl hml (tyT rfl) hat rfl rfl rfl rfl rfl) ?_ | refine dp (po_nilcheck rfl rfl) ?_ | refine dp (po_nilcheck_oe rfl rfl rfl (by first | rfl | assumption)) ?_); (first | refine dp (po_load_ev (B := 9) (q := 0) rfl rfl rfl hml (tyT rfl) hat rfl rfl rfl rfl rfl) ?_ | refine dFb ?_ | refine dFd ?_ | refine dp (fdo rfl) ?_); refine dp (po_load_ev (B := 9) (q := 0) rfl rfl rfl hml (tyT rfl) hat rfl rfl rfl rfl rfl) ?_; (first | refine dp (po_load_ev (B := 9) (q := 0) rfl rfl rfl hml (tyT rfl) hat rfl rfl rfl rfl rfl) ?_ | refine dp (po_len_own rfl rfl (tyS rfl)) ?_); (first | refine dp (po_load_ev (B := 9) (q := 0) rfl rfl rfl hml (tyT rfl) hat rfl rfl rfl rfl rfl) ?_ | refine dCm ?_); (first | refine dp (po_load_ev (B := 9) (q := 0) rfl rfl rfl hml (tyT rfl) hat rfl rfl rfl rfl rfl) ?_ | refine dMv ?_); (first | refine dp (po_load_ev (B := 9) (q := 0) rfl rfl rfl hml (tyT rfl) hat rfl rfl rfl rfl rfl) ?_ | refine dLb ?_) <;> (first | refine dp (po_load_ev (B := 9) (q := 0) rfl rfl rfl hml (tyT rfl) hat rfl rfl rfl rfl rfl) ?_ | refine dMv ?_) <;> (first | refine dp (po_load_ev (B := 9) (q := 0) rfl rfl rfl hml (tyT rfl) hat rfl rfl rfl rfl rfl) ?_ | refine dp (po_nilcheck rfl rfl) ?_ | refine dp (po_nilcheck_oe rfl rfl rfl (by first | rfl | assumption)) ?_) <;> (first | refine dp (po_load_ev (B := 9) (q := 0) rfl rfl rfl hml (tyT rfl) hat rfl rfl rfl rfl rfl) ?_ | refine dFb ?_ | refine dFd ?_ | refine dp (fdo rfl) ?_) <;> refine dp (po_load_ev (B := 9) (q := 0) rfl rfl rfl hml (tyT rfl) hat rfl rfl rfl rfl rfl) ?_ <;> (first | refine dp (po_load_ev (B := 9) (q := 0) rfl rfl rfl hml (tyT rfl) hat rfl rfl rfl rfl rfl) ?_ | refine dp (po_call_see (c6) rfl (.cons rfl (by first | exact .t _ | exact .own rfl (by rfl)) .nil) rfl) ?_) <;> (first | refine dp (po_load_ev (B := 9) (q := 0) rfl rfl rfl hml (tyT rfl) hat rfl rfl rfl rfl rfl) ?_ | refine dCm ?_) <;> (first | refine dp (po_load_ev (B := 9) (q := 0) rfl rfl rfl hml (tyT rfl) hat rfl rfl rfl rfl rfl) ?_ | refine dPt ?_) <;> refine aq41 ?_) | refine gc ?_ | refine ct ?_ | refine cf ?_ | refine sc ?_ ?_ <;> intro hc | refine rq rfl (.cell rfl rfl (tyT rfl) (vc .nil) rfl (rt (.cell rfl rfl (tyT rfl) (vc (vc (vc (vc .nil)))) rfl .nil))) ?_)
          refine swp_weak (weak_closeV 72 1100 1005 90000 (famI A) (famI B) rfl rfl rfl rfl rfl rfl) ?_
          have hfg := congrArg (fun f => [Sim.A.rs (FamR f)]) hfam
          refine swp_weak (st' := SKa now n (A ++ x :: B).length ((A ++ ⟨usedI now x.t, x.u⟩ :: B).map inR) (famI (A ++ ⟨usedI now x.t, x.u⟩ :: B)) []) (weak_sub (.cons rfl (by first | rfl | (first | (exact hfg))) rfl (.cons rfl (by first | rfl | (first | (exact hfg))) rfl (.cons rfl (by first | rfl | (first | (exact hfg))) rfl (.cons rfl (by first | rfl | (first | (exact hfg))) rfl (.cons rfl (by first | rfl | (first | (exact hfg))) rfl .nil))))) (.cons rfl (by first | rfl | (first | (exact hfg))) rfl (.cons rfl (by first | rfl | (first | (exact hfg))) rfl (.cons rfl (by first | rfl | (first | (exact hfg))) rfl (.cons rfl (by first | rfl | (first | (exact hfg))) rfl (.cons rfl (by first | rfl | (first | (exact hfg))) rfl .nil))))) (.cons rfl (by first | rfl | (first | (exact hfg))) .nil)) ?_
          unfold SKa
          have hK := hKx
          have hKl := hKxl
          refine swp_weak (weak_famshow 1100 1001 ((A ++ (⟨usedI now x.t, x.u⟩ : AIn) :: B).map fun a : AIn => inT' a.t) (fs := famI (A ++ (⟨usedI now x.t, x.u⟩ : AIn) :: B)) (o := inO (A ++ (⟨usedI now x.t, x.u⟩ : AIn) :: B)) rfl rfl (by show (List.map _ _).length = (List.map _ _).length; rw [List.length_map, List.length_map]) (by intro r hr; obtain ⟨a, _, rfl⟩ := List.mem_map.1 hr; rfl) (upl_in (A ++ (⟨usedI now x.t, x.u⟩ : AIn) :: B))) ?_
          rw [hK]
          refine swp_weak (weak_show 1001 101 rfl rfl rfl rfl) ?_
          repeat' (first | (refine rg 13 (aq64 ?_); refine sp (po_buildS str46 rfl .nil rfl) ?_; refine aq65 ?_) | refine gc ?_ | refine ct ?_ | refine cf ?_ | refine sc ?_ ?_ <;> intro hc | refine rq rfl (.cell rfl rfl (tyT rfl) (vc .nil) rfl (rt (.cell rfl rfl (tyT rfl) (vc (vc (vc (vc .nil)))) rfl .nil))) ?_)
          exact retl (.inr rfl) rfl (.cellT rfl rfl (tyT rfl) (vc .nil) rfl (.tmp rfl rfl (.cellT rfl rfl (tyT rfl) (vc (vc (vc (vc .nil)))) rfl .nil))) rfl rfl .nil .nil
        · have hr2 : takeT now n x.t = ({ x.t with used := now, taken := trimK (isort (x.t.taken ++ [newK n])) }, 1, zeroK) := by unfold takeT; rw [hcut]; dsimp only; rw [if_neg (fun h => hm2 h.2)]
          rw [hr2]
          repeat' (first | (refine rd 12 ?_; (first | refine dp (po_load_ev (B := 9) (q := 0) rfl rfl rfl hml (tyT rfl) hat rfl rfl rfl rfl rfl) ?_ | refine dMv ?_); (first | refine dp (po_load_ev (B := 9) (q := 0) rfl rfl rfl hml (tyT rfl) hat rfl rfl rfl rfl rfl) ?_ | refine dp (po_nilcheck rfl rfl) ?_ | refine dp (po_nilcheck_oe rfl rfl rfl (by first | rfl | assumption)) ?_); (first | refine dp (po_load_ev (B := 9) (q := 0) rfl rfl rfl hml (tyT rfl) hat rfl rfl rfl rfl rfl) ?_ | refine dFb ?_ | refine dFd ?_ | refine dp (fdo rfl) ?_); refine dp (po_load_ev (B := 9) (q := 0) rfl rfl rfl hml (tyT rfl) hat rfl rfl rfl rfl rfl) ?_; (first | refine dp (po_load_ev (B := 9) (q := 0) rfl rfl rfl hml (tyT rfl) hat rfl rfl rfl rfl rfl) ?_ | refine dp (po_len_own rfl rfl (tyS rfl)) ?_); (first | refine dp (po_load_ev (B := 9) (q := 0) rfl rfl rfl hml (tyT rfl) hat rfl rfl rfl rfl rfl) ?_ | refine dCm ?_); (first | refine dp (po_load_ev (B := 9) (q := 0) rfl rfl rfl hml (tyT rfl) hat rfl rfl rfl rfl rfl) ?_ | refine dMv ?_); (first | refine dp (po_load_ev (B := 9) (q := 0) rfl rfl rfl hml (tyT rfl) hat rfl rfl rfl rfl rfl) ?_ | refine dLb ?_) <;> (first | refine dp (po_load_ev (B := 9) (q := 0) rfl rfl rfl hml (tyT rfl) hat rfl rfl rfl rfl rfl) ?_ | refine dMv ?_) <;> (first | refine dp (po_load_ev (B := 9) (q := 0) rfl rfl rfl hml (tyT rfl) hat rfl rfl rfl rfl rfl) ?_ | refine dp (po_nilcheck rfl rfl) ?_ | refine dp (po_nilcheck_oe rfl rfl rfl (by first | rfl | assumption)) ?_) <;> (first | refine dp (po_load_ev (B := 9) (q := 0) rfl rfl rfl hml (tyT rfl) hat rfl rfl rfl rfl rfl) ?_ | refine dFb ?_ | refine dFd ?_ | refine dp (fdo rfl) ?_) <;> refine dp (po_load_ev (B := 9) (q := 0) rfl rfl rfl hml (tyT rfl) hat rfl rfl rfl rfl rfl) ?_ <;> (first | refine dp (po_load_ev (B := 9) (q := 0) rfl rfl rfl hml (tyT rfl) hat rfl rfl rfl rfl rfl) ?_ | refine dp (po_call_see (c6) rfl (.cons rfl (by first | exact .t _ | exact .own rfl (by rfl)) .nil) rfl) ?_) <;> (first | refine dp (po_load_ev (B := 9) (q := 0) rfl rfl rfl hml (tyT rfl) hat rfl rfl rfl rfl rfl) ?_ | refine dCm ?_) <;> (first | refine dp (po_load_ev (B := 9) (q := 0) rfl rfl rfl hml (tyT rfl) hat rfl rfl rfl rfl rfl) ?_ | refine dPt ?_) <;> refine aq41 ?_) | refine gc ?_ | refine ct ?_ | refine cf ?_ | refine sc ?_ ?_ <;> intro hc | refine rq rfl (.cell rfl rfl (tyT rfl) (vc .nil) rfl (rt (.cell rfl rfl (tyT rfl) (vc (vc (vc (vc .nil)))) rfl .nil))) ?_)
          refine swp_weak (st' := SKo now n b c (A ++ x :: B).length (x.t.taken.map takR).length x.u ((A ++ ⟨usedI now x.t, x.u⟩ :: B).map inR) x.t.taken (famI A ++ famI B) [(16, .oe 1001 (A ++ x :: B).length 14 A.length 0)]) (weak_sub (.cons rfl rfl rfl (.cons rfl rfl rfl (.cons rfl rfl rfl (.cons rfl rfl rfl (.cons rfl rfl rfl (.cons rfl rfl rfl (.cons rfl rfl rfl (.cons rfl rfl rfl .nil)))))))) (.cons rfl rfl rfl (.cons rfl rfl rfl (.cons rfl rfl rfl (.cons rfl rfl rfl (.cons rfl rfl rfl (.cons rfl rfl rfl .nil)))))) (.cons rfl rfl (.cons rfl rfl .nil))) ?_
          refine takeNew_ rfl now n b c A B x _ rfl (by omega) hkx fun st h => ?_
          exact h
      · have hb16 : ¬ (16 : Int) ≤ ((x.t.taken.map takR).length : Int) := by omega
        have hr2 : takeT now n x.t = ({ x.t with used := now, taken := trimK (isort (x.t.taken ++ [newK n])) }, 1, zeroK) := by unfold takeT; rw [hcut]; dsimp only; rw [if_neg (fun h => h16 h.1)]
        rw [hr2]
        repeat' (first | (refine rd 12 ?_; (first | refine dp (po_load_ev (B := 9) (q := 0) rfl rfl rfl hml (tyT rfl) hat rfl rfl rfl rfl rfl) ?_ | refine dMv ?_); (first | refine dp (po_load_ev (B := 9) (q := 0) rfl rfl rfl hml (tyT rfl) hat rfl rfl rfl rfl rfl) ?_ | refine dp (po_nilcheck rfl rfl) ?_ | refine dp (po_nilcheck_oe rfl rfl rfl (by first | rfl | assumption)) ?_); (first | refine dp (po_load_ev (B := 9) (q := 0) rfl rfl rfl hml (tyT rfl) hat rfl rfl rfl rfl rfl) ?_ | refine dFb ?_ | refine dFd ?_ | refine dp (fdo rfl) ?_); refine dp (po_load_ev (B := 9) (q := 0) rfl rfl rfl hml (tyT rfl) hat rfl rfl rfl rfl rfl) ?_; (first | refine dp (po_load_ev (B := 9) (q := 0) rfl rfl rfl hml (tyT rfl) hat rfl rfl rfl rfl rfl) ?_ | refine dp (po_len_own rfl rfl (tyS rfl)) ?_); (first | refine dp (po_load_ev (B := 9) (q := 0) rfl rfl rfl hml (tyT rfl) hat rfl rfl rfl rfl rfl) ?_ | refine dCm ?_); (first | refine dp (po_load_ev (B := 9) (q := 0) rfl rfl rfl hml (tyT rfl) hat rfl rfl rfl rfl rfl) ?_ | refine dMv ?_); (first | refine dp (po_load_ev (B := 9) (q := 0) rfl rfl rfl hml (tyT rfl) hat rfl rfl rfl rfl rfl) ?_ | refine dLb ?_ | refine dLd ?_ | refine dp (ldo rfl) ?_ | refine dK ?_) <;> (first | refine dp (po_load_ev (B := 9) (q := 0) rfl rfl rfl hml (tyT rfl) hat rfl rfl rfl rfl rfl) ?_ | refine dMv ?_ | refine dK ?_) <;> (first | refine dp (po_load_ev (B := 9) (q := 0) rfl rfl rfl hml (tyT rfl) hat rfl rfl rfl rfl rfl) ?_ | refine dp (po_nilcheck rfl rfl) ?_ | refine dp (po_nilcheck_oe rfl rfl rfl (by rfl)) ?_ | refine dK ?_) <;> (first | refine dp (po_load_ev (B := 9) (q := 0) rfl rfl rfl hml (tyT rfl) hat rfl rfl rfl rfl rfl) ?_ | refine dFb ?_ | refine dFd ?_ | refine dp (fdo rfl) ?_ | refine dK ?_) <;> (first | refine dp (po_load_ev (B := 9) (q := 0) rfl rfl rfl hml (tyT rfl) hat rfl rfl rfl rfl rfl) ?_ | refine dLb ?_ | refine dLd ?_ | refine dp (ldo rfl) ?_ | refine dK ?_) <;> (first | refine dp (po_load_ev (B := 9) (q := 0) rfl rfl rfl hml (tyT rfl) hat rfl rfl rfl rfl rfl) ?_ | refine dK ?_) <;> (first | refine dp (po_load_ev (B := 9) (q := 0) rfl rfl rfl hml (tyT rfl) hat rfl rfl rfl rfl rfl) ?_ | refine dCm ?_ | refine dK ?_) <;> (first | refine dp (po_load_ev (B := 9) (q := 0) rfl rfl rfl hml (tyT rfl) hat rfl rfl rfl rfl rfl) ?_ | refine dPt ?_ | refine dPf ?_) <;> refine aq41 ?_) | refine gc ?_ | refine ct ?_ | refine cf ?_ | refine sc ?_ ?_ <;> intro hc | refine rq rfl (.cell rfl rfl (tyT rfl) (vc .nil) rfl (rt (.cell rfl rfl (tyT rfl) (vc (vc (vc (vc .nil)))) rfl .nil))) ?_)
        refine swp_weak (st' := SKo now n b c (A ++ x :: B).length (x.t.taken.map takR).length x.u ((A ++ ⟨usedI now x.t, x.u⟩ :: B).map inR) x.t.taken (famI A ++ famI B) [(16, .oe 1001 (A ++ x :: B).length 14 A.length 0)]) (weak_sub (.cons rfl rfl rfl (.cons rfl rfl rfl (.cons rfl rfl rfl (.cons rfl rfl rfl (.cons rfl rfl rfl (.cons rfl rfl rfl (.cons rfl rfl rfl (.cons rfl rfl rfl .nil)))))))) (.cons rfl rfl rfl (.cons rfl rfl rfl (.cons rfl rfl rfl (.cons rfl rfl rfl (.cons rfl rfl rfl (.cons rfl rfl rfl .nil)))))) (.cons rfl rfl (.cons rfl rfl .nil))) ?_
        refine takeNew_ rfl now n b c A B x _ rfl (by omega) hkx fun st h => ?_
        exact h
    · rw [g1]
      have hgq : (0 : Int) ≤ ((C.length : Nat) : Int) := by omega
      have hatq : (x.t.taken.map takR)[C.length]? = some (takR q) := by rw [he]; exact mid_at
      have hltq : C.length < (x.t.taken.map takR).length := by rw [he, List.length_map, List.length_append, List.length_cons]; omega
      have hcut : cutL (fun q : PTk => decide (q.n = n)) x.t.taken = some (C, q, D) := by rw [he]; exact cutL_hit g3 g2
      refine swp_weak (st' := SKo now n b c (A ++ x :: B).length (x.t.taken.map takR).length x.u ((A ++ ⟨usedI now x.t, x.u⟩ :: B).map inR) x.t.taken (famI A ++ famI B) [(16, .oe 1001 (A ++ x :: B).length 14 A.length 0), (17, .t (i64T ((C.length : Nat) : Int)))]) (weak_sub (.cons rfl rfl rfl (.cons rfl rfl rfl (.cons rfl rfl rfl (.cons rfl rfl rfl (.cons rfl rfl rfl (.cons rfl rfl rfl (.cons rfl rfl rfl (.cons rfl rfl rfl (.cons rfl rfl rfl .nil))))))))) (.cons rfl rfl rfl (.cons rfl rfl rfl (.cons rfl rfl rfl (.cons rfl rfl rfl (.cons rfl rfl rfl (.cons rfl rfl rfl .nil)))))) (.cons rfl rfl (.cons rfl rfl .nil))) ?_
      unfold SKo
      refine gc ?_
      repeat' (first | refine rg 8 (aq32 ?_) | refine gc ?_ | refine ct ?_ | refine cf ?_ | refine sc ?_ ?_ <;> intro hc | refine rq rfl (.cell rfl rfl (tyT rfl) (vc .nil) rfl (rt (.cell rfl rfl (tyT rfl) (vc (vc (vc (vc .nil)))) rfl .nil))) ?_)
      refine rg 9 ?_
      refine oMv ?_
      refine sp (po_nilcheck_oe rfl rfl rfl hml) ?_
      refine sp (fdo rfl) ?_
      refine sp (po_load_ev (B := 9) (q := 0) rfl rfl rfl hml (tyT rfl) hat rfl rfl rfl rfl rfl) ?_
      refine oMv ?_
      refine sp (po_index_own (k := C.length) rfl rfl rfl rfl rfl (tyS rfl) rfl hltq) ?_
      refine sp (fdo rfl) ?_
      refine sp (ldo rfl) ?_
      refine oCm ?_
      refine oN ?_
      refine then_go ?_
      by_cases hq1 : q.done = 1
      · have hr2 : takeT now n x.t = (usedI now x.t, 2, q) := by unfold takeT; rw [hcut]; dsimp only; rw [if_pos hq1]
        rw [hr2]
        have hdd : decide (q.done = 1) = true := decide_eq_true hq1
        have c5 := ownTaken_ q (hfx.each q (by rw [he]; simp))
        refine ct ?_
        refine swp_weak (st' := SKo now n b c (A ++ x :: B).length (x.t.taken.map takR).length x.u ((A ++ ⟨usedI now x.t, x.u⟩ :: B).map inR) x.t.taken (famI A ++ famI B) [(16, .oe 1001 (A ++ x :: B).length 14 A.length 0), (17, .t (i64T ((C.length : Nat) : Int)))]) (weak_sub (.cons rfl rfl rfl (.cons rfl rfl rfl (.cons rfl rfl rfl (.cons rfl rfl rfl (.cons rfl rfl rfl (.cons rfl rfl rfl (.cons rfl rfl rfl (.cons rfl rfl rfl (.cons rfl rfl rfl .nil))))))))) (.cons rfl rfl rfl (.cons rfl rfl rfl (.cons rfl rfl rfl (.cons rfl rfl rfl (.cons rfl rfl rfl (.cons rfl rfl rfl .nil)))))) (.cons rfl rfl (.cons rfl rfl .nil))) ?_
        unfold SKo
        refine gc ?_
        refine swp_any (id := 10) [[], [], [], [], [], [], [], [], [], [12], [], [14]] [[], [], [], [], [], [], [], [], [], [], [], []] mixed (by kernel_rfl) ?_
        refine yp (fun _ _ => po_load_bx_ag rfl rfl (tyT rfl) rfl rfl rfl rfl) ?_
        refine yp (fun _ _ => po_move rfl rfl) ?_
        refine yp (fun _ _ => po_nilcheck_oe rfl rfl rfl hml) ?_
        refine yp (fun _ _ => po_field_own rfl rfl rfl hml (tyF rfl)) ?_
        refine yp (fun _ _ => po_load_ev (B := 9) (q := 0) rfl rfl rfl hml (tyT rfl) hat rfl rfl rfl rfl rfl) ?_
        refine yp (fun _ _ => po_move rfl rfl) ?_
        refine yp (fun _ _ => po_index_own (k := C.length) rfl rfl rfl rfl rfl (tyS rfl) rfl hltq) ?_
        refine yp (fun _ _ => po_load_own_agg (ts := takR q) rfl rfl rfl rfl (tyT rfl) hatq rfl rfl) ?_
        refine yp (fun _ _ => po_call c5 rfl (.cons rfl (.t _) .nil)) ?_
        refine sany_eff [(12, _)] [] (.free rfl rfl) rfl rfl (fun _ _ _ _ => e_store rfl rfl rfl rfl rfl rfl (tyT rfl) rfl rfl) ?_
        refine yp (fun _ _ => po_assign rfl rfl) ?_
        refine sany_eff [(14, _)] [] (.free rfl rfl) rfl rfl (fun _ _ _ _ => e_store rfl rfl rfl rfl rfl rfl (tyT rfl) rfl rfl) ?_
        refine sany_nil ?_
        refine then_go ?_
        refine swp_weak (weak_closeV 62 1100 1005 90000 (famI A) (famI B) rfl rfl rfl rfl rfl rfl) ?_
        have hfg := congrArg (fun f => [Sim.A.rs (FamR f)]) hfam
        refine swp_weak (st' := ⟨[(13, .t (i64T 2)), (12, .bp 12 0), (14, .bp 14 0)], [(12, [.own 1001 (A ++ x :: B).length]), (14, [.t (u64T q.n), .t (i64T q.done), .t (i64T q.code), .t (bysT q.bytes)]), (1100, [.rs (FamR (famI (A ++ ⟨usedI now x.t, x.u⟩ :: B)))])], [(1001, ⟨42, 14, (A ++ ⟨usedI now x.t, x.u⟩ :: B).map inR⟩)]⟩) (weak_sub (.cons rfl (by first | rfl | (first | (exact hfg))) rfl (.cons rfl (by first | rfl | (first | (exact hfg))) rfl (.cons rfl (by first | rfl | (first | (exact hfg))) rfl .nil))) (.cons rfl (by first | rfl | (first | (exact hfg))) rfl (.cons rfl (by first | rfl | (first | (exact hfg))) rfl (.cons rfl (by first | rfl | (first | (exact hfg))) rfl .nil))) (.cons rfl (by first | rfl | (first | (exact hfg))) .nil)) ?_
        have hK := hKx
        have hKl := hKxl
        refine swp_weak (weak_famshow 1100 1001 ((A ++ (⟨usedI now x.t, x.u⟩ : AIn) :: B).map fun a : AIn => inT' a.t) (fs := famI (A ++ (⟨usedI now x.t, x.u⟩ : AIn) :: B)) (o := inO (A ++ (⟨usedI now x.t, x.u⟩ : AIn) :: B)) rfl rfl (by show (List.map _ _).length = (List.map _ _).length; rw [List.length_map, List.length_map]) (by intro r hr; obtain ⟨a, _, rfl⟩ := List.mem_map.1 hr; rfl) (upl_in (A ++ (⟨usedI now x.t, x.u⟩ : AIn) :: B))) ?_
        rw [hK]
        refine swp_weak (weak_show 1001 101 rfl rfl rfl rfl) ?_
        refine gc ?_
        exact retl (.inr rfl) rfl (.cellT rfl rfl (tyT rfl) (vc .nil) rfl (.tmp rfl rfl (.cellT rfl rfl (tyT rfl) (vc (vc (vc (vc .nil)))) rfl .nil))) rfl rfl .nil .nil
      · have hr2 : takeT now n x.t = (usedI now x.t, 3, zeroK) := by unfold takeT; rw [hcut]; dsimp only; rw [if_neg hq1]
        rw [hr2]
        have hdd : decide (q.done = 1) = false := decide_eq_false hq1
        refine cf ?_
        refine swp_weak (weak_closeV 52 1100 1005 90000 (famI A) (famI B) rfl rfl rfl rfl rfl rfl) ?_
        have hfg := congrArg (fun f => [Sim.A.rs (FamR f)]) hfam
        refine swp_weak (st' := SKa now n (A ++ x :: B).length ((A ++ ⟨usedI now x.t, x.u⟩ :: B).map inR) (famI (A ++ ⟨usedI now x.t, x.u⟩ :: B)) []) (weak_sub (.cons rfl (by first | rfl | (first | (exact hfg))) rfl (.cons rfl (by first | rfl | (first | (exact hfg))) rfl (.cons rfl (by first | rfl | (first | (exact hfg))) rfl (.cons rfl (by first | rfl | (first | (exact hfg))) rfl (.cons rfl (by first | rfl | (first | (exact hfg))) rfl .nil))))) (.cons rfl (by first | rfl | (first | (exact hfg))) rfl (.cons rfl (by first | rfl | (first | (exact hfg))) rfl (.cons rfl (by first | rfl | (first | (exact hfg))) rfl (.cons rfl (by first | rfl | (first | (exact hfg))) rfl (.cons rfl (by first | rfl | (first | (exact hfg))) rfl .nil))))) (.cons rfl (by first | rfl | (first | (exact hfg))) .nil)) ?_
        unfold SKa
        refine gc ?_
        have hK := hKx
        have hKl := hKxl
        refine swp_weak (weak_famshow 1100 1001 ((A ++ (⟨usedI now x.t, x.u⟩ : AIn) :: B).map fun a : AIn => inT' a.t) (fs := famI (A ++ (⟨usedI now x.t, x.u⟩ : AIn) :: B)) (o := inO (A ++ (⟨usedI now x.t, x.u⟩ : AIn) :: B)) rfl rfl (by show (List.map _ _).length = (List.map _ _).length; rw [List.length_map, List.length_map]) (by intro r hr; obtain ⟨a, _, rfl⟩ := List.mem_map.1 hr; rfl) (upl_in (A ++ (⟨usedI now x.t, x.u⟩ : AIn) :: B))) ?_
        rw [hK]
        refine swp_weak (weak_show 1001 101 rfl rfl rfl rfl) ?_
        repeat' (first | (refine rg 11 (aq64 ?_); refine sp (po_buildS str46 rfl .nil rfl) ?_; refine aq65 ?_) | refine gc ?_ | refine ct ?_ | refine cf ?_ | refine sc ?_ ?_ <;> intro hc | refine rq rfl (.cell rfl rfl (tyT rfl) (vc .nil) rfl (rt (.cell rfl rfl (tyT rfl) (vc (vc (vc (vc .nil)))) rfl .nil))) ?_)
        exact retl (.inr rfl) rfl (.cellT rfl rfl (tyT rfl) (vc .nil) rfl (.tmp rfl rfl (.cellT rfl rfl (tyT rfl) (vc (vc (vc (vc .nil)))) rfl .nil))) rfl rfl .nil .nil
end Go.Proofs.Ytabejnjnkpdjbaa.Sim
