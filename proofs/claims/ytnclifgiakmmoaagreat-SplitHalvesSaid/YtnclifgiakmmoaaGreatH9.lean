/- Merged by bundles.py: SimP. -/
import Derived.Test.YtnclifgiakmmoaaGreatH8
/- A logic of states: the calls themselves. -/
namespace Go.Proofs.YtnclifgiakmmoaaGreat.Sim
set_option linter.unusedVariables false
set_option linter.unusedSimpArgs false
open Go.RowKit Mem

def ren0 (fb fw : Nat → Nat) : A → A
  | .bp i off => .bp (fb i) off
  | .sb i n sz e => .sb (fb i) n sz e
  | .rp i k => .rp (fb i) k
  | .pr i t => .pr (fb i) t
  | .own i n => .own (fw i) n
  | .oe i n sz k off => .oe (fw i) n sz k off
  | .sfx i n sz k => .sfx (fw i) n sz k
  | .ev i n u => .ev (fw i) n u
  | x => x
def A.ren (fb fw : Nat → Nat) (x : A) : A := x.mapA (ren0 fb fw)
def clr0 (p : Nat → Bool) : A → A
  | .own i n => bif p i then .any else .own i n
  | .oe i n sz k off => bif p i then .any else .oe i n sz k off
  | .sfx i n sz k => bif p i then .any else .sfx i n sz k
  | .ev i n u => bif p i then .any else .ev i n u
  | x => x
def A.clr (p : Nat → Bool) (x : A) : A := x.mapA (clr0 p)
theorem ren0_rs {fb fw : Nat → Nat} (x : A) (R : Rsc) (h : ren0 fb fw x = .rs R) : x = .rs R := by
  cases x <;> first | exact h | cases h
theorem clr0_rs {p : Nat → Bool} (x : A) (R : Rsc) (h : clr0 p x = .rs R) : x = .rs R := by
  cases x with
  | own i n => revert h; simp only [clr0]; cases p i <;> simp
  | oe i n sz k off => revert h; simp only [clr0]; cases p i <;> simp
  | sfx i n sz k => revert h; simp only [clr0]; cases p i <;> simp
  | ev i n u => revert h; simp only [clr0]; cases p i <;> simp
  | _ => exact h
theorem mapA_lo {f : A → A} (hf : ∀ x n, f x = .lo n → x = .lo n) {x : A} {n : Nat} (h : x.mapA f = .lo n) : x = .lo n := by
  cases x with
  | tu cs => cases h
  | ag cs => cases h
  | cl g cs => cases h
  | _ => exact hf _ n h
theorem lo_map {f : A → A} (hf : ∀ x n, f x = .lo n → x = .lo n) {cs : List A} {n : Nat} (h : cs.map (A.mapA f) = [.lo n]) : cs = [.lo n] := by
  cases cs with
  | nil => cases h
  | cons x cs =>
    cases cs with
    | nil =>
      simp only [List.map_cons, List.map_nil, List.cons.injEq, and_true] at h
      rw [mapA_lo hf h]
    | cons y cs => simp at h
theorem ren0_lo {fb fw : Nat → Nat} (x : A) (n : Nat) (h : ren0 fb fw x = .lo n) : x = .lo n := by
  cases x <;> first | exact h | cases h
theorem clr0_lo {p : Nat → Bool} (x : A) (n : Nat) (h : clr0 p x = .lo n) : x = .lo n := by
  cases x with
  | own i n => revert h; simp only [clr0]; cases p i <;> simp
  | oe i n sz k off => revert h; simp only [clr0]; cases p i <;> simp
  | sfx i n sz k => revert h; simp only [clr0]; cases p i <;> simp
  | ev i n u => revert h; simp only [clr0]; cases p i <;> simp
  | _ => exact h
theorem owns_block {w w' : World} {base : Nat} {e : TypeId} {sz : Nat} {v : Value} {n : Nat} {vs : List Value} (h : RowM w base e sz v n vs) (hk : ∀ b, v.ownBlock = some b → w'.heap[b]? = w.heap[b]?) : RowM w' base e sz v n vs := by
  obtain ⟨h1, h2 | ⟨b, cap, cur, h3, h4, ⟨fz, h5, hf⟩, h6⟩⟩ := h
  · exact ⟨h1, .inl h2⟩
  · exact ⟨h1, .inr ⟨b, cap, cur, h3, h4, ⟨fz, by rw [hk b (by rw [h3]; rfl)]; exact h5, hf⟩, h6⟩⟩
/-- the callee's view -/
def Gh.sub (g : Gh) (fb fw : Nat → Nat) (bx0 : List (Nat × List A)) (ow0 : List (Nat × Own)) : Gh := { gb := fun i => g.gb (fb i), go := fun i => g.go (fw i), ln := fun i => g.ln (fw i), lb := fun i => (get bx0 i).isSome, lw := fun i => (get ow0 i).isSome, cz := fun i => g.cz (fb i), sf := fun i => g.sf (fb i), rp := fun i => g.rp (fb i) }
/-- what a call asks of its caller, in names and numbers -/
structure Lend (fb fw : Nat → Nat) (kp q : Nat → Bool) (bx : List (Nat × List A)) (ow : List (Nat × Own)) (bx0 : List (Nat × List A)) (ow0 : List (Nat × Own)) (bx1 : List (Nat × List A)) (ow1 : List (Nat × Own)) (bx' : List (Nat × List A)) (ow' : List (Nat × Own)) : Prop where
  hx0 : ∀ i cs, get bx0 i = some cs → get bx (fb i) = some (cs.map (A.ren fb fw))
  hw0 : ∀ i o, get ow0 i = some o → get ow (fw i) = some o ∧ hid i = true ∧ hid (fw i) = true
  hl0 : ∀ i cs, get bx0 i = some cs → ∀ x ∈ cs, x.live bx0 ow0 = true
  hkd : ∀ i cs, (get bx0 i = some cs ∨ get bx1 i = some cs) → itB (fb i) = itB i ∧ chB (fb i) = chB i ∧ wnB (fb i) = wnB i
  hx1 : ∀ i cs, get bx0 i = some cs → Nat.ble 2000 i = true ∧ ((∃ cs', get bx1 i = some cs') ∨ (chB i = true ∧ ∃ n, cs = [.lo n]))
  hlo : ∀ i n, chB i = true → get bx1 i ≠ some [.lo n]
  hxn : ∀ i cs, get bx1 i = some cs → get bx0 i = none → get bx (fb i) = none ∧ Nat.ble 2000 (fb i) = false
  hwn : ∀ i o, get ow1 i = some o → get ow0 i = none → get ow (fw i) = none ∧ Nat.ble 2000 (fw i) = false
  hwh : ∀ i o, get ow1 i = some o → hid (fw i) = hid i
  hwp : ∀ i o, get ow1 i = some o → Nat.ble 2000 (fw i) = true → Nat.ble 2000 i = true
  hbi : ∀ i j ci cj, get bx1 i = some ci → get bx1 j = some cj → fb i = fb j → i = j
  hwi : ∀ i j oi oj, (get ow0 i = some oi ∨ get ow1 i = some oi) → (get ow0 j = some oj ∨ get ow1 j = some oj) → fw i = fw j → i = j
  hkp : ∀ i, kp i = true → Nat.ble 2000 i = true ∧ ∃ o0 o1, get ow0 i = some o0 ∧ get ow1 i = some o1 ∧ o1.rows.length = o0.rows.length
  hq : ∀ i o, get ow0 i = some o → kp i = false → q (fw i) = true
  b1 : ∀ i cs, get bx1 i = some cs → get bx' (fb i) = some (cs.map (A.ren fb fw))
  b2 : ∀ j, (∀ i cs, get bx1 i = some cs → fb i ≠ j) → get bx' j = (get bx j).map fun cs => cs.map (A.clr q)
  o1 : ∀ i o, get ow1 i = some o → get ow' (fw i) = some o
  o2 : ∀ j, (∀ i o, get ow1 i = some o → fw i ≠ j) → (∀ i o, get ow0 i = some o → fw i ≠ j) → get ow' j = get ow j
  o3 : ∀ j i o, get ow0 i = some o → fw i = j → (∀ i o, get ow1 i = some o → fw i ≠ j) → get ow' j = none
section
variable {fb fw : Nat → Nat} {kp q : Nat → Bool} {bx bx0 bx1 bx' : List (Nat × List A)} {ow ow0 ow1 ow' : List (Nat × Own)} {C : Ctx} {w : World} {m : Mm} {g : Gh}
theorem Lend.ren_in (h : Lend fb fw kp q bx ow bx0 ow0 bx1 ow1 bx' ow') (he : EnvG C bx ow w m g) {x : A} {v : Value} (hl : x.live bx0 ow0 = true) (hx : AR m g (x.ren fb fw) v) : AR m (g.sub fb fw bx0 ow0) x v := by
  have key0 : ∀ (x : A) (v : Value), A.live0 bx0 ow0 x = true → AR0 m g (ren0 fb fw x) v → AR0 m (g.sub fb fw bx0 ow0) x v := by
    intro x v hl hx
    cases x with
    | bp i off => exact ⟨hl, hx.2⟩
    | sb i n sz e =>
      obtain ⟨cs0, hcs0⟩ := Option.isSome_iff_exists.1 (show (get bx0 i).isSome = true from hl)
      obtain ⟨_, _, k3⟩ := h.hkd i cs0 (.inl hcs0)
      obtain ⟨_, cap, h2, h3, h4, h5⟩ := hx
      exact ⟨hl, cap, h2, h3, h4, fun hw => h5 (by rw [k3]; exact hw)⟩
    | rp i k =>
      obtain ⟨cs0, hcs0⟩ := Option.isSome_iff_exists.1 (show (get bx0 i).isSome = true from hl)
      exact ⟨by rw [← (h.hkd i cs0 (.inl hcs0)).2.1]; exact hx.1, hl, hx.2.2⟩
    | pr i k =>
      obtain ⟨cs0, hcs0⟩ := Option.isSome_iff_exists.1 (show (get bx0 i).isSome = true from hl)
      exact ⟨by rw [← (h.hkd i cs0 (.inl hcs0)).2.1]; exact hx.1, hl, hx.2.2⟩
    | own i n => exact ⟨hl, hx.2⟩
    | oe i n sz k off => exact ⟨hl, hx.2⟩
    | sfx i n sz k => exact ⟨hl, hx.2⟩
    | ev i n u => exact ⟨hl, hx.2⟩
    | _ => exact hx
  have key1 : ∀ (x : A) (v : Value), x.all1 (A.live0 bx0 ow0) = true → AR1 m g (x.map1 (ren0 fb fw)) v → AR1 m (g.sub fb fw bx0 ow0) x v := by
    intro x v hl hx
    cases x with
    | ag cs =>
      obtain ⟨vs, e, h1, h2⟩ := hx
      refine ⟨vs, e, by simpa using h1, fun j x u hj hu => ?_⟩
      have := h2 j _ u (by rw [List.getElem?_map, hj]; rfl) hu
      exact ⟨key0 x u ((List.all_eq_true.1 hl) x (List.mem_of_getElem? hj)) this.1, this.2⟩
    | cl f cs =>
      obtain ⟨vs, e, h1, h2⟩ := hx
      refine ⟨vs, e, by simpa using h1, fun j x u hj hu => ?_⟩
      exact key0 x u ((List.all_eq_true.1 hl) x (List.mem_of_getElem? hj)) (h2 j _ u (by rw [List.getElem?_map, hj]; rfl) hu)
    | tu cs => exact absurd hx id
    | t x => exact hx
    | emp => exact hx
    | any => exact hx
    | bp i off => exact key0 (.bp i off) v hl hx
    | sb i n sz e => exact key0 (.sb i n sz e) v hl hx
    | rs R => exact hx
    | rp i k => exact key0 (.rp i k) v hl hx
    | lo n => exact hx
    | pr i k => exact key0 (.pr i k) v hl hx
    | own i n => exact key0 (.own i n) v hl hx
    | oe i n sz k off => exact key0 (.oe i n sz k off) v hl hx
    | sfx i n sz k => exact key0 (.sfx i n sz k) v hl hx
    | ev i n u => exact key0 (.ev i n u) v hl hx
  cases x with
  | tu cs =>
    obtain ⟨vs, e, h1, h2⟩ := hx
    refine ⟨vs, e, by simpa using h1, fun j x u hj hu => ?_⟩
    exact key1 x u ((List.all_eq_true.1 hl) x (List.mem_of_getElem? hj)) (h2 j _ u (by rw [List.getElem?_map, hj]; rfl) hu)
  | ag cs => exact (key1 (.ag cs) v hl hx).two
  | cl f cs => exact (key1 (.cl f cs) v hl hx).two
  | t x => exact hx
  | emp => exact hx
  | any => exact hx
  | bp i off => exact (key0 (.bp i off) v hl hx).two
  | sb i n sz e => exact (key0 (.sb i n sz e) v hl hx).two
  | rs R => exact hx
  | rp i k => exact (key0 (.rp i k) v hl hx).two
  | lo n => exact hx
  | pr i k => exact (key0 (.pr i k) v hl hx).two
  | own i n => exact (key0 (.own i n) v hl hx).two
  | oe i n sz k off => exact (key0 (.oe i n sz k off) v hl hx).two
  | sfx i n sz k => exact (key0 (.sfx i n sz k) v hl hx).two
  | ev i n u => exact (key0 (.ev i n u) v hl hx).two
theorem Lend.back (h : Lend fb fw kp q bx ow bx0 ow0 bx1 ow1 bx' ow') {i : Nat} {cs : List A} (hi : get bx0 i = some cs) (hc : chB i = false) : ∃ cs', get bx1 i = some cs' := by
  rcases (h.hx1 i cs hi).2 with h1 | ⟨h1, _⟩
  · exact h1
  · rw [hc] at h1; cases h1
theorem Lend.backR (h : Lend fb fw kp q bx ow bx0 ow0 bx1 ow1 bx' ow') {i : Nat} {R : Rsc} (hi : get bx0 i = some [.rs R]) : ∃ cs', get bx1 i = some cs' := by
  rcases (h.hx1 i _ hi).2 with h1 | ⟨_, n, h1⟩
  · exact h1
  · cases h1
theorem Lend.cf (h : Lend fb fw kp q bx ow bx0 ow0 bx1 ow1 bx' ow') {i : Nat} {cs : List A} (hi : get bx0 i = some cs ∨ get bx1 i = some cs) (hc : chB i = false) : chB (fb i) = false := by rw [(h.hkd i cs hi).2.1]; exact hc
theorem Lend.env_in (h : Lend fb fw kp q bx ow bx0 ow0 bx1 ow1 bx' ow') (he : EnvG C bx ow w m g) : EnvG (lentC w m (g.sub fb fw bx0 ow0) bx0 ow0) bx0 ow0 w m (g.sub fb fw bx0 ow0) where
  lo := .of_lo (Lo.refl _)
  gm := fun b o hb => by
    rcases lent_spec hb with ⟨i, cs, h1, hci, h2⟩ | ⟨i, o', h1, h2⟩ | ⟨i, R, h0, h1, h2⟩
    · obtain ⟨_, _, _, _, _, _, h3⟩ := he.boxes _ _ (h.hx0 i cs h1) (h.cf (.inl h1) hci)
      subst h2; exact h3 o
    · obtain ⟨h3, _, h4⟩ := h.hw0 i o' h1
      obtain ⟨vs, _, _, _, h5⟩ := he.owns _ _ h3
      show m b o = none
      rw [(h5 b h2).1 o, vis_hid h4]; rfl
    · exact (((he.rs.1 (fb i) R (by rw [(h.hkd i _ (.inl h1)).2.1]; exact h0) (h.hx0 i _ h1)).2 b h2).2.1 o)
  sub := he.sub
  ext := ExtX.refl _ _ _
  gt := he.gt
  lb := fun i => rfl
  lw := fun i => rfl
  ln := fun i o hi => he.ln _ _ (h.hw0 i o hi).1
  boxes := fun i cs hi hci => by
    obtain ⟨vs, ty, h1, h2, h3, _, h5⟩ := he.boxes _ _ (h.hx0 i cs hi) (h.cf (.inl hi) hci)
    obtain ⟨k1, k2, k3⟩ := h.hkd i cs (.inl hi)
    rw [ob_kd k1 k2 k3] at h1
    refine ⟨vs, ty, h1, .kd (c := g.cz) (i := fb i) (by simpa using h2) k3.symm k2.symm rfl, fun j x v hx hv => ?_, .inr (lent_bx (g := g.sub fb fw bx0 ow0) hi hci), h5⟩
    have h6 := h3 j _ v (by rw [List.getElem?_map, hx]; rfl) hv
    exact ⟨h.ren_in he (h.hl0 i cs hi x (List.mem_of_getElem? hx)) h6.1, h6.2⟩
  inj := fun i j ci cj hi hj hci hcj e => by
    obtain ⟨_, hi'⟩ := h.back hi hci
    obtain ⟨_, hj'⟩ := h.back hj hcj
    exact h.hbi i j _ _ hi' hj' (he.inj _ _ _ _ (h.hx0 i ci hi) (h.hx0 j cj hj) (h.cf (.inl hi) hci) (h.cf (.inl hj) hcj) e)
  owns := fun i o hi => by
    obtain ⟨h1, h2, h3⟩ := h.hw0 i o hi
    obtain ⟨vs, h4, h5, h6, h7⟩ := he.owns _ _ h1
    refine ⟨vs, h4, h5, h6, fun b hb => ⟨fun k => ?_, fun j cs hj hcj => (h7 b hb).2.1 _ _ (h.hx0 j cs hj) (h.cf (.inl hj) hcj), .inr (lent_ow (g := g.sub fb fw bx0 ow0) hi hb)⟩⟩
    rw [(h7 b hb).1 k, vis_hid h2, vis_hid h3]
  apart := fun i j oi oj hi hj hij => he.apart _ _ oi oj (h.hw0 i oi hi).1 (h.hw0 j oj hj).1 (fun e => hij (h.hwi i j oi oj (.inl hi) (.inl hj) e))
  pin := fun i o hi _ => rfl
  pinb := fun i cs hi _ => rfl
  nb := fun i n hc hi b hb => by
    have hc2 : chB (fb i) = true := by rw [(h.hkd i _ (.inl hi)).2.1]; exact hc
    refine he.nb (fb i) n hc2 (h.hx0 i _ hi) b ?_
    rcases hb with hb | hb
    · exact .inl (Nat.le_trans he.lo.size hb)
    · rcases lent_spec hb with ⟨i, cs, h1, hci, h2⟩ | ⟨i, o', h1, h2⟩ | ⟨i, R, h0, h1, h2⟩
      · obtain ⟨_, _, _, _, _, h3, _⟩ := he.boxes _ _ (h.hx0 i cs h1) (h.cf (.inl h1) hci)
        subst h2; exact h3
      · obtain ⟨vs, _, _, _, h5⟩ := he.owns _ _ (h.hw0 i o' h1).1
        exact (h5 b h2).2.2
      · exact ((he.rs.1 (fb i) R (by rw [(h.hkd i _ (.inl h1)).2.1]; exact h0) (h.hx0 i _ h1)).2 b h2).1
  nf := fun b o u hb hu => by
    rcases hb with hb | hb
    · have := he.sub.lt hu
      have hb : w.heap.size ≤ b := hb
      omega
    · refine he.nf b o u ?_ hu
      rcases lent_spec hb with ⟨i, cs, h1, hci, h2⟩ | ⟨i, o', h1, h2⟩ | ⟨i, R, h0, h1, h2⟩
      · obtain ⟨_, _, _, _, _, h3, _⟩ := he.boxes _ _ (h.hx0 i cs h1) (h.cf (.inl h1) hci)
        subst h2; exact h3
      · obtain ⟨vs, _, _, _, h5⟩ := he.owns _ _ (h.hw0 i o' h1).1
        exact (h5 b h2).2.2
      · exact ((he.rs.1 (fb i) R (by rw [(h.hkd i _ (.inl h1)).2.1]; exact h0) (h.hx0 i _ h1)).2 b h2).1
  rs := by
    obtain ⟨r1, r2, _⟩ := he.rs
    have hch : ∀ i cs, get bx0 i = some cs → chB i = true → chB (fb i) = true := fun i cs hi hc => by rw [(h.hkd i cs (.inl hi)).2.1]; exact hc
    refine ⟨fun i R hc hi => ?_, fun i j R R' hci hcj hi hj hij => ?_, fun i cs _ _ _ => rfl⟩
    · obtain ⟨e1, e2⟩ := r1 (fb i) R (hch i _ hi hc) (h.hx0 i _ hi)
      refine ⟨e1, fun k hk => ?_⟩
      obtain ⟨e3, e4, e5, e6⟩ := e2 k hk
      exact ⟨.inr (lent_rs (g := g.sub fb fw bx0 ow0) hc hi hk), e4, fun j cs hj hcj => e5 _ _ (h.hx0 j cs hj) (h.cf (.inl hj) hcj), fun j o hj => e6 _ _ (h.hw0 j o hj).1⟩
    · obtain ⟨_, hi'⟩ := h.backR hi
      obtain ⟨_, hj'⟩ := h.backR hj
      exact r2 (fb i) (fb j) R R' (hch i _ hi hci) (hch j _ hj hcj) (h.hx0 i _ hi) (h.hx0 j _ hj) (fun e => hij (h.hbi i j _ _ hi' hj' e))
open Classical in
theorem Lend.env_out (h : Lend fb fw kp q bx ow bx0 ow0 bx1 ow1 bx' ow') (he : EnvG C bx ow w m g) {w' : World} {m' : Mm} {g' : Gh} (hc : EnvG (lentC w m (g.sub fb fw bx0 ow0) bx0 ow0) bx1 ow1 w' m' g') :
    ∃ g'', EnvG C bx' ow' w' m' g'' ∧ (∀ x v, AR m g x v → AR m' g'' (x.clr q) v) ∧ (∀ x v, AR m' g' x v → AR m' g'' (x.ren fb fw) v) := by
  have hlt : w.heap.size ≤ w'.heap.size := hc.lo.size
  have HC : ∀ i cs, (get bx0 i = some cs ∨ get bx1 i = some cs) → chB i = true → chB (fb i) = true := fun i cs hi hc => by rw [(h.hkd i cs hi).2.1]; exact hc
  have F1 : ∀ b, lentB (g.sub fb fw bx0 ow0) bx0 ow0 b = true → C.mine b := fun b hb => by
    rcases lent_spec hb with ⟨i, cs, h1, hci, h2⟩ | ⟨i, o', h1, h2⟩ | ⟨i, R, h0, h1, h2⟩
    · obtain ⟨_, _, _, _, _, h3, _⟩ := he.boxes _ _ (h.hx0 i cs h1) (h.cf (.inl h1) hci)
      subst h2; exact h3
    · obtain ⟨vs, _, _, _, h5⟩ := he.owns _ _ (h.hw0 i o' h1).1
      exact (h5 b h2).2.2
    · exact ((he.rs.1 (fb i) R (HC i _ (.inl h1) h0) (h.hx0 i _ h1)).2 b h2).1
  have F2 : ∀ j cs, get bx j = some cs → chB j = false → (∀ i cs, get bx1 i = some cs → fb i ≠ j) → g.gb j < w.heap.size ∧ lentB (g.sub fb fw bx0 ow0) bx0 ow0 (g.gb j) = false := fun j cs hj hcj hn => by
    obtain ⟨vs, ty, h1, _⟩ := he.boxes j cs hj hcj
    refine ⟨block_lt h1, ?_⟩
    cases hb : lentB (g.sub fb fw bx0 ow0) bx0 ow0 (g.gb j) with
    | false => rfl
    | true =>
      rcases lent_spec hb with ⟨i, c0, h1, hci, h2⟩ | ⟨i, o', h1, h2⟩ | ⟨i, R, h0, h1, h2⟩
      · obtain ⟨c1, h3⟩ := h.back h1 hci
        exact absurd (he.inj _ _ _ _ (h.hx0 i c0 h1) hj (h.cf (.inl h1) hci) hcj h2) (hn i c1 h3)
      · obtain ⟨vs, _, _, _, h5⟩ := he.owns _ _ (h.hw0 i o' h1).1
        exact absurd rfl ((h5 _ h2).2.1 j cs hj hcj)
      · exact absurd rfl (((he.rs.1 (fb i) R (HC i _ (.inl h1) h0) (h.hx0 i _ h1)).2 _ h2).2.2.1 j cs hj hcj)
  have F3 : ∀ j o, get ow j = some o → (∀ i o, get ow0 i = some o → fw i ≠ j) → ∀ b, (g.go j).ownBlock = some b → b < w.heap.size ∧ lentB (g.sub fb fw bx0 ow0) bx0 ow0 b = false := fun j o hj hn b hb => by
    obtain ⟨vs, h1, _, _, h5⟩ := he.owns j o hj
    refine ⟨(h1.lt b hb).2, ?_⟩
    cases hbl : lentB (g.sub fb fw bx0 ow0) bx0 ow0 b with
    | false => rfl
    | true =>
      rcases lent_spec hbl with ⟨i, c0, h2, hci, h3⟩ | ⟨i, o', h2, h3⟩ | ⟨i, R, h0, h2, h3⟩
      · exact absurd h3 ((h5 b hb).2.1 _ _ (h.hx0 i c0 h2) (h.cf (.inl h2) hci))
      · exact absurd h3 (he.apart _ _ _ _ hj (h.hw0 i o' h2).1 (fun e => hn i o' h2 e.symm) b hb)
      · exact absurd hb (((he.rs.1 (fb i) R (HC i _ (.inl h2) h0) (h.hx0 i _ h2)).2 _ h3).2.2.2 j o hj)
  have F4 : ∀ b, b < w.heap.size → lentB (g.sub fb fw bx0 ow0) bx0 ow0 b = false → w'.heap[b]? = w.heap[b]? ∧ ∀ o, m' b o = m b o := fun b h1 h2 => ⟨hc.lo.block b h1 h2, fun o => hc.ext.old b o h1 h2⟩
  have F5 : ∀ i cs, get bx1 i = some cs → chB i = false → w.heap.size ≤ g'.gb i ∨ lentB (g.sub fb fw bx0 ow0) bx0 ow0 (g'.gb i) = true := fun i cs hi hci => by
    obtain ⟨_, _, _, _, _, h4, _⟩ := hc.boxes i cs hi hci
    exact h4
  have F6 : ∀ i o, get ow1 i = some o → ∀ b, (g'.go i).ownBlock = some b → w.heap.size ≤ b ∨ lentB (g.sub fb fw bx0 ow0) bx0 ow0 b = true := fun i o hi b hb => by
    obtain ⟨_, _, _, _, h4⟩ := hc.owns i o hi
    exact (h4 b hb).2.2
  let inB : Nat → Prop := fun j => ∃ i cs, get bx1 i = some cs ∧ fb i = j
  let inO : Nat → Prop := fun j => ∃ i o, get ow1 i = some o ∧ fw i = j
  let g'' : Gh := { gb := fun j => if hj : inB j then g'.gb hj.choose else g.gb j, go := fun j => if hj : inO j then g'.go hj.choose else g.go j, ln := fun j => if hj : inO j then g'.ln hj.choose else g.ln j, lb := fun j => (get bx' j).isSome, lw := fun j => (get ow' j).isSome, cz := fun j => if hj : inB j then g'.cz hj.choose else g.cz j, sf := fun j => if hj : inB j then g'.sf hj.choose else g.sf j, rp := fun j => if hj : inB j then g'.rp hj.choose else g.rp j }
  have G1 : ∀ i cs, get bx1 i = some cs → g''.gb (fb i) = g'.gb i := fun i cs hi => by
    have hj : inB (fb i) := ⟨i, cs, hi, rfl⟩
    show (if hj : inB (fb i) then g'.gb hj.choose else g.gb (fb i)) = _
    rw [dif_pos hj]
    obtain ⟨c, h1, h2⟩ := hj.choose_spec
    rw [h.hbi _ _ _ _ h1 hi h2]
  have G1c : ∀ i cs, get bx1 i = some cs → g''.cz (fb i) = g'.cz i := fun i cs hi => by
    have hj : inB (fb i) := ⟨i, cs, hi, rfl⟩
    show (if hj : inB (fb i) then g'.cz hj.choose else g.cz (fb i)) = _
    rw [dif_pos hj]
    obtain ⟨c, h1, h2⟩ := hj.choose_spec
    rw [h.hbi _ _ _ _ h1 hi h2]
  have G1s : ∀ i cs, get bx1 i = some cs → g''.sf (fb i) = g'.sf i ∧ g''.rp (fb i) = g'.rp i := fun i cs hi => by
    have hj : inB (fb i) := ⟨i, cs, hi, rfl⟩
    obtain ⟨c, h1, h2⟩ := hj.choose_spec
    constructor
    · show (if hj : inB (fb i) then g'.sf hj.choose else g.sf (fb i)) = _
      rw [dif_pos hj, h.hbi _ _ _ _ h1 hi h2]
    · show (if hj : inB (fb i) then g'.rp hj.choose else g.rp (fb i)) = _
      rw [dif_pos hj, h.hbi _ _ _ _ h1 hi h2]
  have G2s : ∀ j, (∀ i cs, get bx1 i = some cs → fb i ≠ j) → g''.sf j = g.sf j ∧ g''.rp j = g.rp j := fun j hj => by
    have hn : ¬ inB j := fun ⟨i, cs, h1, h2⟩ => hj i cs h1 h2
    constructor
    · show (if hj : inB j then g'.sf hj.choose else g.sf j) = _
      rw [dif_neg hn]
    · show (if hj : inB j then g'.rp hj.choose else g.rp j) = _
      rw [dif_neg hn]
  have G2c : ∀ j, (∀ i cs, get bx1 i = some cs → fb i ≠ j) → g''.cz j = g.cz j := fun j hj => by
    show (if hj : inB j then g'.cz hj.choose else g.cz j) = _
    rw [dif_neg fun ⟨i, cs, h1, h2⟩ => hj i cs h1 h2]
  have G2 : ∀ j, (∀ i cs, get bx1 i = some cs → fb i ≠ j) → g''.gb j = g.gb j := fun j hj => by
    show (if hj : inB j then g'.gb hj.choose else g.gb j) = _
    rw [dif_neg fun ⟨i, cs, h1, h2⟩ => hj i cs h1 h2]
  have G3 : ∀ i o, get ow1 i = some o → g''.go (fw i) = g'.go i ∧ g''.ln (fw i) = g'.ln i := fun i o hi => by
    have hj : inO (fw i) := ⟨i, o, hi, rfl⟩
    obtain ⟨c, h1, h2⟩ := hj.choose_spec
    have e := h.hwi _ _ _ _ (.inr h1) (.inr hi) h2
    constructor
    · show (if hj : inO (fw i) then g'.go hj.choose else g.go (fw i)) = _
      rw [dif_pos hj, e]
    · show (if hj : inO (fw i) then g'.ln hj.choose else g.ln (fw i)) = _
      rw [dif_pos hj, e]
  have G4 : ∀ j, (∀ i o, get ow1 i = some o → fw i ≠ j) → g''.go j = g.go j ∧ g''.ln j = g.ln j := fun j hj => by
    have hn : ¬ inO j := fun ⟨i, o, h1, h2⟩ => hj i o h1 h2
    constructor
    · show (if hj : inO j then g'.go hj.choose else g.go j) = _
      rw [dif_neg hn]
    · show (if hj : inO j then g'.ln hj.choose else g.ln j) = _
      rw [dif_neg hn]
  have L1 : ∀ x v, AR0 m' g' x v → AR0 m' g'' (ren0 fb fw x) v := by
    intro x v hx
    have hlw : ∀ i, g'.lw i = true → ∃ o, get ow1 i = some o := fun i hi => by rw [hc.lw] at hi; exact Option.isSome_iff_exists.1 hi
    have hw' : ∀ i o, get ow1 i = some o → g''.lw (fw i) = true := fun i o hi => by show (get ow' (fw i)).isSome = true; rw [h.o1 i o hi]; rfl
    cases x with
    | bp i off =>
      obtain ⟨h1, h2⟩ := hx
      rw [hc.lb] at h1
      obtain ⟨cs, hi⟩ := Option.isSome_iff_exists.1 h1
      exact ⟨by show (get bx' (fb i)).isSome = true; rw [h.b1 i cs hi]; rfl, by rw [G1 i cs hi]; exact h2⟩
    | sb i n sz e =>
      obtain ⟨h1, cap, h2, h3, h4, h5⟩ := hx
      rw [hc.lb] at h1
      obtain ⟨cs, hi⟩ := Option.isSome_iff_exists.1 h1
      obtain ⟨_, _, k3⟩ := h.hkd i cs (.inr hi)
      exact ⟨by show (get bx' (fb i)).isSome = true; rw [h.b1 i cs hi]; rfl, cap, by rw [G1 i cs hi]; exact h2, h3, h4, fun hw => by rw [G1c i cs hi]; exact h5 (by rw [← k3]; exact hw)⟩
    | rp i k =>
      obtain ⟨h0, h1, h2, h3⟩ := hx
      rw [hc.lb] at h1
      obtain ⟨cs, hi⟩ := Option.isSome_iff_exists.1 h1
      exact ⟨HC i cs (.inr hi) h0, by show (get bx' (fb i)).isSome = true; rw [h.b1 i cs hi]; rfl, by rw [(G1s i cs hi).2]; exact h2, h3⟩
    | pr i k =>
      obtain ⟨h0, h1, h2⟩ := hx
      rw [hc.lb] at h1
      obtain ⟨cs, hi⟩ := Option.isSome_iff_exists.1 h1
      exact ⟨HC i cs (.inr hi) h0, by show (get bx' (fb i)).isSome = true; rw [h.b1 i cs hi]; rfl, by rw [(G1s i cs hi).2]; exact h2⟩
    | own i n =>
      obtain ⟨h1, h2, h3, h4⟩ := hx
      obtain ⟨o, hi⟩ := hlw i h1
      exact ⟨hw' i o hi, by rw [(G3 i o hi).2]; exact h2, h3, by rw [(G3 i o hi).1, (G3 i o hi).2]; exact h4⟩
    | ev i n u =>
      obtain ⟨h1, h2, h3, h4⟩ := hx
      obtain ⟨o, hi⟩ := hlw i h1
      exact ⟨hw' i o hi, by rw [(G3 i o hi).2]; exact h2, h3, by rw [(G3 i o hi).1, (G3 i o hi).2]; exact h4⟩
    | oe i n sz k off =>
      obtain ⟨h1, h2, h3, h4⟩ := hx
      obtain ⟨o, hi⟩ := hlw i h1
      exact ⟨hw' i o hi, by rw [(G3 i o hi).2]; exact h2, h3, by rw [(G3 i o hi).1, (G3 i o hi).2]; exact h4⟩
    | sfx i n sz k =>
      obtain ⟨h1, h2, h3, h4⟩ := hx
      obtain ⟨o, hi⟩ := hlw i h1
      exact ⟨hw' i o hi, by rw [(G3 i o hi).2]; exact h2, h3, by rw [(G3 i o hi).1, (G3 i o hi).2]; exact h4⟩
    | _ => exact hx
  have hold : ∀ j o, get ow j = some o → q j = false → get ow' j ≠ none ∧ g''.go j = g.go j ∧ g''.ln j = g.ln j := by
    intro j o hj hqj
    by_cases hin : inO j
    · obtain ⟨i, o1, h1, rfl⟩ := hin
      cases h0 : get ow0 i with
      | none => rw [(h.hwn i o1 h1 h0).1] at hj; cases hj
      | some o0 =>
        have hk : kp i = true := by
          cases hk : kp i with
          | true => rfl
          | false => rw [h.hq i o0 h0 hk] at hqj; cases hqj
        obtain ⟨h2, o0', o1', h3, h4, h5⟩ := h.hkp i hk
        rw [h0] at h3; injection h3 with h3; subst h3
        rw [h1] at h4; injection h4 with h4; subst h4
        refine ⟨by rw [h.o1 i _ h1]; simp, ?_, ?_⟩
        · rw [(G3 i _ h1).1, hc.pin i _ h1 h2]; rfl
        · rw [(G3 i _ h1).2, hc.ln i _ h1, h5, he.ln _ _ (h.hw0 i _ h0).1]
    · have hno : ∀ i o, get ow1 i = some o → fw i ≠ j := fun i o h1 h2 => hin ⟨i, o, h1, h2⟩
      have hnw : ∀ i o, get ow0 i = some o → fw i ≠ j := fun i o h1 h2 => by
        subst h2
        have hk : kp i = true := by
          cases hk : kp i with
          | true => rfl
          | false => rw [h.hq i o h1 hk] at hqj; cases hqj
        obtain ⟨_, _, o1', _, h4, _⟩ := h.hkp i hk
        exact hno i o1' h4 rfl
      exact ⟨by rw [h.o2 j hno hnw, hj]; simp, G4 j hno⟩
  have L2 : ∀ x v, AR0 m g x v → AR0 m' g'' (clr0 q x) v := by
    intro x v hx
    have hget : ∀ j, g.lw j = true → ∃ o, get ow j = some o := fun j hj => by rw [he.lw] at hj; exact Option.isSome_iff_exists.1 hj
    have hlw' : ∀ j, get ow' j ≠ none → g''.lw j = true := fun j hj => by
      show (get ow' j).isSome = true
      cases h1 : get ow' j with
      | none => exact absurd h1 hj
      | some o => rfl
    cases x with
    | t x => exact TR.mono hc.ext.keep hx
    | bp j off =>
      obtain ⟨h1, h2⟩ := hx
      rw [he.lb] at h1
      obtain ⟨cs, hj⟩ := Option.isSome_iff_exists.1 h1
      by_cases hin : inB j
      · obtain ⟨i, c1, h3, rfl⟩ := hin
        cases h0 : get bx0 i with
        | none => rw [(h.hxn i c1 h3 h0).1] at hj; cases hj
        | some c0 =>
          refine ⟨by show (get bx' (fb i)).isSome = true; rw [h.b1 i c1 h3]; rfl, ?_⟩
          rw [G1 i c1 h3, hc.pinb i c1 h3 (h.hx1 i c0 h0).1]; exact h2
      · have hno : ∀ i cs, get bx1 i = some cs → fb i ≠ j := fun i cs h3 h4 => hin ⟨i, cs, h3, h4⟩
        refine ⟨by show (get bx' j).isSome = true; rw [h.b2 j hno, hj]; rfl, by rw [G2 j hno]; exact h2⟩
    | sb j n sz e =>
      obtain ⟨h1, cap, h2, h2a, h2b, h2c⟩ := hx
      rw [he.lb] at h1
      obtain ⟨cs, hj⟩ := Option.isSome_iff_exists.1 h1
      by_cases hin : inB j
      · obtain ⟨i, c1, h3, rfl⟩ := hin
        cases h0 : get bx0 i with
        | none => rw [(h.hxn i c1 h3 h0).1] at hj; cases hj
        | some c0 =>
          refine ⟨by show (get bx' (fb i)).isSome = true; rw [h.b1 i c1 h3]; rfl, cap, ?_, h2a, h2b, fun hw => ?_⟩
          · rw [G1 i c1 h3, hc.pinb i c1 h3 (h.hx1 i c0 h0).1]; exact h2
          · obtain ⟨_, _, k3⟩ := h.hkd i c1 (.inr h3)
            have := Nat.le_of_ble_eq_true (h.hx1 i c0 h0).1
            rw [k3] at hw; unfold wnB at hw; simp [Nat.blt_eq] at hw; omega
      · have hno : ∀ i cs, get bx1 i = some cs → fb i ≠ j := fun i cs h3 h4 => hin ⟨i, cs, h3, h4⟩
        refine ⟨by show (get bx' j).isSome = true; rw [h.b2 j hno, hj]; rfl, cap, by rw [G2 j hno]; exact h2, h2a, h2b, fun hw => by rw [G2c j hno]; exact h2c hw⟩
    | rp j k =>
      obtain ⟨h0, h1, h2, h3⟩ := hx
      rw [he.lb] at h1
      obtain ⟨cs, hj⟩ := Option.isSome_iff_exists.1 h1
      by_cases hin : inB j
      · obtain ⟨i, c1, h4, rfl⟩ := hin
        cases h5 : get bx0 i with
        | none => rw [(h.hxn i c1 h4 h5).1] at hj; cases hj
        | some c0 =>
          refine ⟨h0, by show (get bx' (fb i)).isSome = true; rw [h.b1 i c1 h4]; rfl, ?_, h3⟩
          rw [(G1s i c1 h4).2, hc.rs.2.2 i c1 (by rw [← (h.hkd i c1 (.inr h4)).2.1]; exact h0) h4 (h.hx1 i c0 h5).1]; exact h2
      · have hno : ∀ i cs, get bx1 i = some cs → fb i ≠ j := fun i cs h3 h4 => hin ⟨i, cs, h3, h4⟩
        exact ⟨h0, by show (get bx' j).isSome = true; rw [h.b2 j hno, hj]; rfl, by rw [(G2s j hno).2]; exact h2, h3⟩
    | pr j k =>
      obtain ⟨h0, h1, h2⟩ := hx
      rw [he.lb] at h1
      obtain ⟨cs, hj⟩ := Option.isSome_iff_exists.1 h1
      by_cases hin : inB j
      · obtain ⟨i, c1, h4, rfl⟩ := hin
        cases h5 : get bx0 i with
        | none => rw [(h.hxn i c1 h4 h5).1] at hj; cases hj
        | some c0 =>
          refine ⟨h0, by show (get bx' (fb i)).isSome = true; rw [h.b1 i c1 h4]; rfl, ?_⟩
          rw [(G1s i c1 h4).2, hc.rs.2.2 i c1 (by rw [← (h.hkd i c1 (.inr h4)).2.1]; exact h0) h4 (h.hx1 i c0 h5).1]; exact h2
      · have hno : ∀ i cs, get bx1 i = some cs → fb i ≠ j := fun i cs h3 h4 => hin ⟨i, cs, h3, h4⟩
        exact ⟨h0, by show (get bx' j).isSome = true; rw [h.b2 j hno, hj]; rfl, by rw [(G2s j hno).2]; exact h2⟩
    | own j n =>
      obtain ⟨h1, h2, h3, h4⟩ := hx
      obtain ⟨o, hj⟩ := hget j h1
      show AR0 m' g'' (bif q j then .any else .own j n) v
      cases hqj : q j with
      | true => trivial
      | false =>
        obtain ⟨h5, h6, h7⟩ := hold j o hj hqj
        exact ⟨hlw' j h5, by rw [h7]; exact h2, h3, by rw [h6, h7]; exact h4⟩
    | ev j n u =>
      obtain ⟨h1, h2, h3, h4⟩ := hx
      obtain ⟨o, hj⟩ := hget j h1
      show AR0 m' g'' (bif q j then .any else .ev j n u) v
      cases hqj : q j with
      | true => trivial
      | false =>
        obtain ⟨h5, h6, h7⟩ := hold j o hj hqj
        exact ⟨hlw' j h5, by rw [h7]; exact h2, h3, by rw [h6, h7]; exact h4⟩
    | oe j n sz k off =>
      obtain ⟨h1, h2, h3, h4⟩ := hx
      obtain ⟨o, hj⟩ := hget j h1
      show AR0 m' g'' (bif q j then .any else .oe j n sz k off) v
      cases hqj : q j with
      | true => trivial
      | false =>
        obtain ⟨h5, h6, h7⟩ := hold j o hj hqj
        exact ⟨hlw' j h5, by rw [h7]; exact h2, h3, by rw [h6, h7]; exact h4⟩
    | sfx j n sz k =>
      obtain ⟨h1, h2, h3, h4⟩ := hx
      obtain ⟨o, hj⟩ := hget j h1
      show AR0 m' g'' (bif q j then .any else .sfx j n sz k) v
      cases hqj : q j with
      | true => trivial
      | false =>
        obtain ⟨h5, h6, h7⟩ := hold j o hj hqj
        exact ⟨hlw' j h5, by rw [h7]; exact h2, h3, by rw [h6, h7]; exact h4⟩
    | _ => exact hx
  have htt : ∀ x : A, x.allP (fun _ => true) = true := fun x => by
    cases x <;> simp [A.allP, A.all1]
    intro y _; cases y <;> simp [A.all1]
  have K1 : ∀ x v, AR m' g' x v → AR m' g'' (x.ren fb fw) v := fun x v hx => hx.mp _ (fun _ => true) (fun x v _ => L1 x v) (htt x)
  have K2 : ∀ x v, AR m g x v → AR m' g'' (x.clr q) v := fun x v hx => hx.mp _ (fun _ => true) (fun x v _ => L2 x v) (htt x)
  have hbc : ∀ j cs, get bx' j = some cs → (∃ i c1, get bx1 i = some c1 ∧ fb i = j ∧ cs = c1.map (A.ren fb fw)) ∨ ((∀ i c1, get bx1 i = some c1 → fb i ≠ j) ∧ ∃ c0, get bx j = some c0 ∧ cs = c0.map (A.clr q)) := fun j cs hj => by
    by_cases hin : inB j
    · obtain ⟨i, c1, h1, rfl⟩ := hin
      rw [h.b1 i c1 h1] at hj; injection hj with hj
      exact .inl ⟨i, c1, h1, rfl, hj.symm⟩
    · have hno : ∀ i cs, get bx1 i = some cs → fb i ≠ j := fun i cs h3 h4 => hin ⟨i, cs, h3, h4⟩
      rw [h.b2 j hno] at hj
      cases h0 : get bx j with
      | none => rw [h0] at hj; cases hj
      | some c0 => rw [h0] at hj; injection hj with hj; exact .inr ⟨hno, c0, rfl, hj.symm⟩
  have hoc : ∀ j o, get ow' j = some o → (∃ i, get ow1 i = some o ∧ fw i = j) ∨ ((∀ i o1, get ow1 i = some o1 → fw i ≠ j) ∧ (∀ i o0, get ow0 i = some o0 → fw i ≠ j) ∧ get ow j = some o) := fun j o hj => by
    by_cases hin : inO j
    · obtain ⟨i, o1, h1, rfl⟩ := hin
      rw [h.o1 i o1 h1] at hj; injection hj with hj; subst hj
      exact .inl ⟨i, h1, rfl⟩
    · have hno : ∀ i o, get ow1 i = some o → fw i ≠ j := fun i cs h3 h4 => hin ⟨i, cs, h3, h4⟩
      have hnw : ∀ i o, get ow0 i = some o → fw i ≠ j := fun i o0 h3 h4 => by rw [h.o3 j i o0 h3 h4 hno] at hj; cases hj
      rw [h.o2 j hno hnw] at hj
      exact .inr ⟨hno, hnw, hj⟩
  refine ⟨g'', {
    nb := fun j n hcj hj b hb => by
      rcases hbc j _ hj with ⟨i, c1, h1, rfl, h2⟩ | ⟨_, c0, h1, h2⟩
      · have := lo_map ren0_lo h2.symm
        subst this
        exact absurd h1 (h.hlo i n (by rw [← (h.hkd i _ (.inr h1)).2.1]; exact hcj))
      · have := lo_map clr0_lo h2.symm
        subst this
        exact he.nb j n hcj h1 b hb
    nf := fun b o u hb hu => by
      by_cases hbw : w.heap.size ≤ b
      · exact hc.nf b o u (.inl hbw) hu
      · cases hbl : lentB (g.sub fb fw bx0 ow0) bx0 ow0 b with
        | true => exact hc.nf b o u (.inr hbl) hu
        | false =>
          obtain ⟨k1, k2⟩ := F4 b (by omega) hbl
          rw [k2 o] at hu
          rw [nfB_eq k1]; exact he.nf b o u hb hu
    lo := ⟨hc.lo.os.trans he.lo.os, hc.lo.tape.trans he.lo.tape, hc.lo.output.trans he.lo.output, Nat.le_trans he.lo.size hc.lo.size, fun i hi hgv => by
      have h1 : i < w.heap.size := Nat.lt_of_lt_of_le hi he.lo.size
      have h2 : lentB (g.sub fb fw bx0 ow0) bx0 ow0 i = false := by
        cases hb : lentB (g.sub fb fw bx0 ow0) bx0 ow0 i with
        | false => rfl
        | true =>
          rcases F1 i hb with h3 | h3
          · omega
          · rw [hgv] at h3; cases h3
      rw [(F4 i h1 h2).1]; exact he.lo.block i hi hgv⟩
    gm := he.gm
    sub := hc.sub
    gt := hc.gt
    ext := ⟨fun b o v hv => hc.ext.keep b o v (he.ext.keep b o v hv), fun b o hb hgv => by
      have h1 : b < w.heap.size := Nat.lt_of_lt_of_le hb he.lo.size
      have h2 : lentB (g.sub fb fw bx0 ow0) bx0 ow0 b = false := by
        cases hbl : lentB (g.sub fb fw bx0 ow0) bx0 ow0 b with
        | false => rfl
        | true =>
          rcases F1 b hbl with h3 | h3
          · omega
          · rw [hgv] at h3; cases h3
      rw [(F4 b h1 h2).2 o]; exact he.ext.old b o hb hgv⟩
    lb := fun j => rfl
    lw := fun j => rfl
    ln := fun j o hj => by
      rcases hoc j o hj with ⟨i, h1, rfl⟩ | ⟨h1, _, h3⟩
      · rw [(G3 i o h1).2]; exact hc.ln i o h1
      · rw [(G4 j h1).2]; exact he.ln j o h3
    boxes := fun j cs hj hcj => by
      rcases hbc j cs hj with ⟨i, c1, h1, rfl, rfl⟩ | ⟨h1, c0, h2, rfl⟩
      · have hci : chB i = false := by rw [← (h.hkd i c1 (.inr h1)).2.1]; exact hcj
        obtain ⟨vs, ty, h3, h4, h5, h6, h7⟩ := hc.boxes i c1 h1 hci
        obtain ⟨k1, k2, k3⟩ := h.hkd i c1 (.inr h1)
        rw [← ob_kd k1 k2 k3] at h3
        rw [G1 i c1 h1]
        refine ⟨vs, ty, h3,   .kd (c := g'.cz) (i := i) (by simpa using h4) k3 k2 (G1c i c1 h1), fun k x v hx hv => ?_, ?_, h7⟩
        · rw [List.getElem?_map] at hx
          cases hk : c1[k]? with
          | none => rw [hk] at hx; cases hx
          | some y => rw [hk] at hx; injection hx with hx; subst hx; exact ⟨K1 y v (h5 k y v hk hv).1, (h5 k y v hk hv).2⟩
        · rcases F5 i c1 h1 hci with h8 | h8
          · exact .inl (Nat.le_trans he.lo.size h8)
          · exact F1 _ h8
      · obtain ⟨vs, ty, h3, h4, h5, h6, h7⟩ := he.boxes j c0 h2 hcj
        obtain ⟨h8, h9⟩ := F2 j c0 h2 hcj h1
        obtain ⟨h10, h11⟩ := F4 _ h8 h9
        rw [G2 j h1]
        refine ⟨vs, ty, h10.trans h3, .ce (c := g.cz) (by simpa using h4) (G2c j h1), fun k x v hx hv => ?_, h6, fun o => by rw [h11]; exact h7 o⟩
        rw [List.getElem?_map] at hx
        cases hk : c0[k]? with
        | none => rw [hk] at hx; cases hx
        | some y => rw [hk] at hx; injection hx with hx; subst hx; exact ⟨K2 y v (h5 k y v hk hv).1, (h5 k y v hk hv).2⟩
    inj := fun j k cj ck hj hk hcj hck e => by
      have hcb : ∀ i c1, get bx1 i = some c1 → chB (fb i) = false → chB i = false := fun i c1 h1 hcj => by rw [← (h.hkd i c1 (.inr h1)).2.1]; exact hcj
      rcases hbc j cj hj with ⟨i1, c1, h1, rfl, rfl⟩ | ⟨h1, c0, h2, rfl⟩
      · rcases hbc k ck hk with ⟨i2, c2, h3, rfl, rfl⟩ | ⟨h3, c2, h4, rfl⟩
        · rw [G1 i1 c1 h1, G1 i2 c2 h3] at e
          rw [hc.inj i1 i2 c1 c2 h1 h3 (hcb i1 c1 h1 hcj) (hcb i2 c2 h3 hck) e]
        · rw [G1 i1 c1 h1, G2 k h3] at e
          obtain ⟨h5, h6⟩ := F2 k c2 h4 hck h3
          rcases F5 i1 c1 h1 (hcb i1 c1 h1 hcj) with h7 | h7
          · omega
          · rw [e, h6] at h7; cases h7
      · rcases hbc k ck hk with ⟨i2, c2, h3, rfl, rfl⟩ | ⟨h3, c2, h4, rfl⟩
        · rw [G1 i2 c2 h3, G2 j h1] at e
          obtain ⟨h5, h6⟩ := F2 j c0 h2 hcj h1
          rcases F5 i2 c2 h3 (hcb i2 c2 h3 hck) with h7 | h7
          · omega
          · rw [← e, h6] at h7; cases h7
        · rw [G2 j h1, G2 k h3] at e
          exact he.inj j k c0 c2 h2 h4 hcj hck e
    owns := fun j o hj => by
      rcases hoc j o hj with ⟨i, h1, rfl⟩ | ⟨h1, h2, h3⟩
      · obtain ⟨vs, h4, h5, h6, h7⟩ := hc.owns i o h1
        rw [(G3 i o h1).1]
        refine ⟨vs, h4, h5, h6, fun b hb => ⟨fun k => ?_, fun k ck hk hck => ?_, ?_⟩⟩
        · rw [(h7 b hb).1 k]; unfold vis; rw [h.hwh i o h1]
        · rcases hbc k ck hk with ⟨i2, c2, h8, rfl, rfl⟩ | ⟨h8, c2, h9, rfl⟩
          · rw [G1 i2 c2 h8]; exact (h7 b hb).2.1 i2 c2 h8 (by rw [← (h.hkd i2 c2 (.inr h8)).2.1]; exact hck)
          · rw [G2 k h8]
            obtain ⟨h10, h11⟩ := F2 k c2 h9 hck h8
            intro e
            rcases F6 i o h1 b hb with h12 | h12
            · omega
            · rw [← e, h11] at h12; cases h12
        · rcases (h7 b hb).2.2 with h8 | h8
          · exact .inl (Nat.le_trans he.lo.size h8)
          · exact F1 b h8
      · obtain ⟨vs, h4, h5, h6, h7⟩ := he.owns j o h3
        rw [(G4 j h1).1]
        refine ⟨vs, owns_block h4 fun b hb => ?_, h5, h6.mono hc.ext.keep, fun b hb => ?_⟩
        · obtain ⟨h8, h9⟩ := F3 j o h3 h2 b hb
          exact (F4 b h8 h9).1
        · obtain ⟨h8, h9⟩ := F3 j o h3 h2 b hb
          refine ⟨fun k => by rw [(F4 b h8 h9).2]; exact (h7 b hb).1 k, fun k ck hk hck => ?_, (h7 b hb).2.2⟩
          rcases hbc k ck hk with ⟨i2, c2, h10, rfl, rfl⟩ | ⟨h10, c2, h11, rfl⟩
          · rw [G1 i2 c2 h10]
            intro e
            rcases F5 i2 c2 h10 (by rw [← (h.hkd i2 c2 (.inr h10)).2.1]; exact hck) with h12 | h12
            · omega
            · rw [e, h9] at h12; cases h12
          · rw [G2 k h10]; exact (h7 b hb).2.1 k c2 h11 hck
    apart := fun j k oj ok hj hk hjk b hb => by
      rcases hoc j oj hj with ⟨i1, h1, rfl⟩ | ⟨h1, h2, h3⟩
      · rw [(G3 i1 oj h1).1] at hb
        rcases hoc k ok hk with ⟨i2, h4, rfl⟩ | ⟨h4, h5, h6⟩
        · rw [(G3 i2 ok h4).1]
          exact hc.apart i1 i2 oj ok h1 h4 (fun e => hjk (by rw [e])) b hb
        · rw [(G4 k h4).1]
          intro hb2
          obtain ⟨h8, h9⟩ := F3 k ok h6 h5 b hb2
          rcases F6 i1 oj h1 b hb with h12 | h12
          · omega
          · rw [h9] at h12; cases h12
      · rw [(G4 j h1).1] at hb
        obtain ⟨h8, h9⟩ := F3 j oj h3 h2 b hb
        rcases hoc k ok hk with ⟨i2, h4, rfl⟩ | ⟨h4, h5, h6⟩
        · rw [(G3 i2 ok h4).1]
          intro hb2
          rcases F6 i2 ok h4 b hb2 with h12 | h12
          · omega
          · rw [h9] at h12; cases h12
        · rw [(G4 k h4).1]
          exact he.apart j k oj ok h3 h6 hjk b hb
    pin := fun j o hj hj2 => by
      rcases hoc j o hj with ⟨i, h1, rfl⟩ | ⟨h1, h2, h3⟩
      · rw [(G3 i o h1).1, hc.pin i o h1 (h.hwp i o h1 hj2)]
        cases h0 : get ow0 i with
        | none => rw [(h.hwn i o h1 h0).2] at hj2; cases hj2
        | some o0 => exact he.pin _ o0 (h.hw0 i o0 h0).1 hj2
      · rw [(G4 j h1).1]; exact he.pin j o h3 hj2
    pinb := fun j cs hj hj2 => by
      rcases hbc j cs hj with ⟨i, c1, h1, rfl, rfl⟩ | ⟨h1, c0, h2, rfl⟩
      · cases h0 : get bx0 i with
        | none => rw [(h.hxn i c1 h1 h0).2] at hj2; cases hj2
        | some c0 =>
          rw [G1 i c1 h1, hc.pinb i c1 h1 (h.hx1 i c0 h0).1]
          exact he.pinb _ _ (h.hx0 i c0 h0) hj2
      · rw [G2 j h1]; exact he.pinb j c0 h2 hj2
    rs := by
      obtain ⟨r1, r2, r3⟩ := he.rs
      obtain ⟨q1, q2, q3⟩ := hc.rs
      have hsp : ∀ j R, chB j = true → get bx' j = some [.rs R] → (∃ i, chB i = true ∧ get bx1 i = some [.rs R] ∧ fb i = j) ∨ ((∀ i c1, get bx1 i = some c1 → fb i ≠ j) ∧ get bx j = some [.rs R]) := fun j R hch hj => by
        rcases hbc j _ hj with ⟨i, c1, h1, rfl, h2⟩ | ⟨h1, c0, h2, h3⟩
        · refine .inl ⟨i, by rw [← (h.hkd i c1 (.inr h1)).2.1]; exact hch, ?_, rfl⟩
          exact rs_map (f := ren0 fb fw) ren0_rs (o := get bx1 i) (by rw [h1]; exact congrArg some h2.symm)
        · exact .inr ⟨h1, rs_map (f := clr0 q) clr0_rs (o := get bx j) (by rw [h2]; exact congrArg some h3.symm)⟩
      -- a resource that was not lent: its blocks are old ones, and not lent
      have hold : ∀ j R, chB j = true → (∀ i c1, get bx1 i = some c1 → fb i ≠ j) → get bx j = some [.rs R] → ∀ k, g.sf j k = true → k < w.heap.size ∧ lentB (g.sub fb fw bx0 ow0) bx0 ow0 k = false := fun j R hch hno hj k hk => by
        obtain ⟨e1, e2⟩ := r1 j R hch hj
        obtain ⟨_, _, e3, e4⟩ := e2 k hk
        refine ⟨R.lt e1 hk, ?_⟩
        cases hb : lentB (g.sub fb fw bx0 ow0) bx0 ow0 k with
        | false => rfl
        | true =>
          rcases lent_spec hb with ⟨i, c0, h1, hci, h2⟩ | ⟨i, o', h1, h2⟩ | ⟨i, R', h0, h1, h2⟩
          · exact absurd h2 (e3 _ _ (h.hx0 i c0 h1) (h.cf (.inl h1) hci))
          · exact absurd h2 (e4 _ _ (h.hw0 i o' h1).1)
          · obtain ⟨c1, h3⟩ := h.backR h1
            have := r2 (fb i) j R' R (HC i _ (.inl h1) h0) hch (h.hx0 i _ h1) hj (hno i c1 h3) k h2
            rw [this] at hk; cases hk
      have hnew : ∀ i R, chB i = true → get bx1 i = some [.rs R] → ∀ k, g'.sf i k = true → w.heap.size ≤ k ∨ lentB (g.sub fb fw bx0 ow0) bx0 ow0 k = true := fun i R hch hi k hk => ((q1 i R hch hi).2 k hk).1
      refine ⟨fun j R hch hj => ?_, fun j1 j2 R1 R2 hc1 hc2 hj1 hj2 hne k hk => ?_, fun j cs hch hj hj2 => ?_⟩
      · rcases hsp j R hch hj with ⟨i, hci, h1, rfl⟩ | ⟨h1, h2⟩
        · obtain ⟨e1, e2⟩ := q1 i R hci h1
          rw [(G1s i _ h1).1, (G1s i _ h1).2]
          refine ⟨e1, fun k hk => ?_⟩
          obtain ⟨e3, e4, e5, e6⟩ := e2 k hk
          refine ⟨?_, e4, fun p cp hp hcp => ?_, fun p o hp => ?_⟩
          · rcases e3 with h8 | h8
            · exact .inl (Nat.le_trans he.lo.size h8)
            · exact F1 k h8
          · rcases hbc p cp hp with ⟨i2, c2, h8, rfl, rfl⟩ | ⟨h8, c2, h9, rfl⟩
            · rw [G1 i2 c2 h8]; exact e5 i2 c2 h8 (by rw [← (h.hkd i2 c2 (.inr h8)).2.1]; exact hcp)
            · rw [G2 p h8]
              obtain ⟨h10, h11⟩ := F2 p c2 h9 hcp h8
              intro e
              rcases e3 with h12 | h12
              · have h12 : w.heap.size ≤ k := h12
                omega
              · have h12 : lentB (g.sub fb fw bx0 ow0) bx0 ow0 k = true := h12
                rw [← e, h11] at h12; cases h12
          · rcases hoc p o hp with ⟨i2, h8, rfl⟩ | ⟨h8, h9, h10⟩
            · rw [(G3 i2 o h8).1]; exact e6 i2 o h8
            · rw [(G4 p h8).1]
              intro e
              obtain ⟨h11, h12⟩ := F3 p o h10 h9 k e
              rcases e3 with h13 | h13
              · have h13 : w.heap.size ≤ k := h13
                omega
              · have h13 : lentB (g.sub fb fw bx0 ow0) bx0 ow0 k = true := h13
                rw [h12] at h13; cases h13
        · obtain ⟨e1, e2⟩ := r1 j R hch h2
          have ho := hold j R hch h1 h2
          rw [(G2s j h1).1, (G2s j h1).2]
          refine ⟨R.loc (fun k hk => (F4 k (ho k hk).1 (ho k hk).2).1) hc.ext.keep e1, fun k hk => ?_⟩
          obtain ⟨e3, e4, e5, e6⟩ := e2 k hk
          obtain ⟨o1, o2⟩ := ho k hk
          refine ⟨e3, fun o => by rw [(F4 k o1 o2).2]; exact e4 o, fun p cp hp hcp => ?_, fun p o hp => ?_⟩
          · rcases hbc p cp hp with ⟨i2, c2, h8, rfl, rfl⟩ | ⟨h8, c2, h9, rfl⟩
            · rw [G1 i2 c2 h8]
              intro e
              rcases F5 i2 c2 h8 (by rw [← (h.hkd i2 c2 (.inr h8)).2.1]; exact hcp) with h12 | h12
              · omega
              · rw [e, o2] at h12; cases h12
            · rw [G2 p h8]; exact e5 p c2 h9 hcp
          · rcases hoc p o hp with ⟨i2, h8, rfl⟩ | ⟨h8, h9, h10⟩
            · rw [(G3 i2 o h8).1]
              intro e
              rcases F6 i2 o h8 k e with h12 | h12
              · omega
              · rw [o2] at h12; cases h12
            · rw [(G4 p h8).1]; exact e6 p o h10
      · rcases hsp j1 R1 hc1 hj1 with ⟨i1, hci1, h1, rfl⟩ | ⟨h1, h2⟩
        · rw [(G1s i1 _ h1).1] at hk
          rcases hsp j2 R2 hc2 hj2 with ⟨i2, hci2, h3, rfl⟩ | ⟨h3, h4⟩
          · rw [(G1s i2 _ h3).1]
            exact q2 i1 i2 R1 R2 hci1 hci2 h1 h3 (fun e => hne (by rw [e])) k hk
          · rw [(G2s j2 h3).1]
            cases hb : g.sf j2 k with
            | false => rfl
            | true =>
              obtain ⟨o1, o2⟩ := hold j2 R2 hc2 h3 h4 k hb
              rcases hnew i1 R1 hci1 h1 k hk with h5 | h5
              · omega
              · rw [o2] at h5; cases h5
        · rw [(G2s j1 h1).1] at hk
          obtain ⟨o1, o2⟩ := hold j1 R1 hc1 h1 h2 k hk
          rcases hsp j2 R2 hc2 hj2 with ⟨i2, hci2, h3, rfl⟩ | ⟨h3, h4⟩
          · rw [(G1s i2 _ h3).1]
            cases hb : g'.sf i2 k with
            | false => rfl
            | true =>
              rcases hnew i2 R2 hci2 h3 k hb with h5 | h5
              · omega
              · rw [o2] at h5; cases h5
          · rw [(G2s j2 h3).1]
            exact r2 j1 j2 R1 R2 hc1 hc2 h2 h4 hne k hk
      · rcases hbc j cs hj with ⟨i, c1, h1, rfl, rfl⟩ | ⟨h1, c0, h2, rfl⟩
        · cases h0 : get bx0 i with
          | none => rw [(h.hxn i c1 h1 h0).2] at hj2; cases hj2
          | some c0 =>
            rw [(G1s i c1 h1).2, q3 i c1 (by rw [← (h.hkd i c1 (.inr h1)).2.1]; exact hch) h1 (h.hx1 i c0 h0).1]
            exact r3 _ _ hch (h.hx0 i c0 h0) hj2
        · rw [(G2s j h1).2]; exact r3 j c0 hch h2 hj2 }, K2, K1⟩
end
end Go.Proofs.YtnclifgiakmmoaaGreat.Sim
