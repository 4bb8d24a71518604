/- Merged by bundles.py: PlOf2, SimAst. -/
import Derived.Test.YtpncekdhigappaaGreatDoorS22
import Derived.Test.YtpncekdhigappaaGreatDoorS30
import Derived.Test.YtpncekdhigappaaGreatDoorS11
import Derived.Test.YtpncekdhigappaaGreatDoorS5
import Derived.Lib.AppendStr
/- Requests: what a message is, and back: in plain Lean. -/
namespace Go.Proofs.YtpncekdhigappaaGreatDoor.Ro
set_option linter.unusedVariables false
set_option linter.unusedSimpArgs false
open Go.RowKit Mem Sim Opn Hd Str Pth Rq
theorem start_join (m t : L8) : (bs m ++ ⟨#[32]⟩ ++ bs t ++ ⟨#[32, 72, 84, 84, 80, 47, 49, 46, 49]⟩ : ByteArray).toList = m ++ 32 :: (t ++ 32 :: httpL) := by
  have e1 : (⟨#[32]⟩ : ByteArray).toList = [32] := bs_toList [32]
  have e2 : (⟨#[32, 72, 84, 84, 80, 47, 49, 46, 49]⟩ : ByteArray).toList = 32 :: httpL := bs_toList [32, 72, 84, 84, 80, 47, 49, 46, 49]
  rw [toList_append, toList_append, toList_append, e1, e2, bs_toList, bs_toList]
  simp
/-- what a message that is a request looks like -/
structure Is (r : PRaw) (x : PReq) (m t : L8) : Prop where
  sp : splC 32 r.start.toList = [m, t, httpL]
  me : methB m = true
  ta : ∃ q, targL m t = some q
  xm : x.method = bs m
  xt : x.target = bs t
  xh : x.heads = r.heads
  xb : x.body = r.body
theorem ofR_is {r : PRaw} {x : PReq} (h : ofR r = some x) : ∃ m t, Is r x m t := by
  unfold ofR at h
  split at h
  · rename_i m t v hh h1 _
    unfold of3 at h
    split at h
    · rename_i hc
      simp only [Bool.and_eq_true, decide_eq_true_eq] at hc
      obtain ⟨q, hq, hx⟩ := Option.map_eq_some_iff.1 h
      subst hx
      exact ⟨m, t, ⟨by rw [h1, hc.2.1], hc.1, ⟨q, hq⟩, rfl, rfl, rfl, rfl⟩⟩
    · cases h
  · cases h
theorem Is.start {r : PRaw} {x : PReq} {m t : L8} (h : Is r x m t) : r.start.toList = m ++ 32 :: (t ++ 32 :: httpL) := (splC_three h.sp).2
theorem ofR_raw {r : PRaw} {x : PReq} (h : ofR r = some x) : rawQ x = r := by
  obtain ⟨m, t, hi⟩ := ofR_is h
  have hs := hi.start
  unfold rawQ
  rw [hi.xm, hi.xt, hi.xh, hi.xb]
  have : (bs m ++ ⟨#[32]⟩ ++ bs t ++ ⟨#[32, 72, 84, 84, 80, 47, 49, 46, 49]⟩ : ByteArray) = r.start := bs_inj (by rw [start_join, hs])
  rw [this]
theorem meth_plain {m : L8} (h : methB m = true) : m.all evenB = true ∧ m.length ≤ 16 ∧ ∀ c ∈ m, 65 ≤ c.toNat ∧ c.toNat ≤ 90 := by
  unfold methB at h
  simp only [Bool.and_eq_true, decide_eq_true_eq] at h
  have h1 : ∀ c ∈ m, 65 ≤ c.toNat ∧ c.toNat ≤ 90 := fun c hc => by
    have := (List.all_eq_true.1 h.1) c hc
    simpa using this
  refine ⟨List.all_eq_true.2 fun c hc => ?_, h.2.2, h1⟩
  have := h1 c hc
  unfold evenB oddB oddR
  simp; omega
theorem okL_plain : ∀ {l : L8}, Pth.okL l = true → l.all evenB = true
  | [], _ => rfl
  | c :: l, h => by
    rw [okL_cons, Bool.and_eq_true, Bool.and_eq_true] at h
    rw [List.all_cons, okL_plain h.2, Bool.and_true]
    have hb : badC c = false := by simpa using h.1.1
    unfold badC at hb
    simp only [Bool.or_eq_false_iff, decide_eq_false_iff_not] at hb
    unfold evenB oddB oddR
    simp; omega
theorem low_plain {c : UInt8} (h : hostC (lowU c) = true ∨ digB (lowU c) = true ∨ lowU c = 58) : evenB c = true := by
  have key : ∀ n : Fin 256, ((hostC (lowU (UInt8.ofNat n.1)) || (digB (lowU (UInt8.ofNat n.1)) || decide (lowU (UInt8.ofNat n.1) = 58))) → evenB (UInt8.ofNat n.1) = true) := by decide +kernel
  have := key ⟨c.toNat, c.toNat_lt⟩
  rw [show UInt8.ofNat c.toNat = c by simp] at this
  refine this ?_
  rcases h with h | h | h
  · rw [h]; rfl
  · rw [h]; simp
  · rw [h]; simp
theorem host_plain {t : L8} (h : hostB (t.map lowU) = true) : t.all evenB = true ∧ t.length ≤ 64 := by
  unfold hostB at h
  simp only [Bool.and_eq_true, decide_eq_true_eq] at h
  obtain ⟨h1, _, h3, h4⟩ := h
  rw [List.length_map] at h3
  refine ⟨List.all_eq_true.2 fun c hc => low_plain ?_, h3⟩
  have hm : lowU c ∈ t.map lowU := List.mem_map.2 ⟨c, hc, rfl⟩
  rw [cut58 (t.map lowU), List.mem_append] at hm
  rcases hm with hm | hm
  · exact .inl ((List.all_eq_true.1 h1) _ hm)
  · split at hm
    · rename_i hp
      rw [hp] at h4
      rcases List.mem_cons.1 hm with e | e
      · exact .inr (.inr e)
      · unfold portB at h4
        simp only [Bool.not_true, Bool.false_or, Bool.and_eq_true] at h4
        exact .inr (.inl ((List.all_eq_true.1 h4.2.2.2.1) _ e))
    · cases hm
theorem targ_plain {m t : L8} {q : L8 × L8} (h : targL m t = some q) : t.all evenB = true ∧ t.length ≤ 512 := by
  unfold targL at h
  split at h
  · split at h
    · rename_i hc
      rw [Bool.and_eq_true] at hc
      obtain ⟨h1, h2⟩ := host_plain hc.1
      exact ⟨h1, by omega⟩
    · cases h
  · unfold normL at h
    split at h
    · rename_i hm
      unfold Pth.mayL at hm
      simp only [Bool.and_eq_true, decide_eq_true_eq] at hm
      exact ⟨okL_plain hm.2, hm.1.1⟩
    · cases h
theorem ofR_plain {r : PRaw} {x : PReq} (h : ofR r = some x) : plainP r.start = true ∧ 1 ≤ r.start.size ∧ r.start.size ≤ 578 := by
  obtain ⟨m, t, hi⟩ := ofR_is h
  have hs := hi.start
  obtain ⟨h1, h2, _⟩ := meth_plain hi.me
  obtain ⟨q, hq⟩ := hi.ta
  obtain ⟨h3, h4⟩ := targ_plain hq
  have hl := toList_len r.start
  have e : httpL.all evenB = true := by decide
  have e2 : evenB 32 = true := by decide
  unfold plainP
  rw [hs] at hl ⊢
  simp only [List.length_append, List.length_cons] at hl
  refine ⟨?_, by omega, ?_⟩
  · rw [List.all_append, List.all_cons, List.all_append, List.all_cons, h1, h3, e, e2]; rfl
  · simp only [List.length_nil] at hl
    omega
theorem mayR_of {x : PReq} (h : mayR x = true) : ofR (rawQ x) = some x ∧ fitsP x.heads x.body = true ∧ wrP (rawQ x) = true := by
  unfold mayR at h
  rw [Bool.and_eq_true] at h
  obtain ⟨h1, h2⟩ := h
  cases ho : ofR (rawQ x) with
  | none => rw [ho] at h1; cases h1
  | some y =>
    rw [ho] at h1
    obtain rfl := (sameR_iff y x).1 h1
    obtain ⟨p1, p2, p3⟩ := ofR_plain ho
    refine ⟨rfl, h2, ?_⟩
    unfold wrP
    have h3 : fitsP (rawQ y).heads (rawQ y).body = true := h2
    rw [p1, decide_eq_true p2, decide_eq_true p3, h3]; rfl
theorem of_mayR {r : PRaw} {x : PReq} (h : ofR r = some x) (hf : fitsP r.heads r.body = true) : mayR x = true := by
  have hr := ofR_raw h
  obtain ⟨m, t, hi⟩ := ofR_is h
  unfold mayR
  rw [hr, h]
  dsimp only
  rw [(sameR_iff x x).2 rfl, hi.xh, hi.xb, hf]; rfl
/-- a request's bytes are read as its message -/
theorem req_back {x : PReq} (h : mayR x = true) : rawsL (msgP (rawQ x)) = ([rawQ x], 0) := by
  obtain ⟨_, _, h3⟩ := mayR_of h
  refine rawsL_idl ?_
  have := msg_back (rawQ x) h3 []
  exact this
theorem oneR_back {x : PReq} (h : mayR x = true) : oneR (msgP (rawQ x)) = .inl x := by
  have h1 := req_back h
  unfold oneR
  rw [h1, if_neg (fun e => e rfl)]
  dsimp only
  rw [(mayR_of h).1]
theorem oneR_ok {l : List UInt8} {x : PReq} (h : oneR l = .inl x) : ∃ r, rawsL l = ([r], 0) ∧ ofR r = some x := by
  unfold oneR at h
  split at h
  · cases h
  · rename_i he
    split at h
    · rename_i q hq
      split at h
      · rename_i y hy
        injection h with h; subst h
        refine ⟨q, ?_, hy⟩
        have : (rawsL l).2 = 0 := by simpa using he
        exact Prod.ext hq this
      · cases h
    · cases h
theorem oneR_err {l : List UInt8} {e : Int} (h : oneR l = .inr e) : e ≠ 0 := by
  unfold oneR at h
  split at h
  · rename_i he
    injection h with h; rw [← h]; exact he
  · split at h
    · split at h
      · cases h
      · injection h with h; omega
    · injection h with h; omega
end Go.Proofs.YtpncekdhigappaaGreatDoor.Ro

/- A logic of states: a text appended to a row of bytes. -/
namespace Go.Proofs.YtpncekdhigappaaGreatDoor.Sim
set_option linter.unusedVariables false
set_option linter.unusedSimpArgs false
open Go.RowKit Mem
theorem toList_data (s : ByteArray) : s.toList = s.data.toList := by
  have h := bs_toList s.data.toList
  exact h
theorem strCells_bytes (s : ByteArray) : Lib.strCells s = s.toList.map fun b => Value.int .u8 (b.toNat : Int) := by rw [toList_data]; rfl
theorem run_append_str_roomM {P : Program} (w : World) (t u ty e : TypeId) (i : TypeInfo) (ht : P.underlying t = some (.slice e)) (hu : P.underlying u = some .string) (hi : P.info? e = some i) (hs1 : i.size = 1)
    (g sLen sCap : Nat) (cur : Array Value) (fz : Nat × Nat) (hg : w.heap[g]? = some (.cells cur e fz)) (hfz : FzOk fz cur.size) (s : ByteArray)
    (hroom : sLen + s.size ≤ sCap) (hfit : sLen + s.size ≤ cur.size) :
    (Builtin.append_ #[t, u] ty #[.slice (some ⟨g, 0, none⟩) sLen sCap, .string s]).run P w =
      .ok (.slice (some ⟨g, 0, none⟩) (sLen + s.size) sCap) (w.setRow g (cur.toList.take sLen ++ Lib.strCells s ++ cur.toList.drop (sLen + s.size)).toArray) := by
  have hf := Lib.run_firstCells_string (P := P) w 1 s
  have hst := run_storeCells_atM P g sLen e fz (Lib.strCells s) 0 cur w hg hfz (by simpa [Lib.strCells_length] using hfit) (Lib.strCells_oneCell s)
  simp only [Nat.add_zero, Lib.strCells_length] at hst
  simp [Builtin.append_, run_underlying ht, run_underlying hu, sizeOf, typeInfo, hi, hs1, Builtin.lenOf, hroom, hf, Addr.add_lit, hst]
theorem run_append_str3 {P : Program} (w : World) (base : Nat) (t u ty e : TypeId) (i : TypeInfo) (ht : P.underlying t = some (.slice e)) (hu : P.underlying u = some .string) (hi : P.info? e = some i) (hz : i.zero = some (.int .u8 0))
    (hsize : i.size = 1) (hby : i.bytes = 1) (v : Value) (n : Nat) (xs : List Value) (hown : RowM w base e 1 v n xs) (s : ByteArray)
    (h63 : n + s.size ≤ maxLen) (hbytes : n + s.size ≤ 140737488355328) (hbase : base ≤ w.heap.size) :
    ∃ v' w', (Builtin.append_ #[t, u] ty #[v, .string s]).run P w = .ok v' w' ∧ RowM w' base e 1 v' (n + s.size) (xs ++ Lib.strCells s) ∧
      ((v'.ownBlock = v.ownBlock ∧ w.grownBy w' v.ownBlock) ∨ ((∀ g, v'.ownBlock = some g → w.heap.size ≤ g) ∧ Lo w w')) := by
  obtain ⟨hxl, ⟨rfl, rfl⟩ | ⟨g, cap, cur, rfl, hbg, ⟨fz, hg, hfz⟩, hnc, hcm, hcs, htk⟩⟩ := hown
  · obtain ⟨v2, w2, hr2, h22, h3, _⟩ := Lib.run_append_own_string (P := P) w w.heap.size t u ty e i ht hu hi hz hsize hby (.slice none 0 0) 0 xs ⟨hxl, .inl ⟨rfl, rfl⟩⟩ s h63 hbytes (Nat.le_refl _)
    exact ⟨v2, w2, hr2, (RowM.of h22).low hbase, .inr ⟨fun g hg => (h22.lt g hg).1, Lo.of_grown h3⟩⟩
  · have hxl' : xs.length = n := by simpa using hxl
    have hlen : (xs ++ Lib.strCells s).length = (n + s.size) * 1 := by rw [List.length_append, hxl', Lib.strCells_length, Nat.mul_one]
    have hcs' : cap ≤ cur.size := by simpa using hcs
    by_cases hroom : n + s.size ≤ cap
    · have hr2 := run_append_str_roomM (P := P) w t u ty e i ht hu hi hsize g n cap cur fz hg hfz s hroom (by omega)
      have hcl : cur.toList.length = cur.size := by simp
      refine ⟨_, _, hr2, ⟨hlen, .inr ⟨g, cap, _, rfl, hbg, ⟨fz, setRow_heap w g cur _ e fz hg, ?_⟩, hroom, hcm, ?_, ?_⟩⟩, .inl ⟨rfl, rfl, rfl, rfl, by simp [World.setRow], fun k hk hne => setRow_other w g k _ (fun e => hne (by rw [e]; rfl))⟩⟩
      · have : (cur.toList.take n ++ Lib.strCells s ++ cur.toList.drop (n + s.size)).toArray.size = cur.size := by
          simp only [List.size_toArray, List.length_append, List.length_take, List.length_drop, Lib.strCells_length]; rw [hcl]; omega
        rw [this]; exact hfz
      · simp only [List.size_toArray, List.length_append, List.length_take, List.length_drop, Lib.strCells_length]; rw [hcl]; omega
      · have ht' : cur.toList.take n = xs := by simpa using htk
        simp only [List.append_assoc]
        rw [ht', ← List.append_assoc, ← hlen]
        exact List.take_left
    · have holds : ∀ (j : Nat) u, xs[j]? = some u → w.cell? ((⟨g, 0, none⟩ : Addr).add j) = some u := RowM.cells (base := base) (e := e) (v := .slice (some ⟨g, 0, none⟩) n cap) (n := n) ⟨hxl, .inr ⟨g, cap, cur, rfl, hbg, ⟨fz, hg, hfz⟩, hnc, hcm, hcs, htk⟩⟩ rfl
      have hsmall : n + s.size ≤ 9223372036854775807 := by simp only [maxLen] at h63; omega
      have hr2 := Lib.run_append_grow_string (P := P) w t u ty e i (.int .u8 0) ht hu hi hz ⟨g, 0, none⟩ n cap xs (by rw [hsize]; omega) holds s (by omega) (by omega) (by rw [hby]; exact growslice_fits (by omega) (by omega))
      have hge := grownCap_ge w (n + s.size) cap e
      have hcm' : grownCap w (n + s.size) cap e ≤ maxLen := grownCap_le_maxLen w (n + s.size) cap e h63
      refine ⟨_, _, hr2, ⟨hlen, .inr ⟨w.heap.size, _, _, rfl, hbase, ⟨(0, 0), heap_alloc_new w.drew _, .inl rfl⟩, hge, hcm', ?_, ?_⟩⟩, .inr ⟨fun g' hg' => ?_, ((Lo.refl w).drew).alloc _⟩⟩
      · have hz1 : (Value.int IntKind.u8 0).cells.size = 1 := rfl
        simp only [Array.size_append, List.size_toArray, size_zeroCells, hz1, hxl', Lib.strCells_length]
        omega
      · simp only [Array.toList_append, List.append_assoc]
        rw [← List.append_assoc, ← hlen]
        exact List.take_left
      · simp [Value.ownBlock] at hg'
        omega
section
variable {P : Program} {N : Nat} {Q : Exit → St → Prop} {ops : Array Oper} {rest : List Oper} {o : Oper} {tm : List (Nat × A)} {bx : List (Nat × List A)} {ow : List (Nat × Own)}
/-- a text appended to a row of the call's own -/
theorem sops_append_str {t u e : Nat} {x z : Operand} {i n d : Nat} {rows : List (List T)} {s : ByteArray} (hg : o.guard = none) (ho : o.op = .call { callee := .builtin .append, args := #[x, z], argTypes := #[t, u] }) (hd : o.dst = some d) (hN : Nat.blt d N = true)
    (hx : evA tm x = some (.own i n)) (hi : get ow i = some ⟨e, 1, rows⟩) (hn : n = rows.length) (hz : evA tm z = some (.t (.v (.string s)))) (hT : sliceE P t = some (e, 1, 1)) (hU : isStr P u = true) (hZ : (P.info? e).bind (·.zero) = some (.int .u8 0))
    (h0 : 0 < s.size) (hb : rows.length + s.size ≤ 140737488355328)
    (h : SOps P N ops Q rest ⟨(d, .own i (rows ++ s.toList.map byteT).length) :: tm, bx, (i, ⟨e, 1, rows ++ s.toList.map byteT⟩) :: ow⟩) (hp : Nat.ble 2000 i = false := by rfl) : SOps P N ops Q (o :: rest) ⟨tm, bx, ow⟩ := by
  refine sops_run (.free hg rfl) (fun C a w m g hr => ?_) h
  have he := hr.env
  obtain ⟨i', zv, hu, hi', hzz, h4, h5, h6, h7⟩ := sliceE_spec hT
  have hU' := isStr_spec hU
  rw [hi'] at hZ
  have hZ' : i'.zero = some (.int .u8 0) := by simpa using hZ
  obtain ⟨hlw, _, hAx, hgo⟩ := hr.ev hx
  have hln := he.ln i _ hi
  have hvx := hgo (by rw [hln]; exact hn)
  have hvz := tr_v (hr.ev hz)
  obtain ⟨vs, ho1, hrl, hc, hbk⟩ := he.owns i _ hi
  dsimp only at ho1 hrl hc hbk
  have hsz : s.toList.length = s.size := toList_len s
  have hexec : ∀ v' w', (Builtin.append_ #[t, u] o.type #[a.eval x, a.eval z]).run P w = .ok v' w' → (execOp a.eval o).run P w = .ok (.value v') w' := fun v' w' hh => by
    simp only [execOp, ho, resolve, invoke, builtin, Sem.run_bind, Sem.run_pure, Result.andThen_ok, List.map_toArray, List.map_cons, List.map_nil, hh]
  rw [hd]
  have hdN := Nat.lt_of_succ_le (Nat.le_of_ble_eq_true hN)
  obtain ⟨v', w', hrun, hown, hcase⟩ := run_append_str3 (P := P) w 0 t u o.type e i' hu hU' hi' hZ' h4 h5 (g.go i) rows.length vs ho1 s (by unfold maxLen; omega) hb (Nat.zero_le _)
  refine ⟨v', w', hexec _ _ (by rw [hvz, hvx]; exact hrun), ?_⟩
  have hlr : (rows ++ s.toList.map byteT).length = rows.length + s.size := by rw [List.length_append, List.length_map, hsz]
  obtain ⟨h8, h9⟩ := he.setO (hp := hp) (i := i) (v := v') (e := e) (sz := 1) (rows := rows ++ s.toList.map byteT) (vs := vs ++ Lib.strCells s) (by rw [hlr]; exact hown) (fun r hr' => by
      rcases List.mem_append.1 hr' with hr' | hr'
      · exact hrl r hr'
      · obtain ⟨b, _, rfl⟩ := List.mem_map.1 hr'; rfl) (by rw [List.flatten_append, strCells_bytes]; exact hc.app (cells_bytes m s.toList)) (.inl ⟨_, hi, by rw [hlr]; show rows.length < _; omega⟩) (by
      rcases hcase with ⟨e1, e2⟩ | hf
      · exact .inl ⟨_, vis i vs, hi, e1, e2, vis_pre fun k u hk => by rw [List.getElem?_append_left (List.getElem?_eq_some_iff.1 hk).1]; exact hk, fun b hb k => (hbk b hb).1 k⟩
      · exact .inr hf)
  refine ⟨_, _, hr.put h8 (fun x u h => h.setO h9 (.inr (by rw [hln, hlr]; show rows.length < _; omega))) hdN ?_⟩
  refine ⟨by simp [Gh.setO], by simp [Gh.setO], ?_, fun _ => by simp [Gh.setO]⟩
  obtain ⟨_, hq⟩ := hown
  rcases hq with ⟨rfl, e2⟩ | ⟨q, cap, cur, rfl, _⟩
  · omega
  · exact ⟨some ⟨q, 0, none⟩, cap, by rw [hlr]⟩
end
end Go.Proofs.YtpncekdhigappaaGreatDoor.Sim
