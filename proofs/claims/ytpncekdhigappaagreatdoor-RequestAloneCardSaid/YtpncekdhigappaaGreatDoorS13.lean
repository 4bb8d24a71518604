/- Merged by bundles.py: SimGo, Rel09, SimHd1, SimHd4. -/
import Derived.Test.YtpncekdhigappaaGreatDoorS12
import Derived.Test.YtpncekdhigappaaGreatDoorS11
import Derived.Test.YtpncekdhigappaaGreatDoorS6
/- A logic of states: short names for the steps. (Printed by mk_go.py.) -/
namespace Go.Proofs.YtpncekdhigappaaGreatDoor.Sim
set_option linter.unusedVariables false
set_option linter.unusedSimpArgs false
open Go.RowKit Mem
structure W1 (b : Prop) : Prop where
  p : b
section
variable {P : Program} {N : Nat} {Q : Exit → St → Prop} {ops : Array Oper} {rest tail : List Oper} {o : Oper} {tm : List (Nat × A)} {bx : List (Nat × List A)} {ow : List (Nat × Own)} {ρ : Operand → Option A}
theorem sp {d : Nat} {r : A} (hp : PureOp P bx ow o (evA tm) r) (h : SOps P N ops Q rest ⟨(d, r) :: tm, bx, ow⟩) (hg : GuardIs ops tm o true := by first | exact .free rfl rfl | exact gy) (hd : o.dst = some d := by exact rfl) (hN : Nat.blt d N = true := by exact rfl) : SOps P N ops Q (o :: rest) ⟨tm, bx, ow⟩ := sops_pure hg hd hN hp h
theorem oK {d : Nat} (h : SOps P N ops Q rest ⟨(d, .t (.v undef)) :: tm, bx, ow⟩) (hg : GuardIs ops tm o false := by first | exact gn0 | exact gn1 | exact .nou rfl rfl rfl) (hd : o.dst = some d := by exact rfl) (hN : Nat.blt d N = true := by exact rfl) : SOps P N ops Q (o :: rest) ⟨tm, bx, ow⟩ := sops_skip hg hd hN h
theorem dp {d : Nat} {r : A} (hp : PureOp P bx ow o (evA tm) r) (h : SDraw P N bx ow ops Q tail rest ((d, r) :: tm)) (hg : GuardIs ops tm o true := by first | exact .free rfl rfl | exact gy) (hd : o.dst = some d := by exact rfl) : SDraw P N bx ow ops Q tail (o :: rest) tm := sdraw_pure hg hd hp h
theorem oN {st : St} (h : Q .normal st) : SOps P N ops Q [] st := sops_nil h
theorem dN (h : SOps P N ops Q tail ⟨tm, bx, ow⟩) : SDraw P N bx ow ops Q tail [] tm := sdraw_nil h
theorem ssp {j e : Nat} {want b : Bool} (h1 : b = true → SOps P N ops Q (o :: rest) ⟨tm, bx, ow⟩) (h0 : b = false → SOps P N ops Q (o :: rest) ⟨tm, bx, ow⟩) (hg : o.guard = some (j, want) := by exact rfl) (hj : dstOf ops j = some e := by exact rfl) (hs : get tm e = some (.t (.v (.bool b))) := by exact rfl) : SOps P N ops Q (o :: rest) ⟨tm, bx, ow⟩ := sops_split hg hj hs h1 h0
/-- a call by its contract -/
theorem oC {f : FuncId} {xs : List Operand} {at_ : Array TypeId} {ts : List T} {t : T} {d : Nat} (hc : PCalls P f ts t) (ho : o.op = .call { callee := .value (.func f), args := xs.toArray, argTypes := at_ }) (ha : Args ow (evA tm) xs ts) (h : SOps P N ops Q rest ⟨(d, .t t) :: tm, bx, ow⟩) (hg : GuardIs ops tm o true := by first | exact .free rfl rfl | exact gy) (hd : o.dst = some d := by exact rfl) (hN : Nat.blt d N = true := by exact rfl) : SOps P N ops Q (o :: rest) ⟨tm, bx, ow⟩ := sops_pure hg hd hN (po_call hc ho ha) h
theorem dC {f : FuncId} {xs : List Operand} {at_ : Array TypeId} {ts : List T} {t : T} {d : Nat} (hc : PCalls P f ts t) (ho : o.op = .call { callee := .value (.func f), args := xs.toArray, argTypes := at_ }) (ha : Args ow (evA tm) xs ts) (h : SDraw P N bx ow ops Q tail rest ((d, .t t) :: tm)) (hg : GuardIs ops tm o true := by first | exact .free rfl rfl | exact gy) (hd : o.dst = some d := by exact rfl) : SDraw P N bx ow ops Q tail (o :: rest) tm := sdraw_pure hg hd (po_call hc ho ha) h
theorem oMv {x : Operand} {r : A} {d : Nat} (h : SOps P N ops Q rest ⟨(d, r) :: tm, bx, ow⟩) (ho : o.op = .move x := by exact rfl) (hx : evA tm x = some r := by exact rfl) (hg : GuardIs ops tm o true := by first | exact .free rfl rfl | exact gy) (hd : o.dst = some d := by exact rfl) (hN : Nat.blt d N = true := by exact rfl) : SOps P N ops Q (o :: rest) ⟨tm, bx, ow⟩ := sops_pure hg hd hN (po_move ho hx) h
theorem dMv {x : Operand} {r : A} {d : Nat} (h : SDraw P N bx ow ops Q tail rest ((d, r) :: tm)) (ho : o.op = .move x := by exact rfl) (hx : evA tm x = some r := by exact rfl) (hg : GuardIs ops tm o true := by first | exact .free rfl rfl | exact gy) (hd : o.dst = some d := by exact rfl) : SDraw P N bx ow ops Q tail (o :: rest) tm := sdraw_pure hg hd (po_move ho hx) h
theorem oAs {x : Operand} {r : A} {d : Nat} (h : SOps P N ops Q rest ⟨(d, r) :: tm, bx, ow⟩) (ho : o.op = .assign x := by exact rfl) (hx : evA tm x = some r := by exact rfl) (hg : GuardIs ops tm o true := by first | exact .free rfl rfl | exact gy) (hd : o.dst = some d := by exact rfl) (hN : Nat.blt d N = true := by exact rfl) : SOps P N ops Q (o :: rest) ⟨tm, bx, ow⟩ := sops_pure hg hd hN (po_assign ho hx) h
theorem dAs {x : Operand} {r : A} {d : Nat} (h : SDraw P N bx ow ops Q tail rest ((d, r) :: tm)) (ho : o.op = .assign x := by exact rfl) (hx : evA tm x = some r := by exact rfl) (hg : GuardIs ops tm o true := by first | exact .free rfl rfl | exact gy) (hd : o.dst = some d := by exact rfl) : SDraw P N bx ow ops Q tail (o :: rest) tm := sdraw_pure hg hd (po_assign ho hx) h
theorem oCm {op : BinOp} {t t2 : TypeId} {x y : Operand} {k : IntKind} {i j : Int} {c : Bool} {d : Nat} (h : SOps P N ops Q rest ⟨(d, .t (.v (.bool c))) :: tm, bx, ow⟩) (ho : o.op = .binOp op t x y t2 := by exact rfl) (hx : evA tm x = some (.t (.v (.int k i))) := by exact rfl) (hy : evA tm y = some (.t (.v (.int k j))) := by exact rfl) (hc : cmpB op i j = some c := by exact rfl) (hg : GuardIs ops tm o true := by first | exact .free rfl rfl | exact gy) (hd : o.dst = some d := by exact rfl) (hN : Nat.blt d N = true := by exact rfl) : SOps P N ops Q (o :: rest) ⟨tm, bx, ow⟩ := sops_pure hg hd hN (po_cmp ho hx hy hc) h
theorem dCm {op : BinOp} {t t2 : TypeId} {x y : Operand} {k : IntKind} {i j : Int} {c : Bool} {d : Nat} (h : SDraw P N bx ow ops Q tail rest ((d, .t (.v (.bool c))) :: tm)) (ho : o.op = .binOp op t x y t2 := by exact rfl) (hx : evA tm x = some (.t (.v (.int k i))) := by exact rfl) (hy : evA tm y = some (.t (.v (.int k j))) := by exact rfl) (hc : cmpB op i j = some c := by exact rfl) (hg : GuardIs ops tm o true := by first | exact .free rfl rfl | exact gy) (hd : o.dst = some d := by exact rfl) : SDraw P N bx ow ops Q tail (o :: rest) tm := sdraw_pure hg hd (po_cmp ho hx hy hc) h
theorem oFb {s : TypeId} {x : Operand} {f k i off : Nat} {d : Nat} (h : SOps P N ops Q rest ⟨(d, .bp i (off + k)) :: tm, bx, ow⟩) (ho : o.op = .fieldAddr s x f := by exact rfl) (hx : evA tm x = some (.bp i off) := by exact rfl) (hk : fieldOff P s f = some k := by exact tyF rfl) (hg : GuardIs ops tm o true := by first | exact .free rfl rfl | exact gy) (hd : o.dst = some d := by exact rfl) (hN : Nat.blt d N = true := by exact rfl) : SOps P N ops Q (o :: rest) ⟨tm, bx, ow⟩ := sops_pure hg hd hN (po_field_bx ho hx hk) h
theorem dFb {s : TypeId} {x : Operand} {f k i off : Nat} {d : Nat} (h : SDraw P N bx ow ops Q tail rest ((d, .bp i (off + k)) :: tm)) (ho : o.op = .fieldAddr s x f := by exact rfl) (hx : evA tm x = some (.bp i off) := by exact rfl) (hk : fieldOff P s f = some k := by exact tyF rfl) (hg : GuardIs ops tm o true := by first | exact .free rfl rfl | exact gy) (hd : o.dst = some d := by exact rfl) : SDraw P N bx ow ops Q tail (o :: rest) tm := sdraw_pure hg hd (po_field_bx ho hx hk) h
theorem oFd {s : TypeId} {x : Operand} {f k : Nat} {cs : List T} {d : Nat} (h : SOps P N ops Q rest ⟨(d, .t (.tp (cs.drop k))) :: tm, bx, ow⟩) (ho : o.op = .fieldAddr s x f := by exact rfl) (hx : evA tm x = some (.t (.tp cs)) := by exact rfl) (hk : fieldOff P s f = some k := by exact tyF rfl) (hg : GuardIs ops tm o true := by first | exact .free rfl rfl | exact gy) (hd : o.dst = some d := by exact rfl) (hN : Nat.blt d N = true := by exact rfl) : SOps P N ops Q (o :: rest) ⟨tm, bx, ow⟩ := sops_pure hg hd hN (po_field ho hx hk) h
theorem dFd {s : TypeId} {x : Operand} {f k : Nat} {cs : List T} {d : Nat} (h : SDraw P N bx ow ops Q tail rest ((d, .t (.tp (cs.drop k))) :: tm)) (ho : o.op = .fieldAddr s x f := by exact rfl) (hx : evA tm x = some (.t (.tp cs)) := by exact rfl) (hk : fieldOff P s f = some k := by exact tyF rfl) (hg : GuardIs ops tm o true := by first | exact .free rfl rfl | exact gy) (hd : o.dst = some d := by exact rfl) : SDraw P N bx ow ops Q tail (o :: rest) tm := sdraw_pure hg hd (po_field ho hx hk) h
theorem oLb {ty : TypeId} {x : Operand} {i off n : Nat} {cs : List A} {r : A} {d : Nat} (h : SOps P N ops Q rest ⟨(d, r) :: tm, bx, ow⟩) (ho : o.op = .load ty x := by exact rfl) (hx : evA tm x = some (.bp i off) := by exact rfl) (hT : tyI P ty = some (false, n) := by exact tyT rfl) (hb : get bx i = some cs := by exact rfl) (ht : cs[off]? = some r := by exact rfl) (hq : cellB i = true := by exact rfl) (hg : GuardIs ops tm o true := by first | exact .free rfl rfl | exact gy) (hd : o.dst = some d := by exact rfl) (hN : Nat.blt d N = true := by exact rfl) : SOps P N ops Q (o :: rest) ⟨tm, bx, ow⟩ := sops_pure hg hd hN (po_load_bx ho hx hT hb ht hq) h
theorem dLb {ty : TypeId} {x : Operand} {i off n : Nat} {cs : List A} {r : A} {d : Nat} (h : SDraw P N bx ow ops Q tail rest ((d, r) :: tm)) (ho : o.op = .load ty x := by exact rfl) (hx : evA tm x = some (.bp i off) := by exact rfl) (hT : tyI P ty = some (false, n) := by exact tyT rfl) (hb : get bx i = some cs := by exact rfl) (ht : cs[off]? = some r := by exact rfl) (hq : cellB i = true := by exact rfl) (hg : GuardIs ops tm o true := by first | exact .free rfl rfl | exact gy) (hd : o.dst = some d := by exact rfl) : SDraw P N bx ow ops Q tail (o :: rest) tm := sdraw_pure hg hd (po_load_bx ho hx hT hb ht hq) h
theorem oLd {ty : TypeId} {x : Operand} {cs : List T} {t : T} {n : Nat} {d : Nat} (h : SOps P N ops Q rest ⟨(d, .t t) :: tm, bx, ow⟩) (ho : o.op = .load ty x := by exact rfl) (hx : evA tm x = some (.t (.tp cs)) := by exact rfl) (hT : tyI P ty = some (false, n) := by exact tyT rfl) (ht : cs[0]? = some t := by exact rfl) (hg : GuardIs ops tm o true := by first | exact .free rfl rfl | exact gy) (hd : o.dst = some d := by exact rfl) (hN : Nat.blt d N = true := by exact rfl) : SOps P N ops Q (o :: rest) ⟨tm, bx, ow⟩ := sops_pure hg hd hN (po_load ho hx hT ht) h
theorem dLd {ty : TypeId} {x : Operand} {cs : List T} {t : T} {n : Nat} {d : Nat} (h : SDraw P N bx ow ops Q tail rest ((d, .t t) :: tm)) (ho : o.op = .load ty x := by exact rfl) (hx : evA tm x = some (.t (.tp cs)) := by exact rfl) (hT : tyI P ty = some (false, n) := by exact tyT rfl) (ht : cs[0]? = some t := by exact rfl) (hg : GuardIs ops tm o true := by first | exact .free rfl rfl | exact gy) (hd : o.dst = some d := by exact rfl) : SDraw P N bx ow ops Q tail (o :: rest) tm := sdraw_pure hg hd (po_load ho hx hT ht) h
theorem oEx {x : Operand} {i : Nat} {cs : List T} {t : T} {d : Nat} (h : SOps P N ops Q rest ⟨(d, .t t) :: tm, bx, ow⟩) (ho : o.op = .extract x i := by exact rfl) (hx : evA tm x = some (.t (.tup cs)) := by exact rfl) (ht : cs[i]? = some t := by exact rfl) (hg : GuardIs ops tm o true := by first | exact .free rfl rfl | exact gy) (hd : o.dst = some d := by exact rfl) (hN : Nat.blt d N = true := by exact rfl) : SOps P N ops Q (o :: rest) ⟨tm, bx, ow⟩ := sops_pure hg hd hN (po_extract ho hx ht) h
theorem dEx {x : Operand} {i : Nat} {cs : List T} {t : T} {d : Nat} (h : SDraw P N bx ow ops Q tail rest ((d, .t t) :: tm)) (ho : o.op = .extract x i := by exact rfl) (hx : evA tm x = some (.t (.tup cs)) := by exact rfl) (ht : cs[i]? = some t := by exact rfl) (hg : GuardIs ops tm o true := by first | exact .free rfl rfl | exact gy) (hd : o.dst = some d := by exact rfl) : SDraw P N bx ow ops Q tail (o :: rest) tm := sdraw_pure hg hd (po_extract ho hx ht) h
theorem oPt {c x y : Operand} {b : Bool} {r : A} {d : Nat} (h : SOps P N ops Q rest ⟨(d, r) :: tm, bx, ow⟩) (ho : o.op = .pick c x y := by exact rfl) (hc : evA tm c = some (.t (.v (.bool b))) := by exact rfl) (hb : b = true := by first | assumption | with_reducible rfl | decide | (simp only [decide_eq_true_eq, decide_eq_false_iff_not]; omega)) (hx : evA tm x = some r := by exact rfl) (hg : GuardIs ops tm o true := by first | exact .free rfl rfl | exact gy) (hd : o.dst = some d := by exact rfl) (hN : Nat.blt d N = true := by exact rfl) : SOps P N ops Q (o :: rest) ⟨tm, bx, ow⟩ := sops_pure hg hd hN (pkt ho hc hb hx) h
theorem dPt {c x y : Operand} {b : Bool} {r : A} {d : Nat} (h : SDraw P N bx ow ops Q tail rest ((d, r) :: tm)) (ho : o.op = .pick c x y := by exact rfl) (hc : evA tm c = some (.t (.v (.bool b))) := by exact rfl) (hb : b = true := by first | assumption | with_reducible rfl | decide | (simp only [decide_eq_true_eq, decide_eq_false_iff_not]; omega)) (hx : evA tm x = some r := by exact rfl) (hg : GuardIs ops tm o true := by first | exact .free rfl rfl | exact gy) (hd : o.dst = some d := by exact rfl) : SDraw P N bx ow ops Q tail (o :: rest) tm := sdraw_pure hg hd (pkt ho hc hb hx) h
theorem oPf {c x y : Operand} {b : Bool} {r : A} {d : Nat} (h : SOps P N ops Q rest ⟨(d, r) :: tm, bx, ow⟩) (ho : o.op = .pick c x y := by exact rfl) (hc : evA tm c = some (.t (.v (.bool b))) := by exact rfl) (hb : b = false := by first | assumption | with_reducible rfl | decide | (simp only [decide_eq_true_eq, decide_eq_false_iff_not]; omega)) (hx : evA tm y = some r := by exact rfl) (hg : GuardIs ops tm o true := by first | exact .free rfl rfl | exact gy) (hd : o.dst = some d := by exact rfl) (hN : Nat.blt d N = true := by exact rfl) : SOps P N ops Q (o :: rest) ⟨tm, bx, ow⟩ := sops_pure hg hd hN (pkf ho hc hb hx) h
theorem dPf {c x y : Operand} {b : Bool} {r : A} {d : Nat} (h : SDraw P N bx ow ops Q tail rest ((d, r) :: tm)) (ho : o.op = .pick c x y := by exact rfl) (hc : evA tm c = some (.t (.v (.bool b))) := by exact rfl) (hb : b = false := by first | assumption | with_reducible rfl | decide | (simp only [decide_eq_true_eq, decide_eq_false_iff_not]; omega)) (hx : evA tm y = some r := by exact rfl) (hg : GuardIs ops tm o true := by first | exact .free rfl rfl | exact gy) (hd : o.dst = some d := by exact rfl) : SDraw P N bx ow ops Q tail (o :: rest) tm := sdraw_pure hg hd (pkf ho hc hb hx) h
theorem xinc {t t2 : TypeId} {x y : Operand} {k : Nat} (ho : o.op = .binOp .add t x y t2) (hx : ρ x = some (.t (.v (.int .i64 (k : Int)))) := by exact rfl) (hy : ρ y = some (.t (.v (.int .i64 1))) := by exact rfl) (h : (k : Int) + 1 ≤ 9223372036854775807 := by omega) : PureOp P bx ow o ρ (.t (.v (.int .i64 ((k + 1 : Nat) : Int)))) := po_inc ho hx hy h
theorem sal {ty : TypeId} {d : Nat} {pl : List (Nat × Nat)} {zs : List Value} (hS : strI P ty = some (pl, zs)) (h : SOps P N ops Q rest ⟨(d, .bp d 0) :: tm, (d, zs.map fun v => A.t (T.v v)) :: bx, ow⟩) (ho : o.op = .alloc ty := by exact rfl) (hg : GuardIs ops tm o true := by first | exact .free rfl rfl | exact gy) (hd : o.dst = some d := by exact rfl) (hN : Nat.blt d N = true := by exact rfl) (hi : get bx d = none := by exact rfl) (hp : Nat.ble 2000 d = false := by exact rfl) (hq : cellB d = true := by exact rfl) : SOps P N ops Q (o :: rest) ⟨tm, bx, ow⟩ := sops_allocS hS hg ho hd hN hi h hp hq
theorem sbx {ty : TypeId} {x : Operand} {y : A} {d : Nat} (h : SOps P N ops Q rest ⟨(d, .bp d 0) :: tm, (d, y.cells) :: bx, ow⟩) (ho : o.op = .box ty x := by exact rfl) (hg : GuardIs ops tm o true := by first | exact .free rfl rfl | exact gy) (hd : o.dst = some d := by exact rfl) (hN : Nat.blt d N = true := by exact rfl) (hx : evA tm x = some y := by exact rfl) (hk : y.okB = true := by exact rfl) (hi : get bx d = none := by exact rfl) (hp : Nat.ble 2000 d = false := by exact rfl) (hq : cellB d = true := by exact rfl) : SOps P N ops Q (o :: rest) ⟨tm, bx, ow⟩ := sops_box hg ho hd hN hx hk hi h hp hq
theorem oS {ty : TypeId} {x z : Operand} {y : A} {i off n : Nat} {ag : Bool} {cs : List A} (h : SOps P N ops Q rest ⟨tm, (i, spl cs off y.cells) :: bx, ow⟩) (ho : o.op = .store ty x z := by exact rfl) (hg : GuardIs ops tm o true := by first | exact .free rfl rfl | exact gy) (hd : o.dst = none := by exact rfl) (hx : evA tm x = some (.bp i off) := by exact rfl) (hz : evA tm z = some y := by exact rfl) (hk : y.okB = true := by exact rfl) (hb : get bx i = some cs := by exact rfl) (hT : tyI P ty = some (ag, n) := by exact tyT rfl) (hn : y.cells.length = n := by exact rfl) (hf : Nat.ble (off + n) cs.length = true := by exact rfl) (hq : cellB i = true := by exact rfl) : SOps P N ops Q (o :: rest) ⟨tm, bx, ow⟩ := sops_store hg ho hd hx hz hk hb hT hn hf h hq
theorem rg (id : Nat) {l : List Oper} {st : St} (h : SOps P N l.toArray Q l st) : SWp P N (.region id l.toArray false) Q st := swp_region h
theorem rd (id : Nat) {l : List Oper} (h : SDraw P N bx ow l.toArray Q [] l tm) (hm : P.follows .mixedOrders = true := by exact mixed) (hB : regionB3 l.toArray l.length N = true := by kernel_rfl) (hD : depsB l.toArray l.length = true := by kernel_rfl) : SWp P N (.region id l.toArray true) Q ⟨tm, bx, ow⟩ := swp_draw_all hm hB hD h
theorem rt {s : Nat} {y : A} {t : T} {st : St} {l : List ResultVar} {ts : List T} (hl : Res P st l ts) (h : get st.tm s = some y := by exact rfl) (hv : Vw st.ow y t := by first | exact .t _ | exact .own rfl (by first | rfl | assumption | (simp; done) | (simp; omega)) | exact .nil _ | exact .emp _ | exact .fn _) : Res P st (.tmp s :: l) (t :: ts) := .tmp h hv hl
theorem rq1 {fn : Func} {r : T} {e : Exit} {st : St} {l : List ResultVar} (hl : fn.results.toList = l) (h : Res P st l [r]) (he : e = .normal ∨ e = .ret := by first | exact .inr rfl | exact .inl rfl) : RetQ P fn r e st := retq he hl h rfl
theorem rq {fn : Func} {r : T} {e : Exit} {st : St} {l : List ResultVar} {ts : List T} (hl : fn.results.toList = l) (h : Res P st l ts) (hr : r = resT ts) (he : e = .normal ∨ e = .ret := by first | exact .inr rfl | exact .inl rfl) : RetQ P fn r e st := retq he hl h hr
theorem yp {W X : List (List Nat)} {k d : Nat} {r : A} (hp : ∀ bxr owr, PureOp P (rst (X.getD k []) bx ++ bxr) (rst (X.getD k []) ow ++ owr) o (evA tm) r) (h : SAny P N ops W X Q (k + 1) rest ⟨(d, r) :: tm, bx, ow⟩) (hg : GuardIs ops tm o true := by first | exact .free rfl rfl | exact gy) (hd : o.dst = some d := by exact rfl) (hW : W.getD k [] = [] := by exact rfl) : SAny P N ops W X Q k (o :: rest) ⟨tm, bx, ow⟩ := sany_pure hg hd hW hp h
theorem fdo {s : TypeId} {x : Operand} {f q i nn sz k off : Nat} {o' : Own} (ho : o.op = .fieldAddr s x f) (hx : ρ x = some (.oe i nn sz k off) := by exact rfl) (hi : get ow i = some o' := by exact rfl) (hnn : nn = o'.rows.length := by first | rfl | assumption | omega | (simp; done) | (simp; omega) | (simp at *; omega)) (hq : fieldOff P s f = some q := by exact tyF rfl) : PureOp P bx ow o ρ (.oe i nn sz k (off + q)) := po_field_own ho hx hi hnn hq
theorem ldo {ty e : TypeId} {x : Operand} {i nn sz k off n : Nat} {rows : List (List T)} {row : List T} {t : T} (ho : o.op = .load ty x) (hx : ρ x = some (.oe i nn sz k off) := by exact rfl) (hi : get ow i = some ⟨e, sz, rows⟩ := by exact rfl) (hnn : nn = rows.length := by first | rfl | assumption | omega | (simp; done) | (simp; omega) | (simp at *; omega)) (hT : tyI P ty = some (false, n) := by exact tyT rfl) (hk : rows[k]? = some row := by first | rfl | assumption | exact map_at (by first | assumption | omega)) (ht : row[off]? = some t := by exact rfl) : PureOp P bx ow o ρ (.t t) := po_load_own ho hx hi hnn hT hk ht
theorem lda {ty e : TypeId} {x : Operand} {i nn sz k off n : Nat} {rows : List (List T)} {row ts : List T} (ho : o.op = .load ty x) (hx : ρ x = some (.oe i nn sz k off) := by exact rfl) (hi : get ow i = some ⟨e, sz, rows⟩ := by exact rfl) (hnn : nn = rows.length := by first | rfl | assumption | omega | (simp; done) | (simp; omega) | (simp at *; omega)) (hT : tyI P ty = some (true, n) := by exact tyT rfl) (hk : rows[k]? = some row := by first | rfl | assumption | exact map_at (by first | assumption | omega)) (hn : ts.length = n := by exact rfl) (ht : (row.drop off).take n = ts := by exact rfl) : PureOp P bx ow o ρ (.t (.agg ts)) := po_load_own_agg ho hx hi hnn hT hk hn ht
theorem ixo {t e : TypeId} {x ix : Operand} {i nn sz k : Nat} {rows : List (List T)} {n : Int} {ik : IntKind} (ho : o.op = .indexAddr t x ix) (hx : ρ x = some (.own i nn) := by exact rfl) (hi : get ow i = some ⟨e, sz, rows⟩ := by exact rfl) (hnn : nn = rows.length := by first | rfl | assumption | omega | (simp; done) | (simp; omega) | (simp at *; omega)) (hix : ρ ix = some (.t (.v (.int ik n))) := by exact rfl) (hT : sliceSz P t = some sz := by exact tyS rfl) (hn : n = (k : Int) := by first | rfl | omega) (hk : k < nn := by first | assumption | omega) : PureOp P bx ow o ρ (.oe i nn sz k 0) := po_index_own ho hx hi hnn hix hT hn hk
theorem sso {ty e : TypeId} {x z : Operand} {y : A} {i nn sz k off n : Nat} {ag : Bool} {rows : List (List T)} {row ts : List T} {t : T} (h : SOps P N ops Q rest ⟨tm, bx, (i, ⟨e, sz, rows.set k (row.take off ++ (ts ++ row.drop (off + n)))⟩) :: ow⟩) (ho : o.op = .store ty x z := by exact rfl) (hg : GuardIs ops tm o true := by first | exact .free rfl rfl | exact gy) (hd : o.dst = none := by exact rfl) (hx : evA tm x = some (.oe i nn sz k off) := by exact rfl) (hh : hid i = true := by rfl) (hi : get ow i = some ⟨e, sz, rows⟩ := by exact rfl) (hnn : nn = rows.length := by first | rfl | assumption | omega | (simp; done) | (simp; omega) | (simp at *; omega))
    (hz : evA tm z = some y := by exact rfl) (hv : Vw ow y t := by first | exact .t _ | exact .own rfl (by first | rfl | assumption | (simp; done) | (simp; omega)) | exact .nil _ | exact .emp _ | exact .fn _) (hk : t.okB = true := by exact rfl) (hts : t.cells = ts := by exact rfl) (hT : tyI P ty = some (ag, n) := by exact tyT rfl) (hn : ts.length = n := by exact rfl) (hrow : rows[k]? = some row := by first | rfl | assumption | exact map_at (by first | assumption | omega)) (hf : Nat.ble (off + n) row.length = true := by exact rfl) : SOps P N ops Q (o :: rest) ⟨tm, bx, ow⟩ := sops_store_own hh hg ho hd hx hi hnn hz hv hk hts hT hn hrow hf h
theorem xadd {t t2 : TypeId} {x y : Operand} {k : IntKind} {i j c : Int} (ho : o.op = .binOp .add t x y t2) (hx : ρ x = some (.t (.v (.int k i))) := by exact rfl) (hy : ρ y = some (.t (.v (.int k j))) := by exact rfl) (h : i + j = c := by exact rfl) (hz : k.wrap c = c := by first | rfl | (refine wrap_i64 ?_; omega)) : PureOp P bx ow o ρ (.t (.v (.int k c))) := po_arith ho hx hy (ar_add hz h)
theorem xist {t : TypeId} {x ix : Operand} {s : ByteArray} {k : Nat} {n : Int} {ik : IntKind} (ho : o.op = .index t x ix) (hx : ρ x = some (.t (.v (.string s))) := by exact rfl) (hi : ρ ix = some (.t (.v (.int ik n))) := by exact rfl) (hu : isStr P t = true := by exact tyR rfl) (hn : n = (k : Int) := by first | rfl | omega) (hk : k < s.size := by first | assumption | omega) : PureOp P bx ow o ρ (.t (.v (.int .u8 s[k].toNat))) := po_index_str ho hx hi hu hn hk
/-- the steps of control that need no hint; what is left is the new goal -/
theorem gc {X B : Prop} (k : B) (h : W1 B → X := by (intro k_; (first | (show SWp _ _ _ _ _; first | refine swp_seq ?_ | refine swp_ret ?_ | refine swp_skip ?_ | refine swp_block ?_ | refine swp_exit ?_) | (show Then _ _ _ _ _ _; first | refine then_go ?_ | refine then_ret ?_ | refine then_exit ?_) | (show InBlock _ _ _ _; first | refine block_go ?_ | refine block_exit ?_ | refine block_far rfl ?_ | refine block_ret ?_) | (show ForQ _ _ _ _ _ _ _ _; first | refine for_ret ?_ | refine for_exit ?_)); (repeat (first | (show SWp _ _ _ _ _; first | refine swp_seq ?_ | refine swp_ret ?_ | refine swp_skip ?_ | refine swp_block ?_ | refine swp_exit ?_) | (show Then _ _ _ _ _ _; first | refine then_go ?_ | refine then_ret ?_ | refine then_exit ?_) | (show InBlock _ _ _ _; first | refine block_go ?_ | refine block_exit ?_ | refine block_far rfl ?_ | refine block_ret ?_) | (show ForQ _ _ _ _ _ _ _ _; first | refine for_ret ?_ | refine for_exit ?_))); exact k_.p)) : X := h ⟨k⟩
end
end Go.Proofs.YtpncekdhigappaaGreatDoor.Sim

/- Headers: in memory, opened, as trees of data. -/
namespace Go.Proofs.YtpncekdhigappaaGreatDoor.Pl
set_option linter.unusedVariables false
set_option linter.unusedSimpArgs false
structure Head where
  name : ByteArray
  value : ByteArray
deriving Inhabited
end Go.Proofs.YtpncekdhigappaaGreatDoor.Pl
namespace Go.Proofs.YtpncekdhigappaaGreatDoor.Hd
set_option linter.unusedVariables false
set_option linter.unusedSimpArgs false
open Go.RowKit Go.WideShapes Go.ChangeShapes Go.Joins Mem Sim Opn
def HeadR : Rel Pl.Head := fun _ _ h cs => cs = [.string h.name, .string h.value] ∧ h.name.size ≤ maxLen ∧ h.value.size ≤ maxLen
theorem HeadR.kept : Kept HeadR := fun _ _ _ _ _ _ h _ _ => h
theorem one_string : Tryz.prog.cellsOf 9 = 1 := by kernel_rfl
theorem cells_Head : Tryz.prog.cellsOf 92 = 2 := by kernel_rfl
set_option maxRecDepth 100000 in
theorem head_opens : Opens 92 HeadR := by
  intro H enc w base spare held fuel cs x h
  obtain ⟨xs, n, _, hx, hlen, hxl, hf⟩ := DataW.trod_struct Tryz.underlying92 h
  have hl := hlen.trans cells_Head
  obtain ⟨c0, c1, rfl⟩ : ∃ c0 c1, cs = [c0, c1] := by
    match cs, hl with
    | [c0, c1], _ => exact ⟨c0, c1, rfl⟩
  obtain ⟨y0, y1, rfl⟩ : ∃ y0 y1, xs = [y0, y1] := by
    match xs, hxl with
    | [y0, y1], _ => exact ⟨y0, y1, rfl⟩
  have f0 : DataW.trod enc Tryz.prog w base spare held n 9 [c0] = some y0 := by
    have := hf 0 _ rfl
    simpa [one_string] using this
  obtain ⟨v0, r0, z0⟩ := (opens_str Tryz.underlying9) H enc w base spare held n [c0] y0 f0
  have f1 : DataW.trod enc Tryz.prog w base spare held n 9 [c1] = some y1 := by
    have := hf 1 _ rfl
    simpa [one_string] using this
  obtain ⟨v1, r1, z1⟩ := (opens_str Tryz.underlying9) H enc w base spare held n [c1] y1 f1
  injection r0 with r0; injection r1 with r1; subst r0 r1
  exact ⟨⟨v0, v1⟩, rfl, z0, z1⟩
theorem heads_opens : Opens 22 (SliceC HeadR 2) := opens_slice (R := HeadR) Tryz.underlying22 cells_Head (by omega) head_opens
def headT (x : Pl.Head) : List T := [.v (.string x.name), .v (.string x.value)]
abbrev headsT (l : List Pl.Head) : T := .sl 2 (l.map headT)
def okHead (x : Pl.Head) : Prop := x.name.size ≤ maxLen ∧ x.value.size ≤ maxLen
theorem heads_ok {B : Nat} {w : World} {A : Option Addr} {l : List Pl.Head} (hA : SliceAt HeadR 2 B w A l) : ∀ h ∈ l, okHead h := fun h hh => by
  obtain ⟨k, hk⟩ := List.getElem?_of_mem hh
  obtain ⟨b, off, cs, _, _, _, _, hr⟩ := hA k h hk
  exact hr.2
end Go.Proofs.YtpncekdhigappaaGreatDoor.Hd

/- Headers: All, MayValue, Long: walks. -/
namespace Go.Proofs.YtpncekdhigappaaGreatDoor.Hd
set_option linter.unusedVariables false
set_option linter.unusedSimpArgs false
open Go.RowKit Mem Sim Opn
def strT (s : ByteArray) : List T := [.v (.string s)]
def valsOf (n : ByteArray) (l : List Pl.Head) : List ByteArray := (l.filter fun h => decide (h.name = n)).map (·.value)
theorem valsOf_yes {n : ByteArray} {l : List Pl.Head} {k : Nat} (hk : k < l.length) (h : decide (l[k].name = n) = true) : (valsOf n (l.take (k + 1))).map strT = (valsOf n (l.take k)).map strT ++ [[.v (.string l[k].value)]] := by
  unfold valsOf
  rw [List.take_succ_eq_append_getElem hk, List.filter_append, List.map_append, List.map_append]
  simp [List.filter_cons, h, strT]
theorem valsOf_no {n : ByteArray} {l : List Pl.Head} {k : Nat} (hk : k < l.length) (h : decide (l[k].name = n) = false) : valsOf n (l.take (k + 1)) = valsOf n (l.take k) := by
  unfold valsOf
  rw [List.take_succ_eq_append_getElem hk, List.filter_append, List.map_append]
  simp [List.filter_cons, h]
theorem valsOf_len (n : ByteArray) (l : List Pl.Head) : (valsOf n l).length ≤ l.length := by
  unfold valsOf; rw [List.length_map]; exact List.length_filter_le _ _
theorem few_vals (n : ByteArray) (l : List Pl.Head) (k : Nat) (h : l.length ≤ 1000) : (((valsOf n (l.take k)).map strT).length + 1) * 16 ≤ 140737488355328 := by
  have := valsOf_len n (l.take k)
  rw [List.length_take] at this
  rw [List.length_map]; omega
def L2 (n : ByteArray) (l : List Pl.Head) (k : Nat) : St := ⟨[(0, .t (.v (.string n))), (8, .t (headsT l)), (9, .t (.v (.int .i64 (l.length : Int)))), (5, .own 150 ((valsOf n (l.take k)).map strT).length), (10, .t (.v (.int .i64 (k : Int))))], [], [(150, ⟨9, 1, (valsOf n (l.take k)).map strT⟩)]⟩
set_option maxRecDepth 100000 in
theorem all_ (n : ByteArray) (l : List Pl.Head) (hn : l.length ≤ 1000) : PCalls Tryz.prog 74 [.v (.string n), headsT l] (.sl 1 ((valsOf n l).map strT)) := by
  have hml : (l.map headT).length = l.length := List.length_map _
  refine pcalls_of Tryz.func74 rfl rfl Tryz.ntmps74 rfl ?_
  repeat' (first | (refine rg 0 ?_; refine oAs ?_; refine oN ?_) | (refine rg 1 ?_; refine oAs ?_; refine oN ?_) | (refine rg 2 ?_; refine oMv ?_; refine sp (pln rfl (tyS rfl)) ?_; refine oMv ?_; refine oN ?_) | refine gc ?_ | refine ct ?_ | refine cf ?_ | refine swp_cond rfl (fun hc => ?_) (fun hc => ?_) | refine rq rfl (rt .nil) ?_)
  refine swp_for (L2 n l) (fun _ => True) l.length ?_ trivial ?_
  · refine Weak.trans (weak_own0 (i := 150) 9 1 (s := 5) rfl rfl) ?_
    exact (weak_sub (.cons rfl (by first | rfl | (rw [hml])) rfl (.cons rfl (by first | rfl | (rw [hml])) rfl (.cons rfl (by first | rfl | (rw [hml])) rfl (.cons rfl (by first | rfl | (rw [hml])) rfl (.cons rfl (by first | rfl | (rw [hml])) rfl .nil))))) .nil (.cons rfl (by first | rfl | (rw [hml])) .nil))
  intro k hk _
  unfold L2
  by_cases hlt : k < l.length
  · have g1 := few_vals n l k hn
    cases hb : decide (l[k].name = n) with
    | true =>
      have hs := valsOf_yes hlt hb
      repeat' (first | refine for_next hlt (weak_sub (.cons rfl (by rfl) rfl (.cons rfl (by rfl) rfl (.cons rfl (by rfl) rfl (.cons rfl (by first | rfl | (rw [hs]; try rfl)) rfl (.cons rfl (by rfl) rfl .nil))))) .nil (.cons rfl (by first | rfl | (rw [hs]; try rfl)) .nil)) trivial | (refine rg 3 ?_; refine oCm ?_; refine oN ?_) | (refine rg 4 ?_; refine sp (pix rfl (tyS rfl)) ?_; (first | refine sp (po_load_bx_agg rfl rfl (tyT rfl) rfl (vc (vc .nil)) rfl) ?_ | refine sp (po_load_agg rfl rfl (tyT rfl) rfl rfl) ?_); refine sal str92 ?_; refine oS ?_; refine oN ?_) | (refine rg 5 ?_; refine oFb ?_; refine oLb ?_; refine oMv ?_; refine sp (po_str rfl rfl rfl rfl) ?_; refine oN ?_) | (refine rg 6 ?_; refine oMv ?_; refine oFb ?_; refine oLb ?_; refine sp (po_buildSlice rfl (tyE rfl) (dc (.nil _)) rfl rfl rfl) ?_; refine sap rfl (tyE rfl) ?_; refine oAs ?_; refine oN ?_) | (refine rg 7 ?_; refine sp (xinc rfl) ?_; refine oMv ?_; refine oN ?_) | refine gc ?_ | refine ct ?_)
    | false =>
      have hs := valsOf_no hlt hb
      repeat' (first | refine for_next hlt (weak_sub (.cons rfl (by rfl) rfl (.cons rfl (by rfl) rfl (.cons rfl (by rfl) rfl (.cons rfl (by first | rfl | (rw [hs])) rfl (.cons rfl (by rfl) rfl .nil))))) .nil (.cons rfl (by first | rfl | (rw [hs])) .nil)) trivial | (refine rg 3 ?_; refine oCm ?_; refine oN ?_) | (refine rg 4 ?_; refine sp (pix rfl (tyS rfl)) ?_; (first | refine sp (po_load_bx_agg rfl rfl (tyT rfl) rfl (vc (vc .nil)) rfl) ?_ | refine sp (po_load_agg rfl rfl (tyT rfl) rfl rfl) ?_); refine sal str92 ?_; refine oS ?_; refine oN ?_) | (refine rg 5 ?_; refine oFb ?_; refine oLb ?_; refine oMv ?_; refine sp (po_str rfl rfl rfl rfl) ?_; refine oN ?_) | (refine rg 7 ?_; refine sp (xinc rfl) ?_; refine oMv ?_; refine oN ?_) | refine gc ?_ | refine ct ?_ | refine cf ?_)
  · obtain rfl : k = l.length := by omega
    rw [List.take_length]
    repeat' (first | (refine rg 3 ?_; refine oCm ?_; refine oN ?_) | (refine rg 8 ?_; refine oMv ?_; refine oAs ?_; refine oN ?_) | refine gc ?_ | refine ct ?_ | refine cf ?_ | refine swp_cond rfl (fun hc => ?_) (fun hc => ?_) | refine rq rfl (rt .nil) ?_)
    rfl
def longH (l : List Pl.Head) : Bool := decide (100 < l.length) || l.any fun h => decide (1000 < h.name.size) || decide (2000 < h.value.size)
theorem any_next {α : Type} {p : α → Bool} {l : List α} {k : Nat} (hk : k < l.length) (h : (l.take k).any p = false) (h2 : p l[k] = false) : (l.take (k + 1)).any p = false := by
  rw [List.take_succ_eq_append_getElem hk, List.any_append, h]; simp [h2]
theorem any_hit {α : Type} {p : α → Bool} {l : List α} {k : Nat} (hk : k < l.length) (h : p l[k] = true) : l.any p = true := List.any_eq_true.2 ⟨_, List.getElem_mem hk, h⟩
set_option maxRecDepth 100000 in
theorem long_ (l : List Pl.Head) : PCalls Tryz.prog 51 [headsT l] (.v (.bool (longH l))) := by
  have hml : (l.map headT).length = l.length := List.length_map _
  unfold longH
  refine pcalls_of Tryz.func51 rfl rfl Tryz.ntmps51 rfl ?_
  by_cases h100 : 100 < l.length
  · repeat' (first | (refine rg 0 ?_; refine oAs ?_; refine oN ?_) | (refine rg 1 ?_; refine oMv ?_; refine sp (pln rfl (tyS rfl)) ?_; refine oCm ?_; refine oN ?_) | (refine rg 2 ?_; refine oAs ?_; refine oN ?_) | refine gc ?_ | refine ct ?_ | refine cf ?_ | refine swp_cond rfl (fun hc => ?_) (fun hc => ?_) | refine rq rfl (rt .nil) ?_)
    refine eq_b ?_
    simp [h100]
  · repeat' (first | (refine rg 0 ?_; refine oAs ?_; refine oN ?_) | (refine rg 1 ?_; refine oMv ?_; refine sp (pln rfl (tyS rfl)) ?_; refine oCm ?_; refine oN ?_) | (refine rg 3 ?_; refine oAs ?_; refine oN ?_) | refine gc ?_ | refine ct ?_ | refine cf ?_ | refine swp_cond rfl (fun hc => ?_) (fun hc => ?_) | refine rq rfl (rt .nil) ?_)
    refine swp_for (fun k => ⟨[(0, .t (headsT l)), (3, .t (.v (.int .i64 (k : Int))))], [], []⟩) (fun k => (l.take k).any (fun h => decide (1000 < h.name.size) || decide (2000 < h.value.size)) = false) l.length (weak_sub (.cons rfl rfl rfl (.cons rfl rfl rfl .nil)) .nil .nil) rfl ?_
    intro k hk hI
    by_cases hlt : k < l.length
    · repeat' (first | refine for_next hlt (weak_sub (.cons rfl rfl rfl (.cons rfl rfl rfl .nil)) .nil .nil) ?_ | (refine rg 4 ?_; refine oMv ?_; refine oMv ?_; refine sp (pln rfl (tyS rfl)) ?_; refine oCm ?_; refine oN ?_) | (refine rg 6 ?_; refine oMv ?_; refine oMv ?_; refine sp (pix rfl (tyS rfl)) ?_; (first | refine oFb ?_ | refine oFd ?_); (first | refine oLb ?_ | refine oLd ?_); refine sp (po_len_str rfl rfl (tyR rfl)) ?_; refine oCm ?_; refine oMv ?_; (first | refine oMv ?_ | refine oK ?_ | ((refine ssp (fun hc => ?_) (fun hc => ?_)) <;> first | refine oMv ?_ | refine oK ?_)) <;> (first | refine oMv ?_ | refine oK ?_) <;> (first | refine sp (pix rfl (tyS rfl)) ?_ | refine oK ?_) <;> (first | refine oFb ?_ | refine oFd ?_ | refine oK ?_) <;> (first | refine oLb ?_ | refine oLd ?_ | refine oK ?_) <;> (first | refine sp (po_len_str rfl rfl (tyR rfl)) ?_ | refine oK ?_) <;> (first | refine oCm ?_ | refine oK ?_) <;> (first | refine oPt ?_ | refine oPf ?_) <;> refine oN ?_) | (refine rg 7 ?_; refine oAs ?_; refine oN ?_) | (refine rg 5 ?_; refine oMv ?_; refine sp (xinc rfl) ?_; refine oAs ?_; refine oN ?_) | refine gc ?_ | refine ct ?_ | refine cf ?_ | refine swp_cond rfl (fun hc => ?_) (fun hc => ?_) | refine rq rfl (rt .nil) ?_)
      all_goals first
        | (refine eq_b ?_
           rw [any_hit hlt (by simp at *; omega)]; simp)
        | exact any_next hlt hI (by simp at *; omega)
    · obtain rfl : k = l.length := by omega
      rw [List.take_length] at hI
      repeat' (first | (refine rg 4 ?_; refine oMv ?_; refine oMv ?_; refine sp (pln rfl (tyS rfl)) ?_; refine oCm ?_; refine oN ?_) | (refine rg 8 ?_; refine oAs ?_; refine oN ?_) | refine gc ?_ | refine ct ?_ | refine cf ?_ | refine swp_cond rfl (fun hc => ?_) (fun hc => ?_) | refine rq rfl (rt .nil) ?_)
      refine eq_b ?_
      rw [hI]; simp; omega
end Go.Proofs.YtpncekdhigappaaGreatDoor.Hd

/- Headers: letters made small: walks. -/
namespace Go.Proofs.YtpncekdhigappaaGreatDoor.Hd
set_option linter.unusedVariables false
set_option linter.unusedSimpArgs false
open Go.RowKit Mem Sim Opn
theorem byt23 : byE Tryz.prog 23 = some 5 := by kernel_rfl
def lowU (b : UInt8) : UInt8 := if 65 ≤ b.toNat ∧ b.toNat ≤ 90 then b + 32 else b
def small (s : ByteArray) : ByteArray := bs (s.toList.map lowU)
/-- the first k letters made small -/
def mix (l : List UInt8) (k : Nat) : List UInt8 := (l.take k).map lowU ++ l.drop k
theorem mix0 (l : List UInt8) : mix l 0 = l := by simp [mix]
theorem mix_len (l : List UInt8) (k : Nat) : (mix l k).length = l.length := by simp [mix]; omega
theorem mix_all (l : List UInt8) {k : Nat} (h : l.length ≤ k) : mix l k = l.map lowU := by
  unfold mix; rw [List.take_of_length_le h, List.drop_of_length_le h]; simp
theorem mix_at (l : List UInt8) {k : Nat} (h : k < l.length) : (mix l k)[k]? = some l[k] := by
  unfold mix
  rw [List.getElem?_append_right (by simp; omega)]
  simp [Nat.min_eq_left (Nat.le_of_lt h), h]
theorem mix_next (l : List UInt8) {k : Nat} (h : k < l.length) : mix l (k + 1) = (mix l k).set k (lowU l[k]) := by
  unfold mix
  rw [List.set_append_right _ _ (by simp; omega)]
  simp only [List.length_map, List.length_take, Nat.min_eq_left (Nat.le_of_lt h), Nat.sub_self]
  rw [List.drop_eq_getElem_cons h, List.set_cons_zero, List.take_succ_eq_append_getElem h, List.map_append, List.append_assoc]; rfl
theorem low_up {b : UInt8} (h : 65 ≤ b.toNat ∧ b.toNat ≤ 90) : ((lowU b).toNat : Int) = (b.toNat : Int) + 32 := by
  unfold lowU; rw [if_pos h, UInt8.toNat_add]
  have : (32 : UInt8).toNat = 32 := rfl
  omega
theorem low_no {b : UInt8} (h : ¬ (65 ≤ b.toNat ∧ b.toNat ≤ 90)) : lowU b = b := by unfold lowU; rw [if_neg h]
def mixR (l : List UInt8) (k : Nat) : List (List T) := (mix l k).map byteT
theorem mixR_at (l : List UInt8) {k : Nat} (h : k < l.length) : (mixR l k)[k]? = some (byteT l[k]) := by
  unfold mixR; rw [List.getElem?_map, mix_at l h]; rfl
theorem mixR_len (l : List UInt8) (k : Nat) : (mixR l k).length = l.length := by unfold mixR; rw [List.length_map, mix_len]
theorem mixR_up (l : List UInt8) {k : Nat} (h : k < l.length) (hb : 65 ≤ l[k].toNat ∧ l[k].toNat ≤ 90) : (mixR l k).set k [T.v (.int .u8 ((l[k].toNat : Int) + 32))] = mixR l (k + 1) := by
  unfold mixR; rw [mix_next l h, List.map_set]; unfold byteT; rw [low_up hb]
theorem mixR_no (l : List UInt8) {k : Nat} (h : k < l.length) (hb : ¬ (65 ≤ l[k].toNat ∧ l[k].toNat ≤ 90)) : mixR l k = mixR l (k + 1) := by
  unfold mixR; rw [mix_next l h, low_no hb]
  congr 1
  exact (set_self (mix_at l h)).symm
def Sm (l : List UInt8) (k : Nat) : St := ⟨[(3, .own 1000 l.length), (8, .own 1000 l.length), (9, .t (.v (.int .i64 (l.length : Int)))), (10, .t (.v (.int .i64 (k : Int))))], [], [(1000, ⟨5, 1, mixR l k⟩)]⟩
theorem up3 (n : Nat) : (65 ≤ n ∧ n ≤ 90) ∨ n < 65 ∨ 90 < n := by omega
theorem bytes0 (l : List UInt8) : (⟨5, 1, l.map byteT⟩ : Own) = ⟨5, 1, mixR l 0⟩ := by unfold mixR; rw [mix0]
set_option maxRecDepth 100000 in
theorem small_ (s : ByteArray) (hs : s.size ≤ maxLen) : PCalls Tryz.prog 117 [.v (.string s)] (.v (.string (small s))) := by
  have hl : s.toList.length = s.size := toList_len s
  have hb : (s.toList.map byteT).length = s.toList.length := List.length_map _
  have hml : s.toList.length ≤ 9223372036854775807 := by unfold maxLen at hs; omega
  refine pcalls_of Tryz.func117 rfl rfl Tryz.ntmps117 rfl ?_
  unfold small
  repeat' (first | (refine rg 0 ?_; refine oAs ?_; refine oN ?_) | (refine rg 1 ?_; refine oMv ?_; refine sops_str_bytes 1000 (.free rfl rfl) rfl rfl rfl rfl (tyR rfl) byt23 (by assumption) rfl ?_; refine oAs ?_; refine oN ?_) | (refine rg 2 ?_; refine oMv ?_; refine sp (po_len_own rfl rfl (tyS rfl)) ?_; refine oMv ?_; refine oN ?_) | refine gc ?_ | refine ct ?_ | refine cf ?_ | refine swp_cond rfl (fun hc => ?_) (fun hc => ?_) | refine rq rfl (rt .nil) ?_)
  refine swp_for (Sm s.toList) (fun _ => True) s.toList.length (weak_sub (.cons rfl (by first | rfl | (first | rw [hb] | exact bytes0 s.toList)) rfl (.cons rfl (by first | rfl | (first | rw [hb] | exact bytes0 s.toList)) rfl (.cons rfl (by first | rfl | (first | rw [hb] | exact bytes0 s.toList)) rfl (.cons rfl (by first | rfl | (first | rw [hb] | exact bytes0 s.toList)) rfl .nil)))) .nil (.cons rfl (by first | rfl | (first | rw [hb] | exact bytes0 s.toList)) .nil)) trivial ?_
  intro k hk _
  unfold Sm
  have hq := mixR_len s.toList k
  have hq' := hq.symm
  by_cases hlt : k < s.toList.length
  · have hrow := mixR_at s.toList hlt
    rcases up3 s.toList[k].toNat with h1 | h1 | h1
    · have hn := mixR_up s.toList hlt h1
      repeat' (first | refine for_next hlt (weak_sub (.cons rfl (by rfl) rfl (.cons rfl (by rfl) rfl (.cons rfl (by rfl) rfl (.cons rfl (by rfl) rfl .nil)))) .nil (.cons rfl (by first | rfl | (exact congrArg (Own.mk _ 1) hn)) .nil)) trivial | (refine rg 3 ?_; refine oCm ?_; refine oN ?_) | (refine rg 4 ?_; refine oMv ?_; refine sp (ixo rfl) ?_; (first | refine oLb ?_ | refine oLd ?_ | refine sp (ldo rfl) ?_); refine oAs ?_; refine oAs ?_; refine oN ?_) | (refine rg 5 ?_; refine oMv ?_; refine oCm ?_; refine oMv ?_; refine oMv ?_ <;> refine oCm ?_ <;> refine oPt ?_ <;> refine oN ?_) | (refine rg 6 ?_; refine oMv ?_; refine oMv ?_; refine oMv ?_; (first | refine sp (xinc rfl) ?_ | refine sp (po_arith rfl rfl rfl (ar_add (by first | rfl | (refine wrap_i64 ?_; omega) | (refine wrap_u8 ?_; omega)) rfl)) ?_); refine sp (ixo rfl) ?_; (first | refine oS ?_ | refine sso ?_); refine oN ?_) | (refine rg 7 ?_; refine sp (xinc rfl) ?_; refine oMv ?_; refine oN ?_) | refine gc ?_ | refine ct ?_)
    all_goals
      have hn := mixR_no s.toList hlt (fun h => by omega)
      repeat' (first | refine for_next hlt (weak_sub (.cons rfl (by rfl) rfl (.cons rfl (by rfl) rfl (.cons rfl (by rfl) rfl (.cons rfl (by rfl) rfl .nil)))) .nil (.cons rfl (by first | rfl | (exact congrArg (Own.mk _ 1) hn)) .nil)) trivial | (refine rg 3 ?_; refine oCm ?_; refine oN ?_) | (refine rg 4 ?_; refine oMv ?_; refine sp (ixo rfl) ?_; (first | refine oLb ?_ | refine oLd ?_ | refine sp (ldo rfl) ?_); refine oAs ?_; refine oAs ?_; refine oN ?_) | (refine rg 5 ?_; refine oMv ?_; refine oCm ?_; refine oMv ?_; (first | refine oMv ?_ | refine oK ?_) <;> (first | refine oCm ?_ | refine oK ?_) <;> (first | refine oPt ?_ | refine oPf ?_) <;> refine oN ?_) | (refine rg 7 ?_; refine sp (xinc rfl) ?_; refine oMv ?_; refine oN ?_) | refine gc ?_ | refine ct ?_ | refine cf ?_)
  · obtain rfl : k = s.toList.length := by omega
    have hr : mixR s.toList s.toList.length = (s.toList.map lowU).map byteT := by unfold mixR; rw [mix_all s.toList (Nat.le_refl _)]
    rw [hr]
    repeat' (first | (refine rg 3 ?_; refine oCm ?_; refine oN ?_) | (refine rg 8 ?_; refine oMv ?_; refine sp (po_bytes_str rfl rfl (by first | exact .t _ | exact .own rfl (by first | rfl | assumption | omega | (simp; done))) byt23 (tyR rfl)) ?_; refine oAs ?_; refine oN ?_) | refine gc ?_ | refine ct ?_ | refine cf ?_ | refine swp_cond rfl (fun hc => ?_) (fun hc => ?_) | refine rq rfl (rt .nil) ?_)
    rfl
end Go.Proofs.YtpncekdhigappaaGreatDoor.Hd
