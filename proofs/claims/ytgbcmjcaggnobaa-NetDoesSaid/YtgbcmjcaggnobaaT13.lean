/- Merged by bundles.py: SimGo, SimRen, SimBld, SimArr, Post0. -/
import Derived.Test.YtgbcmjcaggnobaaT12
import Derived.Test.YtgbcmjcaggnobaaT11
import Derived.Test.YtgbcmjcaggnobaaT9
import Derived.Scope
import Derived.Test.YtgbcmjcaggnobaaT6
import Derived.Laws.RangeAny
import Derived.Lib.Bytealg
import Derived.Test.YtgbcmjcaggnobaaT0
import Derived.ProofKit
import Derived.OpenShut
import Derived.Lib.SmallJoins
import Derived.ShutString
import Derived.ChangeSame
/- A logic of states: short names for the steps. (Printed by mk_go.py.) -/
namespace Go.Proofs.Ytgbcmjcaggnobaa.Sim
set_option linter.unusedVariables false
set_option linter.unusedSimpArgs false
open Go.RowKit Mem
structure W1 (b : Prop) : Prop where
  p : b
section
variable {P : Program} {N : Nat} {Q : Exit → St → Prop} {ops : Array Oper} {rest tail : List Oper} {o : Oper} {tm : List (Nat × A)} {bx : List (Nat × List A)} {ow : List (Nat × Own)} {ρ : Operand → Option A}
theorem sp {d : Nat} {r : A} (hp : PureOp P bx ow o (evA tm) r) (h : SOps P N ops Q rest ⟨(d, r) :: tm, bx, ow⟩) (hg : GuardIs ops tm o true := by first | exact .free rfl rfl | exact gy) (hd : o.dst = some d := by exact rfl) (hN : Nat.blt d N = true := by exact rfl) : SOps P N ops Q (o :: rest) ⟨tm, bx, ow⟩ := sops_pure hg hd hN hp h
theorem oK {d : Nat} (h : SOps P N ops Q rest ⟨(d, .t (.v undef)) :: tm, bx, ow⟩) (hg : GuardIs ops tm o false := by first | exact gn0 | exact gn1 | exact .nou rfl rfl rfl) (hd : o.dst = some d := by exact rfl) (hN : Nat.blt d N = true := by exact rfl) : SOps P N ops Q (o :: rest) ⟨tm, bx, ow⟩ := sops_skip hg hd hN h
theorem dp {d : Nat} {r : A} (hp : PureOp P bx ow o (evA tm) r) (h : SDraw P N bx ow ops Q tail rest ((d, r) :: tm)) (hg : GuardIs ops tm o true := by first | exact .free rfl rfl | exact gy) (hd : o.dst = some d := by exact rfl) : SDraw P N bx ow ops Q tail (o :: rest) tm := sdraw_pure hg hd hp h
theorem dK {d : Nat} (h : SDraw P N bx ow ops Q tail rest ((d, .t (.v undef)) :: tm)) (hg : GuardIs ops tm o false := by first | exact gn0 | exact gn1 | exact .nou rfl rfl rfl) (hd : o.dst = some d := by exact rfl) : SDraw P N bx ow ops Q tail (o :: rest) tm := sdraw_skip hg hd h
theorem oN {st : St} (h : Q .normal st) : SOps P N ops Q [] st := sops_nil h
theorem dN (h : SOps P N ops Q tail ⟨tm, bx, ow⟩) : SDraw P N bx ow ops Q tail [] tm := sdraw_nil h
theorem ssp {j e : Nat} {want b : Bool} (h1 : b = true → SOps P N ops Q (o :: rest) ⟨tm, bx, ow⟩) (h0 : b = false → SOps P N ops Q (o :: rest) ⟨tm, bx, ow⟩) (hg : o.guard = some (j, want) := by exact rfl) (hj : dstOf ops j = some e := by exact rfl) (hs : get tm e = some (.t (.v (.bool b))) := by exact rfl) : SOps P N ops Q (o :: rest) ⟨tm, bx, ow⟩ := sops_split hg hj hs h1 h0
/-- a call by its contract -/
theorem oC {f : FuncId} {xs : List Operand} {at_ : Array TypeId} {ts : List T} {t : T} {d : Nat} (hc : PCalls P f ts t) (ho : o.op = .call { callee := .value (.func f), args := xs.toArray, argTypes := at_ }) (ha : Args ow (evA tm) xs ts) (h : SOps P N ops Q rest ⟨(d, .t t) :: tm, bx, ow⟩) (hg : GuardIs ops tm o true := by first | exact .free rfl rfl | exact gy) (hd : o.dst = some d := by exact rfl) (hN : Nat.blt d N = true := by exact rfl) : SOps P N ops Q (o :: rest) ⟨tm, bx, ow⟩ := sops_pure hg hd hN (po_call hc ho ha) h
theorem dC {f : FuncId} {xs : List Operand} {at_ : Array TypeId} {ts : List T} {t : T} {d : Nat} (hc : PCalls P f ts t) (ho : o.op = .call { callee := .value (.func f), args := xs.toArray, argTypes := at_ }) (ha : Args ow (evA tm) xs ts) (h : SDraw P N bx ow ops Q tail rest ((d, .t t) :: tm)) (hg : GuardIs ops tm o true := by first | exact .free rfl rfl | exact gy) (hd : o.dst = some d := by exact rfl) : SDraw P N bx ow ops Q tail (o :: rest) tm := sdraw_pure hg hd (po_call hc ho ha) h
theorem oMv {x : Operand} {r : A} {d : Nat} (h : SOps P N ops Q rest ⟨(d, r) :: tm, bx, ow⟩) (ho : o.op = .move x := by exact rfl) (hx : evA tm x = some r := by exact rfl) (hg : GuardIs ops tm o true := by first | exact .free rfl rfl | exact gy) (hd : o.dst = some d := by exact rfl) (hN : Nat.blt d N = true := by exact rfl) : SOps P N ops Q (o :: rest) ⟨tm, bx, ow⟩ := sops_pure hg hd hN (po_move ho hx) h
theorem dMv {x : Operand} {r : A} {d : Nat} (h : SDraw P N bx ow ops Q tail rest ((d, r) :: tm)) (ho : o.op = .move x := by exact rfl) (hx : evA tm x = some r := by exact rfl) (hg : GuardIs ops tm o true := by first | exact .free rfl rfl | exact gy) (hd : o.dst = some d := by exact rfl) : SDraw P N bx ow ops Q tail (o :: rest) tm := sdraw_pure hg hd (po_move ho hx) h
theorem oAs {x : Operand} {r : A} {d : Nat} (h : SOps P N ops Q rest ⟨(d, r) :: tm, bx, ow⟩) (ho : o.op = .assign x := by exact rfl) (hx : evA tm x = some r := by exact rfl) (hg : GuardIs ops tm o true := by first | exact .free rfl rfl | exact gy) (hd : o.dst = some d := by exact rfl) (hN : Nat.blt d N = true := by exact rfl) : SOps P N ops Q (o :: rest) ⟨tm, bx, ow⟩ := sops_pure hg hd hN (po_assign ho hx) h
theorem oCm {op : BinOp} {t t2 : TypeId} {x y : Operand} {k : IntKind} {i j : Int} {c : Bool} {d : Nat} (h : SOps P N ops Q rest ⟨(d, .t (.v (.bool c))) :: tm, bx, ow⟩) (ho : o.op = .binOp op t x y t2 := by exact rfl) (hx : evA tm x = some (.t (.v (.int k i))) := by exact rfl) (hy : evA tm y = some (.t (.v (.int k j))) := by exact rfl) (hc : cmpB op i j = some c := by exact rfl) (hg : GuardIs ops tm o true := by first | exact .free rfl rfl | exact gy) (hd : o.dst = some d := by exact rfl) (hN : Nat.blt d N = true := by exact rfl) : SOps P N ops Q (o :: rest) ⟨tm, bx, ow⟩ := sops_pure hg hd hN (po_cmp ho hx hy hc) h
theorem dCm {op : BinOp} {t t2 : TypeId} {x y : Operand} {k : IntKind} {i j : Int} {c : Bool} {d : Nat} (h : SDraw P N bx ow ops Q tail rest ((d, .t (.v (.bool c))) :: tm)) (ho : o.op = .binOp op t x y t2 := by exact rfl) (hx : evA tm x = some (.t (.v (.int k i))) := by exact rfl) (hy : evA tm y = some (.t (.v (.int k j))) := by exact rfl) (hc : cmpB op i j = some c := by exact rfl) (hg : GuardIs ops tm o true := by first | exact .free rfl rfl | exact gy) (hd : o.dst = some d := by exact rfl) : SDraw P N bx ow ops Q tail (o :: rest) tm := sdraw_pure hg hd (po_cmp ho hx hy hc) h
theorem oFb {s : TypeId} {x : Operand} {f k i off : Nat} {d : Nat} (h : SOps P N ops Q rest ⟨(d, .bp i (off + k)) :: tm, bx, ow⟩) (ho : o.op = .fieldAddr s x f := by exact rfl) (hx : evA tm x = some (.bp i off) := by exact rfl) (hk : fieldOff P s f = some k := by exact tyF rfl) (hg : GuardIs ops tm o true := by first | exact .free rfl rfl | exact gy) (hd : o.dst = some d := by exact rfl) (hN : Nat.blt d N = true := by exact rfl) : SOps P N ops Q (o :: rest) ⟨tm, bx, ow⟩ := sops_pure hg hd hN (po_field_bx ho hx hk) h
theorem dFb {s : TypeId} {x : Operand} {f k i off : Nat} {d : Nat} (h : SDraw P N bx ow ops Q tail rest ((d, .bp i (off + k)) :: tm)) (ho : o.op = .fieldAddr s x f := by exact rfl) (hx : evA tm x = some (.bp i off) := by exact rfl) (hk : fieldOff P s f = some k := by exact tyF rfl) (hg : GuardIs ops tm o true := by first | exact .free rfl rfl | exact gy) (hd : o.dst = some d := by exact rfl) : SDraw P N bx ow ops Q tail (o :: rest) tm := sdraw_pure hg hd (po_field_bx ho hx hk) h
theorem oFd {s : TypeId} {x : Operand} {f k : Nat} {cs : List T} {d : Nat} (h : SOps P N ops Q rest ⟨(d, .t (.tp (cs.drop k))) :: tm, bx, ow⟩) (ho : o.op = .fieldAddr s x f := by exact rfl) (hx : evA tm x = some (.t (.tp cs)) := by exact rfl) (hk : fieldOff P s f = some k := by exact tyF rfl) (hg : GuardIs ops tm o true := by first | exact .free rfl rfl | exact gy) (hd : o.dst = some d := by exact rfl) (hN : Nat.blt d N = true := by exact rfl) : SOps P N ops Q (o :: rest) ⟨tm, bx, ow⟩ := sops_pure hg hd hN (po_field ho hx hk) h
theorem dFd {s : TypeId} {x : Operand} {f k : Nat} {cs : List T} {d : Nat} (h : SDraw P N bx ow ops Q tail rest ((d, .t (.tp (cs.drop k))) :: tm)) (ho : o.op = .fieldAddr s x f := by exact rfl) (hx : evA tm x = some (.t (.tp cs)) := by exact rfl) (hk : fieldOff P s f = some k := by exact tyF rfl) (hg : GuardIs ops tm o true := by first | exact .free rfl rfl | exact gy) (hd : o.dst = some d := by exact rfl) : SDraw P N bx ow ops Q tail (o :: rest) tm := sdraw_pure hg hd (po_field ho hx hk) h
theorem oLb {ty : TypeId} {x : Operand} {i off n : Nat} {cs : List A} {r : A} {d : Nat} (h : SOps P N ops Q rest ⟨(d, r) :: tm, bx, ow⟩) (ho : o.op = .load ty x := by exact rfl) (hx : evA tm x = some (.bp i off) := by exact rfl) (hT : tyI P ty = some (false, n) := by exact tyT rfl) (hb : get bx i = some cs := by exact rfl) (ht : cs[off]? = some r := by exact rfl) (hq : cellB i = true := by exact rfl) (hg : GuardIs ops tm o true := by first | exact .free rfl rfl | exact gy) (hd : o.dst = some d := by exact rfl) (hN : Nat.blt d N = true := by exact rfl) : SOps P N ops Q (o :: rest) ⟨tm, bx, ow⟩ := sops_pure hg hd hN (po_load_bx ho hx hT hb ht hq) h
theorem dLb {ty : TypeId} {x : Operand} {i off n : Nat} {cs : List A} {r : A} {d : Nat} (h : SDraw P N bx ow ops Q tail rest ((d, r) :: tm)) (ho : o.op = .load ty x := by exact rfl) (hx : evA tm x = some (.bp i off) := by exact rfl) (hT : tyI P ty = some (false, n) := by exact tyT rfl) (hb : get bx i = some cs := by exact rfl) (ht : cs[off]? = some r := by exact rfl) (hq : cellB i = true := by exact rfl) (hg : GuardIs ops tm o true := by first | exact .free rfl rfl | exact gy) (hd : o.dst = some d := by exact rfl) : SDraw P N bx ow ops Q tail (o :: rest) tm := sdraw_pure hg hd (po_load_bx ho hx hT hb ht hq) h
theorem oLd {ty : TypeId} {x : Operand} {cs : List T} {t : T} {n : Nat} {d : Nat} (h : SOps P N ops Q rest ⟨(d, .t t) :: tm, bx, ow⟩) (ho : o.op = .load ty x := by exact rfl) (hx : evA tm x = some (.t (.tp cs)) := by exact rfl) (hT : tyI P ty = some (false, n) := by exact tyT rfl) (ht : cs[0]? = some t := by exact rfl) (hg : GuardIs ops tm o true := by first | exact .free rfl rfl | exact gy) (hd : o.dst = some d := by exact rfl) (hN : Nat.blt d N = true := by exact rfl) : SOps P N ops Q (o :: rest) ⟨tm, bx, ow⟩ := sops_pure hg hd hN (po_load ho hx hT ht) h
theorem dLd {ty : TypeId} {x : Operand} {cs : List T} {t : T} {n : Nat} {d : Nat} (h : SDraw P N bx ow ops Q tail rest ((d, .t t) :: tm)) (ho : o.op = .load ty x := by exact rfl) (hx : evA tm x = some (.t (.tp cs)) := by exact rfl) (hT : tyI P ty = some (false, n) := by exact tyT rfl) (ht : cs[0]? = some t := by exact rfl) (hg : GuardIs ops tm o true := by first | exact .free rfl rfl | exact gy) (hd : o.dst = some d := by exact rfl) : SDraw P N bx ow ops Q tail (o :: rest) tm := sdraw_pure hg hd (po_load ho hx hT ht) h
theorem oEx {x : Operand} {i : Nat} {cs : List T} {t : T} {d : Nat} (h : SOps P N ops Q rest ⟨(d, .t t) :: tm, bx, ow⟩) (ho : o.op = .extract x i := by exact rfl) (hx : evA tm x = some (.t (.tup cs)) := by exact rfl) (ht : cs[i]? = some t := by exact rfl) (hg : GuardIs ops tm o true := by first | exact .free rfl rfl | exact gy) (hd : o.dst = some d := by exact rfl) (hN : Nat.blt d N = true := by exact rfl) : SOps P N ops Q (o :: rest) ⟨tm, bx, ow⟩ := sops_pure hg hd hN (po_extract ho hx ht) h
theorem oPt {c x y : Operand} {b : Bool} {r : A} {d : Nat} (h : SOps P N ops Q rest ⟨(d, r) :: tm, bx, ow⟩) (ho : o.op = .pick c x y := by exact rfl) (hc : evA tm c = some (.t (.v (.bool b))) := by exact rfl) (hb : b = true := by first | assumption | with_reducible rfl | decide | (simp only [decide_eq_true_eq, decide_eq_false_iff_not]; omega)) (hx : evA tm x = some r := by exact rfl) (hg : GuardIs ops tm o true := by first | exact .free rfl rfl | exact gy) (hd : o.dst = some d := by exact rfl) (hN : Nat.blt d N = true := by exact rfl) : SOps P N ops Q (o :: rest) ⟨tm, bx, ow⟩ := sops_pure hg hd hN (pkt ho hc hb hx) h
theorem dPt {c x y : Operand} {b : Bool} {r : A} {d : Nat} (h : SDraw P N bx ow ops Q tail rest ((d, r) :: tm)) (ho : o.op = .pick c x y := by exact rfl) (hc : evA tm c = some (.t (.v (.bool b))) := by exact rfl) (hb : b = true := by first | assumption | with_reducible rfl | decide | (simp only [decide_eq_true_eq, decide_eq_false_iff_not]; omega)) (hx : evA tm x = some r := by exact rfl) (hg : GuardIs ops tm o true := by first | exact .free rfl rfl | exact gy) (hd : o.dst = some d := by exact rfl) : SDraw P N bx ow ops Q tail (o :: rest) tm := sdraw_pure hg hd (pkt ho hc hb hx) h
theorem oPf {c x y : Operand} {b : Bool} {r : A} {d : Nat} (h : SOps P N ops Q rest ⟨(d, r) :: tm, bx, ow⟩) (ho : o.op = .pick c x y := by exact rfl) (hc : evA tm c = some (.t (.v (.bool b))) := by exact rfl) (hb : b = false := by first | assumption | with_reducible rfl | decide | (simp only [decide_eq_true_eq, decide_eq_false_iff_not]; omega)) (hx : evA tm y = some r := by exact rfl) (hg : GuardIs ops tm o true := by first | exact .free rfl rfl | exact gy) (hd : o.dst = some d := by exact rfl) (hN : Nat.blt d N = true := by exact rfl) : SOps P N ops Q (o :: rest) ⟨tm, bx, ow⟩ := sops_pure hg hd hN (pkf ho hc hb hx) h
theorem dPf {c x y : Operand} {b : Bool} {r : A} {d : Nat} (h : SDraw P N bx ow ops Q tail rest ((d, r) :: tm)) (ho : o.op = .pick c x y := by exact rfl) (hc : evA tm c = some (.t (.v (.bool b))) := by exact rfl) (hb : b = false := by first | assumption | with_reducible rfl | decide | (simp only [decide_eq_true_eq, decide_eq_false_iff_not]; omega)) (hx : evA tm y = some r := by exact rfl) (hg : GuardIs ops tm o true := by first | exact .free rfl rfl | exact gy) (hd : o.dst = some d := by exact rfl) : SDraw P N bx ow ops Q tail (o :: rest) tm := sdraw_pure hg hd (pkf ho hc hb hx) h
theorem xinc {t t2 : TypeId} {x y : Operand} {k : Nat} (ho : o.op = .binOp .add t x y t2) (hx : ρ x = some (.t (.v (.int .i64 (k : Int)))) := by exact rfl) (hy : ρ y = some (.t (.v (.int .i64 1))) := by exact rfl) (h : (k : Int) + 1 ≤ 9223372036854775807 := by omega) : PureOp P bx ow o ρ (.t (.v (.int .i64 ((k + 1 : Nat) : Int)))) := po_inc ho hx hy h
theorem sal {ty : TypeId} {d : Nat} {pl : List (Nat × Nat)} {zs : List Value} (hS : strI P ty = some (pl, zs)) (h : SOps P N ops Q rest ⟨(d, .bp d 0) :: tm, (d, zs.map fun v => A.t (T.v v)) :: bx, ow⟩) (ho : o.op = .alloc ty := by exact rfl) (hg : GuardIs ops tm o true := by first | exact .free rfl rfl | exact gy) (hd : o.dst = some d := by exact rfl) (hN : Nat.blt d N = true := by exact rfl) (hi : get bx d = none := by exact rfl) (hp : Nat.ble 2000 d = false := by exact rfl) (hq : cellB d = true := by exact rfl) : SOps P N ops Q (o :: rest) ⟨tm, bx, ow⟩ := sops_allocS hS hg ho hd hN hi h hp hq
theorem sbx {ty : TypeId} {x : Operand} {y : A} {d : Nat} (h : SOps P N ops Q rest ⟨(d, .bp d 0) :: tm, (d, y.cells) :: bx, ow⟩) (ho : o.op = .box ty x := by exact rfl) (hg : GuardIs ops tm o true := by first | exact .free rfl rfl | exact gy) (hd : o.dst = some d := by exact rfl) (hN : Nat.blt d N = true := by exact rfl) (hx : evA tm x = some y := by exact rfl) (hk : y.okB = true := by exact rfl) (hi : get bx d = none := by exact rfl) (hp : Nat.ble 2000 d = false := by exact rfl) (hq : cellB d = true := by exact rfl) : SOps P N ops Q (o :: rest) ⟨tm, bx, ow⟩ := sops_box hg ho hd hN hx hk hi h hp hq
theorem oS {ty : TypeId} {x z : Operand} {y : A} {i off n : Nat} {ag : Bool} {cs : List A} (h : SOps P N ops Q rest ⟨tm, (i, spl cs off y.cells) :: bx, ow⟩) (ho : o.op = .store ty x z := by exact rfl) (hg : GuardIs ops tm o true := by first | exact .free rfl rfl | exact gy) (hd : o.dst = none := by exact rfl) (hx : evA tm x = some (.bp i off) := by exact rfl) (hz : evA tm z = some y := by exact rfl) (hk : y.okB = true := by exact rfl) (hb : get bx i = some cs := by exact rfl) (hT : tyI P ty = some (ag, n) := by exact tyT rfl) (hn : y.cells.length = n := by exact rfl) (hf : Nat.ble (off + n) cs.length = true := by exact rfl) (hq : cellB i = true := by exact rfl) : SOps P N ops Q (o :: rest) ⟨tm, bx, ow⟩ := sops_store hg ho hd hx hz hk hb hT hn hf h hq
theorem rg (id : Nat) {l : List Oper} {st : St} (h : SOps P N l.toArray Q l st) : SWp P N (.region id l.toArray false) Q st := swp_region h
theorem rd (id : Nat) {l : List Oper} (h : SDraw P N bx ow l.toArray Q [] l tm) (hm : P.follows .mixedOrders = true := by exact mixed) (hB : regionB3 l.toArray l.length N = true := by kernel_rfl) (hD : depsB l.toArray l.length = true := by kernel_rfl) : SWp P N (.region id l.toArray true) Q ⟨tm, bx, ow⟩ := swp_draw_all hm hB hD h
theorem rt {s : Nat} {y : A} {t : T} {st : St} {l : List ResultVar} {ts : List T} (hl : Res P st l ts) (h : get st.tm s = some y := by exact rfl) (hv : Vw st.ow y t := by first | exact .t _ | exact .own rfl (by first | rfl | assumption | (simp; done) | (simp; omega)) | exact .nil _ | exact .emp _ | exact .fn _) : Res P st (.tmp s :: l) (t :: ts) := .tmp h hv hl
theorem rq1 {fn : Func} {r : T} {e : Exit} {st : St} {l : List ResultVar} (hl : fn.results.toList = l) (h : Res P st l [r]) (he : e = .normal ∨ e = .ret := by first | exact .inr rfl | exact .inl rfl) : RetQ P fn r e st := retq he hl h rfl
theorem rq {fn : Func} {r : T} {e : Exit} {st : St} {l : List ResultVar} {ts : List T} (hl : fn.results.toList = l) (h : Res P st l ts) (hr : r = resT ts) (he : e = .normal ∨ e = .ret := by first | exact .inr rfl | exact .inl rfl) : RetQ P fn r e st := retq he hl h hr
theorem yp {W X : List (List Nat)} {k d : Nat} {r : A} (hp : ∀ bxr owr, PureOp P (rst (X.getD k []) bx ++ bxr) (rst (X.getD k []) ow ++ owr) o (evA tm) r) (h : SAny P N ops W X Q (k + 1) rest ⟨(d, r) :: tm, bx, ow⟩) (hg : GuardIs ops tm o true := by first | exact .free rfl rfl | exact gy) (hd : o.dst = some d := by exact rfl) (hW : W.getD k [] = [] := by exact rfl) : SAny P N ops W X Q k (o :: rest) ⟨tm, bx, ow⟩ := sany_pure hg hd hW hp h
theorem fdo {s : TypeId} {x : Operand} {f q i nn sz k off : Nat} {o' : Own} (ho : o.op = .fieldAddr s x f) (hx : ρ x = some (.oe i nn sz k off) := by exact rfl) (hi : get ow i = some o' := by exact rfl) (hnn : nn = o'.rows.length := by first | rfl | assumption | omega | (simp; done) | (simp; omega) | (simp at *; omega)) (hq : fieldOff P s f = some q := by exact tyF rfl) : PureOp P bx ow o ρ (.oe i nn sz k (off + q)) := po_field_own ho hx hi hnn hq
theorem ldo {ty e : TypeId} {x : Operand} {i nn sz k off n : Nat} {rows : List (List T)} {row : List T} {t : T} (ho : o.op = .load ty x) (hx : ρ x = some (.oe i nn sz k off) := by exact rfl) (hi : get ow i = some ⟨e, sz, rows⟩ := by exact rfl) (hnn : nn = rows.length := by first | rfl | assumption | omega | (simp; done) | (simp; omega) | (simp at *; omega)) (hT : tyI P ty = some (false, n) := by exact tyT rfl) (hk : rows[k]? = some row := by first | rfl | assumption | exact map_at (by first | assumption | omega)) (ht : row[off]? = some t := by exact rfl) : PureOp P bx ow o ρ (.t t) := po_load_own ho hx hi hnn hT hk ht
theorem lda {ty e : TypeId} {x : Operand} {i nn sz k off n : Nat} {rows : List (List T)} {row ts : List T} (ho : o.op = .load ty x) (hx : ρ x = some (.oe i nn sz k off) := by exact rfl) (hi : get ow i = some ⟨e, sz, rows⟩ := by exact rfl) (hnn : nn = rows.length := by first | rfl | assumption | omega | (simp; done) | (simp; omega) | (simp at *; omega)) (hT : tyI P ty = some (true, n) := by exact tyT rfl) (hk : rows[k]? = some row := by first | rfl | assumption | exact map_at (by first | assumption | omega)) (hn : ts.length = n := by exact rfl) (ht : (row.drop off).take n = ts := by exact rfl) : PureOp P bx ow o ρ (.t (.agg ts)) := po_load_own_agg ho hx hi hnn hT hk hn ht
theorem ixo {t e : TypeId} {x ix : Operand} {i nn sz k : Nat} {rows : List (List T)} {n : Int} {ik : IntKind} (ho : o.op = .indexAddr t x ix) (hx : ρ x = some (.own i nn) := by exact rfl) (hi : get ow i = some ⟨e, sz, rows⟩ := by exact rfl) (hnn : nn = rows.length := by first | rfl | assumption | omega | (simp; done) | (simp; omega) | (simp at *; omega)) (hix : ρ ix = some (.t (.v (.int ik n))) := by exact rfl) (hT : sliceSz P t = some sz := by exact tyS rfl) (hn : n = (k : Int) := by first | rfl | omega) (hk : k < nn := by first | assumption | omega) : PureOp P bx ow o ρ (.oe i nn sz k 0) := po_index_own ho hx hi hnn hix hT hn hk
theorem xadd {t t2 : TypeId} {x y : Operand} {k : IntKind} {i j c : Int} (ho : o.op = .binOp .add t x y t2) (hx : ρ x = some (.t (.v (.int k i))) := by exact rfl) (hy : ρ y = some (.t (.v (.int k j))) := by exact rfl) (h : i + j = c := by exact rfl) (hz : k.wrap c = c := by first | rfl | (refine wrap_i64 ?_; omega)) : PureOp P bx ow o ρ (.t (.v (.int k c))) := po_arith ho hx hy (ar_add hz h)
/-- the steps of control that need no hint; what is left is the new goal -/
theorem gc {X B : Prop} (k : B) (h : W1 B → X := by (intro k_; (first | (show SWp _ _ _ _ _; first | refine swp_seq ?_ | refine swp_ret ?_ | refine swp_skip ?_ | refine swp_block ?_ | refine swp_exit ?_) | (show Then _ _ _ _ _ _; first | refine then_go ?_ | refine then_ret ?_ | refine then_exit ?_) | (show InBlock _ _ _ _; first | refine block_go ?_ | refine block_exit ?_ | refine block_far rfl ?_ | refine block_ret ?_) | (show ForQ _ _ _ _ _ _ _ _; first | refine for_ret ?_ | refine for_exit ?_)); (repeat (first | (show SWp _ _ _ _ _; first | refine swp_seq ?_ | refine swp_ret ?_ | refine swp_skip ?_ | refine swp_block ?_ | refine swp_exit ?_) | (show Then _ _ _ _ _ _; first | refine then_go ?_ | refine then_ret ?_ | refine then_exit ?_) | (show InBlock _ _ _ _; first | refine block_go ?_ | refine block_exit ?_ | refine block_far rfl ?_ | refine block_ret ?_) | (show ForQ _ _ _ _ _ _ _ _; first | refine for_ret ?_ | refine for_exit ?_))); exact k_.p)) : X := h ⟨k⟩
end
end Go.Proofs.Ytgbcmjcaggnobaa.Sim

/- A logic of states: a row gets another number: a lent one becomes the call's own, a hidden one may be seen from then on. -/
namespace Go.Proofs.Ytgbcmjcaggnobaa.Sim
set_option linter.unusedVariables false
set_option linter.unusedSimpArgs false
open Go.RowKit Mem

def rn (i i' j : Nat) : Nat := bif Nat.beq j i then i' else j
theorem rn_same (i i' : Nat) : rn i i' i = i' := by unfold rn; rw [Nat.beq_refl]; rfl
theorem rn_other {i i' j : Nat} (h : j ≠ i) : rn i i' j = j := by
  unfold rn
  cases e : Nat.beq j i with
  | true => exact absurd (Nat.eq_of_beq_eq_true e) h
  | false => rfl
def renO (i i' : Nat) (ow : List (Nat × Own)) : List (Nat × Own) := ow.map fun p => (rn i i' p.1, p.2)
def renX (i i' : Nat) (bx : List (Nat × List A)) : List (Nat × List A) := bx.map fun p => (p.1, p.2.map (A.ren (fun k => k) (rn i i')))
theorem get_renO {i i' : Nat} {ow : List (Nat × Own)} (hn : get ow i' = none) (hne : i ≠ i') (j : Nat) : get (renO i i' ow) j = if j = i' then get ow i else if j = i then none else get ow j := by
  induction ow with
  | nil => simp [renO, get]
  | cons p r ih =>
    obtain ⟨k, x⟩ := p
    rw [get_cons] at hn
    split at hn
    · cases hn
    rename_i hk
    have ih := ih hn
    show get ((rn i i' k, x) :: renO i i' r) j = _
    rw [get_cons, get_cons, get_cons, ih]
    by_cases hki : k = i
    · subst hki
      rw [rn_same]
      by_cases hj : i' = j
      · subst hj; simp
      · have hj' : ¬ j = i' := fun e => hj e.symm
        by_cases hjk : j = k
        · subst hjk; simp [hj, hj']
        · have hkj : ¬ k = j := fun e => hjk e.symm
          simp [hj, hj', hjk, hkj]
    · rw [rn_other hki]
      by_cases hkj : k = j
      · subst hkj; simp [hk, hki]
      · simp [hkj, hki]
theorem get_renX {i i' : Nat} {bx : List (Nat × List A)} (j : Nat) : get (renX i i' bx) j = (get bx j).map fun cs => cs.map (A.ren (fun k => k) (rn i i')) := by
  induction bx with
  | nil => rfl
  | cons p r ih =>
    obtain ⟨k, x⟩ := p
    show get ((k, _) :: renX i i' r) j = _
    rw [get_cons, get_cons, ih]
    by_cases hkj : k = j
    · rw [if_pos hkj, if_pos hkj]; rfl
    · rw [if_neg hkj, if_neg hkj]
theorem EnvG.ren' {C : Ctx} {bx : List (Nat × List A)} {ow : List (Nat × Own)} {w : World} {m : Mm} {g : Gh} (he : EnvG C bx ow w m g) {i i' : Nat} {o : Own} (hi : get ow i = some o) (hh : hid i = true ∨ hid i' = false) (hn : get ow i' = none) (h2 : Nat.ble 2000 i' = false) :
    ∃ m' g', EnvG C (renX i i' bx) (renO i i' ow) w m' g' ∧ ∀ x v, AR m g x v → AR m' g' (x.ren (fun k => k) (rn i i')) v := by
  have hne : i ≠ i' := fun e => by rw [e, hn] at hi; cases hi
  obtain ⟨vs, hrow, hsz, hcells, hblk⟩ := he.owns i o hi
  have hO := fun j => get_renO hn hne j
  have hX := fun j => get_renX (i := i) (i' := i') (bx := bx) j
  have hlwi : g.lw i' = false := by rw [he.lw, hn]; rfl
  have hmm : ∀ b q u, m b q = some u → rowm m (g.go i) (vis i' vs) b q = some u := fun b q u hu => by
    unfold rowm
    split
    · rename_i hb
      rw [(hblk b hb).1 q] at hu
      rcases hh with hh | hh
      · rw [vis_hid hh] at hu; simp at hu
      · rw [vis_see hh]; exact vis_get hu
    · exact hu
  have hgoO : ∀ j, j ≠ i' → (if j = i' then g.go i else g.go j) = g.go j := fun j h => if_neg h
  have hlw' : ∀ j, g.lw j = true → j ≠ i' := fun j hj e => by rw [e, hlwi] at hj; cases hj
  have hget : ∀ j, g.lw j = true → (get (renO i i' ow) (rn i i' j)).isSome = true := fun j hj => by
    rw [hO]
    by_cases hji : j = i
    · subst hji; rw [rn_same, if_pos rfl, hi]; rfl
    · rw [rn_other hji, if_neg (hlw' j hj), if_neg hji, ← he.lw j]; exact hj
  let g' : Gh := { g with go := fun j => if j = i' then g.go i else g.go j, ln := fun j => if j = i' then g.ln i else g.ln j, lw := fun j => (get (renO i i' ow) j).isSome }
  have hgo : ∀ j, g.lw j = true → g'.go (rn i i' j) = g.go j := fun j hj => by
    by_cases hji : j = i
    · subst hji; rw [rn_same]; exact if_pos rfl
    · rw [rn_other hji]; exact if_neg (hlw' j hj)
  have hln : ∀ j, g.lw j = true → g'.ln (rn i i' j) = g.ln j := fun j hj => by
    by_cases hji : j = i
    · subst hji; rw [rn_same]; exact if_pos rfl
    · rw [rn_other hji]; exact if_neg (hlw' j hj)
  have hAR : ∀ x v, AR m g x v → AR (rowm m (g.go i) (vis i' vs)) g' (x.ren (fun k => k) (rn i i')) v := fun x v hx => by
    refine AR.mp (ren0 (fun k => k) (rn i i')) (fun _ => true) (fun x v _ hx => ?_) (by
      cases x <;> simp [A.allP, A.all1]
      intro y _; cases y <;> simp [A.all1]) hx
    cases x with
    | t x => exact TR.mono hmm hx
    | bp k off => exact hx
    | sb k n sz e => exact hx
    | rs R => exact hx
    | rp k n => exact hx
    | own j n =>
      obtain ⟨h1, h3, h4, h5⟩ := hx
      exact ⟨hget j h1, by rw [hln j h1]; exact h3, h4, fun e => by rw [hgo j h1]; exact h5 (by rw [hln j h1] at e; exact e)⟩
    | emp => exact hx
    | oe j n sz k off =>
      obtain ⟨h1, h3, h4, h5⟩ := hx
      exact ⟨hget j h1, by rw [hln j h1]; exact h3, h4, fun e => by rw [hgo j h1]; exact h5 (by rw [hln j h1] at e; exact e)⟩
    | any => trivial
    | sfx j n sz k =>
      obtain ⟨h1, h3, h4, h5⟩ := hx
      exact ⟨hget j h1, by rw [hln j h1]; exact h3, h4, fun e => by rw [hgo j h1]; exact h5 (by rw [hln j h1] at e; exact e)⟩
    | ag cs => exact hx
    | tu cs => exact hx
    | cl f cs => exact hx
  have hown : ∀ j oj, get (renO i i' ow) j = some oj → (j = i' ∧ oj = o) ∨ (j ≠ i' ∧ j ≠ i ∧ get ow j = some oj) := fun j oj hj => by
    rw [hO] at hj
    by_cases h1 : j = i'
    · rw [if_pos h1, hi] at hj; injection hj with hj; exact .inl ⟨h1, hj.symm⟩
    · rw [if_neg h1] at hj
      by_cases h3 : j = i
      · rw [if_pos h3] at hj; cases hj
      · rw [if_neg h3] at hj; exact .inr ⟨h1, h3, hj⟩
  have hgo1 : g'.go i' = g.go i := if_pos rfl
  have hgo2 : ∀ j, j ≠ i' → g'.go j = g.go j := fun j h => if_neg h
  refine ⟨rowm m (g.go i) (vis i' vs), g', {
    lo := he.lo
    gm := he.gm
    sub := fun b q u hu => by
      unfold rowm at hu
      split at hu
      · rename_i hb
        have := hrow.cells hb q u (vis_get hu)
        rwa [addr_add, Nat.zero_add] at this
      · exact he.sub b q u hu
    gt := fun b q u ht => hmm b q u (he.gt b q u ht)
    ext := ⟨fun b q u hu => hmm b q u (he.ext.keep b q u hu), fun b q hb hgb => by
      unfold rowm
      by_cases hvv : (g.go i).ownBlock = some b
      · rcases (hblk b hvv).2.2 with h1 | h1
        · omega
        · rw [hgb] at h1; cases h1
      · rw [if_neg hvv]; exact he.ext.old b q hb hgb⟩
    lb := fun j => by
      rw [hX, Option.isSome_map]; exact he.lb j
    lw := fun j => rfl
    ln := fun j oj hj => by
      rcases hown j oj hj with ⟨h1, h3⟩ | ⟨h1, h3, h4⟩
      · subst h1 h3; show (if j = j then g.ln i else g.ln j) = _; rw [if_pos rfl]; exact he.ln i _ hi
      · show (if j = i' then g.ln i else g.ln j) = _; rw [if_neg h1]; exact he.ln j _ h4
    boxes := fun j cs hj => by
      rw [hX] at hj
      cases hb : get bx j with
      | none => rw [hb] at hj; cases hj
      | some cs0 =>
        rw [hb] at hj
        have hj : cs0.map (A.ren (fun k => k) (rn i i')) = cs := by simpa using hj
        subst hj
        obtain ⟨vs2, ty, h1, h3, h4, h5, h6⟩ := he.boxes j cs0 hb
        refine ⟨vs2, ty, h1, by simpa using h3, fun q x u hx hu => ?_, h5, fun q => ?_⟩
        · rw [List.getElem?_map] at hx
          cases hc : cs0[q]? with
          | none => rw [hc] at hx; cases hx
          | some y =>
            rw [hc] at hx
            have hx : A.ren (fun k => k) (rn i i') y = x := by simpa using hx
            subst hx
            exact ⟨hAR _ _ (h4 q y u hc hu).1, (h4 q y u hc hu).2⟩
        · show rowm m (g.go i) (vis i' vs) (g.gb j) q = none
          unfold rowm
          rw [if_neg (fun e => (hblk _ e).2.1 j cs0 hb rfl)]
          exact h6 q
    inj := fun j k cj ck hj hk e => by
      rw [hX] at hj hk
      cases hb : get bx j with
      | none => rw [hb] at hj; cases hj
      | some c1 =>
        cases hb2 : get bx k with
        | none => rw [hb2] at hk; cases hk
        | some c2 => exact he.inj j k c1 c2 hb hb2 e
    owns := fun j oj hj => by
      rcases hown j oj hj with ⟨h1, h3⟩ | ⟨h1, h3, h4⟩
      · subst h1 h3
        rw [hgo1]
        refine ⟨vs, hrow, hsz, hcells.mono hmm, fun b hb => ⟨fun k => ?_, fun q cs hq => ?_, (hblk b hb).2.2⟩⟩
        · unfold rowm; rw [if_pos hb]
        · rw [hX] at hq
          cases hb2 : get bx q with
          | none => rw [hb2] at hq; cases hq
          | some c2 => exact (hblk b hb).2.1 q c2 hb2
      · rw [hgo2 j h1]
        obtain ⟨vs2, k1, k2, k3, k4⟩ := he.owns j oj h4
        refine ⟨vs2, k1, k2, k3.mono hmm, fun b hb => ⟨fun k => ?_, fun q cs hq => ?_, (k4 b hb).2.2⟩⟩
        · unfold rowm
          rw [if_neg (fun e => he.apart i j o oj hi h4 (fun e => h3 e.symm) b e hb)]
          exact (k4 b hb).1 k
        · rw [hX] at hq
          cases hb2 : get bx q with
          | none => rw [hb2] at hq; cases hq
          | some c2 => exact (k4 b hb).2.1 q c2 hb2
    apart := fun j k oj ok hj hk hjk b hb => by
      rcases hown j oj hj with ⟨h1, h3⟩ | ⟨h1, h3, h4⟩
      · rcases hown k ok hk with ⟨k1, k3⟩ | ⟨k1, k3, k4⟩
        · exact absurd (h1.trans k1.symm) hjk
        · subst h1; rw [hgo1] at hb; rw [hgo2 k k1]
          exact he.apart i k o ok hi k4 (fun e => k3 e.symm) b hb
      · rw [hgo2 j h1] at hb
        rcases hown k ok hk with ⟨k1, k3⟩ | ⟨k1, k3, k4⟩
        · subst k1; rw [hgo1]
          exact he.apart j i oj o h4 hi h3 b hb
        · rw [hgo2 k k1]
          exact he.apart j k oj ok h4 k4 hjk b hb
    pin := fun j oj hj hj2 => by
      rcases hown j oj hj with ⟨h1, h3⟩ | ⟨h1, h3, h4⟩
      · rw [h1, h2] at hj2; cases hj2
      · rw [hgo2 j h1]; exact he.pin j oj h4 hj2
    pinb := fun j cs hj hj2 => by
      rw [hX] at hj
      cases hb : get bx j with
      | none => rw [hb] at hj; cases hj
      | some c1 => exact he.pinb j c1 hb hj2
    rs := he.rsF (fun k => (g.go i).ownBlock = some k) (fun k R _ hk => ⟨rs_map ren0_rs (by rw [hX] at hk; exact hk), rfl, rfl, rfl⟩) (fun k cs _ hk _ => by
      rw [hX] at hk
      cases hc : get bx k with
      | none => rw [hc] at hk; cases hk
      | some c0 => exact ⟨rfl, c0, by first | exact hc | rfl⟩) (fun k hk => .inr ⟨i, o, hi, hk⟩) (fun _ _ _ => rfl) hmm (fun b _ hnt hb q => by unfold rowm; rw [if_neg hnt]; exact hb q) (fun k cs hk => by
      rw [hX] at hk
      cases hc : get bx k with
      | none => rw [hc] at hk; cases hk
      | some c0 => exact .inl ⟨k, c0, by first | exact hc | rfl, rfl⟩) (fun j oj hj b hb => by
      rcases hown j oj hj with ⟨h1, h3⟩ | ⟨h1, h3, h4⟩
      · subst h1; rw [hgo1] at hb; exact .inl ⟨i, o, hi, hb⟩
      · rw [hgo2 j h1] at hb; exact .inl ⟨j, oj, h4, hb⟩) }, hAR⟩
theorem EnvG.ren {C : Ctx} {bx : List (Nat × List A)} {ow : List (Nat × Own)} {w : World} {m : Mm} {g : Gh} (he : EnvG C bx ow w m g) {i i' : Nat} {o : Own} (hi : get ow i = some o) (hh : hid i = true) (hn : get ow i' = none) (h2 : Nat.ble 2000 i' = false) :
    ∃ m' g', EnvG C (renX i i' bx) (renO i i' ow) w m' g' ∧ ∀ x v, AR m g x v → AR m' g' (x.ren (fun k => k) (rn i i')) v := he.ren' hi (.inl hh) hn h2
end Go.Proofs.Ytgbcmjcaggnobaa.Sim

/- A logic of states: a literal that holds what the call owns. -/
namespace Go.Proofs.Ytgbcmjcaggnobaa.Sim
set_option linter.unusedVariables false
set_option linter.unusedSimpArgs false
open Go.RowKit Mem
/-- a literal's cells -/
def fillA (pl : Nat → Option (Nat × Nat)) : List A → List (Nat × A) → Option (List A)
  | zs, [] => some zs
  | zs, (i, t) :: r => match pl i with
    | some (off, sz) => bif t.okB && Nat.beq t.cells.length sz && Nat.ble (off + sz) zs.length then fillA pl (zs.take off ++ (t.cells ++ zs.drop (off + sz))) r else none
    | none => none
theorem fillA_ok {m : Mm} {g : Gh} {pl : Nat → Option (Nat × Nat)} : ∀ {parts : List (Nat × A)} {zs rs : List A} {cells : Array Value} {vals : List (Nat × Value)}, fillA pl zs parts = some rs → ACells m g zs cells.toList → parts.length = vals.length →
    (∀ (i : Nat) p q, parts[i]? = some p → vals[i]? = some q → q.1 = p.1 ∧ AR m g p.2 q.2) → ∃ cells', Instr.fill pl cells vals = some cells' ∧ ACells m g rs cells'.toList
  | [], zs, rs, cells, vals, h, hc, hl, _ => by
    have : vals = [] := List.eq_nil_of_length_eq_zero hl.symm
    subst this
    injection h with h; subst h
    exact ⟨cells, rfl, hc⟩
  | (i, t) :: r, zs, rs, cells, vals, h, hc, hl, hp => by
    obtain ⟨⟨i', v⟩, vals, rfl⟩ : ∃ q vs, vals = q :: vs := by cases vals with | nil => simp at hl | cons q vs => exact ⟨q, vs, rfl⟩
    obtain ⟨hi, hv⟩ := hp 0 _ _ rfl rfl
    dsimp only at hi hv
    subst hi
    unfold fillA at h
    cases hpl : pl i' with
    | none => rw [hpl] at h; cases h
    | some x =>
      obtain ⟨off, sz⟩ := x
      rw [hpl] at h
      dsimp only at h
      cases hb : (t.okB && Nat.beq t.cells.length sz && Nat.ble (off + sz) zs.length) with
      | false => rw [hb] at h; cases h
      | true =>
        rw [hb] at h
        simp only [Bool.and_eq_true] at hb
        obtain ⟨⟨hb1, hb2⟩, hb3⟩ := hb
        have hcv := acells_ok hv hb1
        have e1 : t.cells.length = sz := Nat.eq_of_beq_eq_true hb2
        have e2 : off + sz ≤ zs.length := Nat.le_of_ble_eq_true hb3
        have e3 : v.cells.size = sz := by have := hcv.1; simp at this; omega
        have e4 : off + sz ≤ cells.size := by have := hc.1; simp at this; omega
        have hset := fill_set off sz cells v.cells.toList (by simpa using e3) e4
        have hz : v.cells.zipIdx.foldl (fun cs (x : Value × Nat) => cs.setIfInBounds (off + x.2) x.1) cells = (v.cells.toList.zipIdx).foldl (fun cs (x : Value × Nat) => cs.setIfInBounds (off + x.2) x.1) cells := by
          rw [← Array.foldl_toList, Array.toList_zipIdx]
        have hnew : ACells m g (zs.take off ++ (t.cells ++ zs.drop (off + sz))) (v.cells.zipIdx.foldl (fun cs (x : Value × Nat) => cs.setIfInBounds (off + x.2) x.1) cells).toList := by
          rw [hz, hset]
          exact (hc.take off).app (hcv.app (hc.drop (off + sz)))
        obtain ⟨cells', h5, h6⟩ := fillA_ok (parts := r) h hnew (by simpa using hl) (fun j p q h1 h2 => hp (j + 1) p q (by simpa using h1) (by simpa using h2))
        refine ⟨cells', ?_, h6⟩
        unfold Instr.fill
        rw [hpl]
        dsimp only
        rw [if_neg (by simp; omega)]
        exact h5
theorem zero_acells (m : Mm) (g : Gh) {z : Value} (h : ∀ v ∈ z.cells.toList, v.oneCell' = true) : ACells m g (z.cells.toList.map fun v => A.t (.v v)) z.cells.toList := by
  refine ⟨by simp, fun j t v h1 h2 => ?_⟩
  rw [List.getElem?_map, h2] at h1
  simp at h1; subst h1
  exact ⟨TR.v _, h v (List.mem_of_getElem? h2)⟩
theorem ar_leaf {m : Mm} {g : Gh} {y : A} {u : Value} (h : AR m g y u) (hl : y.isLf = true) : AR0 m g y u := by
  cases y <;> first | exact h | cases hl
section
variable {P : Program} {bx : List (Nat × List A)} {ow : List (Nat × Own)} {o : Oper} {ρ : Operand → Option A} {r : A}
end
/-- a scope through which the run goes without a jump -/
def nogF (Q : Exit → St → Prop) : Exit → St → Prop
  | .goto _, _ => False
  | e, st => Q e st
structure NoG (Q : Exit → St → Prop) (e : Exit) (st : St) : Prop where
  go : nogF Q e st
theorem swp_scope {P : Program} {N : Nat} {Q : Exit → St → Prop} {c : Code} {st : St} (h : SWp P N c (NoG Q) st) : SWp P N (.scope c) Q st := .mk fun C a w hr =>
  wk_scope (wk_mono (fun e a' w' ⟨st', hr', hq⟩ => by
    cases e with
    | goto l => exact absurd hq.go id
    | _ => exact ⟨st', hr', hq.go⟩) (h.go C a w hr))
theorem nog_r {Q : Exit → St → Prop} {st : St} (h : Q .ret st) : NoG Q .ret st := ⟨h⟩
end Go.Proofs.Ytgbcmjcaggnobaa.Sim

/- A logic of states: arrays of 256 cells; a pointer looked at. -/
namespace Go.Proofs.Ytgbcmjcaggnobaa.Sim
set_option linter.unusedVariables false
set_option linter.unusedSimpArgs false
open Go.RowKit Mem
section
variable {P : Program} {N : Nat} {Q : Exit → St → Prop} {ops : Array Oper} {rest : List Oper} {tm : List (Nat × A)} {bx : List (Nat × List A)} {ow : List (Nat × Own)} {o : Oper} {ρ : Operand → Option A} {r : A}
theorem po_nilcheck {x : Operand} {i off : Nat} (ho : o.op = .nilCheck x) (hx : ρ x = some (.bp i off)) : PureOp P bx ow o ρ (.bp i off) := pure_run fun C m g w a he h => by
  obtain ⟨h0, h1⟩ := h x (by simp [ho, Op.operands]) _ hx
  exact ⟨_, by simp [execOp, ho, h1], h0, rfl⟩
end
end Go.Proofs.Ytgbcmjcaggnobaa.Sim

/- The rows' last step: arguments opened, the row shut where only new memory was made. -/
namespace Go.Proofs.Ytgbcmjcaggnobaa.Post
set_option linter.unusedVariables false
set_option linter.unusedSimpArgs false
open Go.RowKit Go.WideShapes Go.ChangeShapes Go.Joins Mem
section
variable {H : Type} {enc : TypeId × Value → H} {P : Program}
theorem post_of_below {f : Func} {s : ChangeSpec} {apart fresh handsOn again : Bool} {W W' : World} {args : Array Value} {v : Value} {ds gs : List (DataW H)} {before pa pv : List MemPlace}
    (hW : DataW.Whole enc P f.params.toList s.vars apart W args.toList ds gs before)
    (hres : ∀ (b : Nat) (sp : Nat → Bool) (hd : Bool), DataW.TrodAll enc P W' b sp hd f.resultTypes.toList (v.resultList f.resultTypes.size) (s.fn H (ds ++ gs)).results [])
    (hargs : ∀ sp : Nat → Bool, (∀ p ∈ before, sp p.block = true) → DataW.TrodAll enc P W' 0 sp true f.params.toList args.toList (s.fn H (ds ++ gs)).args pa)
    (hvars : ∀ sp : Nat → Bool, (∀ p ∈ before, sp p.block = true) → DataW.TrodVars enc P W' sp s.vars (s.fn H (ds ++ gs)).vars pv)
    (hps : before = pa ++ pv) (hb : Below W.heap.size W W')
    (hok : ∀ (j : Nat) (t : TypeId) (r : Value), f.resultTypes[j]? = some t → (v.resultList f.resultTypes.size)[j]? = some r → Value.okWide P W' .any 0 t r) :
    s.post enc P f apart fresh handsOn again W args v W' := by
  have hlt : ∀ p ∈ before, p.block < W.heap.size := fun p hp => hW.lt p hp
  have hold : ∀ p ∈ before, (fun b => decide (b < W.heap.size)) p.block = true := fun p hp => by simpa using hlt p hp
  refine ⟨ds, gs, before, [], pa, pv, hW, hres _ _ _, hargs _ hold, hvars _ hold, World.keptBut_mono (fun p hp => ⟨hp, ?_⟩) (hb.frame (· ∈ before)), fun _ => ?_⟩
  · rw [hps, List.mem_append] at hp
    exact Or.inr hp
  · obtain ⟨_, _, _, _, _, hz, hn⟩ := hW
    refine ⟨hok, _, _, ([] ++ pa) ++ pv, ⟨[] ++ pa, pv, trodAll_append (hargs _ (fun _ _ => rfl)) (hres _ _ _), hvars _ (fun _ _ => rfl), rfl, ?_, ?_⟩, ?_⟩
    · intro b off hp
      have hin : MemPlace.cell b off ∈ before := by rw [hps]; simpa using hp
      rw [hb.frozen (hlt _ hin)]
      exact hz b off hin
    · intro ha
      have := hn ha
      rw [hps] at this
      simpa using this
    · intro p hp _
      rw [hps]
      simpa using hp
theorem trodAll_stays {W W' : World} {sp' : Nat → Bool} (hl : laidOutB P = true) : ∀ {ts : List TypeId} {vs : List Value} {ds : List (DataW H)} {ps : List MemPlace}, (∀ t ∈ ts, P.readableRec t = true ∧ t < P.types.size) →
    DataW.TrodAll enc P W 0 (fun _ => true) true ts vs ds ps → (∀ p ∈ ps, W.sameAt W' p) → (∀ p ∈ ps, sp' p.block = true) → DataW.TrodAll enc P W' 0 sp' true ts vs ds ps
  | [], vs, ds, ps, _, h, _, _ => by obtain ⟨rfl, rfl, rfl⟩ := trodAll_nil h; exact trodAll_mk0
  | t :: ts, vs, ds, ps, hr, h, hs, hsp => by
    obtain ⟨v, vs', d, ds', p, q, rfl, rfl, rfl, h0, r0⟩ := trodAll_cons h
    obtain ⟨hr1, hr2⟩ := hr t (by simp)
    exact trodAll_cons_mk (WideElems.Trod_stays hl hr1 hr2 h0 (fun x hx => hs x (by simp [hx])) (fun x hx => hsp x (by simp [hx])))
      (trodAll_stays hl (fun t ht => hr t (by simp [ht])) r0 (fun x hx => hs x (by simp [hx])) (fun x hx => hsp x (by simp [hx])))

/-- A LAW's END: it returned true, and nothing that was there has turned. -/
theorem law_post {f : Func} {s : ChangeSpec} {apart fresh handsOn again : Bool} {W W' : World} {args : Array Value} {ds gs : List (DataW H)} {before : List MemPlace} {tb : TypeId}
    (hl : laidOutB P = true) (hr : ∀ t ∈ f.params.toList, P.readableRec t = true ∧ t < P.types.size) (hvars : s.vars = []) (hb1 : P.underlying tb = some .bool) (hres : f.resultTypes = #[tb])
    (hfn : gs = [] → s.fn H (ds ++ gs) = { results := [.lit (.bool true)], args := ds })
    (hW : DataW.Whole enc P f.params.toList s.vars apart W args.toList ds gs before) (hb : Lo W W') : s.post enc P f apart fresh handsOn again W args (.bool true) W' := by
  have hW' := hW
  obtain ⟨p, q, hA, hV, rfl, _, _⟩ := hW
  rw [hvars] at hV
  obtain ⟨rfl, rfl⟩ := trodVars_none hV
  have hf := hfn rfl
  have hlt : ∀ x ∈ p, x.block < W.heap.size := fun x hx => hW'.lt x (by simp [hx])
  refine post_of_below (pa := p) (pv := []) hW' ?_ ?_ ?_ rfl hb ?_
  · intro b sp hd
    rw [hf, hres]
    exact trodAll_mk1 (shut_bool hb1 _)
  · intro sp hsp
    rw [hf]
    exact trodAll_stays hl hr hA (fun x hx => Below.same hb (hlt x hx)) (fun x hx => hsp x (by simp [hx]))
  · intro sp _
    rw [hf, hvars]
    rfl
  · exact ok_one hres rfl (okWide_bool_mk hb1 _)
end
theorem Try.own : ownKnob Try.prog.godebug = none := by kernel_rfl
theorem Try.laidOut : laidOutB Try.prog = true := by kernel_rfl
end Go.Proofs.Ytgbcmjcaggnobaa.Post
