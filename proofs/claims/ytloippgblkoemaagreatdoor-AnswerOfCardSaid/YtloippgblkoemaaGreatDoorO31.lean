/- Merged by bundles.py: SimMap, Tabs. -/
import Derived.Test.YtloippgblkoemaaGreatDoorO12
import Derived.Lib.MapLaws
import Derived.Lib.TrimAscii
import Derived.Lib.TrimUEq
import Derived.Lib.RuneBytes
import Derived.Shelf.Strings.MapGrows
import Derived.Test.YtloippgblkoemaaGreatDoorRows
import Derived.Lib.LaidU8
import Derived.MakeChecks
/- The library's strings.Map, by the kit's contract. -/
namespace Go.Proofs.YtloippgblkoemaaGreatDoor.Mp
set_option linter.unusedVariables false
set_option linter.unusedSimpArgs false
open Go.RowKit Mem Sim
def rho : Shelf.Ren := ⟨fun n => if n = 118 then 114 else if n = 165 then 115 else if n = 166 then 116 else if n = 167 then 119 else if n = 168 then 117 else if n = 169 then 120 else if n = 197 then 113 else if n = 230 then 87 else if n = 240 then 139 else if n = 241 then 140 else if n = 242 then 141 else if n = 260 then 138 else if n = 270 then 118 else if n = 276 then 144 else if n = 277 then 145 else if n = 278 then 146 else n, fun n => if n = 0 then 0 else if n = 3 then 3 else if n = 4 then 4 else if n = 5 then 5 else if n = 9 then 9 else if n = 20 then 20 else if n = 21 then 21 else if n = 37 then 23 else if n = 46 then 135 else if n = 51 then 159 else if n = 70 then 137 else if n = 72 then 139 else if n = 75 then 144 else if n = 76 then 145 else if n = 80 then 150 else if n = 105 then 140 else if n = 107 then 125 else if n = 119 then 168 else if n = 127 then 165 else if n = 138 then 170 else if n = 139 then 171 else if n = 164 then 172 else n, fun n => if n = 3 then 1 else if n = 4 then 2 else n⟩
set_option maxRecDepth 100000 in
theorem lays230 : Lays.n230 Tryz.prog rho where
  mixed := mixed
  f118 := by kernel_rfl
  f165 := by kernel_rfl
  f166 := by kernel_rfl
  f167 := by kernel_rfl
  f168 := by kernel_rfl
  f169 := by kernel_rfl
  f197 := by kernel_rfl
  f230 := by kernel_rfl
  f240 := by kernel_rfl
  f241 := by kernel_rfl
  f242 := by kernel_rfl
  f260 := by kernel_rfl
  f270 := by kernel_rfl
  f276 := by kernel_rfl
  f277 := by kernel_rfl
  f278 := by kernel_rfl
  t0 := Tryz.underlying0
  a0 := Tryz.isAgg0
  z0 := Tryz.sizeOf0
  v0 := Tryz.zeroValue0
  t3 := Tryz.underlying3
  a3 := Tryz.isAgg3
  z3 := Tryz.sizeOf3
  v3 := Tryz.zeroValue3
  t4 := Tryz.underlying4
  a4 := Tryz.isAgg4
  z4 := Tryz.sizeOf4
  v4 := Tryz.zeroValue4
  t5 := Tryz.underlying5
  a5 := Tryz.isAgg5
  z5 := Tryz.sizeOf5
  v5 := Tryz.zeroValue5
  t9 := Tryz.underlying9
  a9 := Tryz.isAgg9
  z9 := Tryz.sizeOf9
  v9 := Tryz.zeroValue9
  t20 := Tryz.underlying20
  a20 := Tryz.isAgg20
  z20 := Tryz.sizeOf20
  v20 := Tryz.zeroValue20
  t21 := Tryz.underlying21
  a21 := Tryz.isAgg21
  z21 := Tryz.sizeOf21
  v21 := Tryz.zeroValue21
  t37 := Tryz.underlying23
  a37 := Tryz.isAgg23
  z37 := Tryz.sizeOf23
  v37 := Tryz.zeroValue23
  t46 := Tryz.underlying135
  a46 := Tryz.isAgg135
  z46 := Tryz.sizeOf135
  v46 := Tryz.zeroValue135
  t51 := Tryz.underlying159
  a51 := Tryz.isAgg159
  z51 := Tryz.sizeOf159
  v51 := Tryz.zeroValue159
  t70 := Tryz.underlying137
  a70 := Tryz.isAgg137
  z70 := Tryz.sizeOf137
  v70 := Tryz.zeroValue137
  t72 := Tryz.underlying139
  a72 := Tryz.isAgg139
  z72 := Tryz.sizeOf139
  v72 := Tryz.zeroValue139
  t75 := Tryz.underlying144
  a75 := Tryz.isAgg144
  z75 := Tryz.sizeOf144
  v75 := Tryz.zeroValue144
  t76 := Tryz.underlying145
  a76 := Tryz.isAgg145
  z76 := Tryz.sizeOf145
  v76 := Tryz.zeroValue145
  t105 := Tryz.underlying140
  a105 := Tryz.isAgg140
  z105 := Tryz.sizeOf140
  v105 := Tryz.zeroValue140
  t107 := Tryz.underlying125
  a107 := Tryz.isAgg125
  z107 := Tryz.sizeOf125
  v107 := Tryz.zeroValue125
  t119 := Tryz.underlying168
  a119 := Tryz.isAgg168
  z119 := Tryz.sizeOf168
  t127 := Tryz.underlying165
  a127 := Tryz.isAgg165
  z127 := Tryz.sizeOf165
  v127 := Tryz.zeroValue165
  t138 := Tryz.underlying170
  a138 := Tryz.isAgg170
  z138 := Tryz.sizeOf170
  v138 := Tryz.zeroValue170
  t139 := Tryz.underlying171
  a139 := Tryz.isAgg171
  z139 := Tryz.sizeOf171
  v139 := Tryz.zeroValue171
  t164 := Tryz.underlying172
  a164 := Tryz.isAgg172
  z164 := Tryz.sizeOf172
  v164 := Tryz.zeroValue172
  g3 := by kernel_rfl
  g4 := by kernel_rfl
end Go.Proofs.YtloippgblkoemaaGreatDoor.Mp

/- utf8's tables: that they lie in memory, from what a row lays. -/
namespace Go.Proofs.YtloippgblkoemaaGreatDoor.Mp
set_option linter.unusedVariables false
set_option linter.unusedSimpArgs false
open Go.RowKit Mem Sim Go.Lib
theorem lays260 : Lays.n260 Tryz.prog rho where
  mixed := lays230.mixed
  f260 := lays230.f260
  t0 := lays230.t0
  a0 := lays230.a0
  z0 := lays230.z0
  v0 := lays230.v0
  t3 := lays230.t3
  a3 := lays230.a3
  z3 := lays230.z3
  v3 := lays230.v3
  t4 := lays230.t4
  a4 := lays230.a4
  z4 := lays230.z4
  v4 := lays230.v4
  t5 := lays230.t5
  a5 := lays230.a5
  z5 := lays230.z5
  v5 := lays230.v5
  t9 := lays230.t9
  a9 := lays230.a9
  z9 := lays230.z9
  v9 := lays230.v9
  t21 := lays230.t21
  a21 := lays230.a21
  z21 := lays230.z21
  v21 := lays230.v21
  t46 := lays230.t46
  a46 := lays230.a46
  z46 := lays230.z46
  v46 := lays230.v46
  t119 := lays230.t119
  a119 := lays230.a119
  z119 := lays230.z119
  t138 := lays230.t138
  a138 := lays230.a138
  z138 := lays230.z138
  v138 := lays230.v138
  t139 := lays230.t139
  a139 := lays230.a139
  z139 := lays230.z139
  v139 := lays230.v139
  g3 := lays230.g3
  g4 := lays230.g4
theorem u8extra : U8Extra Tryz.prog rho where
  n3 := by kernel_rfl
  n4 := by kernel_rfl
  y3 := by kernel_rfl
  y4 := by kernel_rfl
  c5 := by kernel_rfl
  c119 := by kernel_rfl
  c138 := by kernel_rfl
theorem tabs_law {w : World} (h : laidMetH Tryz.prog [("unicode/utf8.acceptRanges", Rows.laid_unicode_utf8_acceptRanges), ("unicode/utf8.first", Rows.laid_unicode_utf8_first)] w) : GT (allm w) := by
  have h2 : laidMet Tryz.prog [("unicode/utf8.acceptRanges", Rows.laid_unicode_utf8_acceptRanges), ("unicode/utf8.first", Rows.laid_unicode_utf8_first)] w := by
    rw [MakeChecks.laidMetH_plain _ _ _ (by kernel_rfl)] at h; exact h
  have e1 : (Rows.laid_unicode_utf8_first : DataW Unit) = firstData := by kernel_rfl
  have e2 : (Rows.laid_unicode_utf8_acceptRanges : DataW Unit) = acceptData := by kernel_rfl
  have r1 := laidMet.reads h2 (n := "unicode/utf8.first") (d := firstData) (by rw [← e1]; simp)
  have r2 := laidMet.reads h2 (n := "unicode/utf8.acceptRanges") (d := acceptData) (by rw [← e2]; simp)
  obtain ⟨t1, t2⟩ := utf8Tabs_of_reads lays260 u8extra r1 r2
  intro b o v hv
  unfold tabC at hv
  split at hv
  · rename_i hb
    split at hv
    · rename_i ho
      injection hv with hv; subst hv hb
      exact t1 o ho
    · cases hv
  · split at hv
    · rename_i hb
      split at hv
      · rename_i ho
        injection hv with hv; subst hv hb
        obtain ⟨u1, u2⟩ := t2 (o / 2) (by omega)
        split
        · rename_i h0
          rw [show 2 * (o / 2) = o by omega] at u1
          exact u1
        · rename_i h0
          rw [show 2 * (o / 2) + 1 = o by omega] at u2
          exact u2
      · cases hv
    · cases hv
end Go.Proofs.YtloippgblkoemaaGreatDoor.Mp
