import Derived.Test.YtpfignfgfhbblaaGreatDoorMu09
import Derived.Test.YtpfignfgfhbblaaGreatDoorMu04
import Derived.KernelRfl
import Derived.Shelf.Strings.Replace
import Derived.Shelf.Strings.SplitShaped
import Derived.Shelf.LaysM
import Derived.Ground.NamesProg
import Derived.Test.YtpfignfgfhbblaaGreatDoorProg
import Derived.Lib.SplitLaws
import Derived.Test.YtpfignfgfhbblaaGreatDoorMu07
/- The reference's Parse of points. Printed by a program (wip/tools); Lean checks each. -/
namespace Go.Proofs.YtpfignfgfhbblaaGreatDoorC
open Go.Proofs Go.Proofs.YtpfignfgfhbblaaGreatDoorSx Go.Lib
set_option maxRecDepth 100000
set_option linter.unusedVariables false
def rPp (s : ByteArray) : Value :=
  bif (s.toList == (ByteArray.mk #[]).toList) then (.tuple #[(.agg #[(.int .i64 (0)), (.int .i64 (0))]), (.int .i64 (21))])
  else bif (decide (IntKind.i64.wrap (nI (s.extract (Int.toNat 1) ((s.size : Int)).toNat) + 2) > (s.size : Int))) then (.tuple #[(.agg #[(.int .i64 (0)), (.int .i64 (0))]), (.int .i64 (21))])
    else bif (!(oL (prG (nN (s.extract (Int.toNat 1) ((s.size : Int)).toNat)) (nN (s.extract (IntKind.i64.wrap (nI (s.extract (Int.toNat 1) ((s.size : Int)).toNat) + 2)).toNat ((s.size : Int)).toNat)))).toList == s.toList) then (.tuple #[(.agg #[(.int .i64 (0)), (.int .i64 (0))]), (.int .i64 (21))])
      else (.tuple #[(.agg #[(.int .i64 (nN (s.extract (Int.toNat 1) ((s.size : Int)).toNat))), (.int .i64 (nN (s.extract (IntKind.i64.wrap (nI (s.extract (Int.toNat 1) ((s.size : Int)).toNat) + 2)).toNat ((s.size : Int)).toNat)))]), (.int .i64 (0))])
theorem rPp_does (s : ByteArray) (hs : s.size ≤ 140737488355328) : Does cE 48 [] 0 [.v (st s)] (.v (rPp s)) [] 0 := by
  unfold rPp
  refine tbif (fun c1 => ?_) (fun c1 => ?_)
  · exact pth (fn := Tryz.f48) rfl (by kernel_rfl) [.t] (by kernel_rfl) (cj c1 cj0)
  · refine tbif (fun c2 => ?_) (fun c2 => ?_)
    · exact pth (fn := Tryz.f48) rfl (by kernel_rfl) [.f, .c (.v (.tuple #[(.int .i64 (nN (s.extract (Int.toNat 1) ((s.size : Int)).toNat))), (.int .i64 (nI (s.extract (Int.toNat 1) ((s.size : Int)).toNat)))])) [] 0, .t] (by kernel_rfl) (cj c1 (cj (sl1 c1) (cj (number2_does (s.extract (Int.toNat 1) ((s.size : Int)).toNat) (ext_le hs)) (cj c2 cj0))))
    · refine tbif (fun c3 => ?_) (fun c3 => ?_)
      · exact pth (fn := Tryz.f48) rfl (by kernel_rfl) [.f, .c (.v (.tuple #[(.int .i64 (nN (s.extract (Int.toNat 1) ((s.size : Int)).toNat))), (.int .i64 (nI (s.extract (Int.toNat 1) ((s.size : Int)).toNat)))])) [] 0, .f, .c (.v (.tuple #[(.int .i64 (nN (s.extract (IntKind.i64.wrap (nI (s.extract (Int.toNat 1) ((s.size : Int)).toNat) + 2)).toNat ((s.size : Int)).toNat))), (.int .i64 (nI (s.extract (IntKind.i64.wrap (nI (s.extract (Int.toNat 1) ((s.size : Int)).toNat) + 2)).toNat ((s.size : Int)).toNat)))])) [] 0, .c (.v (.string (oL (prG (nN (s.extract (Int.toNat 1) ((s.size : Int)).toNat)) (nN (s.extract (IntKind.i64.wrap (nI (s.extract (Int.toNat 1) ((s.size : Int)).toNat) + 2)).toNat ((s.size : Int)).toNat)))))) [] 0, .t] (by kernel_rfl) (cj c1 (cj (sl1 c1) (cj (number2_does (s.extract (Int.toNat 1) ((s.size : Int)).toNat) (ext_le hs)) (cj c2 (cj (sl2 hs (nI_b _) c2) (cj (number2_does (s.extract (IntKind.i64.wrap (nI (s.extract (Int.toNat 1) ((s.size : Int)).toNat) + 2)).toNat ((s.size : Int)).toNat) (ext_le hs)) (cj (rgprint_does (nN (s.extract (Int.toNat 1) ((s.size : Int)).toNat)) (nN (s.extract (IntKind.i64.wrap (nI (s.extract (Int.toNat 1) ((s.size : Int)).toNat) + 2)).toNat ((s.size : Int)).toNat)) (nN_64 _) (nN_64 _)) (cj c3 cj0))))))))
      · exact pth (fn := Tryz.f48) rfl (by kernel_rfl) [.f, .c (.v (.tuple #[(.int .i64 (nN (s.extract (Int.toNat 1) ((s.size : Int)).toNat))), (.int .i64 (nI (s.extract (Int.toNat 1) ((s.size : Int)).toNat)))])) [] 0, .f, .c (.v (.tuple #[(.int .i64 (nN (s.extract (IntKind.i64.wrap (nI (s.extract (Int.toNat 1) ((s.size : Int)).toNat) + 2)).toNat ((s.size : Int)).toNat))), (.int .i64 (nI (s.extract (IntKind.i64.wrap (nI (s.extract (Int.toNat 1) ((s.size : Int)).toNat) + 2)).toNat ((s.size : Int)).toNat)))])) [] 0, .c (.v (.string (oL (prG (nN (s.extract (Int.toNat 1) ((s.size : Int)).toNat)) (nN (s.extract (IntKind.i64.wrap (nI (s.extract (Int.toNat 1) ((s.size : Int)).toNat) + 2)).toNat ((s.size : Int)).toNat)))))) [] 0, .f] (by kernel_rfl) (cj c1 (cj (sl1 c1) (cj (number2_does (s.extract (Int.toNat 1) ((s.size : Int)).toNat) (ext_le hs)) (cj c2 (cj (sl2 hs (nI_b _) c2) (cj (number2_does (s.extract (IntKind.i64.wrap (nI (s.extract (Int.toNat 1) ((s.size : Int)).toNat) + 2)).toNat ((s.size : Int)).toNat) (ext_le hs)) (cj (rgprint_does (nN (s.extract (Int.toNat 1) ((s.size : Int)).toNat)) (nN (s.extract (IntKind.i64.wrap (nI (s.extract (Int.toNat 1) ((s.size : Int)).toNat) + 2)).toNat ((s.size : Int)).toNat)) (nN_64 _) (nN_64 _)) (cj c3 cj0))))))))
end Go.Proofs.YtpfignfgfhbblaaGreatDoorC
/- The reference's Parse of points: what a text comes to is gpL. -/
namespace Go.Proofs.YtpfignfgfhbblaaGreatDoorC
open Go.Proofs Go.Proofs.YtpfignfgfhbblaaGreatDoorSx Go.Lib
set_option maxRecDepth 100000
set_option linter.unusedVariables false
/-- The two numbers that the reference finds in a text. -/
def rgX (l : List UInt8) : Int := nN (oL (l.drop 1))
def rgI (l : List UInt8) : Nat := (nI (oL (l.drop 1))).toNat + 2
def rgY (l : List UInt8) : Int := nN (oL (l.drop (rgI l)))
def rgL (l : List UInt8) : Int × Int × Int :=
  bif l == [] then (0, 0, 21)
  else bif decide (l.length < rgI l) then (0, 0, 21)
    else bif !(prG (rgX l) (rgY l) == l) then (0, 0, 21)
      else (rgX l, rgY l, 0)
theorem ext_all (l : List UInt8) (k : Nat) : (oL l).extract k (((oL l).size : Nat) : Int).toNat = oL (l.drop k) := by
  rw [oL_ext, oL_size]
  congr 1
  rw [show ((l.length : Nat) : Int).toNat = l.length from rfl, List.take_of_length_le (by rw [List.length_drop]; omega)]
theorem rgparse_L (l : List UInt8) (hl : l.length ≤ 140737488355328) : Does cE 48 [] 0 [.v (st (oL l))] (.v (.tuple #[dc (rgL l).1 (rgL l).2.1, it (rgL l).2.2])) [] 0 := by
  have h := rPp_does (oL l) (by rw [oL_size]; omega)
  have e : rPp (oL l) = .tuple #[dc (rgL l).1 (rgL l).2.1, it (rgL l).2.2] := by
    have hb := nI_b (oL (l.drop 1))
    have e1 : (oL l).extract (Int.toNat 1) (((oL l).size : Nat) : Int).toNat = oL (l.drop 1) := ext_all l 1
    have e0 : ((ByteArray.mk #[]).toList) = ([] : List UInt8) := by rw [Go.ByteArray.toList_eq]
    have ew : IntKind.i64.wrap (nI (oL (l.drop 1)) + 2) = ((rgI l : Nat) : Int) := by
      unfold rgI
      rw [wrap64 (by omega) (by omega)]
      omega
    have e2 : (oL l).extract ((rgI l : Nat) : Int).toNat (((oL l).size : Nat) : Int).toNat = oL (l.drop (rgI l)) := ext_all l (rgI l)
    have e3 : decide (((rgI l : Nat) : Int) > (((oL l).size : Nat) : Int)) = decide (l.length < rgI l) := by
      rw [oL_size]
      exact decide_eq_decide.2 (by omega)
    unfold rPp
    rw [e1, ew, e2, e3, oL_toList, oL_toList, e0]
    show (bif l == [] then _ else bif decide (l.length < rgI l) then _ else bif !(prG (rgX l) (rgY l) == l) then _ else _) = _
    unfold rgL
    cases (l == []) <;> cases decide (l.length < rgI l) <;> cases (prG (rgX l) (rgY l) == l) <;> rfl
  rw [e] at h
  exact h
theorem rg_back {x y : Int} (h : rt x y = true) : rgL (prG x y) = (x, y, 0) := by
  have hb := rt_b (x := x) (y := y) (by rw [h]; rfl)
  have ep : prG x y = 60 :: (Lib.itoa x ++ 44 :: (Lib.itoa y ++ [62])) := by
    unfold prG
    rw [h]
    rfl
  have h1 := nu_itoa hb.1 44 (Lib.itoa y ++ [62]) (by decide)
  have h2 := nu_itoa hb.2 62 [] (by decide)
  have ex : rgX (prG x y) = x := by
    unfold rgX
    rw [ep]
    exact h1.1
  have ei : rgI (prG x y) = (Lib.itoa x).length + 2 := by
    unfold rgI
    rw [ep]
    show (nI (oL (Lib.itoa x ++ 44 :: (Lib.itoa y ++ [62])))).toNat + 2 = _
    rw [h1.2]
    rfl
  have ed : (prG x y).drop ((Lib.itoa x).length + 2) = Lib.itoa y ++ [62] := by
    rw [ep]
    show (Lib.itoa x ++ 44 :: (Lib.itoa y ++ [62])).drop ((Lib.itoa x).length + 1) = _
    rw [List.drop_append, List.drop_eq_nil_of_le (by omega), show (Lib.itoa x).length + 1 - (Lib.itoa x).length = 1 by omega]
    rfl
  have ey : rgY (prG x y) = y := by
    unfold rgY
    rw [ei, ed]
    exact h2.1
  have en : (prG x y == []) = false := by rw [ep]; rfl
  have el : decide ((prG x y).length < (Lib.itoa x).length + 2) = false := decide_eq_false (by rw [ep]; simp only [List.length_cons, List.length_append]; omega)
  unfold rgL
  rw [ei, ex, ey, en, el, beq_self_eq_true]
  rfl
/-- What a text comes to is a point that it says, or nothing: the reference's. -/
theorem rg_some (l : List UInt8) : rgL l = (0, 0, 21) ∨ ∃ x y, rt x y = true ∧ prG x y = l ∧ rgL l = (x, y, 0) := by
  unfold rgL
  cases hn : (l == []) with
  | true => exact .inl rfl
  | false =>
    cases decide (l.length < rgI l) with
    | true => exact .inl rfl
    | false =>
      cases hp : (prG (rgX l) (rgY l) == l) with
      | false => exact .inl rfl
      | true =>
        have hp := eq_of_beq hp
        refine .inr ⟨_, _, ?_, hp, rfl⟩
        cases hr : rt (rgX l) (rgY l) with
        | true => rfl
        | false =>
          have : prG (rgX l) (rgY l) = [] := by unfold prG; rw [hr]; rfl
          rw [this] at hp
          rw [← hp] at hn
          exact absurd hn (by decide)
theorem rgL_eq (l : List UInt8) : rgL l = gpL l := by
  rcases rg_some l with h | ⟨x, y, hr, hp, h⟩
  · rcases gp_some l with g | ⟨x, y, hr, hp, g⟩
    · rw [h, g]
    · rw [← hp, rg_back hr, gp_back hr]
  · rw [← hp, rg_back hr, gp_back hr]
/-- The reference's Parse is the program's. -/
theorem rgparse_does (l : List UInt8) (hl : l.length ≤ 140737488355328) : Does cE 48 [] 0 [.v (st (oL l))] (.v (.tuple #[dc (gpL l).1 (gpL l).2.1, it (gpL l).2.2])) [] 0 := by
  have h := rgparse_L l hl
  rw [rgL_eq] at h
  exact h
end Go.Proofs.YtpfignfgfhbblaaGreatDoorC
/-
  DERIVED: THE SHELF's CONTRACTS AT THIS DUMP, IN PLAIN WORDS (tools/lay-plain.mjs out of 'YtpfignfgfhbblaaGreatDoorSRx.lean', which tools/lay-shelf.mjs wrote): THE SAME DECLARATIONS UNDER THE SAME NAMES: 'import', 'namespace', 'open', 'def', 'theorem' AND NOTHING ELSE: no command of the shelf's: FOR A HAND-IN. Each laying: the table of numbers ('.._ren') and one theorem, a field a fact of the dump's own or the kernel's comparison; each contract: ONE APPLICATION.
-/
namespace Go.Proofs
open Go.Shelf
def Tryz.laysReplaceAll_ren : Go.Shelf.Ren := ⟨fun | 155 => 52 | 154 => 109 | 138 => 161 | 165 => 121 | 143 => 154 | 166 => 122 | 197 => 162 | 169 => 123 | 195 => 192 | 218 => 193 | 240 => 166 | 241 => 167 | 219 => 185 | 260 => 194 | 276 => 196 | 277 => 197 | 217 => 115 | 225 => 208 | 224 => 209 | 267 => 210 | 266 => 164 | 314 => 221 | n => n, fun | 9 => 9 | 3 => 3 | 4 => 4 | 72 => 159 | 0 => 0 | 76 => 163 | 105 => 203 | 21 => 21 | 5 => 5 | 70 => 157 | 20 => 20 | 37 => 56 | 75 => 162 | 127 => 206 | 164 => 226 | 46 => 172 | 119 => 197 | 139 => 200 | 138 => 199 | 146 => 223 | 51 => 222 | 80 => 115 | n => n, fun | 1 => 2 | 3 => 0 | 4 => 1 | n => n⟩
theorem Tryz.laysReplaceAll : Go.Proofs.Lays.n155 Tryz.prog Tryz.laysReplaceAll_ren := {
  mixed := by kernel_rfl
  f138 := Tryz.func161.trans (congrArg some (by kernel_rfl))
  f143 := Tryz.func154.trans (congrArg some (by kernel_rfl))
  f154 := Tryz.func109.trans (congrArg some (by kernel_rfl))
  f155 := Tryz.func52.trans (congrArg some (by kernel_rfl))
  f165 := Tryz.func121.trans (congrArg some (by kernel_rfl))
  f166 := Tryz.func122.trans (congrArg some (by kernel_rfl))
  f169 := Tryz.func123.trans (congrArg some (by kernel_rfl))
  f195 := Tryz.func192.trans (congrArg some (by kernel_rfl))
  f197 := Tryz.func162.trans (congrArg some (by kernel_rfl))
  f217 := Tryz.func115.trans (congrArg some (by kernel_rfl))
  f218 := Tryz.func193.trans (congrArg some (by kernel_rfl))
  f219 := Tryz.func185.trans (congrArg some (by kernel_rfl))
  f224 := Tryz.func209.trans (congrArg some (by kernel_rfl))
  f225 := Tryz.func208.trans (congrArg some (by kernel_rfl))
  f240 := Tryz.func166.trans (congrArg some (by kernel_rfl))
  f241 := Tryz.func167.trans (congrArg some (by kernel_rfl))
  f260 := Tryz.func194.trans (congrArg some (by kernel_rfl))
  f266 := Tryz.func164.trans (congrArg some (by kernel_rfl))
  f267 := Tryz.func210.trans (congrArg some (by kernel_rfl))
  f276 := Tryz.func196.trans (congrArg some (by kernel_rfl))
  f277 := Tryz.func197.trans (congrArg some (by kernel_rfl))
  f314 := Tryz.func221.trans (congrArg some (by kernel_rfl))
  t0 := Tryz.underlying0
  a0 := Tryz.isAgg0
  z0 := Tryz.sizeOf0
  v0 := Tryz.zeroValue0
  t3 := Tryz.underlying3
  a3 := Tryz.isAgg3
  z3 := Tryz.sizeOf3
  v3 := Tryz.zeroValue3
  t4 := Tryz.underlying4
  a4 := Tryz.isAgg4
  z4 := Tryz.sizeOf4
  v4 := Tryz.zeroValue4
  t5 := Tryz.underlying5
  a5 := Tryz.isAgg5
  z5 := Tryz.sizeOf5
  v5 := Tryz.zeroValue5
  t9 := Tryz.underlying9
  a9 := Tryz.isAgg9
  z9 := Tryz.sizeOf9
  v9 := Tryz.zeroValue9
  t20 := Tryz.underlying20
  a20 := Tryz.isAgg20
  z20 := Tryz.sizeOf20
  v20 := Tryz.zeroValue20
  t21 := Tryz.underlying21
  a21 := Tryz.isAgg21
  z21 := Tryz.sizeOf21
  v21 := Tryz.zeroValue21
  t37 := Tryz.underlying56
  a37 := Tryz.isAgg56
  z37 := Tryz.sizeOf56
  v37 := Tryz.zeroValue56
  t46 := Tryz.underlying172
  a46 := Tryz.isAgg172
  z46 := Tryz.sizeOf172
  v46 := Tryz.zeroValue172
  t51 := Tryz.underlying222
  a51 := Tryz.isAgg222
  z51 := Tryz.sizeOf222
  v51 := Tryz.zeroValue222
  t70 := Tryz.underlying157
  a70 := Tryz.isAgg157
  z70 := Tryz.sizeOf157
  v70 := Tryz.zeroValue157
  t72 := Tryz.underlying159
  a72 := Tryz.isAgg159
  z72 := Tryz.sizeOf159
  v72 := Tryz.zeroValue159
  t75 := Tryz.underlying162
  a75 := Tryz.isAgg162
  z75 := Tryz.sizeOf162
  v75 := Tryz.zeroValue162
  t76 := Tryz.underlying163
  a76 := Tryz.isAgg163
  z76 := Tryz.sizeOf163
  v76 := Tryz.zeroValue163
  t105 := Tryz.underlying203
  a105 := Tryz.isAgg203
  z105 := Tryz.sizeOf203
  v105 := Tryz.zeroValue203
  t119 := Tryz.underlying197
  a119 := Tryz.isAgg197
  z119 := Tryz.sizeOf197
  t127 := Tryz.underlying206
  a127 := Tryz.isAgg206
  z127 := Tryz.sizeOf206
  v127 := Tryz.zeroValue206
  t138 := Tryz.underlying199
  a138 := Tryz.isAgg199
  z138 := Tryz.sizeOf199
  v138 := Tryz.zeroValue199
  t139 := Tryz.underlying200
  a139 := Tryz.isAgg200
  z139 := Tryz.sizeOf200
  v139 := Tryz.zeroValue200
  t146 := Tryz.underlying223
  a146 := Tryz.isAgg223
  z146 := Tryz.sizeOf223
  v146 := Tryz.zeroValue223
  t164 := Tryz.underlying226
  a164 := Tryz.isAgg226
  z164 := Tryz.sizeOf226
  v164 := Tryz.zeroValue226
  g1 := by kernel_rfl
  g3 := by kernel_rfl
  g4 := by kernel_rfl }
end Go.Proofs
namespace Go.Proofs.YtpfignfgfhbblaaGreatDoorC
open Go.Proofs Go.Proofs.YtpfignfgfhbblaaGreatDoorSx Go.Shelf
set_option maxRecDepth 100000
theorem extraR : Builder.Extra Tryz.prog Tryz.laysReplaceAll_ren where
  sizeBuilder := by kernel_rfl
  liesBuilder := by kernel_rfl
  t5 := Tryz.laysReplaceAll.t5
  a5 := Tryz.laysReplaceAll.a5
  z5 := Tryz.laysReplaceAll.z5
  v5 := Tryz.laysReplaceAll.v5
  infoByte := by kernel_rfl
  cellsByte := by kernel_rfl
  sizeByte := by kernel_rfl
  neB5 := by decide
/-- strings.ReplaceAll, of what is not empty, where the strings are not too long. -/
theorem replaceAll_does (s old new : ByteArray) (hs : s.size < 4294967281) (h1 : 1 ≤ old.size) (hlen : s.size + Lib.countB s old * new.size ≤ 140737488355328) :
    Does cE 52 [] 0 [.v (.string s), .v (.string old), .v (.string new)] (.v (.string ⟨(Lib.replaceAll s.data.toList old.data.toList new.data.toList).toArray⟩)) [] 0 := by
  refine does_lib (l := [.string s, .string old, .string new]) (enters (fn := Tryz.f52) rfl (by kernel_rfl) rfl) (fun w hg => ?_)
  obtain ⟨_, v, hm, m, rfl⟩ := hg.2 2 _ rfl
  exact Any.strings_ReplaceAll Tryz.laysReplaceAll extraR s old new m w hs hm h1 hlen
end Go.Proofs.YtpfignfgfhbblaaGreatDoorC
/- strings.ReplaceAll of ' by '': told. -/
namespace Go.Proofs.YtpfignfgfhbblaaGreatDoorC
open Go.Proofs Go.Proofs.YtpfignfgfhbblaaGreatDoorSx Go.Lib
set_option maxRecDepth 100000
set_option linter.unusedVariables false
/-- Each ' twice. -/
def dbl : List UInt8 → List UInt8
  | [] => []
  | c :: l => bif c == 39 then 39 :: 39 :: dbl l else c :: dbl l
theorem repK_ne (k : Nat) (b : UInt8) (l : List UInt8) (h : b ≠ 39) : Lib.replaceK [39] [39, 39] k (b :: l) = b :: Lib.replaceK [39] [39, 39] k l := by
  cases k with
  | zero => rfl
  | succ k =>
    have hp : ([39] : List UInt8).isPrefixOf (b :: l) = false := by simp [List.isPrefixOf, Ne.symm h]
    have hix : Lib.index (b :: l) [39] = if Lib.index l [39] == -1 then -1 else Lib.index l [39] + 1 := by rw [Lib.index, hp]; simp
    by_cases hm : Lib.index l [39] = -1
    · have e1 : Lib.index (b :: l) [39] = -1 := by rw [hix, if_pos (beq_iff_eq.2 hm)]
      rw [Lib.replaceK, Lib.replaceK, if_pos (beq_iff_eq.2 e1), if_pos (beq_iff_eq.2 hm)]
    · have hge := Lib.index_ge l [39]
      obtain ⟨j, hj⟩ : ∃ j : Nat, Lib.index l [39] = j := ⟨(Lib.index l [39]).toNat, by omega⟩
      have hix' : Lib.index (b :: l) [39] = ((j + 1 : Nat) : Int) := by rw [hix, if_neg (fun e => hm (beq_iff_eq.1 e)), hj]; omega
      rw [Lib.replaceK_hit _ _ _ _ _ hix', Lib.replaceK_hit _ _ _ _ _ hj]
      have e2 : j + 1 + ([39] : List UInt8).length = (j + ([39] : List UInt8).length) + 1 := by simp
      rw [e2]
      rfl
theorem repK_dbl : ∀ l : List UInt8, Lib.replaceK [39] [39, 39] (Lib.count l [39]) l = dbl l
  | [] => by rw [Lib.count_miss (by simp [Lib.index])]; rfl
  | b :: l => by
    by_cases h : b = 39
    · subst h
      have hix : Lib.index (39 :: l) [39] = ((0 : Nat) : Int) := by rw [Lib.index]; simp [List.isPrefixOf]
      rw [Lib.count_cons_eq, Nat.add_comm, Lib.replaceK_hit _ _ _ _ _ hix]
      show 39 :: 39 :: Lib.replaceK [39] [39, 39] (Lib.count l [39]) l = _
      rw [repK_dbl l]
      rfl
    · rw [Lib.count_cons_ne b 39 l h, repK_ne _ _ _ h, repK_dbl l]
      show _ = bif b == 39 then _ else _
      rw [beq_eq_false_iff_ne.2 h]
      rfl
theorem rep_dbl (l : List UInt8) : Lib.replaceAll l [39] [39, 39] = dbl l := by
  unfold Lib.replaceAll Lib.replace Lib.replaceNum
  rw [if_neg (by decide), if_pos (.inl (by decide))]
  exact repK_dbl l
theorem count_sz (l : List UInt8) : Lib.count l [39] ≤ l.length := by
  rw [Lib.count_one]
  exact List.count_le_length
theorem dbl_len : ∀ l : List UInt8, (dbl l).length ≤ 2 * l.length
  | [] => Nat.le_refl _
  | c :: l => by
    have := dbl_len l
    unfold dbl
    cases (c == 39)
    · show (dbl l).length + 1 ≤ 2 * (l.length + 1)
      omega
    · show (dbl l).length + 1 + 1 ≤ 2 * (l.length + 1)
      omega
theorem dbl_app : ∀ (a b : List UInt8), dbl (a ++ b) = dbl a ++ dbl b
  | [], b => rfl
  | c :: a, b => by
    have ih := dbl_app a b
    show (bif c == 39 then 39 :: 39 :: dbl (a ++ b) else c :: dbl (a ++ b)) = (bif c == 39 then _ else _) ++ _
    rw [ih]
    cases (c == 39) <;> rfl
theorem repl_does (l : List UInt8) (hl : l.length ≤ 4294967280) : Does cE 52 [] 0 [.v (st (oL l)), .v (st (ByteArray.mk #[39])), .v (st (ByteArray.mk #[39, 39]))] (.v (st (oL (dbl l)))) [] 0 := by
  have hc : Lib.countB (oL l) (ByteArray.mk #[39]) ≤ l.length := by
    unfold Lib.countB
    rw [oL_data]
    exact count_sz l
  have h := replaceAll_does (oL l) (ByteArray.mk #[39]) (ByteArray.mk #[39, 39]) (by rw [oL_size]; omega) (by decide) (by
    rw [oL_size, show (ByteArray.mk #[39, 39]).size = 2 from rfl]
    omega)
  rw [oL_data, show (ByteArray.mk #[39]).data.toList = [39] from rfl, show (ByteArray.mk #[39, 39]).data.toList = [39, 39] from rfl, rep_dbl] at h
  exact h
end Go.Proofs.YtpfignfgfhbblaaGreatDoorC
/- Each path of each function: on which conditions it is taken, what it gives. Printed by a program (wip/tools/sxexp2.lean); Lean checks each. -/
namespace Go.Proofs.YtpfignfgfhbblaaGreatDoorC
open Go.Proofs Go.Proofs.YtpfignfgfhbblaaGreatDoorSx
set_option maxRecDepth 100000
set_option linter.unusedVariables false

theorem pOf_1 (t : Int) (h0 : (t == 0) = true) (h1 : (t == 2) = true) : Does cE 91 [] 0 [.v (it t)] (.v (.agg #[(.int .i64 (0)), (.int .i64 (0)), (.int .i64 (0)), (.string ((ByteArray.mk #[])))])) [] 0 :=
  does_path (ct := ct) ctOk mixed (fn := Tryz.f91) rfl (by kernel_rfl) 2000 [.e, .t, .t, .t, .l, .t] (by kernel_rfl) (cj h0 (cj h0 (cj h0 (cj h1 cj0))))
theorem pOf_2 (t : Int) (h0 : (t == 0) = true) (h1 : (t == 2) = false) : Does cE 91 [] 0 [.v (it t)] (.v (.agg #[(.int .i64 (4)), (.int .i64 (t)), (.int .i64 (0)), (.string ((ByteArray.mk #[])))])) [] 0 :=
  does_path (ct := ct) ctOk mixed (fn := Tryz.f91) rfl (by kernel_rfl) 2000 [.e, .t, .t, .t, .l, .f] (by kernel_rfl) (cj h0 (cj h0 (cj h0 (cj h1 cj0))))
theorem pOf_3 (t : Int) (h0 : (t == 0) = false) (h1 : (t == 1) = true) (h2 : (t == 2) = true) : Does cE 91 [] 0 [.v (it t)] (.v (.agg #[(.int .i64 (0)), (.int .i64 (0)), (.int .i64 (0)), (.string ((ByteArray.mk #[])))])) [] 0 :=
  does_path (ct := ct) ctOk mixed (fn := Tryz.f91) rfl (by kernel_rfl) 2000 [.e, .f, .f, .f, .t, .t] (by kernel_rfl) (cj h0 (cj h0 (cj h0 (cj h1 (cj h2 cj0)))))
theorem pOf_4 (t : Int) (h0 : (t == 0) = false) (h1 : (t == 1) = true) (h2 : (t == 2) = false) : Does cE 91 [] 0 [.v (it t)] (.v (.agg #[(.int .i64 (4)), (.int .i64 (t)), (.int .i64 (0)), (.string ((ByteArray.mk #[])))])) [] 0 :=
  does_path (ct := ct) ctOk mixed (fn := Tryz.f91) rfl (by kernel_rfl) 2000 [.e, .f, .f, .f, .t, .f] (by kernel_rfl) (cj h0 (cj h0 (cj h0 (cj h1 (cj h2 cj0)))))
theorem pOf_5 (t : Int) (h0 : (t == 0) = false) (h1 : (t == 1) = false) : Does cE 91 [] 0 [.v (it t)] (.v (.agg #[(.int .i64 (0)), (.int .i64 (0)), (.int .i64 (0)), (.string ((ByteArray.mk #[])))])) [] 0 :=
  does_path (ct := ct) ctOk mixed (fn := Tryz.f91) rfl (by kernel_rfl) 2000 [.e, .f, .f, .f, .f, .l] (by kernel_rfl) (cj h0 (cj h0 (cj h0 (cj h1 cj0))))
theorem pRt_1 (k n m : Int) (s : ByteArray) (h0 : (k == 0) = true) : Does cE 46 [] 0 [.v (vl k n m s)] (.v (.bool (k == 0 && (n == 0 && (m == 0 && (s == (ByteArray.mk #[]) && true)))))) [] 0 :=
  does_path (ct := ct) ctOk mixed (fn := Tryz.f46) rfl (by kernel_rfl) 2000 [.t] (by kernel_rfl) (cj h0 cj0)
theorem pRt_2 (k n m : Int) (s : ByteArray) (h0 : (k == 0) = false) (h1 : (k == 1) = true) : Does cE 46 [] 0 [.v (vl k n m s)] (.v (.bool (k == 1 && (n == n && (m == 0 && (s == (ByteArray.mk #[]) && true)))))) [] 0 :=
  does_path (ct := ct) ctOk mixed (fn := Tryz.f46) rfl (by kernel_rfl) 2000 [.f, .t] (by kernel_rfl) (cj h0 (cj h1 cj0))
theorem pRt_3 (k n m : Int) (s : ByteArray) (b0 : Bool) (h0 : (k == 0) = false) (h1 : (k == 1) = false) (h2 : (k == 2) = true) (h3 : (s.toList == (ByteArray.mk #[]).toList) = true) (h4 : Does cE 97 [] 0 [.v (.agg #[(.int .i64 (n)), (.int .i64 (m))])] (.v (.bool (b0))) [] 0) : Does cE 46 [] 0 [.v (vl k n m s)] (.v (.bool (b0))) [] 0 :=
  does_path (ct := ct) ctOk mixed (fn := Tryz.f46) rfl (by kernel_rfl) 2000 [.f, .f, .t, .t, .t, .e, .t, .c (.v (.bool (b0))) [] 0, .t] (by kernel_rfl) (cj h0 (cj h1 (cj h2 (cj h3 (cj h3 (cj h3 (cj h4 (cj h3 cj0))))))))
theorem pRt_4 (k n m : Int) (s : ByteArray) (h0 : (k == 0) = false) (h1 : (k == 1) = false) (h2 : (k == 2) = true) (h3 : (s.toList == (ByteArray.mk #[]).toList) = false) : Does cE 46 [] 0 [.v (vl k n m s)] (.v (.bool (false))) [] 0 :=
  does_path (ct := ct) ctOk mixed (fn := Tryz.f46) rfl (by kernel_rfl) 2000 [.f, .f, .t, .f, .f, .f, .f] (by kernel_rfl) (cj h0 (cj h1 (cj h2 (cj h3 (cj h3 (cj h3 (cj h3 cj0)))))))
theorem pRt_5 (k n m : Int) (s : ByteArray) (b0 : Bool) (h0 : (k == 0) = false) (h1 : (k == 1) = false) (h2 : (k == 2) = false) (h3 : (k == 3) = true) (h4 : (k == 3 && (n == 0 && (m == 0 && (s == s && true)))) = true) (h5 : decide ((s.size : Int) ≤ 256) = true) (h6 : Does cE 98 [] 0 [.v (.string (s))] (.v (.bool (b0))) [] 0) : Does cE 46 [] 0 [.v (vl k n m s)] (.v (.bool (b0))) [] 0 :=
  does_path (ct := ct) ctOk mixed (fn := Tryz.f46) rfl (by kernel_rfl) 2000 [.f, .f, .f, .t, .t, .t, .t, .t, .t, .t, .t, .t, .c (.v (.bool (b0))) [] 0, .t] (by kernel_rfl) (cj h0 (cj h1 (cj h2 (cj h3 (cj h4 (cj h4 (cj h4 (cj h4 (cj h4 (cj h5 (cj h5 (cj h5 (cj h6 (cj h5 cj0))))))))))))))
theorem pRt_6 (k n m : Int) (s : ByteArray) (h0 : (k == 0) = false) (h1 : (k == 1) = false) (h2 : (k == 2) = false) (h3 : (k == 3) = true) (h4 : (k == 3 && (n == 0 && (m == 0 && (s == s && true)))) = true) (h5 : decide ((s.size : Int) ≤ 256) = false) : Does cE 46 [] 0 [.v (vl k n m s)] (.v (.bool (false))) [] 0 :=
  does_path (ct := ct) ctOk mixed (fn := Tryz.f46) rfl (by kernel_rfl) 2000 [.f, .f, .f, .t, .t, .t, .t, .t, .t, .f, .f, .f, .f] (by kernel_rfl) (cj h0 (cj h1 (cj h2 (cj h3 (cj h4 (cj h4 (cj h4 (cj h4 (cj h4 (cj h5 (cj h5 (cj h5 (cj h5 cj0)))))))))))))
theorem pRt_7 (k n m : Int) (s : ByteArray) (h0 : (k == 0) = false) (h1 : (k == 1) = false) (h2 : (k == 2) = false) (h3 : (k == 3) = true) (h4 : (k == 3 && (n == 0 && (m == 0 && (s == s && true)))) = false) : Does cE 46 [] 0 [.v (vl k n m s)] (.v (.bool (false))) [] 0 :=
  does_path (ct := ct) ctOk mixed (fn := Tryz.f46) rfl (by kernel_rfl) 2000 [.f, .f, .f, .t, .f, .f, .f, .f, .f, .l, .f, .l, .l] (by kernel_rfl) (cj h0 (cj h1 (cj h2 (cj h3 (cj h4 (cj h4 (cj h4 (cj h4 (cj h4 (cj (rfl : false = false) cj0))))))))))
theorem pRt_8 (k n m : Int) (s : ByteArray) (i0 : Int) (i1 : Int) (i2 : Int) (s3 : ByteArray) (h0 : (k == 0) = false) (h1 : (k == 1) = false) (h2 : (k == 2) = false) (h3 : (k == 3) = false) (h4 : (k == 4) = true) (h5 : Does cE 91 [] 0 [.v (.int .i64 (0))] (.v (.agg #[(.int .i64 (i0)), (.int .i64 (i1)), (.int .i64 (i2)), (.string (s3))])) [] 0) (h6 : (k == i0 && (n == i1 && (m == i2 && (s == s3 && true)))) = true) : Does cE 46 [] 0 [.v (vl k n m s)] (.v (.bool (true))) [] 0 :=
  does_path (ct := ct) ctOk mixed (fn := Tryz.f46) rfl (by kernel_rfl) 2000 [.f, .f, .f, .f, .t, .c (.v (.agg #[(.int .i64 (i0)), (.int .i64 (i1)), (.int .i64 (i2)), (.string (s3))])) [] 0, .t, .t, .t, .t] (by kernel_rfl) (cj h0 (cj h1 (cj h2 (cj h3 (cj h4 (cj h5 (cj h6 (cj h6 (cj h6 (cj h6 cj0))))))))))
theorem pRt_9 (k n m : Int) (s : ByteArray) (i0 : Int) (i1 : Int) (i2 : Int) (s3 : ByteArray) (i4 : Int) (i5 : Int) (i6 : Int) (s7 : ByteArray) (h0 : (k == 0) = false) (h1 : (k == 1) = false) (h2 : (k == 2) = false) (h3 : (k == 3) = false) (h4 : (k == 4) = true) (h5 : Does cE 91 [] 0 [.v (.int .i64 (0))] (.v (.agg #[(.int .i64 (i0)), (.int .i64 (i1)), (.int .i64 (i2)), (.string (s3))])) [] 0) (h6 : (k == i0 && (n == i1 && (m == i2 && (s == s3 && true)))) = false) (h7 : Does cE 91 [] 0 [.v (.int .i64 (1))] (.v (.agg #[(.int .i64 (i4)), (.int .i64 (i5)), (.int .i64 (i6)), (.string (s7))])) [] 0) : Does cE 46 [] 0 [.v (vl k n m s)] (.v (.bool (k == i4 && (n == i5 && (m == i6 && (s == s7 && true)))))) [] 0 :=
  does_path (ct := ct) ctOk mixed (fn := Tryz.f46) rfl (by kernel_rfl) 2000 [.f, .f, .f, .f, .t, .c (.v (.agg #[(.int .i64 (i0)), (.int .i64 (i1)), (.int .i64 (i2)), (.string (s3))])) [] 0, .f, .f, .c (.v (.agg #[(.int .i64 (i4)), (.int .i64 (i5)), (.int .i64 (i6)), (.string (s7))])) [] 0, .f, .f] (by kernel_rfl) (cj h0 (cj h1 (cj h2 (cj h3 (cj h4 (cj h5 (cj h6 (cj h6 (cj h7 (cj h6 (cj h6 cj0)))))))))))
theorem pRt_10 (k n m : Int) (s : ByteArray) (b0 : Bool) (h0 : (k == 0) = false) (h1 : (k == 1) = false) (h2 : (k == 2) = false) (h3 : (k == 3) = false) (h4 : (k == 4) = false) (h5 : (k == 5) = true) (h6 : (s.toList == (ByteArray.mk #[]).toList) = true) (h7 : Does cE 99 [] 0 [.v (.agg #[(.int .i64 (n)), (.int .i64 (m))])] (.v (.bool (b0))) [] 0) : Does cE 46 [] 0 [.v (vl k n m s)] (.v (.bool (b0))) [] 0 :=
  does_path (ct := ct) ctOk mixed (fn := Tryz.f46) rfl (by kernel_rfl) 2000 [.f, .f, .f, .f, .f, .t, .t, .t, .e, .t, .c (.v (.bool (b0))) [] 0, .t] (by kernel_rfl) (cj h0 (cj h1 (cj h2 (cj h3 (cj h4 (cj h5 (cj h6 (cj h6 (cj h6 (cj h7 (cj h6 cj0)))))))))))
theorem pRt_11 (k n m : Int) (s : ByteArray) (h0 : (k == 0) = false) (h1 : (k == 1) = false) (h2 : (k == 2) = false) (h3 : (k == 3) = false) (h4 : (k == 4) = false) (h5 : (k == 5) = true) (h6 : (s.toList == (ByteArray.mk #[]).toList) = false) : Does cE 46 [] 0 [.v (vl k n m s)] (.v (.bool (false))) [] 0 :=
  does_path (ct := ct) ctOk mixed (fn := Tryz.f46) rfl (by kernel_rfl) 2000 [.f, .f, .f, .f, .f, .t, .f, .f, .f, .f] (by kernel_rfl) (cj h0 (cj h1 (cj h2 (cj h3 (cj h4 (cj h5 (cj h6 (cj h6 (cj h6 (cj h6 cj0))))))))))
theorem pRt_12 (k n m : Int) (s : ByteArray) (h0 : (k == 0) = false) (h1 : (k == 1) = false) (h2 : (k == 2) = false) (h3 : (k == 3) = false) (h4 : (k == 4) = false) (h5 : (k == 5) = false) : Does cE 46 [] 0 [.v (vl k n m s)] (.v (.bool (false))) [] 0 :=
  does_path (ct := ct) ctOk mixed (fn := Tryz.f46) rfl (by kernel_rfl) 2000 [.f, .f, .f, .f, .f, .f] (by kernel_rfl) (cj h0 (cj h1 (cj h2 (cj h3 (cj h4 (cj h5 cj0))))))
theorem rRt_1 (k n m : Int) (s : ByteArray) (h0 : (k == 0) = true) (h1 : (n == 0) = true) (h2 : (m == 0) = true) : Does cE 32 [] 0 [.v (vl k n m s)] (.v (.bool (s.toList == (ByteArray.mk #[]).toList))) [] 0 :=
  does_path (ct := ct) ctOk mixed (fn := Tryz.f32) rfl (by kernel_rfl) 2000 [.t, .t, .t, .t, .t, .t, .t, .t, .t] (by kernel_rfl) (cj h0 (cj h1 (cj h1 (cj h1 (cj h1 (cj h2 (cj h2 (cj h2 (cj h2 cj0)))))))))
theorem rRt_2 (k n m : Int) (s : ByteArray) (h0 : (k == 0) = true) (h1 : (n == 0) = true) (h2 : (m == 0) = false) : Does cE 32 [] 0 [.v (vl k n m s)] (.v (.bool (false))) [] 0 :=
  does_path (ct := ct) ctOk mixed (fn := Tryz.f32) rfl (by kernel_rfl) 2000 [.t, .t, .t, .t, .t, .f, .f, .f, .f] (by kernel_rfl) (cj h0 (cj h1 (cj h1 (cj h1 (cj h1 (cj h2 (cj h2 (cj h2 (cj h2 cj0)))))))))
theorem rRt_3 (k n m : Int) (s : ByteArray) (h0 : (k == 0) = true) (h1 : (n == 0) = false) : Does cE 32 [] 0 [.v (vl k n m s)] (.v (.bool (false))) [] 0 :=
  does_path (ct := ct) ctOk mixed (fn := Tryz.f32) rfl (by kernel_rfl) 2000 [.t, .f, .f, .f, .f, .l, .f, .f, .l] (by kernel_rfl) (cj h0 (cj h1 (cj h1 (cj h1 (cj h1 (cj (rfl : false = false) (cj (rfl : false = false) cj0)))))))
theorem rRt_4 (k n m : Int) (s : ByteArray) (h0 : (k == 0) = false) (h1 : (k == 1) = true) (h2 : (m == 0) = true) : Does cE 32 [] 0 [.v (vl k n m s)] (.v (.bool (s.toList == (ByteArray.mk #[]).toList))) [] 0 :=
  does_path (ct := ct) ctOk mixed (fn := Tryz.f32) rfl (by kernel_rfl) 2000 [.f, .t, .t, .t, .t, .t] (by kernel_rfl) (cj h0 (cj h1 (cj h2 (cj h2 (cj h2 (cj h2 cj0))))))
theorem rRt_5 (k n m : Int) (s : ByteArray) (h0 : (k == 0) = false) (h1 : (k == 1) = true) (h2 : (m == 0) = false) : Does cE 32 [] 0 [.v (vl k n m s)] (.v (.bool (false))) [] 0 :=
  does_path (ct := ct) ctOk mixed (fn := Tryz.f32) rfl (by kernel_rfl) 2000 [.f, .t, .f, .f, .f, .f] (by kernel_rfl) (cj h0 (cj h1 (cj h2 (cj h2 (cj h2 (cj h2 cj0))))))
theorem rRt_6 (k n m : Int) (s : ByteArray) (h0 : (k == 0) = false) (h1 : (k == 1) = false) (h2 : (k == 2) = true) (h3 : decide (m ≥ 0) = true) (h4 : decide (m ≤ 6) = true) : Does cE 32 [] 0 [.v (vl k n m s)] (.v (.bool (s.toList == (ByteArray.mk #[]).toList))) [] 0 :=
  does_path (ct := ct) ctOk mixed (fn := Tryz.f32) rfl (by kernel_rfl) 2000 [.f, .f, .t, .t, .t, .t, .t, .t, .t, .t, .t] (by kernel_rfl) (cj h0 (cj h1 (cj h2 (cj h3 (cj h3 (cj h3 (cj h3 (cj h4 (cj h4 (cj h4 (cj h4 cj0)))))))))))
theorem rRt_7 (k n m : Int) (s : ByteArray) (h0 : (k == 0) = false) (h1 : (k == 1) = false) (h2 : (k == 2) = true) (h3 : decide (m ≥ 0) = true) (h4 : decide (m ≤ 6) = false) : Does cE 32 [] 0 [.v (vl k n m s)] (.v (.bool (false))) [] 0 :=
  does_path (ct := ct) ctOk mixed (fn := Tryz.f32) rfl (by kernel_rfl) 2000 [.f, .f, .t, .t, .t, .t, .t, .f, .f, .f, .f] (by kernel_rfl) (cj h0 (cj h1 (cj h2 (cj h3 (cj h3 (cj h3 (cj h3 (cj h4 (cj h4 (cj h4 (cj h4 cj0)))))))))))
theorem rRt_8 (k n m : Int) (s : ByteArray) (h0 : (k == 0) = false) (h1 : (k == 1) = false) (h2 : (k == 2) = true) (h3 : decide (m ≥ 0) = false) : Does cE 32 [] 0 [.v (vl k n m s)] (.v (.bool (false))) [] 0 :=
  does_path (ct := ct) ctOk mixed (fn := Tryz.f32) rfl (by kernel_rfl) 2000 [.f, .f, .t, .f, .f, .f, .f, .l, .f, .f, .l] (by kernel_rfl) (cj h0 (cj h1 (cj h2 (cj h3 (cj h3 (cj h3 (cj h3 (cj (rfl : false = false) (cj (rfl : false = false) cj0)))))))))
theorem rRt_9 (k n m : Int) (s : ByteArray) (b0 : Bool) (h0 : (k == 0) = false) (h1 : (k == 1) = false) (h2 : (k == 2) = false) (h3 : (k == 3) = true) (h4 : (n == 0) = true) (h5 : (m == 0) = true) (h6 : decide ((s.size : Int) ≤ 256) = true) (h7 : Does cE 68 [] 0 [.v (.string (s))] (.v (.bool (b0))) [] 0) : Does cE 32 [] 0 [.v (vl k n m s)] (.v (.bool (b0))) [] 0 :=
  does_path (ct := ct) ctOk mixed (fn := Tryz.f32) rfl (by kernel_rfl) 2000 [.f, .f, .f, .t, .t, .t, .t, .t, .t, .t, .t, .t, .t, .t, .t, .t, .c (.v (.bool (b0))) [] 0, .t] (by kernel_rfl) (cj h0 (cj h1 (cj h2 (cj h3 (cj h4 (cj h4 (cj h4 (cj h4 (cj h5 (cj h5 (cj h5 (cj h5 (cj h5 (cj h6 (cj h6 (cj h6 (cj h7 (cj h6 cj0))))))))))))))))))
theorem rRt_10 (k n m : Int) (s : ByteArray) (h0 : (k == 0) = false) (h1 : (k == 1) = false) (h2 : (k == 2) = false) (h3 : (k == 3) = true) (h4 : (n == 0) = true) (h5 : (m == 0) = true) (h6 : decide ((s.size : Int) ≤ 256) = false) : Does cE 32 [] 0 [.v (vl k n m s)] (.v (.bool (false))) [] 0 :=
  does_path (ct := ct) ctOk mixed (fn := Tryz.f32) rfl (by kernel_rfl) 2000 [.f, .f, .f, .t, .t, .t, .t, .t, .t, .t, .t, .t, .t, .f, .f, .f, .f] (by kernel_rfl) (cj h0 (cj h1 (cj h2 (cj h3 (cj h4 (cj h4 (cj h4 (cj h4 (cj h5 (cj h5 (cj h5 (cj h5 (cj h5 (cj h6 (cj h6 (cj h6 (cj h6 cj0)))))))))))))))))
theorem rRt_11 (k n m : Int) (s : ByteArray) (h0 : (k == 0) = false) (h1 : (k == 1) = false) (h2 : (k == 2) = false) (h3 : (k == 3) = true) (h4 : (n == 0) = true) (h5 : (m == 0) = false) : Does cE 32 [] 0 [.v (vl k n m s)] (.v (.bool (false))) [] 0 :=
  does_path (ct := ct) ctOk mixed (fn := Tryz.f32) rfl (by kernel_rfl) 2000 [.f, .f, .f, .t, .t, .t, .t, .t, .f, .f, .f, .f, .f, .l, .f, .l, .l] (by kernel_rfl) (cj h0 (cj h1 (cj h2 (cj h3 (cj h4 (cj h4 (cj h4 (cj h4 (cj h5 (cj h5 (cj h5 (cj h5 (cj h5 (cj (rfl : false = false) cj0))))))))))))))
theorem rRt_12 (k n m : Int) (s : ByteArray) (h0 : (k == 0) = false) (h1 : (k == 1) = false) (h2 : (k == 2) = false) (h3 : (k == 3) = true) (h4 : (n == 0) = false) : Does cE 32 [] 0 [.v (vl k n m s)] (.v (.bool (false))) [] 0 :=
  does_path (ct := ct) ctOk mixed (fn := Tryz.f32) rfl (by kernel_rfl) 2000 [.f, .f, .f, .t, .f, .f, .f, .f, .l, .f, .f, .f, .f, .l, .f, .l, .l] (by kernel_rfl) (cj h0 (cj h1 (cj h2 (cj h3 (cj h4 (cj h4 (cj h4 (cj h4 (cj (rfl : false = false) (cj (rfl : false = false) (cj (rfl : false = false) (cj (rfl : false = false) (cj (rfl : false = false) cj0)))))))))))))
theorem rRt_13 (k n m : Int) (s : ByteArray) (h0 : (k == 0) = false) (h1 : (k == 1) = false) (h2 : (k == 2) = false) (h3 : (k == 3) = false) (h4 : (k == 4) = true) (h5 : (n == 0) = true) (h6 : (m == 0) = true) : Does cE 32 [] 0 [.v (vl k n m s)] (.v (.bool (s.toList == (ByteArray.mk #[]).toList))) [] 0 :=
  does_path (ct := ct) ctOk mixed (fn := Tryz.f32) rfl (by kernel_rfl) 2000 [.f, .f, .f, .f, .t, .t, .t, .t, .t, .l, .l, .l, .l, .t, .t, .t, .t] (by kernel_rfl) (cj h0 (cj h1 (cj h2 (cj h3 (cj h4 (cj h5 (cj h5 (cj h5 (cj h5 (cj h6 (cj h6 (cj h6 (cj h6 cj0)))))))))))))
theorem rRt_14 (k n m : Int) (s : ByteArray) (h0 : (k == 0) = false) (h1 : (k == 1) = false) (h2 : (k == 2) = false) (h3 : (k == 3) = false) (h4 : (k == 4) = true) (h5 : (n == 0) = true) (h6 : (m == 0) = false) : Does cE 32 [] 0 [.v (vl k n m s)] (.v (.bool (false))) [] 0 :=
  does_path (ct := ct) ctOk mixed (fn := Tryz.f32) rfl (by kernel_rfl) 2000 [.f, .f, .f, .f, .t, .t, .t, .t, .t, .l, .l, .l, .l, .f, .f, .f, .f] (by kernel_rfl) (cj h0 (cj h1 (cj h2 (cj h3 (cj h4 (cj h5 (cj h5 (cj h5 (cj h5 (cj h6 (cj h6 (cj h6 (cj h6 cj0)))))))))))))
theorem rRt_15 (k n m : Int) (s : ByteArray) (h0 : (k == 0) = false) (h1 : (k == 1) = false) (h2 : (k == 2) = false) (h3 : (k == 3) = false) (h4 : (k == 4) = true) (h5 : (n == 0) = false) (h6 : (n == 1) = true) (h7 : (m == 0) = true) : Does cE 32 [] 0 [.v (vl k n m s)] (.v (.bool (s.toList == (ByteArray.mk #[]).toList))) [] 0 :=
  does_path (ct := ct) ctOk mixed (fn := Tryz.f32) rfl (by kernel_rfl) 2000 [.f, .f, .f, .f, .t, .f, .f, .f, .f, .t, .t, .t, .t, .t, .t, .t, .t] (by kernel_rfl) (cj h0 (cj h1 (cj h2 (cj h3 (cj h4 (cj h5 (cj h5 (cj h5 (cj h5 (cj h6 (cj h6 (cj h6 (cj h6 (cj h7 (cj h7 (cj h7 (cj h7 cj0)))))))))))))))))
theorem rRt_16 (k n m : Int) (s : ByteArray) (h0 : (k == 0) = false) (h1 : (k == 1) = false) (h2 : (k == 2) = false) (h3 : (k == 3) = false) (h4 : (k == 4) = true) (h5 : (n == 0) = false) (h6 : (n == 1) = true) (h7 : (m == 0) = false) : Does cE 32 [] 0 [.v (vl k n m s)] (.v (.bool (false))) [] 0 :=
  does_path (ct := ct) ctOk mixed (fn := Tryz.f32) rfl (by kernel_rfl) 2000 [.f, .f, .f, .f, .t, .f, .f, .f, .f, .t, .t, .t, .t, .f, .f, .f, .f] (by kernel_rfl) (cj h0 (cj h1 (cj h2 (cj h3 (cj h4 (cj h5 (cj h5 (cj h5 (cj h5 (cj h6 (cj h6 (cj h6 (cj h6 (cj h7 (cj h7 (cj h7 (cj h7 cj0)))))))))))))))))
theorem rRt_17 (k n m : Int) (s : ByteArray) (h0 : (k == 0) = false) (h1 : (k == 1) = false) (h2 : (k == 2) = false) (h3 : (k == 3) = false) (h4 : (k == 4) = true) (h5 : (n == 0) = false) (h6 : (n == 1) = false) : Does cE 32 [] 0 [.v (vl k n m s)] (.v (.bool (false))) [] 0 :=
  does_path (ct := ct) ctOk mixed (fn := Tryz.f32) rfl (by kernel_rfl) 2000 [.f, .f, .f, .f, .t, .f, .f, .f, .f, .f, .f, .f, .f, .l, .f, .f, .l] (by kernel_rfl) (cj h0 (cj h1 (cj h2 (cj h3 (cj h4 (cj h5 (cj h5 (cj h5 (cj h5 (cj h6 (cj h6 (cj h6 (cj h6 (cj (rfl : false = false) (cj (rfl : false = false) cj0)))))))))))))))
theorem rRt_18 (k n m : Int) (s : ByteArray) (b0 : Bool) (h0 : (k == 0) = false) (h1 : (k == 1) = false) (h2 : (k == 2) = false) (h3 : (k == 3) = false) (h4 : (k == 4) = false) (h5 : (k == 5) = true) (h6 : Does cE 69 [] 0 [.v (.agg #[(.int .i64 (n)), (.int .i64 (m))])] (.v (.bool (b0))) [] 0) (h7 : b0 = true) : Does cE 32 [] 0 [.v (vl k n m s)] (.v (.bool (s.toList == (ByteArray.mk #[]).toList))) [] 0 :=
  does_path (ct := ct) ctOk mixed (fn := Tryz.f32) rfl (by kernel_rfl) 2000 [.f, .f, .f, .f, .f, .t, .c (.v (.bool (b0))) [] 0, .t, .t, .t, .t] (by kernel_rfl) (cj h0 (cj h1 (cj h2 (cj h3 (cj h4 (cj h5 (cj h6 (cj h7 (cj h7 (cj h7 (cj h7 cj0)))))))))))
theorem rRt_19 (k n m : Int) (s : ByteArray) (b0 : Bool) (h0 : (k == 0) = false) (h1 : (k == 1) = false) (h2 : (k == 2) = false) (h3 : (k == 3) = false) (h4 : (k == 4) = false) (h5 : (k == 5) = true) (h6 : Does cE 69 [] 0 [.v (.agg #[(.int .i64 (n)), (.int .i64 (m))])] (.v (.bool (b0))) [] 0) (h7 : b0 = false) : Does cE 32 [] 0 [.v (vl k n m s)] (.v (.bool (false))) [] 0 :=
  does_path (ct := ct) ctOk mixed (fn := Tryz.f32) rfl (by kernel_rfl) 2000 [.f, .f, .f, .f, .f, .t, .c (.v (.bool (b0))) [] 0, .f, .f, .f, .f] (by kernel_rfl) (cj h0 (cj h1 (cj h2 (cj h3 (cj h4 (cj h5 (cj h6 (cj h7 (cj h7 (cj h7 (cj h7 cj0)))))))))))
theorem rRt_20 (k n m : Int) (s : ByteArray) (h0 : (k == 0) = false) (h1 : (k == 1) = false) (h2 : (k == 2) = false) (h3 : (k == 3) = false) (h4 : (k == 4) = false) (h5 : (k == 5) = false) : Does cE 32 [] 0 [.v (vl k n m s)] (.v (.bool (false))) [] 0 :=
  does_path (ct := ct) ctOk mixed (fn := Tryz.f32) rfl (by kernel_rfl) 2000 [.f, .f, .f, .f, .f, .f] (by kernel_rfl) (cj h0 (cj h1 (cj h2 (cj h3 (cj h4 (cj h5 cj0))))))
end Go.Proofs.YtpfignfgfhbblaaGreatDoorC
namespace Go.Proofs.YtpfignfgfhbblaaGreatDoorC
open Go.Proofs Go.Proofs.YtpfignfgfhbblaaGreatDoorSx Go.Lib
set_option maxRecDepth 100000
set_option linter.unusedVariables false
set_option linter.unusedSimpArgs false
theorem dbif {g : Nat} {xs : List SV} {c : Bool} {a b : Value} (h1 : c = true → Does cE g [] 0 xs (.v a) [] 0) (h0 : c = false → Does cE g [] 0 xs (.v b) [] 0) : Does cE g [] 0 xs (.v (bif c then a else b)) [] 0 := by
  cases c
  · exact h0 rfl
  · exact h1 rfl
def pOf_v (t : Int) : Value :=
  bif (t == 0) then bif (t == 2) then (.agg #[(.int .i64 (0)), (.int .i64 (0)), (.int .i64 (0)), (.string ((ByteArray.mk #[])))])
    else (.agg #[(.int .i64 (4)), (.int .i64 (t)), (.int .i64 (0)), (.string ((ByteArray.mk #[])))])
  else bif (t == 1) then bif (t == 2) then (.agg #[(.int .i64 (0)), (.int .i64 (0)), (.int .i64 (0)), (.string ((ByteArray.mk #[])))])
    else (.agg #[(.int .i64 (4)), (.int .i64 (t)), (.int .i64 (0)), (.string ((ByteArray.mk #[])))])
  else (.agg #[(.int .i64 (0)), (.int .i64 (0)), (.int .i64 (0)), (.string ((ByteArray.mk #[])))])
theorem pOf_v_does (t : Int) : Does cE 91 [] 0 [.v (it t)] (.v (pOf_v t)) [] 0 := by
  unfold pOf_v
  refine dbif (fun c1 => ?_) (fun c1 => ?_)
  · refine dbif (fun c2 => ?_) (fun c2 => ?_)
    · exact pOf_1 (t := t) (h0 := c1) (h1 := c2)
    · exact pOf_2 (t := t) (h0 := c1) (h1 := c2)
  · refine dbif (fun c3 => ?_) (fun c3 => ?_)
    · refine dbif (fun c4 => ?_) (fun c4 => ?_)
      · exact pOf_3 (t := t) (h0 := c1) (h1 := c3) (h2 := c4)
      · exact pOf_4 (t := t) (h0 := c1) (h1 := c3) (h2 := c4)
    · exact pOf_5 (t := t) (h0 := c1) (h1 := c3)
end Go.Proofs.YtpfignfgfhbblaaGreatDoorC
/- Truth of three kinds, values of it, in plain words: program and reference come to the same. -/
namespace Go.Proofs.YtpfignfgfhbblaaGreatDoorC
open Go.Proofs Go.Proofs.YtpfignfgfhbblaaGreatDoorSx Go.Lib
set_option maxRecDepth 100000
set_option linter.unusedVariables false
set_option linter.unusedSimpArgs false
abbrev bE : ByteArray := ByteArray.mk #[]
abbrev ofK (t : Int) : Int := if t = 0 ∨ t = 1 then 4 else 0
abbrev ofN (t : Int) : Int := if t = 0 ∨ t = 1 then t else 0
theorem three_cases (a : Int) : a = 0 ∨ a = 1 ∨ (¬ a = 0 ∧ ¬ a = 1 ∧ (a == 0) = false ∧ (a == 1) = false) := by
  by_cases h0 : a = 0
  · exact .inl h0
  · by_cases h1 : a = 1
    · exact .inr (.inl h1)
    · exact .inr (.inr ⟨h0, h1, by simpa using h0, by simpa using h1⟩)
theorem of_does (t : Int) : Does cE 91 [] 0 [.v (it t)] (.v (vl (ofK t) (ofN t) 0 bE)) [] 0 := by
  have h := pOf_v_does t
  have e : pOf_v t = vl (ofK t) (ofN t) 0 bE := by
    unfold pOf_v
    rcases three_cases t with rfl | rfl | ⟨h0, h1, e0, e1⟩
    · rfl
    · rfl
    · rw [e0, e1]
      simp [ofK, ofN, h0, h1]
  rw [e] at h
  exact h
end Go.Proofs.YtpfignfgfhbblaaGreatDoorC
namespace Go.Proofs.YtpfignfgfhbblaaGreatDoorC
open Go.Proofs Go.Proofs.YtpfignfgfhbblaaGreatDoorSx Go.Lib
set_option maxRecDepth 100000
set_option linter.unusedVariables false
set_option linter.unusedSimpArgs false
def pRt_v (k n m : Int) (s : ByteArray) : Value :=
  bif (k == 0) then (.bool (k == 0 && (n == 0 && (m == 0 && (s == (ByteArray.mk #[]) && true)))))
  else bif (k == 1) then (.bool (k == 1 && (n == n && (m == 0 && (s == (ByteArray.mk #[]) && true)))))
  else bif (k == 2) then bif (s.toList == (ByteArray.mk #[]).toList) then (.bool ((decide (0 ≤ m ∧ m ≤ 6))))
    else (.bool (false))
  else bif (k == 3) then bif (k == 3 && (n == 0 && (m == 0 && (s == s && true)))) then bif (decide ((s.size : Int) ≤ 256)) then (.bool ((validD s.data.toList)))
      else (.bool (false))
    else (.bool (false))
  else bif (k == 4) then bif (k == (ofK 0) && (n == (ofN 0) && (m == 0 && (s == bE && true)))) then (.bool (true))
    else (.bool (k == (ofK 1) && (n == (ofN 1) && (m == 0 && (s == bE && true)))))
  else bif (k == 5) then bif (s.toList == (ByteArray.mk #[]).toList) then (.bool ((rt n m)))
    else (.bool (false))
  else (.bool (false))
theorem pRt_v_does (k n m : Int) (s : ByteArray) (hs : s.size ≤ 140737488351232) : Does cE 46 [] 0 [.v (vl k n m s)] (.v (pRt_v k n m s)) [] 0 := by
  unfold pRt_v
  refine dbif (fun c1 => ?_) (fun c1 => ?_)
  · exact pRt_1 (k := k) (n := n) (m := m) (s := s) (h0 := c1)
  · refine dbif (fun c2 => ?_) (fun c2 => ?_)
    · exact pRt_2 (k := k) (n := n) (m := m) (s := s) (h0 := c1) (h1 := c2)
    · refine dbif (fun c3 => ?_) (fun c3 => ?_)
      · refine dbif (fun c4 => ?_) (fun c4 => ?_)
        · exact pRt_3 (k := k) (n := n) (m := m) (s := s) (h0 := c1) (h1 := c2) (h2 := c3) (h3 := c4) (h4 := pright_does n m)
        · exact pRt_4 (k := k) (n := n) (m := m) (s := s) (h0 := c1) (h1 := c2) (h2 := c3) (h3 := c4)
      · refine dbif (fun c5 => ?_) (fun c5 => ?_)
        · refine dbif (fun c6 => ?_) (fun c6 => ?_)
          · refine dbif (fun c7 => ?_) (fun c7 => ?_)
            · exact pRt_5 (k := k) (n := n) (m := m) (s := s) (h0 := c1) (h1 := c2) (h2 := c3) (h3 := c5) (h4 := c6) (h5 := c7) (h6 := vstr_does s hs)
            · exact pRt_6 (k := k) (n := n) (m := m) (s := s) (h0 := c1) (h1 := c2) (h2 := c3) (h3 := c5) (h4 := c6) (h5 := c7)
          · exact pRt_7 (k := k) (n := n) (m := m) (s := s) (h0 := c1) (h1 := c2) (h2 := c3) (h3 := c5) (h4 := c6)
        · refine dbif (fun c8 => ?_) (fun c8 => ?_)
          · refine dbif (fun c9 => ?_) (fun c9 => ?_)
            · exact pRt_8 (k := k) (n := n) (m := m) (s := s) (h0 := c1) (h1 := c2) (h2 := c3) (h3 := c5) (h4 := c8) (h5 := of_does 0) (h6 := c9)
            · exact pRt_9 (k := k) (n := n) (m := m) (s := s) (h0 := c1) (h1 := c2) (h2 := c3) (h3 := c5) (h4 := c8) (h5 := of_does 0) (h6 := c9) (h7 := of_does 1)
          · refine dbif (fun c10 => ?_) (fun c10 => ?_)
            · refine dbif (fun c11 => ?_) (fun c11 => ?_)
              · exact pRt_10 (k := k) (n := n) (m := m) (s := s) (h0 := c1) (h1 := c2) (h2 := c3) (h3 := c5) (h4 := c8) (h5 := c10) (h6 := c11) (h7 := gright_does n m)
              · exact pRt_11 (k := k) (n := n) (m := m) (s := s) (h0 := c1) (h1 := c2) (h2 := c3) (h3 := c5) (h4 := c8) (h5 := c10) (h6 := c11)
            · exact pRt_12 (k := k) (n := n) (m := m) (s := s) (h0 := c1) (h1 := c2) (h2 := c3) (h3 := c5) (h4 := c8) (h5 := c10)
def rRt_v (k n m : Int) (s : ByteArray) : Value :=
  bif (k == 0) then bif (n == 0) then bif (m == 0) then (.bool (s.toList == (ByteArray.mk #[]).toList))
      else (.bool (false))
    else (.bool (false))
  else bif (k == 1) then bif (m == 0) then (.bool (s.toList == (ByteArray.mk #[]).toList))
    else (.bool (false))
  else bif (k == 2) then bif (decide (m ≥ 0)) then bif (decide (m ≤ 6)) then (.bool (s.toList == (ByteArray.mk #[]).toList))
      else (.bool (false))
    else (.bool (false))
  else bif (k == 3) then bif (n == 0) then bif (m == 0) then bif (decide ((s.size : Int) ≤ 256)) then (.bool ((validD s.data.toList)))
        else (.bool (false))
      else (.bool (false))
    else (.bool (false))
  else bif (k == 4) then bif (n == 0) then bif (m == 0) then (.bool (s.toList == (ByteArray.mk #[]).toList))
      else (.bool (false))
    else bif (n == 1) then bif (m == 0) then (.bool (s.toList == (ByteArray.mk #[]).toList))
      else (.bool (false))
    else (.bool (false))
  else bif (k == 5) then bif (rt n m) then (.bool (s.toList == (ByteArray.mk #[]).toList))
    else (.bool (false))
  else (.bool (false))
theorem rRt_v_does (k n m : Int) (s : ByteArray) (hs : s.size ≤ 140737488351232) : Does cE 32 [] 0 [.v (vl k n m s)] (.v (rRt_v k n m s)) [] 0 := by
  unfold rRt_v
  refine dbif (fun c1 => ?_) (fun c1 => ?_)
  · refine dbif (fun c2 => ?_) (fun c2 => ?_)
    · refine dbif (fun c3 => ?_) (fun c3 => ?_)
      · exact rRt_1 (k := k) (n := n) (m := m) (s := s) (h0 := c1) (h1 := c2) (h2 := c3)
      · exact rRt_2 (k := k) (n := n) (m := m) (s := s) (h0 := c1) (h1 := c2) (h2 := c3)
    · exact rRt_3 (k := k) (n := n) (m := m) (s := s) (h0 := c1) (h1 := c2)
  · refine dbif (fun c4 => ?_) (fun c4 => ?_)
    · refine dbif (fun c5 => ?_) (fun c5 => ?_)
      · exact rRt_4 (k := k) (n := n) (m := m) (s := s) (h0 := c1) (h1 := c4) (h2 := c5)
      · exact rRt_5 (k := k) (n := n) (m := m) (s := s) (h0 := c1) (h1 := c4) (h2 := c5)
    · refine dbif (fun c6 => ?_) (fun c6 => ?_)
      · refine dbif (fun c7 => ?_) (fun c7 => ?_)
        · refine dbif (fun c8 => ?_) (fun c8 => ?_)
          · exact rRt_6 (k := k) (n := n) (m := m) (s := s) (h0 := c1) (h1 := c4) (h2 := c6) (h3 := c7) (h4 := c8)
          · exact rRt_7 (k := k) (n := n) (m := m) (s := s) (h0 := c1) (h1 := c4) (h2 := c6) (h3 := c7) (h4 := c8)
        · exact rRt_8 (k := k) (n := n) (m := m) (s := s) (h0 := c1) (h1 := c4) (h2 := c6) (h3 := c7)
      · refine dbif (fun c9 => ?_) (fun c9 => ?_)
        · refine dbif (fun c10 => ?_) (fun c10 => ?_)
          · refine dbif (fun c11 => ?_) (fun c11 => ?_)
            · refine dbif (fun c12 => ?_) (fun c12 => ?_)
              · exact rRt_9 (k := k) (n := n) (m := m) (s := s) (h0 := c1) (h1 := c4) (h2 := c6) (h3 := c9) (h4 := c10) (h5 := c11) (h6 := c12) (h7 := good_does s hs)
              · exact rRt_10 (k := k) (n := n) (m := m) (s := s) (h0 := c1) (h1 := c4) (h2 := c6) (h3 := c9) (h4 := c10) (h5 := c11) (h6 := c12)
            · exact rRt_11 (k := k) (n := n) (m := m) (s := s) (h0 := c1) (h1 := c4) (h2 := c6) (h3 := c9) (h4 := c10) (h5 := c11)
          · exact rRt_12 (k := k) (n := n) (m := m) (s := s) (h0 := c1) (h1 := c4) (h2 := c6) (h3 := c9) (h4 := c10)
        · refine dbif (fun c13 => ?_) (fun c13 => ?_)
          · refine dbif (fun c14 => ?_) (fun c14 => ?_)
            · refine dbif (fun c15 => ?_) (fun c15 => ?_)
              · exact rRt_13 (k := k) (n := n) (m := m) (s := s) (h0 := c1) (h1 := c4) (h2 := c6) (h3 := c9) (h4 := c13) (h5 := c14) (h6 := c15)
              · exact rRt_14 (k := k) (n := n) (m := m) (s := s) (h0 := c1) (h1 := c4) (h2 := c6) (h3 := c9) (h4 := c13) (h5 := c14) (h6 := c15)
            · refine dbif (fun c16 => ?_) (fun c16 => ?_)
              · refine dbif (fun c17 => ?_) (fun c17 => ?_)
                · exact rRt_15 (k := k) (n := n) (m := m) (s := s) (h0 := c1) (h1 := c4) (h2 := c6) (h3 := c9) (h4 := c13) (h5 := c14) (h6 := c16) (h7 := c17)
                · exact rRt_16 (k := k) (n := n) (m := m) (s := s) (h0 := c1) (h1 := c4) (h2 := c6) (h3 := c9) (h4 := c13) (h5 := c14) (h6 := c16) (h7 := c17)
              · exact rRt_17 (k := k) (n := n) (m := m) (s := s) (h0 := c1) (h1 := c4) (h2 := c6) (h3 := c9) (h4 := c13) (h5 := c14) (h6 := c16)
          · refine dbif (fun c18 => ?_) (fun c18 => ?_)
            · refine dbif (fun c19 => ?_) (fun c19 => ?_)
              · exact rRt_18 (k := k) (n := n) (m := m) (s := s) (h0 := c1) (h1 := c4) (h2 := c6) (h3 := c9) (h4 := c13) (h5 := c18) (h6 := rgright_does n m) (h7 := c19)
              · exact rRt_19 (k := k) (n := n) (m := m) (s := s) (h0 := c1) (h1 := c4) (h2 := c6) (h3 := c9) (h4 := c13) (h5 := c18) (h6 := rgright_does n m) (h7 := c19)
            · exact rRt_20 (k := k) (n := n) (m := m) (s := s) (h0 := c1) (h1 := c4) (h2 := c6) (h3 := c9) (h4 := c13) (h5 := c18)
end Go.Proofs.YtpfignfgfhbblaaGreatDoorC
/- Right, Truth and Same of program and reference, told by one word each. -/
namespace Go.Proofs.YtpfignfgfhbblaaGreatDoorC
open Go.Proofs Go.Proofs.YtpfignfgfhbblaaGreatDoorSx Go.Lib
set_option maxRecDepth 100000
set_option linter.unusedVariables false
set_option linter.unusedSimpArgs false
theorem cond_bool (c a b : Bool) : (bif c then Value.bool a else Value.bool b) = Value.bool (bif c then a else b) := by cases c <;> rfl
def eqE (s : ByteArray) : Bool := s.toList == (ByteArray.mk #[]).toList
theorem bytes_beq (s t : ByteArray) : (s == t) = (s.toList == t.toList) := by
  rw [Go.ByteArray.toList_eq, Go.ByteArray.toList_eq]
  change (s.data == t.data) = _
  rw [Bool.eq_iff_iff]
  simp
theorem beq_bE (s : ByteArray) : (s == ByteArray.mk #[]) = eqE s := bytes_beq s _
theorem bytes_refl (s : ByteArray) : (s == s) = true := by rw [bytes_beq]; simp
def okV (k n m : Int) (s : ByteArray) : Bool :=
  bif (k == 0) then (n == 0 && m == 0 && eqE s)
  else bif (k == 1) then (m == 0 && eqE s)
  else bif (k == 2) then (decide (0 ≤ m) && decide (m ≤ 6) && eqE s)
  else bif (k == 3) then (n == 0 && m == 0 && decide ((s.size : Int) ≤ 256) && validD s.data.toList)
  else bif (k == 4) then ((n == 0 || n == 1) && m == 0 && eqE s)
  else bif (k == 5) then (rt n m && eqE s)
  else false
theorem rRt_said (k n m : Int) (s : ByteArray) : rRt_v k n m s = .bool (okV k n m s) := by
  unfold rRt_v okV
  simp only [cond_bool]
  change _ = Value.bool _
  congr 1
  change (bif k == 0 then bif n == 0 then bif m == 0 then eqE s else false else false else _) = _
  · by_cases h0 : k = 0
    · subst h0; cases (n == 0) <;> cases (m == 0) <;> rfl
    · by_cases h1 : k = 1
      · subst h1; change (bif m == 0 then eqE s else false) = (m == 0 && eqE s); cases (m == 0) <;> rfl
      · by_cases h2 : k = 2
        · subst h2
          change (bif decide (m ≥ 0) then bif decide (m ≤ 6) then eqE s else false else false) = (decide (0 ≤ m) && decide (m ≤ 6) && eqE s)
          change (bif decide (0 ≤ m) then bif decide (m ≤ 6) then eqE s else false else false) = (decide (0 ≤ m) && decide (m ≤ 6) && eqE s)
          cases decide (0 ≤ m) <;> cases decide (m ≤ 6) <;> rfl
        · by_cases h3 : k = 3
          · subst h3
            change (bif n == 0 then bif m == 0 then bif decide ((s.size : Int) ≤ 256) then validD s.data.toList else false else false else false) = _
            cases (n == 0) <;> cases (m == 0) <;> cases decide ((s.size : Int) ≤ 256) <;> rfl
          · by_cases h4 : k = 4
            · subst h4
              change (bif n == 0 then bif m == 0 then eqE s else false else bif n == 1 then bif m == 0 then eqE s else false else false) = ((n == 0 || n == 1) && m == 0 && eqE s)
              cases (n == 0) <;> cases (n == 1) <;> cases (m == 0) <;> rfl
            · by_cases h5 : k = 5
              · subst h5
                change (bif rt n m then eqE s else false) = (rt n m && eqE s)
                cases rt n m <;> rfl
              · simp [beq_eq_false_iff_ne.mpr h0, beq_eq_false_iff_ne.mpr h1, beq_eq_false_iff_ne.mpr h2, beq_eq_false_iff_ne.mpr h3, beq_eq_false_iff_ne.mpr h4, beq_eq_false_iff_ne.mpr h5]
theorem pRt_said (k n m : Int) (s : ByteArray) : pRt_v k n m s = .bool (okV k n m s) := by
  unfold pRt_v okV
  simp only [cond_bool, beq_bE]
  congr 1
  by_cases h0 : k = 0
  · subst h0
    change (true && (n == 0 && (m == 0 && (eqE s && true)))) = (n == 0 && m == 0 && eqE s)
    cases (n == 0) <;> cases (m == 0) <;> cases eqE s <;> rfl
  · by_cases h1 : k = 1
    · subst h1
      change (true && (n == n && (m == 0 && (eqE s && true)))) = (m == 0 && eqE s)
      rw [beq_self_eq_true]
      cases (m == 0) <;> cases eqE s <;> rfl
    · by_cases h2 : k = 2
      · subst h2
        change (bif eqE s then decide (0 ≤ m ∧ m ≤ 6) else false) = (decide (0 ≤ m) && decide (m ≤ 6) && eqE s)
        rw [← Bool.decide_and]
        cases eqE s <;> cases decide (0 ≤ m ∧ m ≤ 6) <;> rfl
      · by_cases h3 : k = 3
        · subst h3
          change (bif (true && (n == 0 && (m == 0 && (s == s && true)))) then bif decide ((s.size : Int) ≤ 256) then validD s.data.toList else false else false) = (n == 0 && m == 0 && decide ((s.size : Int) ≤ 256) && validD s.data.toList)
          rw [bytes_refl]
          cases (n == 0) <;> cases (m == 0) <;> cases decide ((s.size : Int) ≤ 256) <;> rfl
        · by_cases h4 : k = 4
          · subst h4
            have e0 : ofK 0 = 4 := rfl
            have e1 : ofN 0 = 0 := rfl
            have e2 : ofK 1 = 4 := rfl
            have e3 : ofN 1 = 1 := rfl
            simp only [e0, e1, e2, e3, show (s == bE) = eqE s from beq_bE s]
            change (bif (true && (n == 0 && (m == 0 && (eqE s && true)))) then true else (true && (n == 1 && (m == 0 && (eqE s && true))))) = ((n == 0 || n == 1) && m == 0 && eqE s)
            cases (n == 0) <;> cases (n == 1) <;> cases (m == 0) <;> cases eqE s <;> rfl
          · by_cases h5 : k = 5
            · subst h5
              change (bif eqE s then rt n m else false) = (rt n m && eqE s)
              cases rt n m <;> cases eqE s <;> rfl
            · simp [beq_eq_false_iff_ne.mpr h0, beq_eq_false_iff_ne.mpr h1, beq_eq_false_iff_ne.mpr h2, beq_eq_false_iff_ne.mpr h3, beq_eq_false_iff_ne.mpr h4, beq_eq_false_iff_ne.mpr h5]
theorem right_does (k n m : Int) (s : ByteArray) (hs : s.size ≤ 140737488351232) : Does cE 46 [] 0 [.v (vl k n m s)] (.v (.bool (okV k n m s))) [] 0 := by
  rw [← pRt_said]
  exact pRt_v_does k n m s hs
theorem right4_does (k n m : Int) (s : ByteArray) (hs : s.size ≤ 140737488351232) : Does cE 32 [] 0 [.v (vl k n m s)] (.v (.bool (okV k n m s))) [] 0 := by
  rw [← rRt_said]
  exact rRt_v_does k n m s hs
end Go.Proofs.YtpfignfgfhbblaaGreatDoorC
/- datum.Print: what it needs; what it comes to. -/
namespace Go.Proofs.YtpfignfgfhbblaaGreatDoorC
open Go.Proofs Go.Proofs.YtpfignfgfhbblaaGreatDoorSx Go.Lib
set_option maxRecDepth 100000
set_option linter.unusedVariables false
theorem ddec2_does (k n m : Int) (s : ByteArray) : Does cE 51 [] 0 [.v (vl k n m s)] (.v (dc n m)) [] 0 := pth (fn := Tryz.f51) rfl (by kernel_rfl) [] (by kernel_rfl) cj0
theorem dpoint_does (k n m : Int) (s : ByteArray) : Does cE 54 [] 0 [.v (vl k n m s)] (.v (dc n m)) [] 0 := pth (fn := Tryz.f54) rfl (by kernel_rfl) [] (by kernel_rfl) cj0
theorem ok_text {k n m : Int} {s : ByteArray} (h : (!okV k n m s) = false) (hk : (k == 3) = true) : s.size ≤ 256 := by
  have e : k = 3 := eq_of_beq hk
  subst e
  have h' : okV 3 n m s = true := by simpa using h
  have : (n == 0 && m == 0 && decide ((s.size : Int) ≤ 256) && validD s.data.toList) = true := h'
  simp only [Bool.and_eq_true, decide_eq_true_eq] at this
  omega
theorem ok_bool {k n m : Int} {s : ByteArray} (h : (!okV k n m s) = false) (hk : (k == 4) = true) : 0 ≤ n ∧ n < 2 := by
  have e : k = 4 := eq_of_beq hk
  subst e
  have h' : okV 4 n m s = true := by simpa using h
  have : ((n == 0 || n == 1) && m == 0 && eqE s) = true := h'
  simp only [Bool.and_eq_true, Bool.or_eq_true, beq_iff_eq] at this
  omega
theorem repl2_does (s : ByteArray) (hs : s.size ≤ 256) : Does cE 52 [] 0 [.v (st s), .v (st (ByteArray.mk #[39])), .v (st (ByteArray.mk #[39, 39]))] (.v (st (oL (dbl s.data.toList)))) [] 0 := by
  have h := repl_does s.data.toList (by
    have : s.data.toList.length = s.size := by rw [Array.length_toList]; rfl
    omega)
  rw [← oL_of] at h
  exact h
theorem dbl_sz {s : ByteArray} (hs : s.size ≤ 256) : (oL (dbl s.data.toList)).size ≤ 512 := by
  have := dbl_len s.data.toList
  have h2 : s.data.toList.length = s.size := by rw [Array.length_toList]; rfl
  rw [oL_size]
  omega
theorem dz1 {s : ByteArray} (hs : s.size ≤ 256) : (ByteArray.mk #[39]).size + (oL (dbl s.data.toList)).size ≤ 9223372036854775807 := by
  have := dbl_sz hs
  show 1 + _ ≤ _
  omega
theorem dz2 {s : ByteArray} (hs : s.size ≤ 256) : (ByteArray.mk #[39] ++ oL (dbl s.data.toList)).size + (ByteArray.mk #[39]).size ≤ 9223372036854775807 := by
  have := dbl_sz hs
  rw [ByteArray.size_append]
  show 1 + _ + 1 ≤ _
  omega
theorem pl_len {u : Int} (sc : Int) (hu : I64 u) : (printL u sc).length ≤ 30 := by
  have hd := nd_le (u := u.natAbs) (by omega)
  have hp := pad_len u sc
  have h2 : ∀ (l : List UInt8) (c : Int), (dotL l c).length ≤ l.length + 1 := by
    intro l c
    unfold dotL
    split
    · omega
    · simp only [List.length_append, List.length_cons, List.length_take, List.length_drop]
      omega
  have h3 := h2 (padL u sc) sc
  unfold printL
  split
  · split
    · rw [List.length_cons]
      omega
    · omega
  · exact Nat.zero_le _
theorem pz1 {u sc : Int} (hu : I64 u) : (oL (printL u sc)).size + (ByteArray.mk #[46]).size ≤ 9223372036854775807 := by
  have := pl_len sc hu
  rw [oL_size]
  show _ + 1 ≤ _
  omega
end Go.Proofs.YtpfignfgfhbblaaGreatDoorC
/- datum.Print, the program's. Printed by a program (wip/tools); Lean checks each. -/
namespace Go.Proofs.YtpfignfgfhbblaaGreatDoorC
open Go.Proofs Go.Proofs.YtpfignfgfhbblaaGreatDoorSx Go.Lib
set_option maxRecDepth 100000
set_option linter.unusedVariables false
def pVp (k n m : Int) (s : ByteArray) : Value :=
  bif (!okV k n m s) then (.string ((ByteArray.mk #[])))
  else bif (k == 1) then (.string (oL (printL n m)))
    else bif (k == 2) then bif (m == 0) then (.string (oL (printL n m) ++ (ByteArray.mk #[46])))
        else (.string (oL (printL n m)))
      else bif (k == 3) then (.string ((ByteArray.mk #[39]) ++ oL (dbl s.data.toList) ++ (ByteArray.mk #[39])))
        else bif (k == 4) then (.string ((preS [Go.Value.string (ByteArray.mk #[102, 97, 108, 115, 101]), Go.Value.string (ByteArray.mk #[116, 114, 117, 101])]).getD n.toNat ByteArray.empty))
          else bif (k == 5) then (.string (oL (prG n m)))
            else (.string ((ByteArray.mk #[110, 117, 108, 108])))
theorem pVp_does (k n m : Int) (s : ByteArray) (hs : s.size ≤ 140737488351232) (hn : I64 n) (hm : I64 m) : Does cE 15 [] 0 [.v (vl k n m s)] (.v (pVp k n m s)) [] 0 := by
  unfold pVp
  refine tbif (fun c1 => ?_) (fun c1 => ?_)
  · exact pth (fn := Tryz.f15) rfl (by kernel_rfl) [.c (.v (.bool (okV k n m s))) [] 0, .t] (by kernel_rfl) (cj (right_does (k) (n) (m) (s) (by first | assumption | decide)) (cj c1 cj0))
  · refine tbif (fun c2 => ?_) (fun c2 => ?_)
    · exact pth (fn := Tryz.f15) rfl (by kernel_rfl) [.c (.v (.bool (okV k n m s))) [] 0, .f, .t, .c (.v (.agg #[(.int .i64 (n)), (.int .i64 (m))])) [] 0, .c (.v (.string (oL (printL n m)))) [] 0] (by kernel_rfl) (cj (right_does (k) (n) (m) (s) (by first | assumption | decide)) (cj c1 (cj c2 (cj (ddec2_does (k) (n) (m) (s)) (cj (print_does (n) (m) (by first | assumption | decide)) cj0)))))
    · refine tbif (fun c3 => ?_) (fun c3 => ?_)
      · refine tbif (fun c4 => ?_) (fun c4 => ?_)
        · exact pth (fn := Tryz.f15) rfl (by kernel_rfl) [.c (.v (.bool (okV k n m s))) [] 0, .f, .f, .t, .c (.v (.agg #[(.int .i64 (n)), (.int .i64 (m))])) [] 0, .c (.v (.string (oL (printL n m)))) [] 0, .t] (by kernel_rfl) (cj (right_does (k) (n) (m) (s) (by first | assumption | decide)) (cj c1 (cj c2 (cj c3 (cj (ddec2_does (k) (n) (m) (s)) (cj (print_does (n) (m) (by first | assumption | decide)) (cj c4 (cj (by (first | exact dz1 (ok_text c1 (by assumption)) | exact dz2 (ok_text c1 (by assumption)) | exact pz1 hn | exact (fun h => ⟨h.1, h.2, h.2⟩) (ok_bool c1 (by assumption))) : (oL (printL n m)).size + (ByteArray.mk #[46]).size ≤ 9223372036854775807) cj0))))))))
        · exact pth (fn := Tryz.f15) rfl (by kernel_rfl) [.c (.v (.bool (okV k n m s))) [] 0, .f, .f, .t, .c (.v (.agg #[(.int .i64 (n)), (.int .i64 (m))])) [] 0, .c (.v (.string (oL (printL n m)))) [] 0, .f] (by kernel_rfl) (cj (right_does (k) (n) (m) (s) (by first | assumption | decide)) (cj c1 (cj c2 (cj c3 (cj (ddec2_does (k) (n) (m) (s)) (cj (print_does (n) (m) (by first | assumption | decide)) (cj c4 cj0)))))))
      · refine tbif (fun c5 => ?_) (fun c5 => ?_)
        · exact pth (fn := Tryz.f15) rfl (by kernel_rfl) [.c (.v (.bool (okV k n m s))) [] 0, .f, .f, .f, .t, .c (.v (.string (oL (dbl s.data.toList)))) [] 0] (by kernel_rfl) (cj (right_does (k) (n) (m) (s) (by first | assumption | decide)) (cj c1 (cj c2 (cj c3 (cj c5 (cj (repl2_does (s) (ok_text c1 (by assumption))) (cj (by (first | exact dz1 (ok_text c1 (by assumption)) | exact dz2 (ok_text c1 (by assumption)) | exact pz1 hn | exact (fun h => ⟨h.1, h.2, h.2⟩) (ok_bool c1 (by assumption))) : (ByteArray.mk #[39]).size + (oL (dbl s.data.toList)).size ≤ 9223372036854775807) (cj (by (first | exact dz1 (ok_text c1 (by assumption)) | exact dz2 (ok_text c1 (by assumption)) | exact pz1 hn | exact (fun h => ⟨h.1, h.2, h.2⟩) (ok_bool c1 (by assumption))) : ((ByteArray.mk #[39]) ++ oL (dbl s.data.toList)).size + (ByteArray.mk #[39]).size ≤ 9223372036854775807) cj0))))))))
        · refine tbif (fun c6 => ?_) (fun c6 => ?_)
          · exact pth (fn := Tryz.f15) rfl (by kernel_rfl) [.c (.v (.bool (okV k n m s))) [] 0, .f, .f, .f, .f, .t, .x] (by kernel_rfl) (cj (right_does (k) (n) (m) (s) (by first | assumption | decide)) (cj c1 (cj c2 (cj c3 (cj c5 (cj c6 (cj (by (first | exact dz1 (ok_text c1 (by assumption)) | exact dz2 (ok_text c1 (by assumption)) | exact pz1 hn | exact (fun h => ⟨h.1, h.2, h.2⟩) (ok_bool c1 (by assumption))) : 0 ≤ n ∧ n < ((2 : Nat) : Int) ∧ n < (((preS [Go.Value.string (ByteArray.mk #[102, 97, 108, 115, 101]), Go.Value.string (ByteArray.mk #[116, 114, 117, 101])]).length : Nat) : Int)) cj0)))))))
          · refine tbif (fun c7 => ?_) (fun c7 => ?_)
            · exact pth (fn := Tryz.f15) rfl (by kernel_rfl) [.c (.v (.bool (okV k n m s))) [] 0, .f, .f, .f, .f, .f, .t, .c (.v (.agg #[(.int .i64 (n)), (.int .i64 (m))])) [] 0, .c (.v (.string (oL (prG n m)))) [] 0] (by kernel_rfl) (cj (right_does (k) (n) (m) (s) (by first | assumption | decide)) (cj c1 (cj c2 (cj c3 (cj c5 (cj c6 (cj c7 (cj (dpoint_does (k) (n) (m) (s)) (cj (gprint_does (n) (m) (by first | assumption | decide) (by first | assumption | decide)) cj0)))))))))
            · exact pth (fn := Tryz.f15) rfl (by kernel_rfl) [.c (.v (.bool (okV k n m s))) [] 0, .f, .f, .f, .f, .f, .f] (by kernel_rfl) (cj (right_does (k) (n) (m) (s) (by first | assumption | decide)) (cj c1 (cj c2 (cj c3 (cj c5 (cj c6 (cj c7 cj0)))))))
end Go.Proofs.YtpfignfgfhbblaaGreatDoorC
/- datum.Print, told. -/
namespace Go.Proofs.YtpfignfgfhbblaaGreatDoorC
open Go.Proofs Go.Proofs.YtpfignfgfhbblaaGreatDoorSx Go.Lib
set_option maxRecDepth 100000
set_option linter.unusedVariables false
/-- A value's text. -/
def prV (k n m : Int) (s : ByteArray) : List UInt8 :=
  bif !okV k n m s then []
  else bif k == 1 then printL n m
  else bif k == 2 then (bif m == 0 then printL n m ++ [46] else printL n m)
  else bif k == 3 then 39 :: (dbl s.data.toList ++ [39])
  else bif k == 4 then (bif n == 1 then [116, 114, 117, 101] else [102, 97, 108, 115, 101])
  else bif k == 5 then prG n m
  else [110, 117, 108, 108]
theorem pVp_eq (k n m : Int) (s : ByteArray) : pVp k n m s = st (oL (prV k n m s)) := by
  unfold pVp prV
  cases hok : (!okV k n m s) with
  | true => rfl
  | false =>
    cases h1 : (k == 1) with
    | true => rfl
    | false =>
      cases h2 : (k == 2) with
      | true =>
        cases h3 : (m == 0) with
        | true =>
          show st (oL (printL n m) ++ oL [46]) = st (oL (printL n m ++ [46]))
          rw [oL_app]
        | false => rfl
      | false =>
        cases h3 : (k == 3) with
        | true =>
          show st (oL [39] ++ oL (dbl s.data.toList) ++ oL [39]) = st (oL ([39] ++ dbl s.data.toList ++ [39]))
          rw [oL_app, oL_app]
        | false =>
          cases h4 : (k == 4) with
          | true =>
            have hb := ok_bool hok h4
            have : n = 0 ∨ n = 1 := by omega
            rcases this with rfl | rfl <;> rfl
          | false =>
            cases h5 : (k == 5) <;> rfl
theorem vprint_does (k n m : Int) (s : ByteArray) (hs : s.size ≤ 140737488351232) (hn : I64 n) (hm : I64 m) : Does cE 15 [] 0 [.v (vl k n m s)] (.v (st (oL (prV k n m s)))) [] 0 := by
  have h := pVp_does k n m s hs hn hm
  rw [pVp_eq] at h
  exact h
end Go.Proofs.YtpfignfgfhbblaaGreatDoorC
/- The reference's Print of a text: bounds. -/
namespace Go.Proofs.YtpfignfgfhbblaaGreatDoorC
open Go.Proofs Go.Proofs.YtpfignfgfhbblaaGreatDoorSx Go.Lib
set_option maxRecDepth 100000
set_option linter.unusedVariables false
section
variable {s : ByteArray} {t : List UInt8} {i : Nat}
theorem rv_w (hs : s.size ≤ 256) (hi : i ≤ s.size) : IntKind.i64.wrap ((i : Int) + 1) = ((i + 1 : Nat) : Int) := by
  rw [wrap64 (by omega) (by omega)]
  omega
theorem rv1 (hs : s.size ≤ 256) (c : decide ((i : Int) < (s.size : Int)) = true) : (0 : Int) ≤ (i : Int) ∧ (i : Int) ≤ IntKind.i64.wrap ((i : Int) + 1) ∧ IntKind.i64.wrap ((i : Int) + 1) ≤ (s.size : Int) := by
  have := of_decide_eq_true c
  rw [rv_w hs (by omega)]
  omega
theorem rv3 (c : decide ((i : Int) < (s.size : Int)) = true) : (0 : Int) ≤ (i : Int) ∧ (i : Int) < (s.size : Int) := by
  have := of_decide_eq_true c
  omega
theorem ex_sz (hs : s.size ≤ 256) (a b : Nat) : (s.extract a b).size ≤ 256 := by
  rw [ByteArray.size_extract]
  omega
theorem rv2 (hs : s.size ≤ 256) (ht : t.length ≤ 2 * i + 1) (hi : i ≤ s.size) : (oL t).size + (s.extract (i : Int).toNat (IntKind.i64.wrap ((i : Int) + 1)).toNat).size ≤ 9223372036854775807 := by
  have := ex_sz hs (i : Int).toNat (IntKind.i64.wrap ((i : Int) + 1)).toNat
  rw [oL_size]
  omega
theorem rv4 (hs : s.size ≤ 256) (ht : t.length ≤ 2 * i + 1) (hi : i ≤ s.size) : (oL t ++ s.extract (i : Int).toNat (IntKind.i64.wrap ((i : Int) + 1)).toNat).size + (ByteArray.mk #[39]).size ≤ 9223372036854775807 := by
  have := ex_sz hs (i : Int).toNat (IntKind.i64.wrap ((i : Int) + 1)).toNat
  rw [ByteArray.size_append, oL_size, show (ByteArray.mk #[39]).size = 1 from rfl]
  omega
theorem rv5 (hs : s.size ≤ 256) (ht : t.length ≤ 2 * i + 1) (hi : i ≤ s.size) : (oL t).size + (ByteArray.mk #[39]).size ≤ 9223372036854775807 := by
  rw [oL_size, show (ByteArray.mk #[39]).size = 1 from rfl]
  omega
end
end Go.Proofs.YtpfignfgfhbblaaGreatDoorC
/- The reference's Print of values. Printed by a program (wip/tools); Lean checks each. -/
namespace Go.Proofs.YtpfignfgfhbblaaGreatDoorC
open Go.Proofs Go.Proofs.YtpfignfgfhbblaaGreatDoorSx Go.Lib
set_option maxRecDepth 100000
set_option linter.unusedVariables false
noncomputable def rprK : List It := stackAt [1, 1, 0, 1, 0, 1, 1, 1, 1, 1, 0, 1, 0, 1, 0] (bd Tryz.f16) [] []
noncomputable def rquK : List It := stackAt [1, 1, 0, 1, 0] (bd Tryz.f47) [] []
abbrev rprS (k n m : Int) (s : ByteArray) (t : List UInt8) (i : Nat) : List SV := [.v (vl k n m s), .p 0 0, .na, .na, .v (st (oL t)), .v (it i)] ++ List.replicate 64 .na
abbrev rprT (k n m : Int) (s : ByteArray) : Tab cE := [(0, .box 23 [.v (it k), .v (it n), .v (it m), .v (st s)])]
def rVa (k n m : Int) (s : ByteArray) (R1 : Value) : Value :=
  bif (!okV k n m s) then (.string ((ByteArray.mk #[])))
  else bif (k == 1) then (.string (oL (printL n 0)))
    else bif (k == 2) then bif (m == 0) then (.string (oL (printL n m) ++ (ByteArray.mk #[46])))
        else (.string (oL (printL n m)))
      else bif (k == 3) then R1
        else bif (k == 4) then bif (n == 1) then (.string ((ByteArray.mk #[116, 114, 117, 101])))
            else (.string ((ByteArray.mk #[102, 97, 108, 115, 101])))
          else bif (k == 5) then (.string (oL (prG n m)))
            else (.string ((ByteArray.mk #[110, 117, 108, 108])))
theorem rVa_fin (k n m : Int) (s : ByteArray) (R1 : Value) (hs : s.size ≤ 140737488351232) (hn : I64 n) (hm : I64 m) (hF1 : (!okV k n m s) = false → (k == 1) = false → (k == 2) = false → (k == 3) = true → Fin cE Tryz.f16 0 (.v R1) [] 0 rprK ([.v (.agg #[(.int .i64 (k)), (.int .i64 (n)), (.int .i64 (m)), (.string (s))]), .p 0 0, .na, .na, .v (.string ((ByteArray.mk #[39]))), .v (.int .i64 (0))] ++ List.replicate 64 .na) [(0, .box 23 [.v (.int .i64 (k)), .v (.int .i64 (n)), .v (.int .i64 (m)), .v (.string (s))])] 1) : Fin cE Tryz.f16 0 (.v (rVa k n m s R1)) [] 0 [.code (bd Tryz.f16)] (argsS [.v (vl k n m s)] Tryz.f16.ntmps) [] 0 := by
  unfold rVa
  refine fbif (fun c1 => ?_) (fun c1 => ?_)
  · exact sfin (keep := [0, 1, 4, 5]) (by decide) [.c (.v (.bool (okV k n m s))) [] 0, .t] (by kernel_rfl) (cj (right4_does (k) (n) (m) (s) (by first | assumption | decide)) (cj c1 cj0))
  · refine fbif (fun c2 => ?_) (fun c2 => ?_)
    · exact sfin (keep := [0, 1, 4, 5]) (by decide) [.c (.v (.bool (okV k n m s))) [] 0, .f, .t, .c (.v (.string (oL (printL n 0)))) [] 0] (by kernel_rfl) (cj (right4_does (k) (n) (m) (s) (by first | assumption | decide)) (cj c1 (cj c2 (cj (rprint_does (n) (0) (by first | assumption | decide)) cj0))))
    · refine fbif (fun c3 => ?_) (fun c3 => ?_)
      · refine fbif (fun c4 => ?_) (fun c4 => ?_)
        · exact sfin (keep := [0, 1, 4, 5]) (by decide) [.c (.v (.bool (okV k n m s))) [] 0, .f, .f, .t, .c (.v (.string (oL (printL n m)))) [] 0, .t] (by kernel_rfl) (cj (right4_does (k) (n) (m) (s) (by first | assumption | decide)) (cj c1 (cj c2 (cj c3 (cj (rprint_does (n) (m) (by first | assumption | decide)) (cj c4 (cj (by (exact pz1 hn) : (oL (printL n m)).size + (ByteArray.mk #[46]).size ≤ 9223372036854775807) cj0)))))))
        · exact sfin (keep := [0, 1, 4, 5]) (by decide) [.c (.v (.bool (okV k n m s))) [] 0, .f, .f, .t, .c (.v (.string (oL (printL n m)))) [] 0, .f] (by kernel_rfl) (cj (right4_does (k) (n) (m) (s) (by first | assumption | decide)) (cj c1 (cj c2 (cj c3 (cj (rprint_does (n) (m) (by first | assumption | decide)) (cj c4 cj0))))))
      · refine fbif (fun c5 => ?_) (fun c5 => ?_)
        · exact sat (keep := [0, 1, 4, 5]) (by decide) [.c (.v (.bool (okV k n m s))) [] 0, .f, .f, .f, .t] (by kernel_rfl) (cj (right4_does (k) (n) (m) (s) (by first | assumption | decide)) (cj c1 (cj c2 (cj c3 (cj c5 cj0))))) (hF1 c1 c2 c3 c5)
        · refine fbif (fun c6 => ?_) (fun c6 => ?_)
          · refine fbif (fun c7 => ?_) (fun c7 => ?_)
            · exact sfin (keep := [0, 1, 4, 5]) (by decide) [.c (.v (.bool (okV k n m s))) [] 0, .f, .f, .f, .f, .t, .t] (by kernel_rfl) (cj (right4_does (k) (n) (m) (s) (by first | assumption | decide)) (cj c1 (cj c2 (cj c3 (cj c5 (cj c6 (cj c7 cj0)))))))
            · exact sfin (keep := [0, 1, 4, 5]) (by decide) [.c (.v (.bool (okV k n m s))) [] 0, .f, .f, .f, .f, .t, .f] (by kernel_rfl) (cj (right4_does (k) (n) (m) (s) (by first | assumption | decide)) (cj c1 (cj c2 (cj c3 (cj c5 (cj c6 (cj c7 cj0)))))))
          · refine fbif (fun c8 => ?_) (fun c8 => ?_)
            · exact sfin (keep := [0, 1, 4, 5]) (by decide) [.c (.v (.bool (okV k n m s))) [] 0, .f, .f, .f, .f, .f, .t, .c (.v (.string (oL (prG n m)))) [] 0] (by kernel_rfl) (cj (right4_does (k) (n) (m) (s) (by first | assumption | decide)) (cj c1 (cj c2 (cj c3 (cj c5 (cj c6 (cj c8 (cj (rgprint_does (n) (m) (by first | assumption | decide) (by first | assumption | decide)) cj0))))))))
            · exact sfin (keep := [0, 1, 4, 5]) (by decide) [.c (.v (.bool (okV k n m s))) [] 0, .f, .f, .f, .f, .f, .f] (by kernel_rfl) (cj (right4_does (k) (n) (m) (s) (by first | assumption | decide)) (cj c1 (cj c2 (cj c3 (cj c5 (cj c6 (cj c8 cj0)))))))
def rVb (k n m : Int) (s : ByteArray) (t : List UInt8) (i f : Nat) (R1 R2 : Value) : Value :=
  bif (decide ((i : Int) < (s.size : Int))) then bif ((((s.data.toList.getD i 0).toNat : Nat) : Int) == 39) then R1
    else R2
  else (.string (oL t ++ (ByteArray.mk #[39])))
theorem rVb_fin (k n m : Int) (s : ByteArray) (t : List UInt8) (i f : Nat) (R1 R2 : Value) (hs : s.size ≤ 256) (hi : i ≤ s.size) (ht : t.length ≤ 2 * i + 1) (hF1 : (decide ((i : Int) < (s.size : Int))) = true → ((((s.data.toList.getD i 0).toNat : Nat) : Int) == 39) = true → Fin cE Tryz.f16 0 (.v R1) [] 0 (inK rprK (f)) ([.v (.agg #[(.int .i64 (k)), (.int .i64 (n)), (.int .i64 (m)), (.string (s))]), .p 0 0, .na, .na, .v (.string (oL t ++ s.extract i (IntKind.i64.wrap ((i : Int) + 1)).toNat ++ (ByteArray.mk #[39]))), .v (.int .i64 (IntKind.i64.wrap ((i : Int) + 1)))] ++ List.replicate 64 .na) [(0, .box 23 [.v (.int .i64 (k)), .v (.int .i64 (n)), .v (.int .i64 (m)), .v (.string (s))])] 1) (hF2 : (decide ((i : Int) < (s.size : Int))) = true → ((((s.data.toList.getD i 0).toNat : Nat) : Int) == 39) = false → Fin cE Tryz.f16 0 (.v R2) [] 0 (inK rprK (f)) ([.v (.agg #[(.int .i64 (k)), (.int .i64 (n)), (.int .i64 (m)), (.string (s))]), .p 0 0, .na, .na, .v (.string (oL t ++ s.extract i (IntKind.i64.wrap ((i : Int) + 1)).toNat)), .v (.int .i64 (IntKind.i64.wrap ((i : Int) + 1)))] ++ List.replicate 64 .na) [(0, .box 23 [.v (.int .i64 (k)), .v (.int .i64 (n)), .v (.int .i64 (m)), .v (.string (s))])] 1) : Fin cE Tryz.f16 0 (.v (rVb k n m s t i f R1 R2)) [] 0 (bodyK rprK f) (rprS k n m s t i) (rprT k n m s) 1 := by
  unfold rVb
  refine fbif (fun c1 => ?_) (fun c1 => ?_)
  · refine fbif (fun c2 => ?_) (fun c2 => ?_)
    · exact sat (keep := [0, 1, 4, 5]) (by decide) [.t, .t] (by kernel_rfl) (cj c1 (cj (rv1 hs c1) (cj (rv2 hs ht hi) (cj (rv3 c1) (cj c2 (cj (rv4 hs ht hi) cj0)))))) (hF1 c1 c2)
    · exact sat (keep := [0, 1, 4, 5]) (by decide) [.t, .f] (by kernel_rfl) (cj c1 (cj (rv1 hs c1) (cj (rv2 hs ht hi) (cj (rv3 c1) (cj c2 cj0))))) (hF2 c1 c2)
  · exact sfin (keep := [0, 1, 4, 5]) (by decide) [.f] (by kernel_rfl) (cj c1 (cj (rv5 hs ht hi) cj0))
end Go.Proofs.YtpfignfgfhbblaaGreatDoorC
/- The reference's Print of values, told. -/
namespace Go.Proofs.YtpfignfgfhbblaaGreatDoorC
open Go.Proofs Go.Proofs.YtpfignfgfhbblaaGreatDoorSx Go.Lib
set_option maxRecDepth 100000
set_option linter.unusedVariables false
theorem bif_same {α : Type} (c : Bool) (a : α) : (bif c then a else a) = a := by cases c <;> rfl
theorem take_one (l : List UInt8) (i : Nat) (h : i < l.length) : (l.drop i).take 1 = [l.getD i 0] := by
  rw [List.drop_eq_getElem_cons h, List.getD_eq_getElem?_getD, List.getElem?_eq_getElem h]
  rfl
theorem take_step (l : List UInt8) (i : Nat) (h : i < l.length) : l.take (i + 1) = l.take i ++ [l.getD i 0] := by
  rw [List.take_add_one, List.getD_eq_getElem?_getD, List.getElem?_eq_getElem h]
  rfl
theorem rv_loop (k n m : Int) (s : ByteArray) (hs : s.size ≤ 256) : ∀ (f i : Nat), i + f = s.size → Fin cE Tryz.f16 0 (.v (st (oL (39 :: (dbl s.data.toList ++ [39]))))) [] 0 (bodyK rprK f) (rprS k n m s (39 :: dbl (s.data.toList.take i)) i) (rprT k n m s) 1 := by
  have hl : s.data.toList.length = s.size := by rw [Array.length_toList]; rfl
  have ht : ∀ i, i ≤ s.size → (39 :: dbl (s.data.toList.take i)).length ≤ 2 * i + 1 := by
    intro i hi
    have := dbl_len (s.data.toList.take i)
    rw [List.length_take] at this
    rw [List.length_cons]
    omega
  intro f
  induction f with
  | zero =>
    intro i hi
    have h := rVb_fin k n m s (39 :: dbl (s.data.toList.take i)) i 0 (it 0) (it 0) hs (by omega) (ht i (by omega)) (fun c1 _ => absurd (of_decide_eq_true c1) (by omega)) (fun c1 _ => absurd (of_decide_eq_true c1) (by omega))
    have e : rVb k n m s (39 :: dbl (s.data.toList.take i)) i 0 (it 0) (it 0) = st (oL (39 :: (dbl s.data.toList ++ [39]))) := by
      unfold rVb
      rw [decide_eq_false (by omega : ¬ (i : Int) < (s.size : Int)), List.take_of_length_le (by omega)]
      show st (oL (39 :: dbl s.data.toList) ++ oL [39]) = _
      rw [oL_app]
      rfl
    rw [e] at h
    exact h
  | succ f ih =>
    intro i hi
    have ih' := ih (i + 1) (by omega)
    have hil : i < s.data.toList.length := by omega
    have ex : s.extract (i : Int).toNat (IntKind.i64.wrap ((i : Int) + 1)).toNat = oL [s.data.toList.getD i 0] := by
      rw [rv_w hs (by omega)]
      have := oL_ext s.data.toList i (i + 1)
      rw [← oL_of, show i + 1 - i = 1 by omega, take_one _ _ hil] at this
      exact this
    have ed : dbl (s.data.toList.take (i + 1)) = dbl (s.data.toList.take i) ++ dbl [s.data.toList.getD i 0] := by rw [take_step _ _ hil, dbl_app]
    have ew := rv_w (s := s) (i := i) hs (by omega)
    have h := rVb_fin k n m s (39 :: dbl (s.data.toList.take i)) i (f + 1) (st (oL (39 :: (dbl s.data.toList ++ [39])))) (st (oL (39 :: (dbl s.data.toList ++ [39])))) hs (by omega) (ht i (by omega)) (fun c1 c2 => by
      have hc : s.data.toList.getD i 0 = 39 := by
        have h2 : (((s.data.toList.getD i 0).toNat : Nat) : Int) = 39 := eq_of_beq c2
        exact UInt8.toNat_inj.1 (by show _ = 39; omega)
      have et : oL (39 :: dbl (s.data.toList.take i)) ++ s.extract (i : Int).toNat (IntKind.i64.wrap ((i : Int) + 1)).toNat ++ ByteArray.mk #[39] = oL (39 :: dbl (s.data.toList.take (i + 1))) := by
        rw [ex, show ByteArray.mk #[39] = oL [39] from rfl, oL_app, oL_app, ed, hc]
        congr 1
        show (39 :: dbl (s.data.toList.take i) ++ [39]) ++ [39] = 39 :: (dbl (s.data.toList.take i) ++ [39, 39])
        simp
      show Fin cE _ 0 _ [] 0 _ ([.v (vl k n m s), .p 0 0, .na, .na, .v (st (oL (39 :: dbl (s.data.toList.take i)) ++ s.extract (i : Int).toNat (IntKind.i64.wrap ((i : Int) + 1)).toNat ++ ByteArray.mk #[39])), .v (it (IntKind.i64.wrap ((i : Int) + 1)))] ++ List.replicate 64 .na) (rprT k n m s) 1
      rw [et, ew]
      exact fin_round ih') (fun c1 c2 => by
      have hc : (s.data.toList.getD i 0 == 39) = false := by
        refine beq_eq_false_iff_ne.2 (fun e => ?_)
        have h2 : ((((s.data.toList.getD i 0).toNat : Nat) : Int) == 39) = false := c2
        rw [e] at h2
        exact absurd h2 (by decide)
      have et : oL (39 :: dbl (s.data.toList.take i)) ++ s.extract (i : Int).toNat (IntKind.i64.wrap ((i : Int) + 1)).toNat = oL (39 :: dbl (s.data.toList.take (i + 1))) := by
        have e1 : dbl [s.data.toList.getD i 0] = [s.data.toList.getD i 0] := by
          show (bif _ == 39 then _ else _) = _
          rw [hc]
          rfl
        rw [ex, oL_app, ed, e1]
        rfl
      show Fin cE _ 0 _ [] 0 _ ([.v (vl k n m s), .p 0 0, .na, .na, .v (st (oL (39 :: dbl (s.data.toList.take i)) ++ s.extract (i : Int).toNat (IntKind.i64.wrap ((i : Int) + 1)).toNat)), .v (it (IntKind.i64.wrap ((i : Int) + 1)))] ++ List.replicate 64 .na) (rprT k n m s) 1
      rw [et, ew]
      exact fin_round ih')
    have e : rVb k n m s (39 :: dbl (s.data.toList.take i)) i (f + 1) (st (oL (39 :: (dbl s.data.toList ++ [39])))) (st (oL (39 :: (dbl s.data.toList ++ [39])))) = st (oL (39 :: (dbl s.data.toList ++ [39]))) := by
      unfold rVb
      rw [decide_eq_true (by omega : (i : Int) < (s.size : Int))]
      exact bif_same _ _
    rw [e] at h
    exact h
theorem rVa_eq (k n m : Int) (s : ByteArray) : rVa k n m s (st (oL (39 :: (dbl s.data.toList ++ [39])))) = st (oL (prV k n m s)) := by
  unfold rVa prV
  cases hok : (!okV k n m s) with
  | true => rfl
  | false =>
    cases h1 : (k == 1) with
    | true =>
      have e : k = 1 := eq_of_beq h1
      subst e
      have h' : okV 1 n m s = true := by simpa using hok
      have h2 : (m == 0 && eqE s) = true := h'
      rw [Bool.and_eq_true] at h2
      have hm : m = 0 := eq_of_beq h2.1
      subst hm
      rfl
    | false =>
      cases h2 : (k == 2) with
      | true =>
        cases h3 : (m == 0) with
        | true =>
          show st (oL (printL n m) ++ oL [46]) = st (oL (printL n m ++ [46]))
          rw [oL_app]
        | false => rfl
      | false =>
        cases h3 : (k == 3) with
        | true => rfl
        | false =>
          cases h4 : (k == 4) with
          | true => cases h5 : (n == 1) <;> rfl
          | false => cases h5 : (k == 5) <;> rfl
/-- The reference's Print is the program's. -/
theorem rvprint_does (k n m : Int) (s : ByteArray) (hs : s.size ≤ 140737488351232) (hn : I64 n) (hm : I64 m) : Does cE 16 [] 0 [.v (vl k n m s)] (.v (st (oL (prV k n m s)))) [] 0 := by
  refine does_of_fin (fn := Tryz.f16) (c := bd Tryz.f16) rfl (by kernel_rfl) rfl ?_
  have h := rVa_fin k n m s (st (oL (39 :: (dbl s.data.toList ++ [39])))) hs hn hm (fun c1 _ _ c4 => fin_loop (s.size + 1) (fin_round (rv_loop k n m s (ok_text c1 c4) s.size 0 (by omega))))
  rw [rVa_eq] at h
  exact h
end Go.Proofs.YtpfignfgfhbblaaGreatDoorC
/- A decimal's text: which signs stand in it; a quoted text. Plain law. -/
namespace Go.Proofs.YtpfignfgfhbblaaGreatDoorC
open Go.Proofs Go.Proofs.YtpfignfgfhbblaaGreatDoorSx Go.Lib
set_option maxRecDepth 100000
set_option linter.unusedVariables false
abbrev dgC (c : UInt8) : Prop := 48 ≤ c.toNat ∧ c.toNat ≤ 57
theorem pad_chars {u sc : Int} {c : UInt8} (h : c ∈ padL u sc) : dgC c := by
  unfold padL at h
  rcases List.mem_append.1 h with h | h
  · have := (List.mem_replicate.1 h).2
    subst this
    decide
  · exact dec_chars h
theorem pad_ge (u sc : Int) : sc.toNat + 1 ≤ (padL u sc).length := by
  rw [pad_len]
  omega
theorem dot_head {u sc : Int} : ∃ c r, dotL (padL u sc) sc = c :: r ∧ dgC c := by
  have hg := pad_ge u sc
  have hc := fun (c : UInt8) (h : c ∈ padL u sc) => pad_chars h
  unfold dotL
  generalize padL u sc = p at *
  cases p with
  | nil => simp at hg
  | cons c q =>
    split
    · exact ⟨c, q, rfl, hc c List.mem_cons_self⟩
    · obtain ⟨j, hj⟩ : ∃ j, (c :: q).length - sc.toNat = j + 1 := ⟨(c :: q).length - sc.toNat - 1, by omega⟩
      rw [hj]
      exact ⟨c, _, rfl, hc c List.mem_cons_self⟩
theorem last_of {l : List UInt8} (h : l ≠ []) : ∃ r c, l = r ++ [c] ∧ c ∈ l := ⟨l.dropLast, l.getLast h, (List.dropLast_concat_getLast h).symm, List.getLast_mem h⟩
theorem dot_last {u sc : Int} (h0 : 0 ≤ sc) : ∃ r c, dotL (padL u sc) sc = r ++ [c] ∧ dgC c := by
  have hg := pad_ge u sc
  have hc := fun (c : UInt8) (h : c ∈ padL u sc) => pad_chars h
  unfold dotL
  generalize padL u sc = p at *
  split
  · obtain ⟨r, c, e, hm⟩ := last_of (l := p) (fun e => by rw [e] at hg; simp at hg)
    exact ⟨r, c, e, hc c hm⟩
  · obtain ⟨r, c, e, hm⟩ := last_of (l := p.drop (p.length - sc.toNat)) (fun e => by
      have := congrArg List.length e
      rw [List.length_drop] at this
      simp at this
      omega)
    refine ⟨p.take (p.length - sc.toNat) ++ 46 :: r, c, ?_, hc c (List.mem_of_mem_drop hm)⟩
    rw [e]
    simp
theorem pl_eq {u sc : Int} (h : 0 ≤ sc ∧ sc ≤ 6) : printL u sc = if u < 0 then 45 :: dotL (padL u sc) sc else dotL (padL u sc) sc := by
  unfold printL
  rw [if_pos h]
theorem pl_head {u sc : Int} (h : 0 ≤ sc ∧ sc ≤ 6) : ∃ c r, printL u sc = c :: r ∧ (c = 45 ∨ dgC c) := by
  rw [pl_eq h]
  split
  · exact ⟨45, _, rfl, .inl rfl⟩
  · obtain ⟨c, r, e, hc⟩ := dot_head (u := u) (sc := sc)
    exact ⟨c, r, e, .inr hc⟩
theorem pl_last {u sc : Int} (h : 0 ≤ sc ∧ sc ≤ 6) : ∃ r c, printL u sc = r ++ [c] ∧ dgC c := by
  rw [pl_eq h]
  obtain ⟨r, c, e, hc⟩ := dot_last (u := u) h.1
  split
  · exact ⟨45 :: r, c, by rw [e]; rfl, hc⟩
  · exact ⟨r, c, e, hc⟩
theorem pl_dot {u sc : Int} (h : 0 < sc ∧ sc ≤ 6) : (46 : UInt8) ∈ printL u sc := by
  rw [pl_eq ⟨by omega, h.2⟩]
  have : (46 : UInt8) ∈ dotL (padL u sc) sc := by
    unfold dotL
    rw [if_neg (by omega)]
    simp
  split
  · exact List.mem_cons_of_mem _ this
  · exact this
theorem pl_nodot {u : Int} : (46 : UInt8) ∉ printL u 0 := by
  intro h
  rw [pl_eq ⟨by decide, by decide⟩] at h
  have hd : (46 : UInt8) ∉ dotL (padL u 0) 0 := by
    unfold dotL
    rw [if_pos rfl]
    intro h
    exact absurd (pad_chars h) (by decide)
  split at h
  · rcases List.mem_cons.1 h with h | h
    · exact absurd h (by decide)
    · exact hd h
  · exact hd h
/-- What stands within quotes: each ' that has one behind it loses that one. -/
def undbl : List UInt8 → List UInt8
  | [] => []
  | c :: l => bif c == 39 then (match l with | [] => [c] | _ :: r => c :: undbl r) else c :: undbl l
theorem undbl_dbl : ∀ l : List UInt8, undbl (dbl l) = l
  | [] => rfl
  | c :: l => by
    have ih := undbl_dbl l
    unfold dbl
    cases hc : (c == 39) with
    | true =>
      have e : c = 39 := eq_of_beq hc
      subst e
      show 39 :: undbl (dbl l) = _
      rw [ih]
    | false =>
      show undbl (c :: dbl l) = _
      have e : undbl (c :: dbl l) = bif c == 39 then (match dbl l with | [] => [c] | _ :: r => c :: undbl r) else c :: undbl (dbl l) := by rw [undbl.eq_def]
      rw [e, hc]
      show c :: undbl (dbl l) = _
      rw [ih]
end Go.Proofs.YtpfignfgfhbblaaGreatDoorC
/- The reference's quoted: bounds. -/
namespace Go.Proofs.YtpfignfgfhbblaaGreatDoorC
open Go.Proofs Go.Proofs.YtpfignfgfhbblaaGreatDoorSx Go.Lib
set_option maxRecDepth 100000
set_option linter.unusedVariables false
section
variable {s : ByteArray} {i : Nat} {l : List Int}
theorem rq1 (hs : s.size ≤ 140737488351232) (c : decide ((i : Int) < IntKind.i64.wrap ((s.size : Int) - 1)) = true) : (0 : Int) ≤ (i : Int) ∧ (i : Int) < (s.size : Int) := by
  have h := of_decide_eq_true c
  rw [wrap64 (by omega) (by omega)] at h
  omega
end
theorem rq2 {a : Nat} {x : Int} (h : a ≤ 140737488351232) : Room (a + [x].length) 1 := by
  unfold Room maxLen
  simp only [List.length_cons, List.length_nil]
  omega
end Go.Proofs.YtpfignfgfhbblaaGreatDoorC
/- The reference's quoted, rounds. Printed by a program (wip/tools); Lean checks each. -/
namespace Go.Proofs.YtpfignfgfhbblaaGreatDoorC
open Go.Proofs Go.Proofs.YtpfignfgfhbblaaGreatDoorSx Go.Lib
set_option maxRecDepth 100000
set_option linter.unusedVariables false
abbrev rquS0 (s : ByteArray) (i : Nat) : List SV := [.v (st s), .na, .na, .v (.slice none 0 0), .v (it i)] ++ List.replicate 21 .na
abbrev rquS (s : ByteArray) (i : Nat) : List SV := [.v (st s), .na, .na, .o 0, .v (it i)] ++ List.replicate 21 .na
abbrev rquT (l : List Int) : Tab cE := [(0, .own 5 l)]
def rQb (s : ByteArray) (i f : Nat) (R1 R2 : Value) : Value :=
  bif (decide ((i : Int) < IntKind.i64.wrap ((s.size : Int) - 1))) then bif ((((s.data.toList.getD i 0).toNat : Nat) : Int) == 39) then R1
    else R2
  else (.string (bytesOf []))
theorem rQb_fin (s : ByteArray) (i f : Nat) (R1 R2 : Value) (hs : s.size ≤ 140737488351232) (hi : i ≤ s.size + 1) (hF1 : (decide ((i : Int) < IntKind.i64.wrap ((s.size : Int) - 1))) = true → ((((s.data.toList.getD i 0).toNat : Nat) : Int) == 39) = true → Fin cE Tryz.f47 0 (.v R1) [] 0 (inK rquK (f)) ([.v (.string (s)), .na, .na, .o 0, .v (.int .i64 (IntKind.i64.wrap (IntKind.i64.wrap ((i : Int) + 1) + 1)))] ++ List.replicate 21 .na) [(0, .own 5 ([] ++ [(((s.data.toList.getD i 0).toNat : Nat) : Int)]))] 1) (hF2 : (decide ((i : Int) < IntKind.i64.wrap ((s.size : Int) - 1))) = true → ((((s.data.toList.getD i 0).toNat : Nat) : Int) == 39) = false → Fin cE Tryz.f47 0 (.v R2) [] 0 (inK rquK (f)) ([.v (.string (s)), .na, .na, .o 0, .v (.int .i64 (IntKind.i64.wrap ((i : Int) + 1)))] ++ List.replicate 21 .na) [(0, .own 5 ([] ++ [(((s.data.toList.getD i 0).toNat : Nat) : Int)]))] 1) : Fin cE Tryz.f47 0 (.v (rQb s i f R1 R2)) [] 0 (bodyK rquK f) (rquS0 s i) [] 0 := by
  unfold rQb
  refine fbif (fun c1 => ?_) (fun c1 => ?_)
  · refine fbif (fun c2 => ?_) (fun c2 => ?_)
    · exact sat (keep := [0, 3, 4]) (by decide) [.t, .t] (by kernel_rfl) (cj c1 (cj (rq1 hs c1) (cj (rq2 (a := 0) (x := (((s.data.toList.getD (i : Int).toNat 0).toNat : Nat) : Int)) (by omega)) (cj (rq1 hs c1) (cj c2 cj0))))) (hF1 c1 c2)
    · exact sat (keep := [0, 3, 4]) (by decide) [.t, .f] (by kernel_rfl) (cj c1 (cj (rq1 hs c1) (cj (rq2 (a := 0) (x := (((s.data.toList.getD (i : Int).toNat 0).toNat : Nat) : Int)) (by omega)) (cj (rq1 hs c1) (cj c2 cj0))))) (hF2 c1 c2)
  · exact sfin (keep := [0, 3, 4]) (by decide) [.f] (by kernel_rfl) (cj c1 cj0)
def rQc (s : ByteArray) (l : List Int) (i f : Nat) (R1 R2 : Value) : Value :=
  bif (decide ((i : Int) < IntKind.i64.wrap ((s.size : Int) - 1))) then bif ((((s.data.toList.getD i 0).toNat : Nat) : Int) == 39) then R1
    else R2
  else (.string (bytesOf l))
theorem rQc_fin (s : ByteArray) (l : List Int) (i f : Nat) (R1 R2 : Value) (hs : s.size ≤ 140737488351232) (hi : i ≤ s.size + 1) (hl : l.length ≤ s.size) (hF1 : (decide ((i : Int) < IntKind.i64.wrap ((s.size : Int) - 1))) = true → ((((s.data.toList.getD i 0).toNat : Nat) : Int) == 39) = true → Fin cE Tryz.f47 0 (.v R1) [] 0 (inK rquK (f)) ([.v (.string (s)), .na, .na, .o 0, .v (.int .i64 (IntKind.i64.wrap (IntKind.i64.wrap ((i : Int) + 1) + 1)))] ++ List.replicate 21 .na) [(0, .own 5 (l ++ [(((s.data.toList.getD i 0).toNat : Nat) : Int)]))] 1) (hF2 : (decide ((i : Int) < IntKind.i64.wrap ((s.size : Int) - 1))) = true → ((((s.data.toList.getD i 0).toNat : Nat) : Int) == 39) = false → Fin cE Tryz.f47 0 (.v R2) [] 0 (inK rquK (f)) ([.v (.string (s)), .na, .na, .o 0, .v (.int .i64 (IntKind.i64.wrap ((i : Int) + 1)))] ++ List.replicate 21 .na) [(0, .own 5 (l ++ [(((s.data.toList.getD i 0).toNat : Nat) : Int)]))] 1) : Fin cE Tryz.f47 0 (.v (rQc s l i f R1 R2)) [] 0 (bodyK rquK f) (rquS s i) (rquT l) 1 := by
  unfold rQc
  refine fbif (fun c1 => ?_) (fun c1 => ?_)
  · refine fbif (fun c2 => ?_) (fun c2 => ?_)
    · exact sat (keep := [0, 3, 4]) (by decide) [.t, .t] (by kernel_rfl) (cj c1 (cj (rq1 hs c1) (cj (rq2 (a := l.length) (x := (((s.data.toList.getD (i : Int).toNat 0).toNat : Nat) : Int)) (by omega)) (cj (rq1 hs c1) (cj c2 cj0))))) (hF1 c1 c2)
    · exact sat (keep := [0, 3, 4]) (by decide) [.t, .f] (by kernel_rfl) (cj c1 (cj (rq1 hs c1) (cj (rq2 (a := l.length) (x := (((s.data.toList.getD (i : Int).toNat 0).toNat : Nat) : Int)) (by omega)) (cj (rq1 hs c1) (cj c2 cj0))))) (hF2 c1 c2)
  · exact sfin (keep := [0, 3, 4]) (by decide) [.f] (by kernel_rfl) (cj c1 cj0)
end Go.Proofs.YtpfignfgfhbblaaGreatDoorC
/- The reference's quoted, its head. Printed by a program (wip/tools); Lean checks each. -/
namespace Go.Proofs.YtpfignfgfhbblaaGreatDoorC
open Go.Proofs Go.Proofs.YtpfignfgfhbblaaGreatDoorSx Go.Lib
set_option maxRecDepth 100000
set_option linter.unusedVariables false
def rQa (s : ByteArray) (R1 : SV × Tab cE × Nat) : SV × Tab cE × Nat :=
  R1
theorem rQa_fin (s : ByteArray) (R1 : SV × Tab cE × Nat) (hs : s.size ≤ 140737488351232) (hF1 : Fin cE Tryz.f47 0 R1.1 R1.2.1 R1.2.2 rquK ([.v (.string (s)), .na, .na, .v (.slice (none) (0) (0)), .v (.int .i64 (1))] ++ List.replicate 21 .na) [] 0) : Fin cE Tryz.f47 0 (rQa s R1).1 (rQa s R1).2.1 (rQa s R1).2.2 [.code (bd Tryz.f47)] (argsS [.v (st s)] Tryz.f47.ntmps) [] 0 := by
  unfold rQa
  exact sat (keep := [0, 3, 4]) (by decide) [] (by kernel_rfl) cj0 (hF1 )
end Go.Proofs.YtpfignfgfhbblaaGreatDoorC
/- The reference's quoted, told. -/
namespace Go.Proofs.YtpfignfgfhbblaaGreatDoorC
open Go.Proofs Go.Proofs.YtpfignfgfhbblaaGreatDoorSx Go.Lib
set_option maxRecDepth 100000
set_option linter.unusedVariables false
abbrev byN (s : ByteArray) (i : Nat) : Int := (((s.data.toList.getD i 0).toNat : Nat) : Int)
def inQ (s : ByteArray) (i : Nat) : Bool := decide ((i : Int) < IntKind.i64.wrap ((s.size : Int) - 1))
/-- What the reference's quoted gathers. -/
def quR (s : ByteArray) : Nat → Nat → List Int → List Int
  | 0, _, a => a
  | f + 1, i, a => bif inQ s i then quR s f (bif byN s i == 39 then i + 2 else i + 1) (a ++ [byN s i]) else a
theorem inQ_sz {s : ByteArray} {i : Nat} (hs : s.size ≤ 140737488351232) (h : inQ s i = true) : i + 1 < s.size + 0 := by
  unfold inQ at h
  have := of_decide_eq_true h
  rw [wrap64 (by omega) (by omega)] at this
  omega
theorem inQ_no {s : ByteArray} {i : Nat} (hs : s.size ≤ 140737488351232) (h : s.size ≤ i + 1) : inQ s i = false := by
  unfold inQ
  rw [wrap64 (by omega) (by omega)]
  exact decide_eq_false (by omega)
abbrev strQ (a : List Int) : Value := .string (List.foldl (fun r n => r.push (UInt8.ofNat n.toNat)) ByteArray.empty a)
theorem rq_loop (s : ByteArray) (hs : s.size ≤ 140737488351232) : ∀ (f i : Nat) (a : List Int), s.size ≤ i + f → i ≤ s.size + 1 → a.length ≤ i → a.length ≤ s.size → Fin cE Tryz.f47 0 (.v (strQ (quR s f i a))) [] 0 (bodyK rquK f) (rquS s i) (rquT a) 1 := by
  intro f
  induction f with
  | zero =>
    intro i a h1 h2 h3 h4
    have hn := inQ_no (s := s) (i := i) hs (by omega)
    have h := rQc_fin s a i 0 (it 0) (it 0) hs h2 h4 (fun c1 _ => absurd (hn.symm.trans c1) (by decide)) (fun c1 _ => absurd (hn.symm.trans c1) (by decide))
    have e : rQc s a i 0 (it 0) (it 0) = strQ a := by
      unfold rQc
      rw [show decide ((i : Int) < IntKind.i64.wrap ((s.size : Int) - 1)) = false from hn]
      rfl
    rw [e] at h
    exact h
  | succ f ih =>
    intro i a h1 h2 h3 h4
    have eq : quR s (f + 1) i a = bif inQ s i then quR s f (bif byN s i == 39 then i + 2 else i + 1) (a ++ [byN s i]) else a := rfl
    rw [eq]
    have h := rQc_fin s a i (f + 1) (strQ (quR s f (i + 2) (a ++ [byN s i]))) (strQ (quR s f (i + 1) (a ++ [byN s i]))) hs h2 h4 (fun c1 c2 => by
      have hb := inQ_sz hs c1
      have e2 : IntKind.i64.wrap (IntKind.i64.wrap ((i : Int) + 1) + 1) = ((i + 2 : Nat) : Int) := by
        rw [wrap64 (n := (i : Int) + 1) (by omega) (by omega), wrap64 (by omega) (by omega)]
        omega
      have h5 := ih (i + 2) (a ++ [byN s i]) (by omega) (by omega) (by simp; omega) (by simp; omega)
      rw [e2]
      exact fin_round h5) (fun c1 c2 => by
      have hb := inQ_sz hs c1
      have e2 : IntKind.i64.wrap ((i : Int) + 1) = ((i + 1 : Nat) : Int) := by
        rw [wrap64 (by omega) (by omega)]
        omega
      have h5 := ih (i + 1) (a ++ [byN s i]) (by omega) (by omega) (by simp; omega) (by simp; omega)
      rw [e2]
      exact fin_round h5)
    have e : rQc s a i (f + 1) (strQ (quR s f (i + 2) (a ++ [byN s i]))) (strQ (quR s f (i + 1) (a ++ [byN s i]))) = strQ (bif inQ s i then quR s f (bif byN s i == 39 then i + 2 else i + 1) (a ++ [byN s i]) else a) := by
      unfold rQc
      show (bif inQ s i then (bif byN s i == 39 then _ else _) else _) = _
      cases inQ s i with
      | false => rfl
      | true => cases (byN s i == 39) <;> rfl
    rw [e] at h
    exact h
end Go.Proofs.YtpfignfgfhbblaaGreatDoorC
/- The reference's quoted, whole. -/
namespace Go.Proofs.YtpfignfgfhbblaaGreatDoorC
open Go.Proofs Go.Proofs.YtpfignfgfhbblaaGreatDoorSx Go.Lib
set_option maxRecDepth 100000
set_option linter.unusedVariables false
theorem rq_first (s : ByteArray) (hs : s.size ≤ 140737488351232) : Fin cE Tryz.f47 0 (.v (strQ (quR s (s.size + 1) 1 []))) [] 0 (bodyK rquK (s.size + 1)) (rquS0 s 1) [] 0 := by
  have eq : quR s (s.size + 1) 1 [] = bif inQ s 1 then quR s s.size (bif byN s 1 == 39 then 3 else 2) [byN s 1] else [] := rfl
  rw [eq]
  have h := rQb_fin s 1 (s.size + 1) (strQ (quR s s.size 3 [byN s 1])) (strQ (quR s s.size 2 [byN s 1])) hs (by omega) (fun c1 c2 => by
    have hb := inQ_sz (i := 1) hs c1
    exact fin_round (rq_loop s hs s.size 3 [byN s 1] (by omega) (by omega) (by simp) (by simp; omega))) (fun c1 c2 => by
    have hb := inQ_sz (i := 1) hs c1
    exact fin_round (rq_loop s hs s.size 2 [byN s 1] (by omega) (by omega) (by simp) (by simp; omega)))
  have e : rQb s 1 (s.size + 1) (strQ (quR s s.size 3 [byN s 1])) (strQ (quR s s.size 2 [byN s 1])) = strQ (bif inQ s 1 then quR s s.size (bif byN s 1 == 39 then 3 else 2) [byN s 1] else []) := by
    unfold rQb
    show (bif inQ s 1 then (bif byN s 1 == 39 then _ else _) else _) = _
    cases inQ s 1 with
    | false => rfl
    | true => cases (byN s 1 == 39) <;> rfl
  rw [e] at h
  exact h
theorem rquoted_does (s : ByteArray) (hs : s.size ≤ 140737488351232) : Does cE 47 [] 0 [.v (st s)] (.v (strQ (quR s (s.size + 1) 1 []))) [] 0 := by
  refine does_of_fin (fn := Tryz.f47) (c := bd Tryz.f47) rfl (by kernel_rfl) rfl ?_
  have h := rQa_fin s (.v (strQ (quR s (s.size + 1) 1 [])), [], 0) hs (fin_loop (s.size + 1 + 1) (fin_round (rq_first s hs)))
  exact h
end Go.Proofs.YtpfignfgfhbblaaGreatDoorC
/- The reference's quoted gives what stands within quotes. Plain law. -/
namespace Go.Proofs.YtpfignfgfhbblaaGreatDoorC
open Go.Proofs Go.Proofs.YtpfignfgfhbblaaGreatDoorSx Go.Lib
set_option maxRecDepth 100000
set_option linter.unusedVariables false
abbrev nums (l : List UInt8) : List Int := l.map fun b => ((b.toNat : Nat) : Int)
theorem push_of (a : List UInt8) (c : UInt8) : (oL a).push c = oL (a ++ [c]) := by
  show ByteArray.mk (a.toArray.push c) = ByteArray.mk (a ++ [c]).toArray
  simp
theorem pushes : ∀ (l a : List UInt8), List.foldl (fun (r : ByteArray) (n : Int) => r.push (UInt8.ofNat n.toNat)) (oL a) (nums l) = oL (a ++ l)
  | [], a => by simp
  | c :: l, a => by
    have e : UInt8.ofNat (((c.toNat : Nat) : Int)).toNat = c := by
      rw [Int.toNat_natCast]
      exact UInt8.ofNat_toNat
    show List.foldl _ ((oL a).push (UInt8.ofNat (((c.toNat : Nat) : Int)).toNat)) (nums l) = _
    rw [e, push_of, pushes l (a ++ [c])]
    simp
theorem bytes_nums (l : List UInt8) : bytesOf (nums l) = oL l := pushes l []
theorem strQ_of (l : List UInt8) : strQ (nums l) = st (oL l) := congrArg Go.Value.string (bytes_nums l)
theorem byN_at (p r : List UInt8) (c : UInt8) : byN (oL (p ++ c :: r)) p.length = ((c.toNat : Nat) : Int) := by
  unfold byN
  rw [oL_data]
  simp
theorem b39 (c : UInt8) : (((c.toNat : Nat) : Int) == 39) = (c == 39) := by
  by_cases h : c = 39
  · subst h
    decide
  · rw [beq_eq_false_iff_ne.2 h]
    refine beq_eq_false_iff_ne.2 (fun e => h ?_)
    have e2 : c.toNat = 39 := by omega
    exact UInt8.toNat_inj.1 e2
theorem inQ_yes {s : ByteArray} {i : Nat} (hs : s.size ≤ 140737488351232) (h : i + 1 < s.size) : inQ s i = true := by
  unfold inQ
  rw [wrap64 (by omega) (by omega)]
  exact decide_eq_true (by omega)
theorem quR_un : ∀ (n : Nat) (rest : List UInt8), rest.length ≤ n → ∀ (f : Nat) (p : List UInt8) (a : List Int) (q : UInt8), rest.length ≤ f → p.length + rest.length + 1 ≤ 140737488351232 →
    quR (oL (p ++ (rest ++ [q]))) f p.length a = a ++ nums (undbl rest)
  | _, [], _, f, p, a, q, _, hs => by
    have hz : (oL (p ++ ([] ++ [q]))).size = p.length + 1 := by rw [oL_size]; simp
    cases f with
    | zero => simp [quR, undbl]
    | succ f =>
      have hn := inQ_no (s := oL (p ++ ([] ++ [q]))) (i := p.length) (by rw [hz]; simp at hs; omega) (by rw [hz]; omega)
      show (bif inQ _ _ then _ else a) = _
      rw [hn]
      simp [undbl]
  | 0, _ :: _, h, _, _, _, _, _, _ => by simp at h
  | n + 1, c :: r, h, 0, p, a, q, hf, hs => by simp at hf
  | n + 1, c :: r, h, f + 1, p, a, q, hf, hs => by
    simp only [List.length_cons] at h hf hs
    have hz : (oL (p ++ (c :: r ++ [q]))).size = p.length + r.length + 2 := by rw [oL_size]; simp; omega
    have hy := inQ_yes (s := oL (p ++ (c :: r ++ [q]))) (i := p.length) (by rw [hz]; omega) (by rw [hz]; omega)
    show (bif inQ _ _ then quR _ f (bif byN _ _ == 39 then _ else _) _ else a) = _
    rw [hy, List.cons_append, byN_at, b39]
    show quR _ f (bif c == 39 then _ else _) _ = _
    cases hc : (c == 39) with
    | true =>
      have e : c = 39 := eq_of_beq hc
      subst e
      cases r with
      | nil =>
        have eu : undbl [39] = [39] := rfl
        rw [eu]
        show quR _ f (p.length + 2) _ = _
        cases f with
        | zero => rfl
        | succ f =>
          have hn := inQ_no (s := oL (p ++ 39 :: ([] ++ [q]))) (i := p.length + 2) (by rw [oL_size]; simp; simp at hs; omega) (by rw [oL_size]; simp)
          show (bif inQ _ _ then _ else _) = _
          rw [hn]
          rfl
      | cons d r =>
        have eu : undbl (39 :: d :: r) = 39 :: undbl r := rfl
        simp only [List.length_cons] at h hf hs
        have ih := quR_un n r (by omega) f (p ++ [39, d]) (a ++ [((39 : UInt8).toNat : Int)]) q (by omega) (by simp; omega)
        rw [eu]
        have e1 : p ++ 39 :: (d :: r ++ [q]) = p ++ [39, d] ++ (r ++ [q]) := by simp
        have e2 : (p ++ [39, d]).length = p.length + 2 := by simp
        rw [e2] at ih
        rw [e1]
        refine ih.trans ?_
        simp
    | false =>
      have eu : undbl (c :: r) = c :: undbl r := by
        rw [undbl.eq_def]
        show (bif c == 39 then _ else _) = _
        rw [hc]
        rfl
      have ih := quR_un n r (by omega) f (p ++ [c]) (a ++ [((c.toNat : Nat) : Int)]) q (by omega) (by simp; omega)
      have e1 : p ++ c :: (r ++ [q]) = p ++ [c] ++ (r ++ [q]) := by simp
      have e2 : (p ++ [c]).length = p.length + 1 := by simp
      rw [e2] at ih
      rw [eu, e1]
      refine ih.trans ?_
      simp
theorem quR_text (l : List UInt8) (hl : l.length ≤ 70368744175000) : strQ (quR (oL (39 :: (dbl l ++ [39]))) ((oL (39 :: (dbl l ++ [39]))).size + 1) 1 []) = st (oL l) := by
  have hd := dbl_len l
  have h := quR_un (dbl l).length (dbl l) (Nat.le_refl _) ((oL (39 :: (dbl l ++ [39]))).size + 1) [39] [] 39 (by rw [oL_size]; simp; omega) (by simp; omega)
  rw [undbl_dbl, List.nil_append] at h
  rw [show quR (oL (39 :: (dbl l ++ [39]))) ((oL (39 :: (dbl l ++ [39]))).size + 1) 1 [] = nums l from h]
  exact strQ_of l
end Go.Proofs.YtpfignfgfhbblaaGreatDoorC
/- datum.quoted: what it comes to. -/
namespace Go.Proofs.YtpfignfgfhbblaaGreatDoorC
open Go.Proofs Go.Proofs.YtpfignfgfhbblaaGreatDoorSx Go.Lib
set_option maxRecDepth 100000
set_option linter.unusedVariables false
/-- What stands behind the first quote: the text, does it end just at the last quote? -/
def qsP : List UInt8 → List UInt8 → List UInt8 × Bool
  | [], _ => ([], false)
  | c :: r, a => bif c == 39 then (match r with
    | [] => (a, true)
    | d :: r' => bif d == 39 then qsP r' (a ++ [39]) else (a, false)) else qsP r (a ++ [c])
theorem qsP_no {c : UInt8} (r a : List UInt8) (h : (c == 39) = false) : qsP (c :: r) a = qsP r (a ++ [c]) := by
  rw [qsP.eq_def]
  show (bif c == 39 then _ else _) = _
  rw [h]
  rfl
theorem getD_at (p r : List UInt8) (c : UInt8) : (oL (p ++ c :: r)).data.toList.getD (p.length : Int).toNat 0 = c := by
  rw [oL_data]
  simp
theorem getD_at1 (p r : List UInt8) (c d : UInt8) : (oL (p ++ c :: d :: r)).data.toList.getD ((p.length : Int) + 1).toNat 0 = d := by
  rw [oL_data]
  have e : ((p.length : Int) + 1).toNat = p.length + 1 := by omega
  rw [e, List.getD_eq_getElem?_getD, List.getElem?_append_right (by omega)]
  simp
theorem nums_snoc (a : List UInt8) (c : UInt8) : nums a ++ [((c.toNat : Nat) : Int)] = nums (a ++ [c]) := by simp
theorem quP_loop : ∀ (n : Nat) (rest : List UInt8), rest.length ≤ n → ∀ (f : Nat) (p a : List UInt8), rest.length + 1 ≤ f → p.length + rest.length ≤ 140737488351232 → a.length ≤ p.length →
    quP (oL (p ++ rest)) f (.l1 (p.length : Int) (nums a)) = some (.v (.tuple #[st (oL (qsP rest a).1), .bool (qsP rest a).2]), [], 0) := by
  intro n
  induction n with
  | zero =>
    intro rest hn f p a hf hs ha
    have e := List.eq_nil_of_length_eq_zero (Nat.le_zero.1 hn)
    subst e
    obtain ⟨f, rfl⟩ : ∃ k, f = k + 1 := ⟨f - 1, by omega⟩
    show quP_l1 _ _ _ _ = _
    unfold quP_l1
    exact bt (decide_eq_true (by rw [oL_size]; simp)) rfl
  | succ n ih =>
    intro rest hn f p a hf hs ha
    obtain ⟨f, rfl⟩ : ∃ k, f = k + 1 := ⟨f - 1, by omega⟩
    show quP_l1 _ _ _ _ = _
    unfold quP_l1
    cases rest with
    | nil => exact bt (decide_eq_true (by rw [oL_size]; simp)) rfl
    | cons c r =>
      simp only [List.length_cons] at hn hf hs
      have hz : ((oL (p ++ c :: r)).size : Int) = p.length + r.length + 1 := by rw [oL_size]; simp; omega
      have hw : IntKind.i64.wrap ((p.length : Int) + 1) = (p.length : Int) + 1 := wrap64 (by omega) (by omega)
      refine bf (decide_eq_false (by omega)) (gp (by omega) ?_)
      rw [getD_at, hw]
      cases hc : (c == 39) with
      | false =>
        have h1 : (((c.toNat : Nat) : Int) != 39) = true := by rw [bne, b39, hc]; rfl
        refine bt h1 (gp (room1 (by simp; omega)) ?_)
        have h := ih r (by omega) f (p ++ [c]) (a ++ [c]) (by omega) (by simp; omega) (by simp; omega)
        have e1 : p ++ [c] ++ r = p ++ c :: r := by simp
        have e2 : ((p ++ [c]).length : Int) = (p.length : Int) + 1 := by simp
        rw [e1, e2] at h
        show quP _ f (.l1 _ (nums a ++ _)) = _
        rw [nums_snoc, h]
        have e3 := qsP_no r a hc
        rw [e3]
      | true =>
        have ec : c = 39 := eq_of_beq hc
        subst ec
        have h1 : ((((39 : UInt8).toNat : Nat) : Int) != 39) = false := rfl
        refine bf h1 ?_
        cases r with
        | nil =>
          refine bf (decide_eq_false (by simp at hz; omega)) ?_
          have e3 : qsP [39] a = (a, true) := by rw [qsP]; rfl
          have e4 : (((p.length : Int) + 1) == ((oL (p ++ [39])).size : Int)) = true := beq_iff_eq.2 (by rw [hz]; simp)
          rw [e3, e4, bytes_nums]
        | cons d r =>
          simp only [List.length_cons] at hn hf hs hz
          refine bt (decide_eq_true (by omega)) (gp (by omega) ?_)
          rw [getD_at1]
          cases hd : (d == 39) with
          | true =>
            have ed : d = 39 := eq_of_beq hd
            subst ed
            refine bt rfl (gp (room1 (by simp; omega)) ?_)
            have hw2 : IntKind.i64.wrap ((p.length : Int) + 1 + 1) = (p.length : Int) + 2 := (wrap64 (by omega) (by omega)).trans (by omega)
            have h := ih r (by omega) f (p ++ [39, 39]) (a ++ [39]) (by omega) (by simp; omega) (by simp; omega)
            have e1 : p ++ [39, 39] ++ r = p ++ 39 :: 39 :: r := by simp
            have e2 : ((p ++ [39, 39]).length : Int) = (p.length : Int) + 2 := by simp
            rw [e1, e2] at h
            show quP _ f (.l1 (IntKind.i64.wrap _) (nums a ++ _)) = _
            rw [hw2, nums_snoc, h]
            have e3 : qsP (39 :: 39 :: r) a = qsP r (a ++ [39]) := by rw [qsP]; rfl
            rw [e3]
          | false =>
            refine bf (by rw [b39, hd]) ?_
            have e3 : qsP (39 :: d :: r) a = (a, false) := by
              rw [qsP.eq_def]
              show (bif d == 39 then _ else _) = _
              rw [hd]
              rfl
            have e4 : (((p.length : Int) + 1) == ((oL (p ++ 39 :: d :: r)).size : Int)) = false := beq_eq_false_iff_ne.2 (by omega)
            rw [e3, e4, bytes_nums]
/-- The step into the loop is as a round, with nothing gathered. -/
theorem quP_start (s : ByteArray) (rec : quP_S → Option Rs) : quP_st s rec = quP_l1 s rec 1 [] := rfl
theorem quP_enter (s : ByteArray) (f : Nat) : quP s (f + 1) .st = quP s (f + 1) (.l1 1 []) := quP_start s _
theorem quoted_does (s : ByteArray) (hs : s.size ≤ 140737488351232) (h0 : 1 ≤ s.size) : Does cE 92 [] 0 [.v (st s)] (.v (.tuple #[st (oL (qsP (s.data.toList.drop 1) []).1), .bool (qsP (s.data.toList.drop 1) []).2])) [] 0 := by
  refine Does.of (quP_does s (s.size + 2) (r := (_, _, _)) ?_) rfl
  obtain ⟨l, rfl⟩ : ∃ l, s = oL l := ⟨_, oL_of s⟩
  rw [oL_size] at hs h0
  cases l with
  | nil => simp at h0
  | cons c r =>
    simp only [List.length_cons] at hs
    have h := quP_loop r.length r (Nat.le_refl _) ((oL (c :: r)).size + 2) [c] [] (by rw [oL_size, List.length_cons]; omega) (by simp; omega) (by simp)
    rw [oL_data, quP_enter]
    exact h
end Go.Proofs.YtpfignfgfhbblaaGreatDoorC
/- datum.read, walked. Printed by a program (wip/tools); Lean checks each. -/
namespace Go.Proofs.YtpfignfgfhbblaaGreatDoorC
open Go.Proofs Go.Proofs.YtpfignfgfhbblaaGreatDoorSx Go.Lib
set_option maxRecDepth 100000
set_option linter.unusedVariables false
noncomputable def reP (s : ByteArray) : Option Rs :=
  bif (s.toList == (ByteArray.mk #[]).toList) then some ((.v (.tuple #[(.agg #[(.int .i64 ((0 : Int))), (.int .i64 ((0 : Int))), (.int .i64 ((0 : Int))), (.string ((ByteArray.mk #[])))]), (.bool (false))]) : SV), ([] : Tab cE), 0)
  else bif (s.toList == (ByteArray.mk #[(110 : UInt8), (117 : UInt8), (108 : UInt8), (108 : UInt8)]).toList) then some ((.v (.tuple #[(.agg #[(.int .i64 ((0 : Int))), (.int .i64 ((0 : Int))), (.int .i64 ((0 : Int))), (.string ((ByteArray.mk #[])))]), (.bool (true))]) : SV), ([] : Tab cE), 0)
    else bif (s.toList == (ByteArray.mk #[(116 : UInt8), (114 : UInt8), (117 : UInt8), (101 : UInt8)]).toList) then some ((.v (.tuple #[(.agg #[(.int .i64 (ofK (IntKind.i64.wrap ((5 : Int) - (s.size : Int))))), (.int .i64 (ofN (IntKind.i64.wrap ((5 : Int) - (s.size : Int))))), (.int .i64 ((0 : Int))), (.string (bE))]), (.bool (true))]) : SV), ([] : Tab cE), 0)
      else bif (s.toList == (ByteArray.mk #[(102 : UInt8), (97 : UInt8), (108 : UInt8), (115 : UInt8), (101 : UInt8)]).toList) then some ((.v (.tuple #[(.agg #[(.int .i64 (ofK (IntKind.i64.wrap ((5 : Int) - (s.size : Int))))), (.int .i64 (ofN (IntKind.i64.wrap ((5 : Int) - (s.size : Int))))), (.int .i64 ((0 : Int))), (.string (bE))]), (.bool (true))]) : SV), ([] : Tab cE), 0)
        else grd ((0 : Int) ≤ (0 : Int) ∧ (0 : Int) < (s.size : Int)) (bif ((((s.data.toList.getD (Int.toNat (0 : Int)) (0 : UInt8)).toNat : Nat) : Int) == (39 : Int)) then grd ((s).size ≤ 140737488351232) (grd (1 ≤ (s).size) (some ((.v (.tuple #[(.agg #[(.int .i64 ((3 : Int))), (.int .i64 ((0 : Int))), (.int .i64 ((0 : Int))), (.string (oL (qsP (List.drop (1 : Nat) s.data.toList) []).fst))]), (.bool ((qsP (List.drop (1 : Nat) s.data.toList) []).snd))]) : SV), ([] : Tab cE), 0)))
            else bif ((((s.data.toList.getD (Int.toNat (0 : Int)) (0 : UInt8)).toNat : Nat) : Int) == (60 : Int)) then grd ((s).data.toList.length ≤ 140737488355328) (some ((.v (.tuple #[(.agg #[(.int .i64 ((5 : Int))), (.int .i64 ((gpL s.data.toList).fst)), (.int .i64 ((gpL s.data.toList).snd.fst)), (.string ((ByteArray.mk #[])))]), (.bool ((gpL s.data.toList).snd.snd == (0 : Int)))]) : SV), ([] : Tab cE), 0))
              else grd ((s).data.toList.length ≤ 140737488355328) (grd ((oL (Go.Lib.trimSuffix s.data.toList [46])).data.toList.length ≤ 9223372036854775807) (bif (!decide ((0 : Int) ≤ Go.Lib.indexByte s.data.toList (46 : UInt8))) then some ((.v (.tuple #[(.agg #[(.int .i64 ((1 : Int))), (.int .i64 ((parseL (Go.Lib.trimSuffix s.data.toList [(46 : UInt8)])).fst)), (.int .i64 ((parseL (Go.Lib.trimSuffix s.data.toList [(46 : UInt8)])).snd.fst)), (.string ((ByteArray.mk #[])))]), (.bool ((parseL (Go.Lib.trimSuffix s.data.toList [(46 : UInt8)])).snd.snd == (0 : Int)))]) : SV), ([] : Tab cE), 0)
                    else some ((.v (.tuple #[(.agg #[(.int .i64 ((2 : Int))), (.int .i64 ((parseL (Go.Lib.trimSuffix s.data.toList [(46 : UInt8)])).fst)), (.int .i64 ((parseL (Go.Lib.trimSuffix s.data.toList [(46 : UInt8)])).snd.fst)), (.string ((ByteArray.mk #[])))]), (.bool ((parseL (Go.Lib.trimSuffix s.data.toList [(46 : UInt8)])).snd.snd == (0 : Int)))]) : SV), ([] : Tab cE), 0))))
theorem reP_does (s : ByteArray) {r : Rs} (h : reP s = some r) : Does cE 45 [] 0 [.v (st s)] r.1 r.2.1 r.2.2 := by
  unfold reP at h
  refine does_of_fin (fn := Tryz.f45) (c := bd Tryz.f45) rfl (by kernel_rfl) rfl ?_
  refine obif h (fun c1 h => ?_) (fun c1 h => ?_)
  · exact osome h (sfin (keep := []) (by decide) [.t] (by kernel_rfl) (cj c1 cj0))
  · refine obif h (fun c2 h => ?_) (fun c2 h => ?_)
    · exact osome h (sfin (keep := []) (by decide) [.f, .t] (by kernel_rfl) (cj c1 (cj c2 cj0)))
    · refine obif h (fun c3 h => ?_) (fun c3 h => ?_)
      · exact osome h (sfin (keep := []) (by decide) [.f, .f, .t, .t, .t, .l, .c (.v (.agg #[(.int .i64 (ofK (IntKind.i64.wrap (5 - (s.size : Int))))), (.int .i64 (ofN (IntKind.i64.wrap (5 - (s.size : Int))))), (.int .i64 (0)), (.string (bE))])) [] 0] (by kernel_rfl) (cj c1 (cj c2 (cj c3 (cj c3 (cj c3 (cj (of_does (IntKind.i64.wrap ((5 : Int) - (s.size : Int)))) cj0)))))))
      · refine obif h (fun c4 h => ?_) (fun c4 h => ?_)
        · exact osome h (sfin (keep := []) (by decide) [.f, .f, .f, .f, .f, .t, .c (.v (.agg #[(.int .i64 (ofK (IntKind.i64.wrap (5 - (s.size : Int))))), (.int .i64 (ofN (IntKind.i64.wrap (5 - (s.size : Int))))), (.int .i64 (0)), (.string (bE))])) [] 0] (by kernel_rfl) (cj c1 (cj c2 (cj c3 (cj c3 (cj c3 (cj c4 (cj (of_does (IntKind.i64.wrap ((5 : Int) - (s.size : Int)))) cj0))))))))
        · refine ogrd h (fun c5 h => ?_)
          refine obif h (fun c6 h => ?_) (fun c6 h => ?_)
          · refine ogrd h (fun c7 h => ?_)
            refine ogrd h (fun c8 h => ?_)
            exact osome h (sfin (keep := []) (by decide) [.f, .f, .f, .f, .f, .f, .t, .c (.v (.tuple #[(.string (oL (qsP (List.drop 1 s.data.toList) []).fst)), (.bool ((qsP (List.drop 1 s.data.toList) []).snd))])) [] 0] (by kernel_rfl) (cj c1 (cj c2 (cj c3 (cj c3 (cj c3 (cj c4 (cj c5 (cj c6 (cj (quoted_does (s) (by assumption) (by assumption)) cj0))))))))))
          · refine obif h (fun c9 h => ?_) (fun c9 h => ?_)
            · refine ogrd h (fun c10 h => ?_)
              exact osome h (sfin (keep := []) (by decide) [.f, .f, .f, .f, .f, .f, .f, .t, .c (.v (.tuple #[(.agg #[(.int .i64 ((gpL s.data.toList).fst)), (.int .i64 ((gpL s.data.toList).snd.fst))]), (.int .i64 ((gpL s.data.toList).snd.snd))])) [] 0] (by kernel_rfl) (cj c1 (cj c2 (cj c3 (cj c3 (cj c3 (cj c4 (cj c5 (cj c6 (cj c5 (cj c9 (cj (gparse_does (s).data.toList (by assumption)) cj0))))))))))))
            · refine ogrd h (fun c11 h => ?_)
              refine ogrd h (fun c12 h => ?_)
              refine obif h (fun c13 h => ?_) (fun c13 h => ?_)
              · exact osome h (sfin (keep := []) (by decide) [.f, .f, .f, .f, .f, .f, .f, .f, .c (.v (.string (oL (Go.Lib.trimSuffix s.data.toList [46])))) [] 0, .c (.v (.tuple #[(.agg #[(.int .i64 ((parseL (Go.Lib.trimSuffix s.data.toList [46])).fst)), (.int .i64 ((parseL (Go.Lib.trimSuffix s.data.toList [46])).snd.fst))]), (.int .i64 ((parseL (Go.Lib.trimSuffix s.data.toList [46])).snd.snd))])) [] 0, .c (.v (.bool (decide (0 ≤ Go.Lib.indexByte s.data.toList 46)))) [] 0, .t] (by kernel_rfl) (cj c1 (cj c2 (cj c3 (cj c3 (cj c3 (cj c4 (cj c5 (cj c6 (cj c5 (cj c9 (cj (trims_does (s).data.toList (by assumption)) (cj (parse_does (oL (Go.Lib.trimSuffix s.data.toList [(46 : UInt8)])).data.toList (by assumption)) (cj (cont46_does (s).data.toList) (cj c13 cj0)))))))))))))))
              · exact osome h (sfin (keep := []) (by decide) [.f, .f, .f, .f, .f, .f, .f, .f, .c (.v (.string (oL (Go.Lib.trimSuffix s.data.toList [46])))) [] 0, .c (.v (.tuple #[(.agg #[(.int .i64 ((parseL (Go.Lib.trimSuffix s.data.toList [46])).fst)), (.int .i64 ((parseL (Go.Lib.trimSuffix s.data.toList [46])).snd.fst))]), (.int .i64 ((parseL (Go.Lib.trimSuffix s.data.toList [46])).snd.snd))])) [] 0, .c (.v (.bool (decide (0 ≤ Go.Lib.indexByte s.data.toList 46)))) [] 0, .f] (by kernel_rfl) (cj c1 (cj c2 (cj c3 (cj c3 (cj c3 (cj c4 (cj c5 (cj c6 (cj c5 (cj c9 (cj (trims_does (s).data.toList (by assumption)) (cj (parse_does (oL (Go.Lib.trimSuffix s.data.toList [(46 : UInt8)])).data.toList (by assumption)) (cj (cont46_does (s).data.toList) (cj c13 cj0)))))))))))))))
end Go.Proofs.YtpfignfgfhbblaaGreatDoorC
