/- The statement FnExactCrewNew holds for all arguments; part 1 of the texts that show it. No further condition. -/
import Derived.Test.YtfjhjfddgdokgaaFnExactCrewNewP0
import Derived.Test.YtfjhjfddgdokgaaProg
import Derived.KernelRfl
import Derived.Test.YtfjhjfddgdokgaaChecked
import Derived.Test.YtfjhjfddgdokgaaRows
import Derived.WalkKit
import Derived.ProofKit
import Derived.OpenShut
import Derived.ShutString
import Derived.ChangeOld
import Derived.Below
import Derived.SizedLaws
import Derived.Lib.SmallJoins
import Derived.Deep.Slices
import Derived.Deep.Fields
import Derived.ChangeSame
import Derived.Laws.BitsAllLaws
import Derived.ChangeKeysEq
namespace Go.Proofs.Ytfjhjfddgdokgaa
open Go Go.RowKit
set_option maxRecDepth 100000
def ir88 : XF := ⟨22, [(.tmp 4)], (.seq (.ops [(qO 4 (.mov (.const (.bool false))))]) (.seq (.seq (.ops [(qM 6 0), (qO 7 (.len (qT 6))), (qM 8 1), (qO 9 (.bin .neq (qT 7) (qT 8)))]) (.cond (qT 9) (.seq (.ops [(qO 4 (.mov (.const (.bool false))))]) .ret) .skip)) (.seq (.seq (.ops [(qO 5 (.mov (qI 0)))]) (.block 0 (.loop (.seq (.seq (.ops [(qM 10 5), (qM 11 0), (qO 12 (.len (qT 11))), (qO 13 (.bin .lss (qT 10) (qT 12)))]) (.cond (qT 13) .skip (.exit 0))) (.seq (.block 1 (.seq (.ops [(qM 16 0), (qM 17 5), (qO 18 (.idx 1 (qT 16) (qT 17))), (qO 19 (.ld (qT 18))), (qO 20 (qC 144 [(qT 19)])), (qO 21 (.not (qT 20)))]) (.cond (qT 21) (.seq (.ops [(qO 4 (.mov (.const (.bool false))))]) .ret) .skip))) (.ops [(qM 14 5), (qO 15 (.bin .add (qT 14) (qI 1))), (qM 5 15)])))))) (.seq (.ops [(qO 4 (.mov (.const (.bool true))))]) .ret))))⟩
theorem of88 : XF.of Try.prog Try.f88 = some ir88 := by kernel_rfl
def ir91 : XF := ⟨37, [(.tmp 8)], (.seq (.ops [(qO 8 (.mov (.const (.bool false))))]) (.seq (.ops [(qM 9 0), (qO 10 (.bin .geq (qT 9) (qI 1))), (qM 11 10), (qG 12 (.mov (qT 0)) 11 true), (qG 13 (.bin .leq (qT 12) (qI 3)) 11 true), (qO 14 (.pick (qT 11) (qT 13) (.const (.bool false)))), (qM 15 14), (qG 16 (.mov (qT 1)) 15 true), (qG 17 (.bin .geq (qT 16) (qI 0)) 15 true), (qO 18 (.pick (qT 15) (qT 17) (.const (.bool false)))), (qM 19 18), (qG 20 (.mov (qT 1)) 19 true), (qG 21 (.mov (qT 0)) 19 true), (qG 22 (.bin .lss (qT 20) (qT 21)) 19 true), (qO 23 (.pick (qT 19) (qT 22) (.const (.bool false)))), (qM 24 23), (qG 25 (.mov (qT 2)) 24 true), (qG 26 (.bin .geq (qT 25) (qI 0)) 24 true), (qO 27 (.pick (qT 24) (qT 26) (.const (.bool false)))), (qM 28 27), (qG 29 (.mov (qT 2)) 28 true), (qG 30 (.mov (qT 0)) 28 true), (qG 31 (.bin .leq (qT 29) (qT 30)) 28 true), (qO 32 (.pick (qT 28) (qT 31) (.const (.bool false)))), (qM 33 32), (qG 34 (.mov (qT 3)) 33 true), (qG 35 (qC 147 [(qT 34)]) 33 true), (qO 36 (.pick (qT 33) (qT 35) (.const (.bool false)))), (qM 8 36)]) .ret))⟩
theorem of91 : XF.of Try.prog Try.f91 = some ir91 := by kernel_rfl
def ir92 : XF := ⟨18, [(.tmp 2)], (.seq (.ops [(qO 2 (.mov (.const (.bool false))))]) (.seq (.seq (.ops [(qM 5 0), (qO 6 (.len (qT 5))), (qO 7 (.mov (qI 0)))]) (.block 0 (.loop (.seq (.ops [(qO 8 (.bin .lss (qT 7) (qT 6)))]) (.seq (.cond (qT 8) .skip (.exit 0)) (.seq (.block 1 (.seq (.ops [(qO 9 (.idx 2 (qT 5) (qT 7))), (qO 10 (.ldn 2 (qT 9))), (qO 4 (.new [(.int .i64 0), (.slice none 0 0)] 179)), ⟨none, (.st 2 (qT 4) (qT 10)), none⟩]) (.seq (.ops [(qO 11 (.ldn 2 (qT 4))), (qO 12 (qC 148 [(qT 11)])), (qO 13 (.not (qT 12)))]) (.cond (qT 13) (.seq (.ops [(qO 2 (.mov (.const (.bool false))))]) .ret) .skip)))) (.ops [(qO 14 (.bin .add (qT 7) (qI 1))), (qM 7 14)]))))))) (.seq (.ops [(qM 15 0), (qO 16 (.len (qT 15))), (qO 17 (.bin .leq (qT 16) (qI 3))), (qM 2 17)]) .ret)))⟩
theorem of92 : XF.of Try.prog Try.f92 = some ir92 := by kernel_rfl
def ir93 : XF := ⟨12, [(.tmp 4)], (.seq (.ops [(qO 2 (.box 125 (qT 0))), (qO 4 (.mov (.const (.bool false))))]) (.seq (.ops [(qM 5 1), (qO 6 (qC 116 [(qT 5)])), (qM 7 6), (qG 8 (.ldn 2 (qT 2)) 7 true), (qG 9 (.mov (qT 1)) 7 true), (qG 10 (qC 149 [(qT 8), (qT 9)]) 7 true), (qO 11 (.pick (qT 7) (qT 10) (.const (.bool false)))), (qM 4 11)]) .ret))⟩
theorem of93 : XF.of Try.prog Try.f93 = some ir93 := by kernel_rfl
def ir94 : XF := ⟨19, [(.tmp 4)], (.seq (.ops [(qO 2 (.box 111 (qT 0))), (qO 4 (.mov (.const (.bool false))))]) (.seq (.ops [(qO 5 (.fld 0 (qT 2))), (qO 6 (.ld (qT 5))), (qO 7 (.bin .neq (qT 6) (qI 6))), (qM 8 7), (qG 9 (.fld 0 (qT 2)) 8 true), (qG 10 (.ld (qT 9)) 8 true), (qG 11 (.bin .neq (qT 10) (qI 7)) 8 true), (qO 12 (.pick (qT 8) (qT 11) (.const (.bool false)))), (qM 13 12), (qG 14 (.fld 4 (qT 2)) 13 false), (qG 15 (.ld (qT 14)) 13 false), (qG 16 (.mov (qT 1)) 13 false), (qG 17 (.bin .lss (qT 15) (qT 16)) 13 false), (qO 18 (.pick (qT 13) (.const (.bool true)) (qT 17))), (qM 4 18)]) .ret))⟩
theorem of94 : XF.of Try.prog Try.f94 = some ir94 := by kernel_rfl
def ir95 : XF := ⟨27, [(.tmp 4)], (.seq (.ops [(qO 4 (.mov (.const (.bool false))))]) (.seq (.seq (.ops [(qM 6 0), (qO 7 (.len (qT 6))), (qM 8 1), (qO 9 (.len (qT 8))), (qO 10 (.bin .neq (qT 7) (qT 9)))]) (.cond (qT 10) (.seq (.ops [(qO 4 (.mov (.const (.bool false))))]) .ret) .skip)) (.seq (.seq (.ops [(qO 5 (.mov (qI 0)))]) (.block 0 (.loop (.seq (.seq (.ops [(qM 11 5), (qM 12 0), (qO 13 (.len (qT 12))), (qO 14 (.bin .lss (qT 11) (qT 13)))]) (.cond (qT 14) .skip (.exit 0))) (.seq (.block 1 (.seq (.draw (.take (qM 17 0) (.take (qM 18 5) (.take (qO 19 (.idx 2 (qT 17) (qT 18))) (.take (qO 20 (.ldn 2 (qT 19))) (.take (qM 21 1) (.take (qM 22 5) (.take (qO 23 (.idx 2 (qT 21) (qT 22))) (.take (qO 24 (.ldn 2 (qT 23))) (.alt (qO 25 (qC 150 [(qT 20), (qT 24)])) (.take (qO 26 (.not (qT 25))) .done) .none_)))))))))) (.cond (qT 26) (.seq (.ops [(qO 4 (.mov (.const (.bool false))))]) .ret) .skip))) (.ops [(qM 15 5), (qO 16 (.bin .add (qT 15) (qI 1))), (qM 5 16)])))))) (.seq (.ops [(qO 4 (.mov (.const (.bool true))))]) .ret))))⟩
theorem of95 : XF.of Try.prog Try.f95 = some ir95 := by kernel_rfl
def ir96 : XF := ⟨27, [(.tmp 4)], (.seq (.ops [(qO 4 (.mov (.const (.bool false))))]) (.seq (.seq (.ops [(qM 6 0), (qO 7 (.len (qT 6))), (qM 8 1), (qO 9 (.len (qT 8))), (qO 10 (.bin .neq (qT 7) (qT 9)))]) (.cond (qT 10) (.seq (.ops [(qO 4 (.mov (.const (.bool false))))]) .ret) .skip)) (.seq (.seq (.ops [(qO 5 (.mov (qI 0)))]) (.block 0 (.loop (.seq (.seq (.ops [(qM 11 5), (qM 12 0), (qO 13 (.len (qT 12))), (qO 14 (.bin .lss (qT 11) (qT 13)))]) (.cond (qT 14) .skip (.exit 0))) (.seq (.block 1 (.seq (.draw (.take (qM 17 0) (.take (qM 18 5) (.take (qO 19 (.idx 2 (qT 17) (qT 18))) (.take (qO 20 (.ldn 2 (qT 19))) (.take (qM 21 1) (.take (qM 22 5) (.take (qO 23 (.idx 2 (qT 21) (qT 22))) (.take (qO 24 (.ldn 2 (qT 23))) (.alt (qO 25 (qC 151 [(qT 20), (qT 24)])) (.take (qO 26 (.not (qT 25))) .done) .none_)))))))))) (.cond (qT 26) (.seq (.ops [(qO 4 (.mov (.const (.bool false))))]) .ret) .skip))) (.ops [(qM 15 5), (qO 16 (.bin .add (qT 15) (qI 1))), (qM 5 16)])))))) (.seq (.ops [(qO 4 (.mov (.const (.bool true))))]) .ret))))⟩
theorem of96 : XF.of Try.prog Try.f96 = some ir96 := by kernel_rfl
def ir97 : XF := ⟨19, [(.tmp 2)], (.seq (.ops [(qO 2 (.mov (.const (.bool false))))]) (.seq (.seq (.ops [(qO 3 (.mov (qI 0)))]) (.block 0 (.loop (.seq (.seq (.ops [(qM 4 3), (qM 5 0), (qO 6 (.len (qT 5))), (qO 7 (.bin .lss (qT 4) (qT 6)))]) (.cond (qT 7) .skip (.exit 0))) (.seq (.block 1 (.seq (.ops [(qM 10 0), (qM 11 3), (qO 12 (.idx 1 (qT 10) (qT 11))), (qO 13 (.ld (qT 12))), (qO 14 (qC 84 [(qT 13), (qI 1), (qI 4)])), (qO 15 (.not (qT 14)))]) (.cond (qT 15) (.seq (.ops [(qO 2 (.mov (.const (.bool false))))]) .ret) .skip))) (.ops [(qM 8 3), (qO 9 (.bin .add (qT 8) (qI 1))), (qM 3 9)])))))) (.seq (.ops [(qM 16 0), (qO 17 (.len (qT 16))), (qO 18 (.bin .leq (qT 17) (qI 3))), (qM 2 18)]) .ret)))⟩
theorem of97 : XF.of Try.prog Try.f97 = some ir97 := by kernel_rfl
def ir98 : XF := ⟨22, [(.tmp 2)], (.seq (.ops [(qO 2 (.mov (.const (.slice none 0 0))))]) (.seq (.ops [(qO 5 (.lit [] 29 0 [])), (qM 3 5)]) (.seq (.seq (.ops [(qO 4 (.mov (qI 0)))]) (.block 0 (.loop (.seq (.seq (.ops [(qM 6 4), (qM 7 0), (qO 8 (.len (qT 7))), (qO 9 (.bin .lss (qT 6) (qT 8)))]) (.cond (qT 9) .skip (.exit 0))) (.seq (.block 1 (.ops [(qM 12 3), (qO 13 (.lit [] 111 0 [])), (qM 14 0), (qM 15 4), (qO 16 (.idx 1 (qT 14) (qT 15))), (qO 17 (.ld (qT 16))), (qO 18 (.app [(.int .i64 0), (.int .i64 0), (.int .i64 0), (.int .i64 0), (.int .i64 0)] 111 40 (qT 13) (qT 17))), (qO 19 (.lit [(.slice none 0 0)] 29 1 [(0, (1, (qT 18)))])), (qO 20 (.app [(.slice none 0 0)] 29 24 (qT 12) (qT 19))), (qM 3 20)])) (.ops [(qM 10 4), (qO 11 (.bin .add (qT 10) (qI 1))), (qM 4 11)])))))) (.seq (.ops [(qM 21 3), (qM 2 21)]) .ret))))⟩
theorem of98 : XF.of Try.prog Try.f98 = some ir98 := by kernel_rfl
def ir99 : XF := ⟨22, [(.tmp 2)], (.seq (.ops [(qO 2 (.mov (.const (.slice none 0 0))))]) (.seq (.ops [(qO 5 (.lit [] 179 0 [])), (qM 3 5)]) (.seq (.seq (.ops [(qO 4 (.mov (qI 0)))]) (.block 0 (.loop (.seq (.seq (.ops [(qM 6 4), (qM 7 0), (qO 8 (.len (qT 7))), (qO 9 (.bin .lss (qT 6) (qT 8)))]) (.cond (qT 9) .skip (.exit 0))) (.seq (.block 1 (.ops [(qM 12 3), (qM 13 0), (qM 14 4), (qO 15 (.idx 1 (qT 13) (qT 14))), (qO 16 (.ld (qT 15))), (qO 17 (.lit [] 3 0 [])), (qO 18 (.agg [(.int .i64 0), (.slice none 0 0)] [(0, (1, (qT 16))), (1, (1, (qT 17)))])), (qO 19 (.lit [(.int .i64 0), (.slice none 0 0)] 179 1 [(0, (2, (qT 18)))])), (qO 20 (.app [(.int .i64 0), (.slice none 0 0)] 179 32 (qT 12) (qT 19))), (qM 3 20)])) (.ops [(qM 10 4), (qO 11 (.bin .add (qT 10) (qI 1))), (qM 4 11)])))))) (.seq (.ops [(qM 21 3), (qM 2 21)]) .ret))))⟩
theorem of99 : XF.of Try.prog Try.f99 = some ir99 := by kernel_rfl
def ir100 : XF := ⟨19, [(.tmp 2)], (.seq (.ops [(qO 2 (.mov (.const (.slice none 0 0))))]) (.seq (.ops [(qO 3 (.mov (.const (.slice none 0 0))))]) (.seq (.seq (.ops [(qM 6 0), (qO 7 (.len (qT 6))), (qO 8 (.mov (qI 0)))]) (.block 0 (.loop (.seq (.ops [(qO 9 (.bin .lss (qT 8) (qT 7)))]) (.seq (.cond (qT 9) .skip (.exit 0)) (.seq (.block 1 (.seq (.ops [(qO 10 (.idx 1 (qT 6) (qT 8))), (qO 11 (.ld (qT 10))), (qM 5 11)]) (.ops [(qM 12 3), (qM 13 5), (qO 14 (qC 123 [(qT 13)])), (qO 15 (.lit [(.slice none 0 0)] 29 1 [(0, (1, (qT 14)))])), (qO 16 (.app [(.slice none 0 0)] 29 24 (qT 12) (qT 15))), (qM 3 16)]))) (.ops [(qO 17 (.bin .add (qT 8) (qI 1))), (qM 8 17)]))))))) (.seq (.ops [(qM 18 3), (qM 2 18)]) .ret))))⟩
theorem of100 : XF.of Try.prog Try.f100 = some ir100 := by kernel_rfl
def ir101 : XF := ⟨19, [(.tmp 2)], (.seq (.ops [(qO 2 (.mov (.const (.slice none 0 0))))]) (.seq (.ops [(qO 3 (.mov (.const (.slice none 0 0))))]) (.seq (.seq (.ops [(qM 6 0), (qO 7 (.len (qT 6))), (qO 8 (.mov (qI 0)))]) (.block 0 (.loop (.seq (.ops [(qO 9 (.bin .lss (qT 8) (qT 7)))]) (.seq (.cond (qT 9) .skip (.exit 0)) (.seq (.block 1 (.seq (.ops [(qO 10 (.idx 1 (qT 6) (qT 8))), (qO 11 (.ld (qT 10))), (qM 5 11)]) (.ops [(qM 12 3), (qM 13 5), (qO 14 (.agg [(.int .i64 0), (.slice none 0 0)] [(0, (1, (qT 13)))])), (qO 15 (.lit [(.int .i64 0), (.slice none 0 0)] 179 1 [(0, (2, (qT 14)))])), (qO 16 (.app [(.int .i64 0), (.slice none 0 0)] 179 32 (qT 12) (qT 15))), (qM 3 16)]))) (.ops [(qO 17 (.bin .add (qT 8) (qI 1))), (qM 8 17)]))))))) (.seq (.ops [(qM 18 3), (qM 2 18)]) .ret))))⟩
theorem of101 : XF.of Try.prog Try.f101 = some ir101 := by kernel_rfl
def ir102 : XF := ⟨21, [(.tmp 2)], (.seq (.ops [(qO 2 (.mov (.const (.bool false))))]) (.seq (.seq (.ops [(qM 5 0), (qO 6 (.len (qT 5))), (qO 7 (.mov (qI 0)))]) (.block 0 (.loop (.seq (.ops [(qO 8 (.bin .lss (qT 7) (qT 6)))]) (.seq (.cond (qT 8) .skip (.exit 0)) (.seq (.block 1 (.seq (.ops [(qO 9 (.idx 1 (qT 5) (qT 7))), (qO 10 (.ld (qT 9))), (qM 4 10)]) (.seq (.ops [(qM 11 4), (qO 12 (.bin .lss (qT 11) (qI 1))), (qM 13 12), (qG 14 (.mov (qT 4)) 13 false), (qG 15 (.bin .gtr (qT 14) (qI 4)) 13 false), (qO 16 (.pick (qT 13) (.const (.bool true)) (qT 15)))]) (.cond (qT 16) (.seq (.ops [(qO 2 (.mov (.const (.bool false))))]) .ret) .skip)))) (.ops [(qO 17 (.bin .add (qT 7) (qI 1))), (qM 7 17)]))))))) (.seq (.ops [(qM 18 0), (qO 19 (.len (qT 18))), (qO 20 (.bin .leq (qT 19) (qI 3))), (qM 2 20)]) .ret)))⟩
theorem of102 : XF.of Try.prog Try.f102 = some ir102 := by kernel_rfl
def ir103 : XF := ⟨27, [(.tmp 4)], (.seq (.ops [(qO 4 (.mov (qI 0)))]) (.seq (.seq (.ops [(qO 5 (.mov (qI 0)))]) (.block 0 (.loop (.seq (.seq (.ops [(qM 6 5), (qM 7 0), (qO 8 (.len (qT 7))), (qO 9 (.bin .lss (qT 6) (qT 8)))]) (.cond (qT 9) .skip (.exit 0))) (.seq (.block 1 (.seq (.ops [(qM 12 0), (qM 13 5), (qO 14 (.idx 2 (qT 12) (qT 13))), (qO 15 (.fld 0 (qT 14))), (qO 16 (.ld (qT 15))), (qM 17 1), (qO 18 (qC 43 [(qT 16), (qT 17)])), (qM 1 18)]) (.seq (.ops [(qM 19 0), (qM 20 5), (qM 21 1), (qO 22 (.idx 2 (qT 19) (qT 20))), (qO 23 (.fld 1 (qT 22))), ⟨none, (.st 1 (qT 23) (qT 21)), none⟩]) (.ops [(qM 24 1), (qO 25 (.bin .add (qT 24) (qI 1))), (qM 1 25)])))) (.ops [(qM 10 5), (qO 11 (.bin .add (qT 10) (qI 1))), (qM 5 11)])))))) (.seq (.ops [(qM 26 1), (qM 4 26)]) .ret)))⟩
theorem of103 : XF.of Try.prog Try.f103 = some ir103 := by kernel_rfl
def ir104 : XF := ⟨27, [(.tmp 4)], (.seq (.ops [(qO 4 (.mov (qI 0)))]) (.seq (.seq (.ops [(qO 5 (.mov (qI 0)))]) (.block 0 (.loop (.seq (.seq (.ops [(qM 6 5), (qM 7 0), (qO 8 (.len (qT 7))), (qO 9 (.bin .lss (qT 6) (qT 8)))]) (.cond (qT 9) .skip (.exit 0))) (.seq (.block 1 (.seq (.ops [(qM 12 0), (qM 13 5), (qM 14 1), (qO 15 (.idx 2 (qT 12) (qT 13))), (qO 16 (.fld 0 (qT 15))), ⟨none, (.st 1 (qT 16) (qT 14)), none⟩]) (.seq (.ops [(qM 17 1), (qO 18 (.bin .add (qT 17) (qI 1))), (qM 1 18)]) (.ops [(qM 19 0), (qM 20 5), (qO 21 (.idx 2 (qT 19) (qT 20))), (qO 22 (.fld 1 (qT 21))), (qO 23 (.ld (qT 22))), (qM 24 1), (qO 25 (qC 43 [(qT 23), (qT 24)])), (qM 1 25)])))) (.ops [(qM 10 5), (qO 11 (.bin .add (qT 10) (qI 1))), (qM 5 11)])))))) (.seq (.ops [(qM 26 1), (qM 4 26)]) .ret)))⟩
theorem of104 : XF.of Try.prog Try.f104 = some ir104 := by kernel_rfl
def ir105 : XF := ⟨31, [(.tmp 4)], (.seq (.ops [(qO 4 (.mov (qI 0)))]) (.seq (.seq (.ops [(qO 5 (.mov (qI 0)))]) (.block 0 (.loop (.seq (.seq (.ops [(qM 6 5), (qM 7 0), (qO 8 (.len (qT 7))), (qO 9 (.bin .lss (qT 6) (qT 8)))]) (.cond (qT 9) .skip (.exit 0))) (.seq (.block 1 (.seq (.ops [(qM 12 0), (qM 13 5), (qO 14 (.idx 2 (qT 12) (qT 13))), (qO 15 (.fld 0 (qT 14))), (qO 16 (.ld (qT 15))), (qM 17 1), (qO 18 (qC 107 [(qT 16), (qT 17)])), (qM 1 18)]) (.seq (.seq (.ops [(qM 19 1), (qO 20 (.bin .lss (qT 19) (qI 0)))]) (.cond (qT 20) (.seq (.ops [(qO 4 (.mov (qI (-1))))]) .ret) .skip)) (.seq (.seq (.ops [(qM 21 0), (qM 22 5), (qO 23 (.idx 2 (qT 21) (qT 22))), (qO 24 (.fld 1 (qT 23))), (qO 25 (.ld (qT 24))), (qM 26 1), (qO 27 (.bin .neq (qT 25) (qT 26)))]) (.cond (qT 27) (.seq (.ops [(qO 4 (.mov (qI (-1))))]) .ret) .skip)) (.ops [(qM 28 1), (qO 29 (.bin .add (qT 28) (qI 1))), (qM 1 29)]))))) (.ops [(qM 10 5), (qO 11 (.bin .add (qT 10) (qI 1))), (qM 5 11)])))))) (.seq (.ops [(qM 30 1), (qM 4 30)]) .ret)))⟩
theorem of105 : XF.of Try.prog Try.f105 = some ir105 := by kernel_rfl
def ir106 : XF := ⟨31, [(.tmp 4)], (.seq (.ops [(qO 4 (.mov (qI 0)))]) (.seq (.seq (.ops [(qO 5 (.mov (qI 0)))]) (.block 0 (.loop (.seq (.seq (.ops [(qM 6 5), (qM 7 0), (qO 8 (.len (qT 7))), (qO 9 (.bin .lss (qT 6) (qT 8)))]) (.cond (qT 9) .skip (.exit 0))) (.seq (.block 1 (.seq (.seq (.ops [(qM 12 0), (qM 13 5), (qO 14 (.idx 2 (qT 12) (qT 13))), (qO 15 (.fld 0 (qT 14))), (qO 16 (.ld (qT 15))), (qM 17 1), (qO 18 (.bin .neq (qT 16) (qT 17)))]) (.cond (qT 18) (.seq (.ops [(qO 4 (.mov (qI (-1))))]) .ret) .skip)) (.seq (.ops [(qM 19 1), (qO 20 (.bin .add (qT 19) (qI 1))), (qM 1 20)]) (.seq (.ops [(qM 21 0), (qM 22 5), (qO 23 (.idx 2 (qT 21) (qT 22))), (qO 24 (.fld 1 (qT 23))), (qO 25 (.ld (qT 24))), (qM 26 1), (qO 27 (qC 107 [(qT 25), (qT 26)])), (qM 1 27)]) (.seq (.ops [(qM 28 1), (qO 29 (.bin .lss (qT 28) (qI 0)))]) (.cond (qT 29) (.seq (.ops [(qO 4 (.mov (qI (-1))))]) .ret) .skip)))))) (.ops [(qM 10 5), (qO 11 (.bin .add (qT 10) (qI 1))), (qM 5 11)])))))) (.seq (.ops [(qM 30 1), (qM 4 30)]) .ret)))⟩
theorem of106 : XF.of Try.prog Try.f106 = some ir106 := by kernel_rfl
def ir107 : XF := ⟨21, [(.tmp 4)], (.seq (.ops [(qO 4 (.mov (qI 0)))]) (.seq (.seq (.ops [(qO 5 (.mov (qI 0)))]) (.block 0 (.loop (.seq (.seq (.ops [(qM 6 5), (qM 7 0), (qO 8 (.len (qT 7))), (qO 9 (.bin .lss (qT 6) (qT 8)))]) (.cond (qT 9) .skip (.exit 0))) (.seq (.block 1 (.seq (.seq (.ops [(qM 12 0), (qM 13 5), (qO 14 (.idx 1 (qT 12) (qT 13))), (qO 15 (.ld (qT 14))), (qM 16 1), (qO 17 (.bin .neq (qT 15) (qT 16)))]) (.cond (qT 17) (.seq (.ops [(qO 4 (.mov (qI (-1))))]) .ret) .skip)) (.ops [(qM 18 1), (qO 19 (.bin .add (qT 18) (qI 1))), (qM 1 19)]))) (.ops [(qM 10 5), (qO 11 (.bin .add (qT 10) (qI 1))), (qM 5 11)])))))) (.seq (.ops [(qM 20 1), (qM 4 20)]) .ret)))⟩
theorem of107 : XF.of Try.prog Try.f107 = some ir107 := by kernel_rfl
def ir113 : XF := ⟨38, [(.tmp 2)], (.seq (.ops [(qO 2 (.mov (.const (.bool false))))]) (.seq (.ops [(qM 5 0), (qO 6 (.len (qT 5))), (qM 3 6)]) (.seq (.seq (.ops [(qM 7 3), (qO 8 (qC 84 [(qT 7), (qI 1), (qI 600)])), (qO 9 (.not (qT 8)))]) (.cond (qT 9) (.seq (.ops [(qO 2 (.mov (.const (.bool false))))]) .ret) .skip)) (.seq (.seq (.ops [(qO 4 (.mov (qI 0)))]) (.block 0 (.loop (.seq (.seq (.ops [(qM 10 4), (qM 11 3), (qO 12 (.bin .lss (qT 10) (qT 11)))]) (.cond (qT 12) .skip (.exit 0))) (.seq (.block 1 (.seq (.ops [(qM 15 0), (qM 16 4), (qO 17 (.idx 5 (qT 15) (qT 16))), (qO 18 (.ldn 5 (qT 17))), (qM 19 3), (qO 20 (qC 152 [(qT 18), (qT 19)])), (qO 21 (.not (qT 20)))]) (.cond (qT 21) (.seq (.ops [(qO 2 (.mov (.const (.bool false))))]) .ret) .skip))) (.ops [(qM 13 4), (qO 14 (.bin .add (qT 13) (qI 1))), (qM 4 14)])))))) (.seq (.ops [(qM 22 0), (qM 23 3), (qO 24 (.bin .sub (qT 23) (qI 1))), (qO 25 (.idx 5 (qT 22) (qT 24))), (qO 26 (.fld 0 (qT 25))), (qO 27 (.ld (qT 26))), (qO 28 (.bin .eql (qT 27) (qI 10))), (qM 29 28), (qG 30 (.mov (qT 0)) 29 false), (qG 31 (.mov (qT 3)) 29 false), (qG 32 (.bin .sub (qT 31) (qI 1)) 29 false), (qG 33 (.idx 5 (qT 30) (qT 32)) 29 false), (qG 34 (.fld 0 (qT 33)) 29 false), (qG 35 (.ld (qT 34)) 29 false), (qG 36 (.bin .eql (qT 35) (qI 4)) 29 false), (qO 37 (.pick (qT 29) (.const (.bool true)) (qT 36))), (qM 2 37)]) .ret)))))⟩
theorem of113 : XF.of Try.prog Try.f113 = some ir113 := by kernel_rfl
def ir115 : XF := ⟨20, [(.cell 2 (some 5))], (.seq (.ops [(qO 1 (.box 149 (qT 0))), (qO 2 (.new [(.int .i64 0), (.int .i64 0), (.int .i64 0), (.int .i64 0), (.int .i64 0)] 111))]) (.seq (.ops [(qO 3 (.new [(.int .i64 0), (.int .i64 0), (.int .i64 0), (.int .i64 0), (.int .i64 0)] 111))]) (.seq (.ops [(qO 4 (.fld 0 (qT 1))), (qO 5 (.ld (qT 4))), (qO 6 (.fld 0 (qT 3))), ⟨none, (.st 1 (qT 6) (qT 5)), none⟩]) (.seq (.ops [(qO 7 (.fld 1 (qT 1))), (qO 8 (.ld (qT 7))), (qO 9 (.fld 1 (qT 3))), ⟨none, (.st 1 (qT 9) (qT 8)), none⟩]) (.seq (.ops [(qO 10 (.fld 2 (qT 1))), (qO 11 (.ld (qT 10))), (qO 12 (.fld 2 (qT 3))), ⟨none, (.st 1 (qT 12) (qT 11)), none⟩]) (.seq (.ops [(qO 13 (.fld 3 (qT 1))), (qO 14 (.ld (qT 13))), (qO 15 (.fld 3 (qT 3))), ⟨none, (.st 1 (qT 15) (qT 14)), none⟩]) (.seq (.ops [(qO 16 (.fld 4 (qT 1))), (qO 17 (.ld (qT 16))), (qO 18 (.fld 4 (qT 3))), ⟨none, (.st 1 (qT 18) (qT 17)), none⟩]) (.seq (.ops [(qO 19 (.ldn 5 (qT 3))), ⟨none, (.st 5 (qT 2) (qT 19)), none⟩]) .ret))))))))⟩
theorem of115 : XF.of Try.prog Try.f115 = some ir115 := by kernel_rfl
def ir116 : XF := ⟨39, [(.tmp 2)], (.seq (.ops [(qO 2 (.mov (.const (.bool false))))]) (.seq (.seq (.ops [(qM 6 0), (qO 7 (.len (qT 6))), (qO 8 (.bin .lss (qT 7) (qI 1))), (qM 9 8), (qG 10 (.mov (qT 0)) 9 false), (qG 11 (.len (qT 10)) 9 false), (qG 12 (.bin .gtr (qT 11) (qI 600)) 9 false), (qO 13 (.pick (qT 9) (.const (.bool true)) (qT 12)))]) (.cond (qT 13) (.seq (.ops [(qO 2 (.mov (.const (.bool false))))]) .ret) .skip)) (.seq (.seq (.ops [(qM 14 0), (qO 15 (.len (qT 14))), (qO 16 (.mov (qI 0)))]) (.block 0 (.loop (.seq (.ops [(qO 17 (.bin .lss (qT 16) (qT 15)))]) (.seq (.cond (qT 17) .skip (.exit 0)) (.seq (.block 1 (.seq (.ops [(qO 18 (.idx 5 (qT 14) (qT 16))), (qO 19 (.ldn 5 (qT 18))), (qO 4 (.new [(.int .i64 0), (.int .i64 0), (.int .i64 0), (.int .i64 0), (.int .i64 0)] 111)), ⟨none, (.st 5 (qT 4) (qT 19)), none⟩]) (.seq (.ops [(qO 20 (.ldn 5 (qT 4))), (qM 21 0), (qO 22 (.len (qT 21))), (qO 23 (qC 156 [(qT 20), (qT 22)])), (qO 24 (.not (qT 23)))]) (.cond (qT 24) (.seq (.ops [(qO 2 (.mov (.const (.bool false))))]) .ret) .skip)))) (.ops [(qO 25 (.bin .add (qT 16) (qI 1))), (qM 16 25)]))))))) (.seq (.ops [(qM 26 0), (qM 27 0), (qO 28 (.len (qT 27))), (qO 29 (.bin .sub (qT 28) (qI 1))), (qO 30 (.idx 5 (qT 26) (qT 29))), (qO 31 (.fld 0 (qT 30))), (qO 32 (.ld (qT 31))), (qM 5 32)]) (.seq (.ops [(qM 33 5), (qO 34 (.bin .eql (qT 33) (qI 10))), (qM 35 34), (qG 36 (.mov (qT 5)) 35 false), (qG 37 (.bin .eql (qT 36) (qI 4)) 35 false), (qO 38 (.pick (qT 35) (.const (.bool true)) (qT 37))), (qM 2 38)]) .ret)))))⟩
theorem of116 : XF.of Try.prog Try.f116 = some ir116 := by kernel_rfl
def ir123 : XF := ⟨8, [(.tmp 2)], (.seq (.ops [(qO 2 (.mov (.const (.slice none 0 0))))]) (.seq (.seq (.ops [(qM 3 0), (qO 4 (.nils false (qT 3) (.const (.slice none 0 0))))]) (.cond (qT 4) (.seq (.ops [(qO 2 (.mov (.const (.slice none 0 0))))]) .ret) .skip)) (.seq (.ops [(qO 5 (.lit [] 111 0 [])), (qM 6 0), (qO 7 (.app [(.int .i64 0), (.int .i64 0), (.int .i64 0), (.int .i64 0), (.int .i64 0)] 111 40 (qT 5) (qT 6))), (qM 2 7)]) .ret)))⟩
theorem of123 : XF.of Try.prog Try.f123 = some ir123 := by kernel_rfl
def ir141 : XF := ⟨22, [(.tmp 2)], (.seq (.ops [(qO 1 (.box 179 (qT 0))), (qO 2 (.mov (.const (.bool false))))]) (.seq (.ops [(qO 3 (.fld 0 (qT 1))), (qO 4 (.ld (qT 3))), (qO 5 (qC 84 [(qT 4), (qI 1), (qI 4)])), (qM 6 5), (qG 7 (.fld 1 (qT 1)) 6 true), (qG 8 (.ld (qT 7)) 6 true), (qG 9 (.len (qT 8)) 6 true), (qG 10 (.fld 0 (qT 1)) 6 true), (qG 11 (.ld (qT 10)) 6 true), (qG 12 (.bin .leq (qT 9) (qT 11)) 6 true), (qO 13 (.pick (qT 6) (qT 12) (.const (.bool false)))), (qM 14 13), (qG 15 (.fld 1 (qT 1)) 14 true), (qG 16 (.ld (qT 15)) 14 true), (qG 17 (.fld 1 (qT 1)) 14 true), (qG 18 (.ld (qT 17)) 14 true), (qG 19 (.len (qT 18)) 14 true), (qG 20 (qC 88 [(qT 16), (qT 19)]) 14 true), (qO 21 (.pick (qT 14) (qT 20) (.const (.bool false)))), (qM 2 21)]) .ret))⟩
theorem of141 : XF.of Try.prog Try.f141 = some ir141 := by kernel_rfl
def ir142 : XF := ⟨15, [(.tmp 4)], (.seq (.ops [(qO 2 (.box 125 (qT 0))), (qO 4 (.mov (.const (.bool false))))]) (.seq (.ops [(qO 5 (.fld 0 (qT 2))), (qO 6 (.ld (qT 5))), (qO 7 (qC 88 [(qT 6), (qI 12)])), (qM 8 7), (qG 9 (.fld 1 (qT 2)) 8 true), (qG 10 (.ld (qT 9)) 8 true), (qG 11 (.mov (qT 1)) 8 true), (qG 12 (.bin .sub (qT 11) (qI 1)) 8 true), (qG 13 (qC 84 [(qT 10), (qI 0), (qT 12)]) 8 true), (qO 14 (.pick (qT 8) (qT 13) (.const (.bool false)))), (qM 4 14)]) .ret))⟩
theorem of142 : XF.of Try.prog Try.f142 = some ir142 := by kernel_rfl
def ir143 : XF := ⟨19, [(.tmp 4)], (.seq (.ops [(qO 2 (.box 111 (qT 0))), (qO 4 (.mov (.const (.bool false))))]) (.seq (.ops [(qO 5 (.fld 0 (qT 2))), (qO 6 (.ld (qT 5))), (qO 7 (.bin .neq (qT 6) (qI 6))), (qM 8 7), (qG 9 (.fld 0 (qT 2)) 8 true), (qG 10 (.ld (qT 9)) 8 true), (qG 11 (.bin .neq (qT 10) (qI 7)) 8 true), (qO 12 (.pick (qT 8) (qT 11) (.const (.bool false)))), (qM 13 12), (qG 14 (.fld 4 (qT 2)) 13 false), (qG 15 (.ld (qT 14)) 13 false), (qG 16 (.mov (qT 1)) 13 false), (qG 17 (.bin .lss (qT 15) (qT 16)) 13 false), (qO 18 (.pick (qT 13) (.const (.bool true)) (qT 17))), (qM 4 18)]) .ret))⟩
theorem of143 : XF.of Try.prog Try.f143 = some ir143 := by kernel_rfl
def ir144 : XF := ⟨5, [(.tmp 2)], (.seq (.ops [(qO 2 (.mov (.const (.bool false))))]) (.seq (.ops [(qM 3 0), (qO 4 (qC 84 [(qT 3), (qI (-2147483648)), (qI 2147483647)])), (qM 2 4)]) .ret))⟩
theorem of144 : XF.of Try.prog Try.f144 = some ir144 := by kernel_rfl
def ir147 : XF := ⟨15, [(.tmp 2)], (.seq (.ops [(qO 2 (.mov (.const (.bool false))))]) (.seq (.seq (.ops [(qM 5 0), (qO 6 (.len (qT 5))), (qO 7 (.mov (qI 0)))]) (.block 0 (.loop (.seq (.ops [(qO 8 (.bin .lss (qT 7) (qT 6)))]) (.seq (.cond (qT 8) .skip (.exit 0)) (.seq (.block 1 (.seq (.ops [(qO 9 (.idx 1 (qT 5) (qT 7))), (qO 10 (.ld (qT 9))), (qM 4 10)]) (.seq (.ops [(qM 11 4), (qO 12 (qC 182 [(qT 11)])), (qO 13 (.not (qT 12)))]) (.cond (qT 13) (.seq (.ops [(qO 2 (.mov (.const (.bool false))))]) .ret) .skip)))) (.ops [(qO 14 (.bin .add (qT 7) (qI 1))), (qM 7 14)]))))))) (.seq (.ops [(qO 2 (.mov (.const (.bool true))))]) .ret)))⟩
theorem of147 : XF.of Try.prog Try.f147 = some ir147 := by kernel_rfl
def ir148 : XF := ⟨24, [(.tmp 2)], (.seq (.ops [(qO 1 (.box 179 (qT 0))), (qO 2 (.mov (.const (.bool false))))]) (.seq (.ops [(qO 3 (.fld 0 (qT 1))), (qO 4 (.ld (qT 3))), (qO 5 (.bin .geq (qT 4) (qI 1))), (qM 6 5), (qG 7 (.fld 0 (qT 1)) 6 true), (qG 8 (.ld (qT 7)) 6 true), (qG 9 (.bin .leq (qT 8) (qI 4)) 6 true), (qO 10 (.pick (qT 6) (qT 9) (.const (.bool false)))), (qM 11 10), (qG 12 (.fld 1 (qT 1)) 11 true), (qG 13 (.ld (qT 12)) 11 true), (qG 14 (.len (qT 13)) 11 true), (qG 15 (.fld 0 (qT 1)) 11 true), (qG 16 (.ld (qT 15)) 11 true), (qG 17 (.bin .leq (qT 14) (qT 16)) 11 true), (qO 18 (.pick (qT 11) (qT 17) (.const (.bool false)))), (qM 19 18), (qG 20 (.fld 1 (qT 1)) 19 true), (qG 21 (.ld (qT 20)) 19 true), (qG 22 (qC 147 [(qT 21)]) 19 true), (qO 23 (.pick (qT 19) (qT 22) (.const (.bool false)))), (qM 2 23)]) .ret))⟩
theorem of148 : XF.of Try.prog Try.f148 = some ir148 := by kernel_rfl
def ir149 : XF := ⟨26, [(.tmp 4)], (.seq (.ops [(qO 2 (.box 125 (qT 0))), (qO 4 (.mov (.const (.bool false))))]) (.seq (.ops [(qO 5 (.fld 0 (qT 2))), (qO 6 (.ld (qT 5))), (qO 7 (.len (qT 6))), (qO 8 (.bin .eql (qT 7) (qI 12))), (qM 9 8), (qG 10 (.fld 0 (qT 2)) 9 true), (qG 11 (.ld (qT 10)) 9 true), (qG 12 (qC 147 [(qT 11)]) 9 true), (qO 13 (.pick (qT 9) (qT 12) (.const (.bool false)))), (qM 14 13), (qG 15 (.fld 1 (qT 2)) 14 true), (qG 16 (.ld (qT 15)) 14 true), (qG 17 (.bin .geq (qT 16) (qI 0)) 14 true), (qO 18 (.pick (qT 14) (qT 17) (.const (.bool false)))), (qM 19 18), (qG 20 (.fld 1 (qT 2)) 19 true), (qG 21 (.ld (qT 20)) 19 true), (qG 22 (.mov (qT 1)) 19 true), (qG 23 (.len (qT 22)) 19 true), (qG 24 (.bin .lss (qT 21) (qT 23)) 19 true), (qO 25 (.pick (qT 19) (qT 24) (.const (.bool false)))), (qM 4 25)]) .ret))⟩
theorem of149 : XF.of Try.prog Try.f149 = some ir149 := by kernel_rfl
def ir150 : XF := ⟨16, [(.tmp 4)], (.seq (.ops [(qO 2 (.box 125 (qT 0))), (qO 3 (.box 125 (qT 1))), (qO 4 (.mov (.const (.bool false))))]) (.seq (.seq (.ops [(qO 5 (.fld 0 (qT 2))), (qO 6 (.ld (qT 5))), (qO 7 (.fld 0 (qT 3))), (qO 8 (.ld (qT 7))), (qO 9 (qC 42 [(qT 6), (qT 8)])), (qO 10 (.not (qT 9)))]) (.cond (qT 10) (.seq (.ops [(qO 4 (.mov (.const (.bool false))))]) .ret) .skip)) (.seq (.seq (.ops [(qO 11 (.fld 1 (qT 2))), (qO 12 (.ld (qT 11))), (qO 13 (.fld 1 (qT 3))), (qO 14 (.ld (qT 13))), (qO 15 (.bin .neq (qT 12) (qT 14)))]) (.cond (qT 15) (.seq (.ops [(qO 4 (.mov (.const (.bool false))))]) .ret) .skip)) (.seq (.ops [(qO 4 (.mov (.const (.bool true))))]) .ret))))⟩
theorem of150 : XF.of Try.prog Try.f150 = some ir150 := by kernel_rfl
def ir151 : XF := ⟨16, [(.tmp 4)], (.seq (.ops [(qO 2 (.box 179 (qT 0))), (qO 3 (.box 179 (qT 1))), (qO 4 (.mov (.const (.bool false))))]) (.seq (.seq (.ops [(qO 5 (.fld 0 (qT 2))), (qO 6 (.ld (qT 5))), (qO 7 (.fld 0 (qT 3))), (qO 8 (.ld (qT 7))), (qO 9 (.bin .neq (qT 6) (qT 8)))]) (.cond (qT 9) (.seq (.ops [(qO 4 (.mov (.const (.bool false))))]) .ret) .skip)) (.seq (.seq (.ops [(qO 10 (.fld 1 (qT 2))), (qO 11 (.ld (qT 10))), (qO 12 (.fld 1 (qT 3))), (qO 13 (.ld (qT 12))), (qO 14 (qC 42 [(qT 11), (qT 13)])), (qO 15 (.not (qT 14)))]) (.cond (qT 15) (.seq (.ops [(qO 4 (.mov (.const (.bool false))))]) .ret) .skip)) (.seq (.ops [(qO 4 (.mov (.const (.bool true))))]) .ret))))⟩
theorem of151 : XF.of Try.prog Try.f151 = some ir151 := by kernel_rfl
def ir152 : XF := ⟨101, [(.tmp 4)], (.seq (.ops [(qO 2 (.box 111 (qT 0))), (qO 4 (.mov (.const (.bool false))))]) (.seq (.seq (.ops [(qO 5 (.fld 0 (qT 2))), (qO 6 (.ld (qT 5)))]) (.block 0 (.seq (.ops [(qO 8 (.bin .eql (qT 6) (qI 1))), (qM 7 8)]) (.cond (qT 7) (.seq (.ops [(qO 9 (.ldn 5 (qT 2))), (qO 10 (qC 183 [(qT 9), (.const (.bool true)), (.const (.bool false)), (.const (.bool false))])), (qM 11 10), (qG 12 (.fld 4 (qT 2)) 11 true), (qG 13 (.ld (qT 12)) 11 true), (qG 14 (qC 144 [(qT 13)]) 11 true), (qO 15 (.pick (qT 11) (qT 14) (.const (.bool false)))), (qM 4 15)]) .ret) (.seq (.ops [(qO 17 (.bin .eql (qT 6) (qI 2))), (qM 16 17)]) (.cond (qT 16) (.seq (.ops [(qO 18 (.ldn 5 (qT 2))), (qO 19 (qC 183 [(qT 18), (.const (.bool true)), (.const (.bool true)), (.const (.bool false))])), (qM 20 19), (qG 21 (.fld 4 (qT 2)) 20 true), (qG 22 (.ld (qT 21)) 20 true), (qG 23 (.bin .eql (qT 22) (qI 0)) 20 true), (qO 24 (.pick (qT 20) (qT 23) (.const (.bool false)))), (qM 4 24)]) .ret) (.seq (.ops [(qO 26 (.bin .eql (qT 6) (qI 3))), (qM 25 26)]) (.cond (qT 25) (.seq (.ops [(qO 27 (.ldn 5 (qT 2))), (qO 28 (qC 183 [(qT 27), (.const (.bool true)), (.const (.bool true)), (.const (.bool true))])), (qM 29 28), (qG 30 (.fld 4 (qT 2)) 29 true), (qG 31 (.ld (qT 30)) 29 true), (qG 32 (qC 184 [(qT 31)]) 29 true), (qO 33 (.pick (qT 29) (qT 32) (.const (.bool false)))), (qM 4 33)]) .ret) (.seq (.ops [(qO 35 (.bin .eql (qT 6) (qI 4))), (qM 34 35)]) (.cond (qT 34) (.seq (.ops [(qO 36 (.ldn 5 (qT 2))), (qO 37 (qC 183 [(qT 36), (.const (.bool false)), (.const (.bool false)), (.const (.bool false))])), (qM 38 37), (qG 39 (.fld 4 (qT 2)) 38 true), (qG 40 (.ld (qT 39)) 38 true), (qG 41 (.bin .geq (qT 40) (qI 0)) 38 true), (qO 42 (.pick (qT 38) (qT 41) (.const (.bool false)))), (qM 43 42), (qG 44 (.fld 4 (qT 2)) 43 true), (qG 45 (.ld (qT 44)) 43 true), (qG 46 (.mov (qT 1)) 43 true), (qG 47 (.bin .lss (qT 45) (qT 46)) 43 true), (qO 48 (.pick (qT 43) (qT 47) (.const (.bool false)))), (qM 4 48)]) .ret) (.seq (.ops [(qO 50 (.bin .eql (qT 6) (qI 5))), (qM 49 50)]) (.cond (qT 49) (.seq (.ops [(qO 51 (.ldn 5 (qT 2))), (qO 52 (qC 183 [(qT 51), (.const (.bool false)), (.const (.bool true)), (.const (.bool false))])), (qM 53 52), (qG 54 (.fld 4 (qT 2)) 53 true), (qG 55 (.ld (qT 54)) 53 true), (qG 56 (.bin .geq (qT 55) (qI 0)) 53 true), (qO 57 (.pick (qT 53) (qT 56) (.const (.bool false)))), (qM 58 57), (qG 59 (.fld 4 (qT 2)) 58 true), (qG 60 (.ld (qT 59)) 58 true), (qG 61 (.mov (qT 1)) 58 true), (qG 62 (.bin .lss (qT 60) (qT 61)) 58 true), (qO 63 (.pick (qT 58) (qT 62) (.const (.bool false)))), (qM 4 63)]) .ret) (.seq (.ops [(qO 65 (.bin .eql (qT 6) (qI 6))), (qM 64 65)]) (.cond (qT 64) (.seq (.ops [(qO 66 (.ldn 5 (qT 2))), (qO 67 (qC 183 [(qT 66), (.const (.bool false)), (.const (.bool true)), (.const (.bool false))])), (qM 68 67), (qG 69 (.fld 4 (qT 2)) 68 true), (qG 70 (.ld (qT 69)) 68 true), (qG 71 (qC 84 [(qT 70), (qI 0), (qI 2)]) 68 true), (qO 72 (.pick (qT 68) (qT 71) (.const (.bool false)))), (qM 4 72)]) .ret) (.seq (.ops [(qO 74 (.bin .eql (qT 6) (qI 7))), (qM 73 74)]) (.cond (qT 73) (.seq (.ops [(qO 75 (.ldn 5 (qT 2))), (qO 76 (qC 183 [(qT 75), (.const (.bool true)), (.const (.bool false)), (.const (.bool false))])), (qM 77 76), (qG 78 (.fld 4 (qT 2)) 77 true), (qG 79 (.ld (qT 78)) 77 true), (qG 80 (qC 84 [(qT 79), (qI 0), (qI 2)]) 77 true), (qO 81 (.pick (qT 77) (qT 80) (.const (.bool false)))), (qM 4 81)]) .ret) (.seq (.ops [(qO 83 (.bin .eql (qT 6) (qI 9))), (qM 82 83)]) (.cond (qT 82) (.seq (.ops [(qO 84 (.ldn 5 (qT 2))), (qO 85 (qC 183 [(qT 84), (.const (.bool false)), (.const (.bool true)), (.const (.bool false))])), (qM 86 85), (qG 87 (.fld 4 (qT 2)) 86 true), (qG 88 (.ld (qT 87)) 86 true), (qG 89 (.bin .eql (qT 88) (qI 0)) 86 true), (qO 90 (.pick (qT 86) (qT 89) (.const (.bool false)))), (qM 4 90)]) .ret) (.seq (.seq (.ops [(qO 92 (.bin .eql (qT 6) (qI 8))), (qM 91 92)]) (.cond (qT 91) .skip (.ops [(qO 93 (.bin .eql (qT 6) (qI 10))), (qM 91 93)]))) (.cond (qT 91) (.seq (.ops [(qO 94 (.ldn 5 (qT 2))), (qO 95 (qC 183 [(qT 94), (.const (.bool false)), (.const (.bool false)), (.const (.bool false))])), (qM 96 95), (qG 97 (.fld 4 (qT 2)) 96 true), (qG 98 (.ld (qT 97)) 96 true), (qG 99 (.bin .eql (qT 98) (qI 0)) 96 true), (qO 100 (.pick (qT 96) (qT 99) (.const (.bool false)))), (qM 4 100)]) .ret) .skip)))))))))))))))))))) (.seq (.ops [(qO 4 (.mov (.const (.bool false))))]) .ret)))⟩
theorem of152 : XF.of Try.prog Try.f152 = some ir152 := by kernel_rfl
def ir156 : XF := ⟨156, [(.tmp 4)], (.seq (.ops [(qO 2 (.box 111 (qT 0))), (qO 4 (.mov (.const (.bool false))))]) (.seq (.draw (.take (qO 9 (.fld 1 (qT 2))) (.take (qO 10 (.ld (qT 9))) (.take (qO 12 (.fld 2 (qT 2))) (.take (qO 13 (.ld (qT 12))) (.take (qO 15 (.fld 3 (qT 2))) (.take (qO 16 (.ld (qT 15))) (.take (qO 18 (.fld 4 (qT 2))) (.take (qO 19 (.ld (qT 18))) (.alt (qO 11 (qC 187 [(qT 10)])) (.alt (qO 14 (qC 187 [(qT 13)])) (.alt (qO 17 (qC 187 [(qT 16)])) (.take (qM 5 11) (.take (qM 6 14) (.take (qM 7 17) (.take (qM 8 19) .done)))) .none_) .none_) .none_)))))))))) (.seq (.seq (.ops [(qO 20 (.fld 0 (qT 2))), (qO 21 (.ld (qT 20)))]) (.block 0 (.seq (.ops [(qO 23 (.bin .eql (qT 21) (qI 1))), (qM 22 23)]) (.cond (qT 22) (.seq (.ops [(qO 24 (.ldn 5 (qT 2))), (qO 25 (.fld 1 (qT 2))), (qO 26 (.ld (qT 25))), (qM 27 8), (qO 28 (.agg [(.int .i64 0), (.int .i64 0), (.int .i64 0), (.int .i64 0), (.int .i64 0)] [(0, (1, (qI 1))), (1, (1, (qT 26))), (4, (1, (qT 27)))])), (qO 29 (.eqs false 111 (qT 24) (qT 28))), (qM 30 29), (qG 31 (.mov (qT 5)) 30 true), (qO 32 (.pick (qT 30) (qT 31) (.const (.bool false)))), (qM 33 32), (qG 34 (.mov (qT 8)) 33 true), (qG 35 (qC 182 [(qT 34)]) 33 true), (qO 36 (.pick (qT 33) (qT 35) (.const (.bool false)))), (qM 4 36)]) .ret) (.seq (.ops [(qO 38 (.bin .eql (qT 21) (qI 2))), (qM 37 38)]) (.cond (qT 37) (.seq (.ops [(qO 39 (.ldn 5 (qT 2))), (qO 40 (.fld 1 (qT 2))), (qO 41 (.ld (qT 40))), (qO 42 (.fld 2 (qT 2))), (qO 43 (.ld (qT 42))), (qO 44 (.agg [(.int .i64 0), (.int .i64 0), (.int .i64 0), (.int .i64 0), (.int .i64 0)] [(0, (1, (qI 2))), (1, (1, (qT 41))), (2, (1, (qT 43)))])), (qO 45 (.eqs false 111 (qT 39) (qT 44))), (qM 46 45), (qG 47 (.mov (qT 5)) 46 true), (qO 48 (.pick (qT 46) (qT 47) (.const (.bool false)))), (qM 49 48), (qG 50 (.mov (qT 6)) 49 true), (qO 51 (.pick (qT 49) (qT 50) (.const (.bool false)))), (qM 4 51)]) .ret) (.seq (.ops [(qO 53 (.bin .eql (qT 21) (qI 3))), (qM 52 53)]) (.cond (qT 52) (.seq (.ops [(qM 54 5), (qM 55 54), (qG 56 (.mov (qT 6)) 55 true), (qO 57 (.pick (qT 55) (qT 56) (.const (.bool false)))), (qM 58 57), (qG 59 (.mov (qT 7)) 58 true), (qO 60 (.pick (qT 58) (qT 59) (.const (.bool false)))), (qM 61 60), (qG 62 (.mov (qT 8)) 61 true), (qG 63 (qC 188 [(qT 62)]) 61 true), (qO 64 (.pick (qT 61) (qT 63) (.const (.bool false)))), (qM 4 64)]) .ret) (.seq (.ops [(qO 66 (.bin .eql (qT 21) (qI 4))), (qM 65 66)]) (.cond (qT 65) (.seq (.ops [(qO 67 (.ldn 5 (qT 2))), (qM 68 8), (qO 69 (.agg [(.int .i64 0), (.int .i64 0), (.int .i64 0), (.int .i64 0), (.int .i64 0)] [(0, (1, (qI 4))), (4, (1, (qT 68)))])), (qO 70 (.eqs false 111 (qT 67) (qT 69))), (qM 71 70), (qG 72 (.mov (qT 8)) 71 true), (qG 73 (.bin .geq (qT 72) (qI 0)) 71 true), (qO 74 (.pick (qT 71) (qT 73) (.const (.bool false)))), (qM 75 74), (qG 76 (.mov (qT 8)) 75 true), (qG 77 (.mov (qT 1)) 75 true), (qG 78 (.bin .lss (qT 76) (qT 77)) 75 true), (qO 79 (.pick (qT 75) (qT 78) (.const (.bool false)))), (qM 4 79)]) .ret) (.seq (.ops [(qO 81 (.bin .eql (qT 21) (qI 5))), (qM 80 81)]) (.cond (qT 80) (.seq (.ops [(qO 82 (.ldn 5 (qT 2))), (qO 83 (.fld 2 (qT 2))), (qO 84 (.ld (qT 83))), (qM 85 8), (qO 86 (.agg [(.int .i64 0), (.int .i64 0), (.int .i64 0), (.int .i64 0), (.int .i64 0)] [(0, (1, (qI 5))), (2, (1, (qT 84))), (4, (1, (qT 85)))])), (qO 87 (.eqs false 111 (qT 82) (qT 86))), (qM 88 87), (qG 89 (.mov (qT 6)) 88 true), (qO 90 (.pick (qT 88) (qT 89) (.const (.bool false)))), (qM 91 90), (qG 92 (.mov (qT 8)) 91 true), (qG 93 (.bin .geq (qT 92) (qI 0)) 91 true), (qO 94 (.pick (qT 91) (qT 93) (.const (.bool false)))), (qM 95 94), (qG 96 (.mov (qT 8)) 95 true), (qG 97 (.mov (qT 1)) 95 true), (qG 98 (.bin .lss (qT 96) (qT 97)) 95 true), (qO 99 (.pick (qT 95) (qT 98) (.const (.bool false)))), (qM 4 99)]) .ret) (.seq (.ops [(qO 101 (.bin .eql (qT 21) (qI 6))), (qM 100 101)]) (.cond (qT 100) (.seq (.ops [(qO 102 (.ldn 5 (qT 2))), (qO 103 (.fld 2 (qT 2))), (qO 104 (.ld (qT 103))), (qM 105 8), (qO 106 (.agg [(.int .i64 0), (.int .i64 0), (.int .i64 0), (.int .i64 0), (.int .i64 0)] [(0, (1, (qI 6))), (2, (1, (qT 104))), (4, (1, (qT 105)))])), (qO 107 (.eqs false 111 (qT 102) (qT 106))), (qM 108 107), (qG 109 (.mov (qT 6)) 108 true), (qO 110 (.pick (qT 108) (qT 109) (.const (.bool false)))), (qM 111 110), (qG 112 (.mov (qT 8)) 111 true), (qG 113 (.bin .geq (qT 112) (qI 0)) 111 true), (qO 114 (.pick (qT 111) (qT 113) (.const (.bool false)))), (qM 115 114), (qG 116 (.mov (qT 8)) 115 true), (qG 117 (.bin .lss (qT 116) (qI 3)) 115 true), (qO 118 (.pick (qT 115) (qT 117) (.const (.bool false)))), (qM 4 118)]) .ret) (.seq (.ops [(qO 120 (.bin .eql (qT 21) (qI 7))), (qM 119 120)]) (.cond (qT 119) (.seq (.ops [(qO 121 (.ldn 5 (qT 2))), (qO 122 (.fld 1 (qT 2))), (qO 123 (.ld (qT 122))), (qM 124 8), (qO 125 (.agg [(.int .i64 0), (.int .i64 0), (.int .i64 0), (.int .i64 0), (.int .i64 0)] [(0, (1, (qI 7))), (1, (1, (qT 123))), (4, (1, (qT 124)))])), (qO 126 (.eqs false 111 (qT 121) (qT 125))), (qM 127 126), (qG 128 (.mov (qT 5)) 127 true), (qO 129 (.pick (qT 127) (qT 128) (.const (.bool false)))), (qM 130 129), (qG 131 (.mov (qT 8)) 130 true), (qG 132 (.bin .geq (qT 131) (qI 0)) 130 true), (qO 133 (.pick (qT 130) (qT 132) (.const (.bool false)))), (qM 134 133), (qG 135 (.mov (qT 8)) 134 true), (qG 136 (.bin .lss (qT 135) (qI 3)) 134 true), (qO 137 (.pick (qT 134) (qT 136) (.const (.bool false)))), (qM 4 137)]) .ret) (.seq (.ops [(qO 139 (.bin .eql (qT 21) (qI 9))), (qM 138 139)]) (.cond (qT 138) (.seq (.ops [(qO 140 (.ldn 5 (qT 2))), (qO 141 (.fld 2 (qT 2))), (qO 142 (.ld (qT 141))), (qO 143 (.agg [(.int .i64 0), (.int .i64 0), (.int .i64 0), (.int .i64 0), (.int .i64 0)] [(0, (1, (qI 9))), (2, (1, (qT 142)))])), (qO 144 (.eqs false 111 (qT 140) (qT 143))), (qM 145 144), (qG 146 (.mov (qT 6)) 145 true), (qO 147 (.pick (qT 145) (qT 146) (.const (.bool false)))), (qM 4 147)]) .ret) (.seq (.seq (.ops [(qO 149 (.bin .eql (qT 21) (qI 8))), (qM 148 149)]) (.cond (qT 148) .skip (.ops [(qO 150 (.bin .eql (qT 21) (qI 10))), (qM 148 150)]))) (.cond (qT 148) (.seq (.ops [(qO 151 (.ldn 5 (qT 2))), (qO 152 (.fld 0 (qT 2))), (qO 153 (.ld (qT 152))), (qO 154 (.agg [(.int .i64 0), (.int .i64 0), (.int .i64 0), (.int .i64 0), (.int .i64 0)] [(0, (1, (qT 153)))])), (qO 155 (.eqs false 111 (qT 151) (qT 154))), (qM 4 155)]) .ret) .skip)))))))))))))))))))) (.seq (.ops [(qO 4 (.mov (.const (.bool false))))]) .ret))))⟩
theorem of156 : XF.of Try.prog Try.f156 = some ir156 := by kernel_rfl
end Go.Proofs.Ytfjhjfddgdokgaa
namespace Go.Proofs.Ytfjhjfddgdokgaa
open Go Go.RowKit
set_option maxRecDepth 100000
def ir182 : XF := ⟨9, [(.tmp 2)], (.seq (.ops [(qO 2 (.mov (.const (.bool false))))]) (.seq (.ops [(qM 3 0), (qO 4 (.bin .geq (qT 3) (qI (-2147483648)))), (qM 5 4), (qG 6 (.mov (qT 0)) 5 true), (qG 7 (.bin .leq (qT 6) (qI 2147483647)) 5 true), (qO 8 (.pick (qT 5) (qT 7) (.const (.bool false)))), (qM 2 8)]) .ret))⟩
theorem of182 : XF.of Try.prog Try.f182 = some ir182 := by kernel_rfl
def ir183 : XF := ⟨25, [(.tmp 8)], (.seq (.ops [(qO 4 (.box 111 (qT 0))), (qO 8 (.mov (.const (.bool false))))]) (.seq (.ops [(qO 9 (.fld 1 (qT 4))), (qO 10 (.ld (qT 9))), (qM 11 1), (qO 12 (qC 200 [(qT 10), (qT 11)])), (qM 13 12), (qG 14 (.fld 2 (qT 4)) 13 true), (qG 15 (.ld (qT 14)) 13 true), (qG 16 (.mov (qT 2)) 13 true), (qG 17 (qC 200 [(qT 15), (qT 16)]) 13 true), (qO 18 (.pick (qT 13) (qT 17) (.const (.bool false)))), (qM 19 18), (qG 20 (.fld 3 (qT 4)) 19 true), (qG 21 (.ld (qT 20)) 19 true), (qG 22 (.mov (qT 3)) 19 true), (qG 23 (qC 200 [(qT 21), (qT 22)]) 19 true), (qO 24 (.pick (qT 19) (qT 23) (.const (.bool false)))), (qM 8 24)]) .ret))⟩
theorem of183 : XF.of Try.prog Try.f183 = some ir183 := by kernel_rfl
def ir184 : XF := ⟨5, [(.tmp 2)], (.seq (.ops [(qO 2 (.mov (.const (.bool false))))]) (.seq (.ops [(qM 3 0), (qO 4 (qC 84 [(qT 3), (qI 1), (qI 12)])), (qM 2 4)]) .ret))⟩
theorem of184 : XF.of Try.prog Try.f184 = some ir184 := by kernel_rfl
def ir187 : XF := ⟨9, [(.tmp 2)], (.seq (.ops [(qO 2 (.mov (.const (.bool false))))]) (.seq (.ops [(qM 3 0), (qO 4 (.bin .geq (qT 3) (qI 0))), (qM 5 4), (qG 6 (.mov (qT 0)) 5 true), (qG 7 (.bin .lss (qT 6) (qI 12)) 5 true), (qO 8 (.pick (qT 5) (qT 7) (.const (.bool false)))), (qM 2 8)]) .ret))⟩
theorem of187 : XF.of Try.prog Try.f187 = some ir187 := by kernel_rfl
def ir188 : XF := ⟨9, [(.tmp 2)], (.seq (.ops [(qO 2 (.mov (.const (.bool false))))]) (.seq (.ops [(qM 3 0), (qO 4 (.bin .geq (qT 3) (qI 1))), (qM 5 4), (qG 6 (.mov (qT 0)) 5 true), (qG 7 (.bin .leq (qT 6) (qI 12)) 5 true), (qO 8 (.pick (qT 5) (qT 7) (.const (.bool false)))), (qM 2 8)]) .ret))⟩
theorem of188 : XF.of Try.prog Try.f188 = some ir188 := by kernel_rfl
def ir200 : XF := ⟨10, [(.tmp 4)], (.seq (.ops [(qO 4 (.mov (.const (.bool false))))]) (.seq (.seq (.ops [(qM 5 1)]) (.cond (qT 5) (.seq (.ops [(qM 6 0), (qO 7 (qC 84 [(qT 6), (qI 0), (qI 11)])), (qM 4 7)]) .ret) .skip)) (.seq (.ops [(qM 8 0), (qO 9 (.bin .eql (qT 8) (qI 0))), (qM 4 9)]) .ret)))⟩
theorem of200 : XF.of Try.prog Try.f200 = some ir200 := by kernel_rfl
end Go.Proofs.Ytfjhjfddgdokgaa
namespace Go.Proofs.Ytfjhjfddgdokgaa
set_option linter.all false
open Go Go.RowKit
theorem mix : Try.prog.follows .mixedOrders = true := Checked.mixed Try.checked
set_option maxRecDepth 100000
variable (w0 : World) (H : AHeap) (K : Value → AHeap → Prop)
def isReg (r : Int) : Bool := decide (0 ≤ r) && decide (r < 12)
def wordValid (r : Int) : Bool := decide (-2147483648 ≤ r) && decide (r ≤ 2147483647)
def opValid (r : Int) : Bool := decide (1 ≤ r) && decide (r ≤ 12)
def quadValid (q : Qd) (m : Int) : Bool :=
  if q.op = 1 then isReg q.dst && q.a == 0 && q.b == 0 && wordValid q.n
  else if q.op = 2 then isReg q.dst && isReg q.a && q.b == 0 && q.n == 0
  else if q.op = 3 then isReg q.dst && isReg q.a && isReg q.b && opValid q.n
  else if q.op = 4 then q.dst == 0 && q.a == 0 && q.b == 0 && decide (0 ≤ q.n) && decide (q.n < m)
  else if q.op = 5 then q.dst == 0 && isReg q.a && q.b == 0 && decide (0 ≤ q.n) && decide (q.n < m)
  else if q.op = 6 then q.dst == 0 && isReg q.a && q.b == 0 && decide (0 ≤ q.n) && decide (q.n < 3)
  else if q.op = 7 then isReg q.dst && q.a == 0 && q.b == 0 && decide (0 ≤ q.n) && decide (q.n < 3)
  else if q.op = 9 then q.dst == 0 && isReg q.a && q.b == 0 && q.n == 0
  else if q.op = 8 ∨ q.op = 10 then q.dst == 0 && q.a == 0 && q.b == 0 && q.n == 0
  else false
theorem isReg_ok (r : Int) (h : K (.bool (isReg r)) H) : ACalls Try.prog w0 187 [.int .i64 r] H K := by
  refine acalls_of_sx mix Try.func187 of187 (by simp [ir187]) ?_; rw [ir187]; (try delta qT qI qC qO qM qG)
  repeat' (first | simp -implicitDefEqProofs only [zG1,zG2,zG3,zG4,zG5,zG6,zG7,eq_self,resV,rval,X.val,binv,fillL,setR,↓reduceIte,Nat.reduceEqDiff,Nat.reduceAdd,Nat.reduceMul,Nat.reduceLeDiff,Nat.reduceLT,Nat.reduceSub,reduceCtorEq,zGr] | ((with_reducible refine rows_intro (fun _ hb => ?_)); try simp only [set_none, ne_eq] at hb) | ((with_reducible refine new_intro (fun _ hb => ?_)); try simp only [set_none, ne_eq] at hb) | (with_reducible refine draw_same ?_) | ((with_reducible refine gd_split ?_ (fun _ => ?_) (fun _ => ?_)); exact rfl) | ((with_reducible refine td_split ?_ (fun _ => ?_) (fun _ => ?_)); exact rfl) | (with_reducible refine c_split (fun _ => ?_) (fun _ => ?_)))
  all_goals (refine ret_same ?_; simpa [isReg, *] using h)
theorem wordValid_ok (r : Int) (h : K (.bool (wordValid r)) H) : ACalls Try.prog w0 182 [.int .i64 r] H K := by
  refine acalls_of_sx mix Try.func182 of182 (by simp [ir182]) ?_; rw [ir182]; (try delta qT qI qC qO qM qG)
  repeat' (first | simp -implicitDefEqProofs only [zG1,zG2,zG3,zG4,zG5,zG6,zG7,eq_self,resV,rval,X.val,binv,fillL,setR,↓reduceIte,Nat.reduceEqDiff,Nat.reduceAdd,Nat.reduceMul,Nat.reduceLeDiff,Nat.reduceLT,Nat.reduceSub,reduceCtorEq,zGr] | ((with_reducible refine rows_intro (fun _ hb => ?_)); try simp only [set_none, ne_eq] at hb) | ((with_reducible refine new_intro (fun _ hb => ?_)); try simp only [set_none, ne_eq] at hb) | (with_reducible refine draw_same ?_) | ((with_reducible refine gd_split ?_ (fun _ => ?_) (fun _ => ?_)); exact rfl) | ((with_reducible refine td_split ?_ (fun _ => ?_) (fun _ => ?_)); exact rfl) | (with_reducible refine c_split (fun _ => ?_) (fun _ => ?_)))
  all_goals (refine ret_same ?_; simpa [wordValid, *] using h)
theorem opValid_ok (r : Int) (h : K (.bool (opValid r)) H) : ACalls Try.prog w0 188 [.int .i64 r] H K := by
  refine acalls_of_sx mix Try.func188 of188 (by simp [ir188]) ?_; rw [ir188]; (try delta qT qI qC qO qM qG)
  repeat' (first | simp -implicitDefEqProofs only [zG1,zG2,zG3,zG4,zG5,zG6,zG7,eq_self,resV,rval,X.val,binv,fillL,setR,↓reduceIte,Nat.reduceEqDiff,Nat.reduceAdd,Nat.reduceMul,Nat.reduceLeDiff,Nat.reduceLT,Nat.reduceSub,reduceCtorEq,zGr] | ((with_reducible refine rows_intro (fun _ hb => ?_)); try simp only [set_none, ne_eq] at hb) | ((with_reducible refine new_intro (fun _ hb => ?_)); try simp only [set_none, ne_eq] at hb) | (with_reducible refine draw_same ?_) | ((with_reducible refine gd_split ?_ (fun _ => ?_) (fun _ => ?_)); exact rfl) | ((with_reducible refine td_split ?_ (fun _ => ?_) (fun _ => ?_)); exact rfl) | (with_reducible refine c_split (fun _ => ?_) (fun _ => ?_)))
  all_goals (refine ret_same ?_; simpa [opValid, *] using h)
theorem flatQuad : flatInts Try.prog 111 5 = true := by kernel_rfl
theorem quadValid_ok (q : Qd) (m : Int) (h : K (.bool (quadValid q m)) H) : ACalls Try.prog w0 156 [q.val, .int .i64 m] H K := by
  refine acalls_of_sx mix Try.func156 of156 (by simp [ir156]) ?_; rw [ir156]; (try delta qT qI qC qO qM qG)
  repeat' (first | simp -implicitDefEqProofs only [zG1,zG2,zG3,zG4,zG5,zG6,zG7,eq_self,resV,rval,X.val,binv,fillL,setR,↓reduceIte,Nat.reduceEqDiff,Nat.reduceAdd,Nat.reduceMul,Nat.reduceLeDiff,Nat.reduceLT,Nat.reduceSub,reduceCtorEq,zGr, q_val] | ((with_reducible refine rows_intro (fun _ hb => ?_)); try simp only [set_none, ne_eq] at hb) | ((with_reducible refine new_intro (fun _ hb => ?_)); try simp only [set_none, ne_eq] at hb) | (with_reducible refine draw_same ?_) | ((with_reducible refine gd_split ?_ (fun _ => ?_) (fun _ => ?_)); exact rfl) | ((with_reducible refine td_split ?_ (fun _ => ?_) (fun _ => ?_)); exact rfl) | (with_reducible refine c_split (fun _ => ?_) (fun _ => ?_)) | (with_reducible refine isReg_ok _ _ _ _ ?_) | (with_reducible refine wordValid_ok _ _ _ _ ?_) | (with_reducible refine opValid_ok _ _ _ _ ?_) | (with_reducible refine eqs_five flatQuad ?_))
  all_goals (try (refine ⟨H, (AHeap.le.refl H).fresh ‹_› _, ?_⟩))
  all_goals refine kb h ?_
  all_goals (try simp only [beq_iff_eq, beq_eq_false_iff_ne, bne_iff_ne, bne_eq_false_iff_eq, decide_eq_true_eq, decide_eq_false_iff_not, ne_eq, Bool.not_eq_true, Bool.not_eq_false, Bool.not_eq_eq_eq_not, Bool.not_true, Bool.not_false, Int.not_lt, Int.not_le, ge_iff_le, gt_iff_lt] at *)
  all_goals (simp only [quadValid]; grind)
theorem l6In_ok (n lo hi : Int) (h : K (.bool (decide (lo ≤ n) && decide (n ≤ hi))) H) : ACalls Try.prog w0 84 [.int .i64 n, .int .i64 lo, .int .i64 hi] H K := by
  refine acalls_of_sx mix Try.func84 of84 (by simp [ir84]) ?_; rw [ir84]; (try delta qT qI qC qO qM qG)
  repeat' (first | simp -implicitDefEqProofs only [zG1,zG2,zG3,zG4,zG5,zG6,zG7,eq_self,resV,rval,X.val,binv,fillL,setR,↓reduceIte,Nat.reduceEqDiff,Nat.reduceAdd,Nat.reduceMul,Nat.reduceLeDiff,Nat.reduceLT,Nat.reduceSub,reduceCtorEq,zGr] | ((with_reducible refine rows_intro (fun _ hb => ?_)); try simp only [set_none, ne_eq] at hb) | ((with_reducible refine new_intro (fun _ hb => ?_)); try simp only [set_none, ne_eq] at hb) | (with_reducible refine draw_same ?_) | ((with_reducible refine gd_split ?_ (fun _ => ?_) (fun _ => ?_)); exact rfl) | ((with_reducible refine td_split ?_ (fun _ => ?_) (fun _ => ?_)); exact rfl) | (with_reducible refine c_split (fun _ => ?_) (fun _ => ?_)))
  all_goals (refine ret_same ?_; simpa [*] using h)
theorem wordValidS_ok (r : Int) (h : K (.bool (wordValid r)) H) : ACalls Try.prog w0 144 [.int .i64 r] H K := by
  refine acalls_of_sx mix Try.func144 of144 (by simp [ir144]) ?_; rw [ir144]; (try delta qT qI qC qO qM qG)
  repeat' (first | simp -implicitDefEqProofs only [zG1,zG2,zG3,zG4,zG5,zG6,zG7,eq_self,resV,rval,X.val,binv,fillL,setR,↓reduceIte,Nat.reduceEqDiff,Nat.reduceAdd,Nat.reduceMul,Nat.reduceLeDiff,Nat.reduceLT,Nat.reduceSub,reduceCtorEq,zGr] | ((with_reducible refine rows_intro (fun _ hb => ?_)); try simp only [set_none, ne_eq] at hb) | ((with_reducible refine new_intro (fun _ hb => ?_)); try simp only [set_none, ne_eq] at hb) | (with_reducible refine draw_same ?_) | ((with_reducible refine gd_split ?_ (fun _ => ?_) (fun _ => ?_)); exact rfl) | ((with_reducible refine td_split ?_ (fun _ => ?_) (fun _ => ?_)); exact rfl) | (with_reducible refine c_split (fun _ => ?_) (fun _ => ?_)) | (with_reducible refine l6In_ok _ _ _ _ _ _ ?_))
  all_goals (refine ret_same ?_; simpa [wordValid, *] using h)
theorem opValidS_ok (r : Int) (h : K (.bool (opValid r)) H) : ACalls Try.prog w0 184 [.int .i64 r] H K := by
  refine acalls_of_sx mix Try.func184 of184 (by simp [ir184]) ?_; rw [ir184]; (try delta qT qI qC qO qM qG)
  repeat' (first | simp -implicitDefEqProofs only [zG1,zG2,zG3,zG4,zG5,zG6,zG7,eq_self,resV,rval,X.val,binv,fillL,setR,↓reduceIte,Nat.reduceEqDiff,Nat.reduceAdd,Nat.reduceMul,Nat.reduceLeDiff,Nat.reduceLT,Nat.reduceSub,reduceCtorEq,zGr] | ((with_reducible refine rows_intro (fun _ hb => ?_)); try simp only [set_none, ne_eq] at hb) | ((with_reducible refine new_intro (fun _ hb => ?_)); try simp only [set_none, ne_eq] at hb) | (with_reducible refine draw_same ?_) | ((with_reducible refine gd_split ?_ (fun _ => ?_) (fun _ => ?_)); exact rfl) | ((with_reducible refine td_split ?_ (fun _ => ?_) (fun _ => ?_)); exact rfl) | (with_reducible refine c_split (fun _ => ?_) (fun _ => ?_)) | (with_reducible refine l6In_ok _ _ _ _ _ _ ?_))
  all_goals (refine ret_same ?_; simpa [opValid, *] using h)
theorem l21Reg_ok (x : Int) (u : Bool) (h : K (.bool (if u then isReg x else x == 0)) H) : ACalls Try.prog w0 200 [.int .i64 x, .bool u] H K := by
  refine acalls_of_sx mix Try.func200 of200 (by simp [ir200]) ?_; rw [ir200]; (try delta qT qI qC qO qM qG)
  repeat' (first | simp -implicitDefEqProofs only [zG1,zG2,zG3,zG4,zG5,zG6,zG7,eq_self,resV,rval,X.val,binv,fillL,setR,↓reduceIte,Nat.reduceEqDiff,Nat.reduceAdd,Nat.reduceMul,Nat.reduceLeDiff,Nat.reduceLT,Nat.reduceSub,reduceCtorEq,zGr] | ((with_reducible refine rows_intro (fun _ hb => ?_)); try simp only [set_none, ne_eq] at hb) | ((with_reducible refine new_intro (fun _ hb => ?_)); try simp only [set_none, ne_eq] at hb) | (with_reducible refine draw_same ?_) | ((with_reducible refine gd_split ?_ (fun _ => ?_) (fun _ => ?_)); exact rfl) | ((with_reducible refine td_split ?_ (fun _ => ?_) (fun _ => ?_)); exact rfl) | (with_reducible refine c_split (fun _ => ?_) (fun _ => ?_)) | (with_reducible refine l6In_ok _ _ _ _ _ _ ?_))
  all_goals (refine ret_same (kb h ?_))
  all_goals (simp only [isReg]; grind)
theorem l21Regs_ok (q : Qd) (d a b : Bool) (h : K (.bool ((if d then isReg q.dst else q.dst == 0) && (if a then isReg q.a else q.a == 0) && (if b then isReg q.b else q.b == 0))) H) : ACalls Try.prog w0 183 [q.val, .bool d, .bool a, .bool b] H K := by
  refine acalls_of_sx mix Try.func183 of183 (by simp [ir183]) ?_; rw [ir183]; (try delta qT qI qC qO qM qG)
  repeat' (first | simp -implicitDefEqProofs only [zG1,zG2,zG3,zG4,zG5,zG6,zG7,eq_self,resV,rval,X.val,binv,fillL,setR,↓reduceIte,Nat.reduceEqDiff,Nat.reduceAdd,Nat.reduceMul,Nat.reduceLeDiff,Nat.reduceLT,Nat.reduceSub,reduceCtorEq,zGr, q_val] | ((with_reducible refine rows_intro (fun _ hb => ?_)); try simp only [set_none, ne_eq] at hb) | ((with_reducible refine new_intro (fun _ hb => ?_)); try simp only [set_none, ne_eq] at hb) | (with_reducible refine draw_same ?_) | ((with_reducible refine gd_split ?_ (fun _ => ?_) (fun _ => ?_)); exact rfl) | ((with_reducible refine td_split ?_ (fun _ => ?_) (fun _ => ?_)); exact rfl) | (with_reducible refine c_split (fun _ => ?_) (fun _ => ?_)) | (with_reducible refine l21Reg_ok _ _ _ _ _ ?_))
  all_goals (refine ⟨H, (AHeap.le.refl H).fresh ‹_› _, ?_⟩)
  all_goals refine kb h ?_
  all_goals (try simp only [beq_iff_eq, beq_eq_false_iff_ne, bne_iff_ne, bne_eq_false_iff_eq, decide_eq_true_eq, decide_eq_false_iff_not, ne_eq, Bool.not_eq_true, Bool.not_eq_false, Bool.not_eq_eq_eq_not, Bool.not_true, Bool.not_false, Int.not_lt, Int.not_le, ge_iff_le, gt_iff_lt] at *)
  all_goals grind
theorem quadValidS_ok (q : Qd) (m : Int) (h : K (.bool (quadValid q m)) H) : ACalls Try.prog w0 152 [q.val, .int .i64 m] H K := by
  refine acalls_of_sx mix Try.func152 of152 (by simp [ir152]) ?_; rw [ir152]; (try delta qT qI qC qO qM qG)
  repeat' (first | simp -implicitDefEqProofs only [zG1,zG2,zG3,zG4,zG5,zG6,zG7,eq_self,resV,rval,X.val,binv,fillL,setR,↓reduceIte,Nat.reduceEqDiff,Nat.reduceAdd,Nat.reduceMul,Nat.reduceLeDiff,Nat.reduceLT,Nat.reduceSub,reduceCtorEq,zGr, q_val] | ((with_reducible refine rows_intro (fun _ hb => ?_)); try simp only [set_none, ne_eq] at hb) | ((with_reducible refine new_intro (fun _ hb => ?_)); try simp only [set_none, ne_eq] at hb) | (with_reducible refine draw_same ?_) | ((with_reducible refine gd_split ?_ (fun _ => ?_) (fun _ => ?_)); exact rfl) | ((with_reducible refine td_split ?_ (fun _ => ?_) (fun _ => ?_)); exact rfl) | (with_reducible refine c_split (fun _ => ?_) (fun _ => ?_)) | (with_reducible refine l21Regs_ok _ _ _ q _ _ _ ?_) | (with_reducible refine wordValidS_ok _ _ _ _ ?_) | (with_reducible refine opValidS_ok _ _ _ _ ?_) | (with_reducible refine l6In_ok _ _ _ _ _ _ ?_))
  all_goals (refine ⟨H, (AHeap.le.refl H).fresh ‹_› _, kb h ?_⟩)
  all_goals (try simp only [beq_iff_eq, beq_eq_false_iff_ne, bne_iff_ne, bne_eq_false_iff_eq, decide_eq_true_eq, decide_eq_false_iff_not, ne_eq, Bool.not_eq_true, Bool.not_eq_false, Bool.not_eq_eq_eq_not, Bool.not_true, Bool.not_false, Int.not_lt, Int.not_le, ge_iff_le, gt_iff_lt] at *)
  all_goals (simp only [quadValid]; grind)
end Go.Proofs.Ytfjhjfddgdokgaa
namespace Go.Proofs.Ytfjhjfddgdokgaa
set_option linter.all false
open Go Go.RowKit
/-- A slice's place reads as these cells. -/
def Fl (H : AHeap) (A : Option Addr) (vs : List Value) : Prop := ∀ (j : Nat) (v : Value), vs[j]? = some v → H.cell (adr A j) = some v
section
variable {H H' : AHeap} {A : Option Addr} {vs : List Value}
theorem Fl.le (h : Fl H A vs) (hl : AHeap.le H H') : Fl H' A vs := fun i x hx => hl.cell (h i x hx)
theorem Fl.fresh (h : Fl H A vs) {b : Nat} (hb : H b = none) (k : Blk) : Fl (H.set b k) A vs := h.le ((AHeap.le.refl H).fresh hb k)
theorem Fl.is (h : Fl H A vs) {i : Nat} (hi : i < vs.length) : A.isSome = true := by
  have := h i _ (List.getElem?_eq_getElem hi)
  cases A with
  | none => cases this
  | some a => rfl
theorem Fl.nil (H : AHeap) (A : Option Addr) : Fl H A [] := fun j v h => by cases h
theorem Fl.blk (H : AHeap) (b : Nat) (k : Blk) (vs : List Value) (h : ∀ (j : Nat) (v : Value), vs[j]? = some v → k.cells[j]? = some v) : Fl (H.set b k) (some ⟨b, 0, none⟩) vs := fun j v hj => by
  rw [adr_lit, Nat.zero_add, cell_same]; exact h j v hj
theorem Own.fl {H1 : AHeap} {e : TypeId} {size : Nat} {v : Value} {n : Nat} (h : Own H1 e size v n vs H) : ∃ A c, v = .slice A n c ∧ Fl H A vs := by
  rcases h with ⟨rfl, rfl, rfl, rfl⟩ | ⟨b, cap, rfl, hb, hn, hc, hl, rfl⟩
  · exact ⟨_, _, rfl, Fl.nil _ _⟩
  · exact ⟨_, _, rfl, Fl.blk _ _ _ _ fun _ _ h => h⟩
theorem Own.le {H1 : AHeap} {e : TypeId} {size : Nat} {v : Value} {n : Nat} (h : Own H1 e size v n vs H) : AHeap.le H1 H := by
  rcases h with ⟨rfl, rfl, rfl, rfl⟩ | ⟨b, cap, rfl, hb, hn, hc, hl, rfl⟩
  · exact .refl _
  · exact (AHeap.le.refl _).fresh hb _
end
theorem up1 {k n : Nat} (h : k < n) (hn : n ≤ 4611686018427387904) : IntKind.i64.wrap ((k : Int) + 1) = ((k + 1 : Nat) : Int) := by rw [wrap_i64 (by omega) (by omega)]; omega
theorem lt_dec {k n : Nat} (h : k < n) : decide ((k : Int) < (n : Int)) = true := by simp; omega
theorem ge_dec {k n : Nat} (h : ¬ k < n) : decide ((k : Int) < (n : Int)) = false := by simp; omega
theorem rng {k n : Nat} (h : k < n) : (0 ≤ (k : Int) ∧ (k : Int) < (n : Int)) = True := by simp; omega
def ints (xs : List Int) : List Value := xs.map (Value.int .i64 ·)
def bools (xs : List Bool) : List Value := xs.map (Value.bool ·)
def qcells (qs : List Qd) : List Value := qs.flatMap (·.cells)
theorem ints_len (xs : List Int) : (ints xs).length = xs.length := by simp [ints]
theorem qcells_len (qs : List Qd) : (qcells qs).length = qs.length * 5 := by
  induction qs with
  | nil => rfl
  | cons q qs ih => simp only [qcells, List.flatMap_cons, List.length_append, List.length_cons, List.length_nil] at *; omega
theorem ints_at {xs : List Int} {i : Nat} (h : i < xs.length) : (ints xs)[i]? = some (.int .i64 xs[i]) := by simp [ints, h]
theorem bools_at {xs : List Bool} {i : Nat} (h : i < xs.length) : (bools xs)[i]? = some (.bool xs[i]) := by simp [bools, h]
theorem qcells_at {qs : List Qd} : ∀ {k : Nat} (h : k < qs.length) (j : Nat), j < 5 → (qcells qs)[k * 5 + j]? = qs[k].cells[j]? := by
  induction qs with
  | nil => intro k h; cases h
  | cons q qs ih =>
    intro k h j hj
    have e : qcells (q :: qs) = q.cells ++ qcells qs := rfl
    rw [e, List.getElem?_append]
    have hl : q.cells.length = 5 := rfl
    cases k with
    | zero => simp only [Nat.zero_mul, Nat.zero_add, hl, hj, if_true]; rfl
    | succ k =>
      have hk : k < qs.length := by simpa using h
      rw [if_neg (by rw [hl]; omega), hl, show (k + 1) * 5 + j - 5 = k * 5 + j by omega, ih hk j hj]
      rfl
section
variable {H : AHeap} {A : Option Addr}
theorem Fl.int {xs : List Int} (h : Fl H A (ints xs)) {i : Nat} (hi : i < xs.length) : H.cell (adr A i) = some (.int .i64 xs[i]) := h _ _ (ints_at hi)
theorem Fl.bool {xs : List Bool} (h : Fl H A (bools xs)) {i : Nat} (hi : i < xs.length) : H.cell (adr A i) = some (.bool xs[i]) := h _ _ (bools_at hi)
theorem Fl.ints_is {xs : List Int} (h : Fl H A (ints xs)) {i : Nat} (hi : i < xs.length) : A.isSome = true := h.is (by rw [ints_len]; exact hi)
theorem Fl.qd_is {qs : List Qd} (h : Fl H A (qcells qs)) {i : Nat} (hi : i < qs.length) : A.isSome = true := h.is (i := i * 5) (by rw [qcells_len]; omega)
theorem Fl.q0 {qs : List Qd} (h : Fl H A (qcells qs)) {i : Nat} (hi : i < qs.length) : H.cell (adr A (i * 5)) = some (.int .i64 qs[i].op) := h _ _ (by rw [← Nat.add_zero (i * 5), qcells_at hi 0 (by omega)]; rfl)
theorem Fl.q1 {qs : List Qd} (h : Fl H A (qcells qs)) {i : Nat} (hi : i < qs.length) : H.cell (adr A (i * 5 + 1)) = some (.int .i64 qs[i].dst) := h _ _ (by rw [qcells_at hi 1 (by omega)]; rfl)
theorem Fl.q2 {qs : List Qd} (h : Fl H A (qcells qs)) {i : Nat} (hi : i < qs.length) : H.cell (adr A (i * 5 + 2)) = some (.int .i64 qs[i].a) := h _ _ (by rw [qcells_at hi 2 (by omega)]; rfl)
theorem Fl.q3 {qs : List Qd} (h : Fl H A (qcells qs)) {i : Nat} (hi : i < qs.length) : H.cell (adr A (i * 5 + 3)) = some (.int .i64 qs[i].b) := h _ _ (by rw [qcells_at hi 3 (by omega)]; rfl)
theorem Fl.q4 {qs : List Qd} (h : Fl H A (qcells qs)) {i : Nat} (hi : i < qs.length) : H.cell (adr A (i * 5 + 4)) = some (.int .i64 qs[i].n) := h _ _ (by rw [qcells_at hi 4 (by omega)]; rfl)
end
theorem Fl.quad {H : AHeap} {A : Option Addr} {qs : List Qd} (h : Fl H A (qcells qs)) {i : Nat} (hi : i < qs.length) : A.isSome = true ∧ H.cell (adr A (i * 5)) = some (.int .i64 qs[i].op) ∧
    H.cell (adr A (i * 5 + 1)) = some (.int .i64 qs[i].dst) ∧ H.cell (adr A (i * 5 + 2)) = some (.int .i64 qs[i].a) ∧ H.cell (adr A (i * 5 + 3)) = some (.int .i64 qs[i].b) ∧ H.cell (adr A (i * 5 + 4)) = some (.int .i64 qs[i].n) :=
  ⟨h.qd_is hi, h.q0 hi, h.q1 hi, h.q2 hi, h.q3 hi, h.q4 hi⟩
/-- The marks from k on. -/
def marks (k : Int) : Nat → List Int
  | 0 => []
  | n + 1 => k :: marks (k + 1) n
theorem marks_len (k : Int) (n : Nat) : (marks k n).length = n := by
  induction n generalizing k with
  | zero => rfl
  | succ n ih => simp [marks, ih]
theorem marks_at (k : Int) (n i : Nat) (h : i < n) : (marks k n)[i]? = some (k + i) := by
  induction n generalizing k i with
  | zero => cases h
  | succ n ih =>
    cases i with
    | zero => simp [marks]
    | succ i => simp only [marks, List.getElem?_cons_succ]; rw [ih _ _ (by omega)]; congr 1; omega
end Go.Proofs.Ytfjhjfddgdokgaa
namespace Go.Proofs.Ytfjhjfddgdokgaa
set_option linter.all false
open Go Go.RowKit Go.Joins Go.ChangeShapes Go.WideShapes Go.ChangeAt Go.Deep
set_option linter.unusedVariables false
set_option maxRecDepth 100000
theorem own : ownKnob Try.prog.godebug = none := by kernel_rfl
theorem laidOut : laidOutB Try.prog = true := by kernel_rfl
theorem calls_true {P : Program} {w0 : World} {H : AHeap} {f : Nat} {args : List Value} (h : ACalls P w0 f args H fun v _ => v = .bool true) (hs : Sat w0 H w0) :
    Calls P f args.toArray w0 fun e w' => e = .returned (.bool true) ∧ Below w0.heap.size w0 w' :=
  (h.2 w0 hs).mono fun e w' ⟨v, H', he, hs', hv⟩ => ⟨by rw [he, hv], hs'.below⟩
/-- The heap that is there: for reading alone. -/
def heapOf (w : World) : AHeap := fun b => match w.heap[b]? with
  | some (.cells c t _) => some ⟨c.toList, false, t, c.size⟩
  | _ => none
theorem sat_heap (w : World) : Sat w (heapOf w) w := ⟨Below.refl _ _, fun b k hk => by
  unfold heapOf at hk
  split at hk
  · rename_i c t fz hw
    obtain rfl := Option.some.inj hk
    exact ⟨c, fz, hw, rfl, fun j v hv => by simpa using hv, fun h => by cases h⟩
  · cases hk⟩
theorem heap_cell {w : World} {a : Addr} {v : Value} (h : w.cell? a = some v) : (heapOf w).cell (some a) = some v := by
  simp only [World.cell?] at h
  simp only [AHeap.cell, heapOf]
  split at h
  · rename_i c t fz hw
    rw [hw]
    split at h
    · cases h
    · rename_i hs
      rw [if_neg hs]
      simpa using h
  · cases h
section
variable {H : Type} {enc : TypeId × Value → H} {P : Program} {w : World} {base : Nat} {spare : Nat → Bool} {held : Bool}
theorem open_slice_fields {t e : TypeId} {fs : Array Field} {fuel : Nat} {cs : List Value} {x : DataW H × List MemPlace} (ht : P.underlying t = some (.slice e)) (he : P.underlying e = some (.struct fs))
    (hone : oneCellFields P fs = true) (hC : P.cellsOf e = fs.size) (h : DataW.trod enc P w base spare held fuel t cs = some x) :
    (cs = [.slice none 0 0] ∧ x = (.nil, [])) ∨
    ∃ (a : Addr) (len cap m : Nat) (D : Nat → DataW H) (Pl : Nat → List MemPlace), cs = [.slice (some a) len cap] ∧ base ≤ a.block ∧ len ≤ cap ∧ cap ≤ maxLen ∧ m = (if spare a.block then cap else len) ∧
      x = (.slice ((List.range len).map D) ((List.range (m - len)).map fun j => D (len + j)), MemPlace.row a (m * fs.size) ++ (List.range m).flatMap Pl) ∧
      ∀ i, i < m → ∃ (ys : List (DataW H × List MemPlace)) (n : Nat), D i = .agg (ys.map (·.1)) ∧ Pl i = ys.flatMap (·.2) ∧ ys.length = fs.size ∧
        ∀ (j : Nat) (f : Field), fs[j]? = some f → ∃ (v : Value) (y : DataW H × List MemPlace), w.cell? (a.add (i * fs.size + j)) = some v ∧ ys[j]? = some y ∧ DataW.trod enc P w base spare held n f.type [v] = some y := by
  rcases open_slice ht h with h0 | ⟨a, len, cap, m, n, D, Pl, hcs, hb, hl, hm, hmm, hx, hi⟩
  · exact .inl h0
  · refine .inr ⟨a, len, cap, m, D, Pl, hcs, hb, hl, hm, hmm, by rw [hC] at hx; exact hx, fun i him => ?_⟩
    obtain ⟨cs', hc, ht'⟩ := hi i him
    rw [hC] at hc
    obtain ⟨ys, n', hn', hy, hlen, hyl, hf⟩ := DataW.trod_struct he ht'
    obtain ⟨_, hcl, hat⟩ := World.cells?_some hc
    simp only [Prod.mk.injEq] at hy
    refine ⟨ys, n', hy.1, hy.2, hyl, fun j f hj => ?_⟩
    obtain ⟨ho, hk⟩ := hone_of hone j f hj
    have hjl : j < fs.size := (Array.getElem?_eq_some_iff.1 hj).1
    have hcell := hat j hjl
    have hv : cs'[j]? = some (cs'[j]'(by omega)) := List.getElem?_eq_getElem (by omega)
    have h1 := hf j f hj
    rw [ho, hk] at h1
    have hone' : (cs'.drop j).take 1 = [cs'[j]'(by omega)] := by
      rw [List.drop_eq_getElem_cons (by omega)]
      rfl
    rw [hone'] at h1
    have hys : ys[j]? = some (ys[j]'(by omega)) := List.getElem?_eq_getElem (by omega)
    refine ⟨_, _, ?_, hys, h1.trans hys⟩
    rw [← Go.Deep.add_add, hcell, hv]
theorem open_quads {t e u : TypeId} {f0 f1 f2 f3 f4 : Field} {a : Option Addr} {len cap : Nat} {d : DataW H} {p : List MemPlace} (ht : P.underlying t = some (.slice e)) (he : P.underlying e = some (.struct #[f0, f1, f2, f3, f4])) (hone : oneCellFields P #[f0, f1, f2, f3, f4] = true) (hC : P.cellsOf e = 5)
    (hu : P.underlying u = some (.int .i64)) (hf : f0.type = u ∧ f1.type = u ∧ f2.type = u ∧ f3.type = u ∧ f4.type = u) (h : DataW.Trod enc P w base spare held t (.slice a len cap) d p) :
    ∃ qs : List Qd, qs.length = len ∧ len ≤ maxLen ∧ Fl (heapOf w) a (qcells qs) := by
  obtain ⟨fuel, h⟩ := h
  rcases open_slice_fields ht he hone hC h with ⟨hcs, _⟩ | ⟨x, l, c, m, D, Pl, hcs, _, hl, hm, hmm, _, hi⟩
  · simp [Value.cells] at hcs
    obtain ⟨rfl, rfl, rfl⟩ := hcs
    exact ⟨[], rfl, Nat.zero_le _, Fl.nil _ _⟩
  · simp [Value.cells] at hcs
    obtain ⟨rfl, rfl, rfl⟩ := hcs
    have hlm : len ≤ m := by rw [hmm]; split <;> omega
    have hq : ∀ i, i < len → ∃ q : Qd, ∀ j, j < 5 → w.cell? (x.add (i * 5 + j)) = q.cells[j]? := by
      intro i hil
      obtain ⟨ys, n, _, _, _, hg⟩ := hi i (by omega)
      have one : ∀ j f, (#[f0, f1, f2, f3, f4] : Array Field)[j]? = some f → f.type = u → ∃ z : Int, w.cell? (x.add (i * 5 + j)) = some (.int .i64 z) := by
        intro j f hj hft
        obtain ⟨v, y, hc, _, ht'⟩ := hg j f hj
        rw [hft] at ht'
        obtain ⟨z, hz, _, _⟩ := DataW.trod_int hu ht'
        simp only [List.cons.injEq, and_true] at hz
        exact ⟨z, by rw [← hz]; exact hc⟩
      obtain ⟨z0, h0⟩ := one 0 f0 rfl hf.1
      obtain ⟨z1, h1⟩ := one 1 f1 rfl hf.2.1
      obtain ⟨z2, h2⟩ := one 2 f2 rfl hf.2.2.1
      obtain ⟨z3, h3⟩ := one 3 f3 rfl hf.2.2.2.1
      obtain ⟨z4, h4⟩ := one 4 f4 rfl hf.2.2.2.2
      refine ⟨⟨z0, z1, z2, z3, z4⟩, fun j hj => ?_⟩
      match j, hj with
      | 0, _ => exact h0
      | 1, _ => exact h1
      | 2, _ => exact h2
      | 3, _ => exact h3
      | 4, _ => exact h4
    have hfun : ∃ g : Nat → Qd, ∀ i, i < len → ∀ j, j < 5 → w.cell? (x.add (i * 5 + j)) = (g i).cells[j]? :=
      ⟨fun i => if hi : i < len then (hq i hi).choose else ⟨0, 0, 0, 0, 0⟩, fun i hi => by simp only [hi, dif_pos]; exact (hq i hi).choose_spec⟩
    obtain ⟨g, hg⟩ := hfun
    refine ⟨(List.range len).map g, by simp, by omega, fun j v hv => ?_⟩
    have hj : j < len * 5 := by
      have := (List.getElem?_eq_some_iff.1 hv).1
      rw [qcells_len] at this
      simpa using this
    have hk : j / 5 < ((List.range len).map g).length := by rw [List.length_map, List.length_range]; omega
    have := qcells_at hk (j % 5) (by omega)
    rw [show j / 5 * 5 + j % 5 = j by omega, hv] at this
    have e : ((List.range len).map g)[j / 5] = g (j / 5) := by simp
    rw [e, ← hg (j / 5) (by omega) (j % 5) (by omega), show j / 5 * 5 + j % 5 = j by omega] at this
    exact heap_cell this.symm
end
end Go.Proofs.Ytfjhjfddgdokgaa
namespace Go.Proofs.Ytfjhjfddgdokgaa
set_option linter.all false
open Go Go.RowKit Go.Joins Go.ChangeShapes Go.WideShapes Go.ChangeAt Go.Deep
set_option linter.unusedVariables false
set_option maxRecDepth 100000
section
variable {H : Type} {enc : TypeId × Value → H} {P : Program} {w : World} {base : Nat} {spare : Nat → Bool} {held : Bool}
theorem open_row {α : Type} {t s : TypeId} {n : Nat} (hs : P.underlying s = some (.slice t)) (hC : P.cellsOf t = n) (R : α → List Value → Prop) (op : ∀ (fuel : Nat) (cs : List Value) (x : DataW H × List MemPlace), DataW.trod enc P w base spare held fuel t cs = some x → ∃ e : α, R e cs)
    {fuel : Nat} {cs : List Value} {x : DataW H × List MemPlace} (h : DataW.trod enc P w base spare held fuel s cs = some x) : ∃ (es : List α) (A : Option Addr) (c : Nat), cs = [.slice A es.length c] ∧ es.length ≤ maxLen ∧ ∀ i (hi : i < es.length), A.isSome = true ∧ ∃ vs, R es[i] vs ∧ vs.length = n ∧ ∀ j (hj : j < vs.length), (heapOf w).cell (adr A (i * n + j)) = some vs[j] := by
  rcases DataW.trod_slice hs h with ⟨hc, _⟩ | ⟨a, len, cap, elems, rest, m, hfm, hc, _, hb, hl, hm, hel, hat, _, _⟩
  · subst hc
    exact ⟨[], none, 0, rfl, Nat.zero_le _, fun i hi => absurd hi (Nat.not_lt_zero _)⟩
  · subst hc
    have hx : ∀ k : Fin len, ∃ e : α, ∃ vs, R e vs ∧ vs.length = n ∧ ∀ j (hj : j < vs.length), (heapOf w).cell (adr (some a) (k.1 * n + j)) = some vs[j] := by
      intro k
      have hk' := hat k.1 (by have := k.2; omega)
      rw [hC, List.getElem?_eq_getElem (by have := k.2; omega)] at hk'
      obtain ⟨cs', hcs', ht'⟩ := Option.bind_eq_some_iff.1 hk'
      obtain ⟨e, he⟩ := op m cs' _ ht'
      obtain ⟨_, hcl, hcat⟩ := World.cells?_some hcs'
      refine ⟨e, cs', he, hcl, fun j hj => ?_⟩
      have g0 := hcat j (by omega)
      rw [Go.Deep.add_add] at g0
      rw [List.getElem?_eq_getElem hj] at g0
      exact heap_cell g0
    refine ⟨List.ofFn fun k => Classical.choose (hx k), some a, cap, by rw [List.length_ofFn], by rw [List.length_ofFn]; omega, fun i hi => ⟨rfl, ?_⟩⟩
    rw [List.getElem_ofFn]
    exact Classical.choose_spec (hx ⟨i, by simpa using hi⟩)
theorem open_int {u : TypeId} (hu : P.underlying u = some (.int .i64)) (fuel : Nat) (cs : List Value) (x : DataW H × List MemPlace) (h : DataW.trod enc P w base spare held fuel u cs = some x) : ∃ n : Int, cs = [.int .i64 n] := by
  obtain ⟨n, e, _, _⟩ := DataW.trod_int hu h
  exact ⟨n, e⟩
theorem open_irow {s u : TypeId} (hs : P.underlying s = some (.slice u)) (hu : P.underlying u = some (.int .i64)) (hC : P.cellsOf u = 1) (fuel : Nat) (cs : List Value) (x : DataW H × List MemPlace) (h : DataW.trod enc P w base spare held fuel s cs = some x) : ∃ zs : List Int, ∃ A c, cs = [.slice A zs.length c] ∧ zs.length ≤ maxLen ∧ Fl (heapOf w) A (ints zs) := by
  obtain ⟨zs, A, c, e, hm, hr⟩ := open_row hs hC (fun (z : Int) vs => vs = [.int .i64 z]) (open_int hu) h
  refine ⟨zs, A, c, e, hm, fun j v hj => ?_⟩
  have hjl := (List.getElem?_eq_some_iff.1 hj).1
  rw [ints_len] at hjl
  obtain ⟨_, vs, rfl, hl, hc⟩ := hr j hjl
  have := hc 0 (by simp)
  rw [Nat.mul_one, Nat.add_zero] at this
  rw [ints_at hjl] at hj
  cases hj
  exact this
def QuadsR (w : World) (qs : List Qd) (cs : List Value) : Prop := ∃ A c, cs = [.slice A qs.length c] ∧ qs.length ≤ maxLen ∧ Fl (heapOf w) A (qcells qs)
end
end Go.Proofs.Ytfjhjfddgdokgaa
namespace Go.Proofs.Ytfjhjfddgdokgaa
set_option linter.all false
open Go Go.RowKit
section
variable {P : Program} {w0 : World} {K : Value → AHeap → Prop} {z : List Value} {t e : TypeId} {bytes n m xc size : Nat} {v : Value} {xs news : List Value} {H H1 A B : AHeap}
theorem Own.len (h : Own H1 e size v n xs H) : xs.length = n * size := by
  rcases h with ⟨rfl, rfl, rfl, rfl⟩ | ⟨b, cap, rfl, hb, hn, hc, hl, rfl⟩
  · simp
  · exact hl
theorem Own.weaken (h : Own B e size v n xs H) (hl : AHeap.le A B) : ∃ H', AHeap.le H' H ∧ Own A e size v n xs H' := by
  rcases h with ⟨rfl, rfl, rfl, rfl⟩ | ⟨b, cap, rfl, hb, hn, hc, hl', rfl⟩
  · exact ⟨_, hl, .inl ⟨rfl, rfl, rfl, rfl⟩⟩
  · exact ⟨_, hl.set b _, .inr ⟨b, cap, rfl, hl.none hb, hn, hc, hl', rfl⟩⟩
theorem Own.drop {b : Nat} {k : Blk} (h : Own (H1.set b k) e size v n xs H) (hb : H1 b = none) : ∃ H', AHeap.le H' H ∧ Own H1 e size v n xs H' := h.weaken ((AHeap.le.refl H1).fresh hb k)
theorem mk_intro {k k' : IntKind} {n : Nat} {D : Value → AHeap → Prop} (hb : bytes * n ≤ 281474976710656) (hn : n ≤ 9223372036854775807) (h : ∀ b, H b = none → D (.slice (some ⟨b, 0, none⟩) n n) (H.set b ⟨repl z n, true, t, n * z.length⟩)) : mkK z t bytes (.int k n) (.int k' n) D H := by
  refine ⟨by omega, by omega, ?_, by omega, ?_⟩
  · have : ((bytes * n : Nat) : Int) ≤ 281474976710656 := by omega
    simpa using this
  · rw [Int.toNat_natCast]; exact h
theorem Own.fresh (h : Own H1 e size v n xs H) {b : Nat} (hb : H b = none) (k : Blk) : Own (H1.set b k) e size v n xs (H.set b k) := by
  rcases h with ⟨rfl, rfl, rfl, rfl⟩ | ⟨b', cap, rfl, hb', hn, hc, hl', rfl⟩
  · exact .inl ⟨rfl, rfl, rfl, rfl⟩
  · have hne : ¬ b' = b := by rintro rfl; simp [AHeap.set] at hb
    exact .inr ⟨b', cap, rfl, by rw [set_ne hne]; exact hb', hn, hc, hl', (set_comm (fun e => hne e.symm)).symm ▸ rfl⟩
end
end Go.Proofs.Ytfjhjfddgdokgaa
namespace Go.Proofs.Ytfjhjfddgdokgaa
set_option linter.all false
open Go Go.RowKit
theorem ACalls.mono {P : Program} {w0 : World} {f : Nat} {args : List Value} {H H' : AHeap} {K : Value → AHeap → Prop} (h : ACalls P w0 f args H' K) (hl : AHeap.le H' H) : ACalls P w0 f args H K :=
  ⟨h.1, fun w hs => h.2 w (hs.mono hl)⟩
end Go.Proofs.Ytfjhjfddgdokgaa
namespace Go.Proofs.Ytfjhjfddgdokgaa
set_option linter.all false
open Go Go.RowKit
/-- C knows at block b at least what k says. -/
def Kn (C : AHeap) (b : Nat) (k : Blk) : Prop := ∃ k' : Blk, C b = some k' ∧ k'.own = k.own ∧ k'.ty = k.ty ∧ k'.cap = k.cap ∧ ∀ (j : Nat) (v : Value), k.cells[j]? = some v → k'.cells[j]? = some v
/-- C' knows what C knew, but for the blocks bs. -/
def Chg (C C' : AHeap) (bs : List Nat) : Prop := ∀ (b : Nat) (k : Blk), ¬ b ∈ bs → C b = some k → Kn C' b k
/-- v is a slice of n elements of the call's own, in the blocks bs (one, or none). -/
def Rw (C : AHeap) (t : TypeId) (sz : Nat) (v : Value) (n : Nat) (xs : List Value) (bs : List Nat) : Prop :=
  (v = .slice none 0 0 ∧ n = 0 ∧ xs = [] ∧ bs = []) ∨
  ∃ b cap, v = .slice (some ⟨b, 0, none⟩) n cap ∧ bs = [b] ∧ n ≤ cap ∧ cap ≤ maxLen ∧ xs.length = n * sz ∧ Kn C b ⟨xs, true, t, cap * sz⟩
/-- None of these blocks is known. -/
def New (H : AHeap) (bs : List Nat) : Prop := ∀ b, b ∈ bs → H b = none
section
variable {C C' C'' H : AHeap} {b b' : Nat} {k k' : Blk} {bs bs' : List Nat}
theorem Kn.of (h : C b = some k) : Kn C b k := ⟨k, h, rfl, rfl, rfl, fun _ _ h => h⟩
theorem Kn.trans (h : Kn C b k) (hl : AHeap.le C C') : Kn C' b k := by
  obtain ⟨k1, h1, o1, t1, c1, r1⟩ := h
  obtain ⟨k2, h2, o2, t2, c2, r2⟩ := hl b k1 h1
  exact ⟨k2, h2, o2.trans o1, t2.trans t1, c2.trans c1, fun j v hv => r2 j v (r1 j v hv)⟩
theorem Kn.ne (h : Kn C b k) : C b ≠ none := by obtain ⟨k', h', _⟩ := h; rw [h']; simp
theorem Kn.ne_new (h : Kn C b k) (hb : C b' = none) : ¬ b = b' := by rintro rfl; exact h.ne hb
theorem Kn.chg (h : Kn C b k) (hc : Chg C C' bs) (hb : ¬ b ∈ bs) : Kn C' b k := by
  obtain ⟨k1, h1, o1, t1, c1, r1⟩ := h
  obtain ⟨k2, h2, o2, t2, c2, r2⟩ := hc b k1 hb h1
  exact ⟨k2, h2, o2.trans o1, t2.trans t1, c2.trans c1, fun j v hv => r2 j v (r1 j v hv)⟩
theorem Kn.same (C : AHeap) (b : Nat) (k : Blk) : Kn (C.set b k) b k := .of (set_same _ _ _)
theorem Kn.set (h : Kn C b k) (hb : ¬ b = b') (k' : Blk) : Kn (C.set b' k') b k := by
  obtain ⟨k1, h1, r⟩ := h
  exact ⟨k1, by rw [set_ne hb]; exact h1, r⟩
theorem Kn.fresh (h : Kn C b k) (hb : C b' = none) (k' : Blk) : Kn (C.set b' k') b k := h.set (h.ne_new hb) k'
theorem Kn.cell (h : Kn C b k) {j : Nat} {v : Value} (hv : k.cells[j]? = some v) : C.cell (some ⟨b, j, none⟩) = some v := by
  obtain ⟨k1, h1, _, _, _, r⟩ := h
  rw [cell_blk h1]; exact r j v hv
theorem Kn.fl (h : Kn C b k) {vs : List Value} (hv : ∀ (j : Nat) (v : Value), vs[j]? = some v → k.cells[j]? = some v) : Fl C (some ⟨b, 0, none⟩) vs := fun j v hj => by
  rw [adr_lit, Nat.zero_add]; exact h.cell (hv j v hj)
theorem Kn.weaken (h : Kn C b k) {xs : List Value} (hx : ∀ (j : Nat) (v : Value), xs[j]? = some v → k.cells[j]? = some v) : Kn C b ⟨xs, k.own, k.ty, k.cap⟩ := by
  obtain ⟨k1, h1, o1, t1, c1, r1⟩ := h
  exact ⟨k1, h1, o1, t1, c1, fun j v hv => r1 j v (hx j v hv)⟩
theorem Chg.of_le (h : AHeap.le C C') : Chg C C' bs := fun b k _ hk => h b k hk
theorem Chg.le (h : Chg C C' []) : AHeap.le C C' := fun b k hk => h b k (by simp) hk
theorem Chg.refl (C : AHeap) (bs : List Nat) : Chg C C bs := .of_le (.refl C)
theorem Chg.mono (h : Chg C C' bs) (hs : ∀ b, b ∈ bs → b ∈ bs') : Chg C C' bs' := fun b k hb hk => h b k (fun hm => hb (hs b hm)) hk
theorem Chg.trans (h : Chg C C' bs) (h' : Chg C' C'' bs) : Chg C C'' bs := fun b k hb hk => (h b k hb hk).chg h' hb
theorem Chg.after (h : AHeap.le C C') (h' : Chg C' C'' bs) : Chg C C'' bs := fun b k hb hk => Kn.chg (h b k hk) h' hb
/-- What stood before the blocks were made still stands. -/
theorem Chg.keep (hl : AHeap.le H C) (hc : Chg C C' bs) (hn : New H bs) : AHeap.le H C' := fun b k hk => Kn.chg (hl b k hk) hc fun hb => by rw [hn b hb] at hk; cases hk
theorem Chg.set (h : Chg C C' bs) (hb : b ∈ bs) (k : Blk) : Chg C (C'.set b k) bs := fun b' k' hb' hk' => (h b' k' hb' hk').set (fun e => hb' (e ▸ hb)) k
theorem Chg.fresh (h : Chg C C' bs) (hb : C' b = none) (k : Blk) : Chg C (C'.set b k) bs := fun b' k' hb' hk' => (h b' k' hb' hk').fresh hb k
theorem New.le (h : New C bs) (hl : AHeap.le H C) : New H bs := fun b hb => hl.none (h b hb)
theorem New.nil (H : AHeap) : New H [] := fun b hb => by cases hb
theorem New.one (h : H b = none) : New H [b] := fun x hx => by simp at hx; subst hx; exact h
theorem New.app (h : New H bs) (h' : New H bs') : New H (bs ++ bs') := fun b hb => (List.mem_append.1 hb).elim (h b) (h' b)
variable {t : TypeId} {sz n : Nat} {v : Value} {xs : List Value}
theorem Rw.trans (h : Rw C t sz v n xs bs) (hl : AHeap.le C C') : Rw C' t sz v n xs bs := by
  rcases h with h | ⟨b, cap, h1, h2, h3, h4, h5, h6⟩
  · exact .inl h
  · exact .inr ⟨b, cap, h1, h2, h3, h4, h5, h6.trans hl⟩
theorem Rw.chg (h : Rw C t sz v n xs bs) (hc : Chg C C' bs') (hd : ∀ b, b ∈ bs → ¬ b ∈ bs') : Rw C' t sz v n xs bs := by
  rcases h with h | ⟨b, cap, h1, rfl, h3, h4, h5, h6⟩
  · exact .inl h
  · exact .inr ⟨b, cap, h1, rfl, h3, h4, h5, h6.chg hc (hd b (by simp))⟩
theorem Rw.fl (h : Rw C t sz v n xs bs) : ∃ A c, v = .slice A n c ∧ Fl C A xs := by
  rcases h with ⟨rfl, rfl, rfl, rfl⟩ | ⟨b, cap, rfl, h2, h3, h4, h5, h6⟩
  · exact ⟨_, _, rfl, Fl.nil _ _⟩
  · exact ⟨_, _, rfl, h6.fl fun _ _ h => h⟩
theorem Rw.fl' {A : Option Addr} {n' c : Nat} (h : Rw C t sz (.slice A n' c) n xs bs) : Fl C A xs ∧ n' = n := by
  obtain ⟨A', c', e, hf⟩ := h.fl
  simp only [Value.slice.injEq] at e
  obtain ⟨rfl, rfl, rfl⟩ := e
  exact ⟨hf, rfl⟩
theorem Rw.len (h : Rw C t sz v n xs bs) : xs.length = n * sz := by
  rcases h with ⟨rfl, rfl, rfl, rfl⟩ | ⟨b, cap, rfl, h2, h3, h4, h5, h6⟩
  · simp
  · exact h5
theorem Rw.open_ (h : Rw C t sz v n xs bs) (hn : 0 < n) : ∃ b cap, v = .slice (some ⟨b, 0, none⟩) n cap ∧ bs = [b] ∧ n ≤ cap ∧ cap ≤ maxLen ∧ xs.length = n * sz ∧ Kn C b ⟨xs, true, t, cap * sz⟩ := by
  rcases h with ⟨rfl, rfl, rfl, rfl⟩ | h
  · cases hn
  · exact h
theorem Rw.mk {b cap : Nat} (h : Kn C b ⟨xs, true, t, cap * sz⟩) (hl : xs.length = n * sz) (hn : n ≤ cap) (hc : cap ≤ maxLen) : Rw C t sz (.slice (some ⟨b, 0, none⟩) n cap) n xs [b] := .inr ⟨b, cap, rfl, rfl, hn, hc, hl, h⟩
theorem Rw.nil_ (C : AHeap) (t : TypeId) (sz : Nat) : Rw C t sz (.slice none 0 0) 0 [] [] := .inl ⟨rfl, rfl, rfl, rfl⟩
theorem Own.rw_ {A : AHeap} (h : Own A t sz v n xs C) : AHeap.le A C ∧ ∃ bs, New A bs ∧ Rw C t sz v n xs bs := by
  refine ⟨h.le, ?_⟩
  rcases h with ⟨rfl, rfl, rfl, rfl⟩ | ⟨b, cap, rfl, hb, hn, hc, hl, rfl⟩
  · exact ⟨[], New.nil _, .inl ⟨rfl, rfl, rfl, rfl⟩⟩
  · exact ⟨[b], New.one hb, .inr ⟨b, cap, rfl, rfl, hn, hc, hl, Kn.same _ _ _⟩⟩
/-- The row, cut out of what the heap knows: for contracts that ask for a row alone. -/
theorem Rw.own_ (h : Rw C t sz v n xs bs) : ∃ A B, AHeap.le B C ∧ Own A t sz v n xs B ∧ ∀ b, b ∈ bs ∨ A b = C b := by
  rcases h with ⟨rfl, rfl, rfl, rfl⟩ | ⟨b, cap, rfl, rfl, hn, hc, hl, hk⟩
  · exact ⟨C, C, .refl _, .inl ⟨rfl, rfl, rfl, rfl⟩, fun _ => .inr rfl⟩
  · refine ⟨C.del b, (C.del b).set b ⟨xs, true, t, cap * sz⟩, fun x k' hx => ?_, .inr ⟨b, cap, rfl, by simp [AHeap.del], hn, hc, hl, rfl⟩, fun x => ?_⟩
    · by_cases hxb : x = b
      · subst hxb; rw [set_same] at hx; obtain rfl := Option.some.inj hx; exact hk
      · rw [set_ne hxb] at hx; simp only [AHeap.del, if_neg hxb] at hx; exact Kn.of hx
    · by_cases hxb : x = b
      · exact .inl (by simp [hxb])
      · exact .inr (by simp [AHeap.del, hxb])
/-- A contract that changes a row in place. -/
theorem Rw.put {A B : AHeap} {n' : Nat} {xs' : List Value} (ho : Own A t sz v n xs B) (hA : ∀ b, b ∈ bs ∨ A b = C b) (hr : Rw C t sz v n xs bs) (hn : n' = n) (h : Own A t sz v n' xs' C') : Chg C C' bs ∧ Rw C' t sz v n' xs' bs := by
  subst hn
  refine ⟨fun b k hb hk => ?_, ?_⟩
  · have : A b = some k := ((hA b).resolve_left hb).trans hk
    exact h.le b k this
  · rcases hr with ⟨rfl, rfl, rfl, rfl⟩ | ⟨b, cap, rfl, rfl, hn, hc, hl, hk⟩
    · rcases h with ⟨_, _, rfl, rfl⟩ | ⟨b', cap', e, _⟩
      · exact .inl ⟨rfl, rfl, rfl, rfl⟩
      · cases e
    · rcases h with ⟨e, _⟩ | ⟨b', cap', e, hb, hn', hc', hl', rfl⟩
      · cases e
      · simp only [Value.slice.injEq, Option.some.injEq, Addr.mk.injEq] at e
        obtain ⟨⟨rfl, _⟩, _, rfl⟩ := e
        exact .inr ⟨b, cap, rfl, rfl, hn', hc', hl', Kn.same _ _ _⟩
end
theorem New.off {C C' : AHeap} {t : TypeId} {sz : Nat} {v : Value} {n : Nat} {xs : List Value} {bs bs' : List Nat} (h : New C bs) (hr : Rw C t sz v n xs bs') : ∀ b, b ∈ bs' → ¬ b ∈ bs := fun b hb hm => by
  rcases hr with ⟨_, _, _, rfl⟩ | ⟨b', cap, _, rfl, _, _, _, hk⟩
  · cases hb
  · simp at hb; subst hb; exact hk.ne (h _ hm)
theorem rw_of {H : AHeap} {t : TypeId} {sz : Nat} {n : Nat} {xs : List Value} {K : Value → AHeap → Prop} (h : ∀ v C bs, AHeap.le H C → New H bs → Rw C t sz v n xs bs → K v C) : ∀ v H', Own H t sz v n xs H' → K v H' := fun v H' o => by
  obtain ⟨l, bs, hn, hr⟩ := o.rw_
  exact h v H' bs l hn hr
section
variable {P : Program} {w0 : World} {K : Value → AHeap → Prop} {C H : AHeap} {b o n m xc cap bytes : Nat} {k : Blk} {v x : Value} {xs news : List Value} {bs : List Nat} {t : TypeId} {z : List Value}
theorem getElem?_setR : ∀ (vs cs : List Value) (o j : Nat), o + vs.length ≤ cs.length → (setR cs o vs)[j]? = if o ≤ j ∧ j < o + vs.length then vs[j - o]? else cs[j]?
  | [], cs, o, j, _ => by simp only [setR, List.length_nil, Nat.add_zero]; rw [if_neg (by omega)]
  | v :: r, cs, o, j, h => by
    simp only [List.length_cons] at h
    simp only [setR]
    rw [getElem?_setR r _ _ _ (by simp; omega)]
    simp only [List.length_cons, List.getElem?_set]
    by_cases hj : j = o
    · subst hj
      rw [if_neg (by omega), if_pos rfl, if_pos (by omega), if_pos (by omega), Nat.sub_self]; rfl
    · by_cases hlt : o + 1 ≤ j ∧ j < o + 1 + r.length
      · rw [if_pos hlt, if_pos (by omega), show j - o = (j - (o + 1)) + 1 by omega, List.getElem?_cons_succ]
      · rw [if_neg hlt, if_neg (fun e => hj e.symm), if_neg (by omega)]
theorem set_mid {H : AHeap} {b b' : Nat} {k k' k2 : Blk} (h : ¬ b' = b) : ((H.set b k).set b' k2).set b k' = (H.set b k').set b' k2 := by
  rw [set_comm (H := H) (b := b) (b' := b') (fun e => h e.symm), set_set, set_comm h]
/-- A store into a block of the call's own. -/
theorem st_kn (h : Kn C b k) (ho : k.own = true) (hs : v.cells.size = n) (hl : o + n ≤ k.cells.length) (h1 : ∀ u ∈ v.cells.toList, u.oneCell' = true)
    (hK : ∀ C', Chg C C' [b] → (∀ x, ¬ x = b → C' x = C x) → Kn C' b ⟨setR k.cells o v.cells.toList, true, k.ty, k.cap⟩ → K undef C') : stK n (.pointer (some ⟨b, o, none⟩)) v K C := by
  obtain ⟨k1, e1, o1, t1, c1, r1⟩ := h
  have hlen : k.cells.length ≤ k1.cells.length := by
    rcases Nat.lt_or_ge k1.cells.length k.cells.length with hlt | hge
    · have := r1 k1.cells.length _ (List.getElem?_eq_getElem hlt)
      rw [List.getElem?_eq_none (Nat.le_refl _)] at this; cases this
    · exact hge
  refine ⟨rfl, k1, e1, o1.trans ho, hs, Nat.le_trans hl hlen, h1, hK _ (fun x k' hx hk => ?_) (fun x hx => by rw [set_ne hx]) ⟨_, set_same _ _ _, o1.trans ho, t1, c1, fun j u hu => ?_⟩⟩
  · have : ¬ x = b := by simpa using hx
    exact Kn.of (by rw [set_ne this]; exact hk)
  · have hsz : v.cells.toList.length = n := by simpa using hs
    simp only at hu ⊢
    rw [getElem?_setR _ _ _ _ (by omega)] at hu ⊢
    split
    · rename_i hj; rw [if_pos hj] at hu; exact hu
    · rename_i hj; rw [if_neg hj] at hu; exact r1 j u hu
/-- A store into a block that is known in full. -/
theorem st_known {v : Value} {K : Value → AHeap → Prop} {H : AHeap} (h : (H b).isSome = true) : stK n (.pointer (some ⟨b, o, none⟩)) v K H = ∃ k, H b = some k ∧ k.own = true ∧ v.cells.size = n ∧ o + n ≤ k.cells.length ∧ (∀ u ∈ v.cells.toList, u.oneCell' = true) ∧
    K undef (H.set b ⟨setR k.cells o v.cells.toList, k.own, k.ty, k.cap⟩) := st_eq
/-- An append to a row of the call's own. -/
theorem app_rw (hr : Rw C t z.length v n xs bs) {xa : Option Addr} (hn : Fl C xa news) (hl : news.length = m * z.length) (h1 : ∀ u ∈ news, u.oneCell' = true) (hm : n + m ≤ maxLen) (hB : (n + m) * bytes ≤ 140737488355328)
    (hK : ∀ v' C' bs', Chg C C' bs → (∀ b, b ∈ bs' → b ∈ bs ∨ C b = none) → Rw C' t z.length v' (n + m) (xs ++ news) bs' → K v' C') : appK P w0 z t bytes v (.slice xa m xc) K C := by
  rcases hr with ⟨rfl, rfl, rfl, rfl⟩ | ⟨b, cap, rfl, rfl, hnc, hc, hlen, hk⟩
  · refine .inr ⟨[], C, news, .inl (.inl ⟨rfl, rfl, rfl, rfl⟩), hl, hn, h1, hm, hB, fun v' C' ho => ?_⟩
    obtain ⟨l, bs', hb, hr⟩ := ho.rw_
    exact hK v' C' bs' (.of_le l) (fun b hb' => .inr (hb b hb')) hr
  · obtain ⟨k1, e1, o1, t1, c1, r1⟩ := hk
    have hlen' : n * z.length ≤ k1.cells.length := by
      rcases Nat.eq_zero_or_pos (n * z.length) with h0 | h0
      · omega
      · have := r1 (n * z.length - 1) _ (List.getElem?_eq_getElem (by simp only; omega))
        have := (List.getElem?_eq_some_iff.1 this).1
        omega
    refine .inr ⟨xs, C.del b, news, .inl (.inr ⟨b, cap, k1, rfl, e1, o1, t1, c1, hnc, hc, hlen', ?_, rfl⟩), hl, hn, h1, hm, hB, fun v' C' ho => ?_⟩
    · apply List.ext_getElem?
      intro j
      rw [List.getElem?_take]
      split
      · rename_i hj
        rw [List.getElem?_eq_getElem (by omega)]
        exact (r1 j _ (List.getElem?_eq_getElem (by simp only; omega))).symm
      · rw [List.getElem?_eq_none (by omega)]
    · obtain ⟨l, bs', hb, hr⟩ := ho.rw_
      refine hK v' C' bs' (fun x k' hx hk' => ?_) (fun x hx => ?_) hr
      · have : ¬ x = b := by simpa using hx
        exact l x k' (by simp only [AHeap.del, if_neg this]; exact hk')
      · have h0 := hb x hx
        by_cases hxb : x = b
        · exact .inl (by simp [hxb])
        · simp only [AHeap.del, if_neg hxb] at h0; exact .inr h0
theorem for_rule {fr : Fr} {c : XC} {Q : Exit → Fr → AHeap → Prop} (n : Nat) (I : Nat → Fr → AHeap → Prop) (h0 : I 0 fr H)
    (step : ∀ k fr H, k < n → I k fr H → ∀ N : Fr → AHeap → Prop, (∀ fr' H' H'', AHeap.le H'' H' → I (k + 1) fr' H'' → N fr' H') → sx P w0 c (thenK N Q) fr H)
    (done : ∀ fr H, I n fr H → ∀ N : Fr → AHeap → Prop, sx P w0 c (thenK N Q) fr H) : sx P w0 (.loop c) Q fr H := by
  refine ⟨fun m fr H => ∃ k : Nat, m = n - k ∧ k ≤ n ∧ I k fr H, n, ⟨0, rfl, Nat.zero_le _, h0⟩, ?_⟩
  rintro m fr H ⟨k, rfl, hk, hI⟩
  by_cases hlt : k < n
  · exact step k fr H hlt hI _ fun fr' H' H'' hl hI' => ⟨_, H'', by omega, hl, k + 1, rfl, by omega, hI'⟩
  · obtain rfl : k = n := by omega
    exact done fr H hI _
end
theorem zGq : (type_of% @rdn_F) ∧ (type_of% @rdnF_zero) ∧ (type_of% @rdnF_succ) ∧ (type_of% @st_known) ∧ (type_of% @cell_old) ∧ (type_of% @set_mid) := ⟨@rdn_F, @rdnF_zero, @rdnF_succ, @st_known, @cell_old, @set_mid⟩
end Go.Proofs.Ytfjhjfddgdokgaa
namespace Go.Proofs.Ytfjhjfddgdokgaa
set_option linter.all false
open Go Go.RowKit
/-- A row of codes. -/
def FR (H : AHeap) (A : Option Addr) (L : List (List Qd)) : Prop := ∀ i (hi : i < L.length), A.isSome = true ∧ ∃ A' c, H.cell (adr A i) = some (.slice A' L[i].length c) ∧ Fl H A' (qcells L[i])
/-- A row of pairs, the row of numbers at place o (0 or 1), the number at place u. -/
def FP (H : AHeap) (A : Option Addr) (o u : Nat) (ts : List (List Int × Int)) : Prop := ∀ i (hi : i < ts.length), A.isSome = true ∧ ∃ A' c, H.cell (adr A (i * 2 + o)) = some (.slice A' ts[i].1.length c) ∧ H.cell (adr A (i * 2 + u)) = some (.int .i64 ts[i].2) ∧ Fl H A' (ints ts[i].1)
section
variable {H H' : AHeap} {A : Option Addr} {L : List (List Qd)} {o u : Nat} {ts : List (List Int × Int)}
theorem FR.le (h : FR H A L) (hl : AHeap.le H H') : FR H' A L := fun i hi => by
  obtain ⟨h1, A', c, h2, h3⟩ := h i hi
  exact ⟨h1, A', c, hl.cell h2, h3.le hl⟩
theorem FP.le (h : FP H A o u ts) (hl : AHeap.le H H') : FP H' A o u ts := fun i hi => by
  obtain ⟨h1, A', c, h2, h3, h4⟩ := h i hi
  exact ⟨h1, A', c, hl.cell h2, hl.cell h3, h4.le hl⟩
end
/-- A crew. -/
structure Cr where
  codes : List (List Qd)
  threads : List (List Int × Int)
  boxes : List (List Int × Int)
  turn : Int
  last : Int
  log : List Int
end Go.Proofs.Ytfjhjfddgdokgaa
namespace Go.Proofs.Ytfjhjfddgdokgaa
set_option linter.all false
open Go Go.RowKit
/-- v is a slice of slices of the call's own, in blocks among bs: the rows read as L. -/
def Rs (C : AHeap) (t' t : TypeId) (sz : Nat) (v : Value) (L : List (List Value)) (bs : List Nat) : Prop :=
  ∃ (vs : List Value) (ob : List Nat) (bss : List (List Nat)), Rw C t' 1 v L.length vs ob ∧ bss.length = L.length ∧ (∀ x, x ∈ ob → x ∈ bs) ∧
    (∀ (i : Nat) (ib : List Nat), bss[i]? = some ib → (∀ x, x ∈ ib → x ∈ bs ∧ ¬ x ∈ ob) ∧ ∀ (j : Nat) (jb : List Nat), bss[j]? = some jb → i ≠ j → ∀ x, x ∈ ib → ¬ x ∈ jb) ∧
    ∀ (i : Nat) (xs : List Value), L[i]? = some xs → ∃ x ib n, vs[i]? = some x ∧ bss[i]? = some ib ∧ Rw C t sz x n xs ib
section
variable {P : Program} {w0 : World} {K : Value → AHeap → Prop} {C C' H : AHeap} {t' t : TypeId} {sz m c n cap b : Nat} {v x : Value} {L : List (List Value)} {bs bs' ib : List Nat} {A : Option Addr} {xs : List Value} {z : List Value} {bytes xc : Nat}
theorem Rs.trans (h : Rs C t' t sz v L bs) (hl : AHeap.le C C') : Rs C' t' t sz v L bs := by
  obtain ⟨vs, ob, bss, h1, h2, h3, h4, h5⟩ := h
  refine ⟨vs, ob, bss, h1.trans hl, h2, h3, h4, fun i xs hi => ?_⟩
  obtain ⟨x, ib, n, e1, e2, e3⟩ := h5 i xs hi
  exact ⟨x, ib, n, e1, e2, e3.trans hl⟩
theorem Rs.chg (h : Rs C t' t sz v L bs) (hc : Chg C C' bs') (hd : ∀ b, b ∈ bs → ¬ b ∈ bs') : Rs C' t' t sz v L bs := by
  obtain ⟨vs, ob, bss, h1, h2, h3, h4, h5⟩ := h
  refine ⟨vs, ob, bss, h1.chg hc (fun b hb => hd b (h3 b hb)), h2, h3, h4, fun i xs hi => ?_⟩
  obtain ⟨x, ib, n, e1, e2, e3⟩ := h5 i xs hi
  exact ⟨x, ib, n, e1, e2, e3.chg hc (fun b hb => hd b ((h4 i ib e2).1 b hb).1)⟩
/-- Only the blocks that are in use count. -/
theorem Rs.tight (h : Rs C t' t sz v L bs) : ∃ bs', (∀ b, b ∈ bs' → b ∈ bs) ∧ (∀ b, b ∈ bs' → C b ≠ none) ∧ Rs C t' t sz v L bs' := by
  classical
  obtain ⟨vs, ob, bss, h1, h2, h3, h4, h5⟩ := h
  refine ⟨bs.filter (fun b => decide (C b ≠ none)), fun b hb => (List.mem_filter.1 hb).1, fun b hb => by simpa using (List.mem_filter.1 hb).2, vs, ob, bss, h1, h2, fun x hx => List.mem_filter.2 ⟨h3 x hx, ?_⟩, fun i ib hi => ⟨fun x hx => ⟨List.mem_filter.2 ⟨((h4 i ib hi).1 x hx).1, ?_⟩, ((h4 i ib hi).1 x hx).2⟩, (h4 i ib hi).2⟩, h5⟩
  · rcases h1 with ⟨_, _, _, rfl⟩ | ⟨b, cap, _, rfl, _, _, _, hk⟩
    · cases hx
    · simp at hx; subst hx; simpa using hk.ne
  · have hlt : i < L.length := by rw [← h2]; exact (List.getElem?_eq_some_iff.1 hi).1
    obtain ⟨x', ib', n, _, e2, e3⟩ := h5 i _ (List.getElem?_eq_getElem hlt)
    rw [hi] at e2
    obtain rfl := Option.some.inj e2
    rcases e3 with ⟨_, _, _, rfl⟩ | ⟨b, cap, _, rfl, _, _, _, hk⟩
    · cases hx
    · simp at hx; subst hx; simpa using hk.ne
theorem Rs.nil_ (C : AHeap) (t' t : TypeId) (sz : Nat) : Rs C t' t sz (.slice none 0 0) [] [] :=
  ⟨[], [], [], Rw.nil_ _ _ _, rfl, fun x hx => (by cases hx), fun i ib hi => (by simp at hi), fun i xs hi => (by simp at hi)⟩
theorem Rs.empty (h : Rw C t' 1 v 0 xs bs) (t : TypeId) (sz : Nat) : Rs C t' t sz v [] bs := by
  have : xs = [] := List.eq_nil_of_length_eq_zero (by simpa using h.len)
  subst this
  exact ⟨[], bs, [], h, rfl, fun x hx => hx, fun i ib hi => (by simp at hi), fun i xs hi => (by simp at hi)⟩
theorem Rw.slice (h : Rw C t sz v n xs bs) : ∃ A c, v = .slice A n c := by obtain ⟨A, c, e, _⟩ := h.fl; exact ⟨A, c, e⟩
theorem Rs.slice (h : Rs C t' t sz v L bs) : ∃ A c, v = .slice A L.length c := by obtain ⟨vs, ob, bss, h1, _⟩ := h; exact h1.slice
theorem Rs.len (h : Rs C t' t sz (.slice A m c) L bs) : m = L.length := by obtain ⟨A', c', e⟩ := h.slice; simp only [Value.slice.injEq] at e; exact e.2.1
/-- A row, read. -/
theorem Rs.row (h : Rs C t' t sz (.slice A m c) L bs) {i : Nat} (hi : i < L.length) : A.isSome = true ∧ ∃ A' n c', C.cell (adr A i) = some (.slice A' n c') ∧ Fl C A' L[i] ∧ L[i].length = n * sz := by
  obtain ⟨vs, ob, bss, h1, h2, h3, h4, h5⟩ := h
  obtain ⟨x, ib, n, e1, e2, e3⟩ := h5 i _ (List.getElem?_eq_getElem hi)
  obtain ⟨A', c', rfl, f⟩ := e3.fl
  have hf := h1.fl'.1
  refine ⟨hf.is (i := i) ((List.getElem?_eq_some_iff.1 e1).1), A', n, c', hf i _ e1, f, e3.len⟩
/-- A row, changed in place. -/
theorem Rs.inner (h : Rs C t' t sz (.slice A m c) L bs) {i : Nat} (hi : i < L.length) : A.isSome = true ∧ ∃ x ib n, C.cell (adr A i) = some x ∧ Rw C t sz x n L[i] ib ∧ (∀ y, y ∈ ib → y ∈ bs) ∧ (∀ C', Chg C C' ib → C'.cell (adr A i) = some x) ∧
    ∀ C' xs', Chg C C' ib → Rw C' t sz x n xs' ib → Rs C' t' t sz (.slice A m c) (L.set i xs') bs := by
  obtain ⟨vs, ob, bss, h1, h2, h3, h4, h5⟩ := h
  obtain ⟨x, ib, n, e1, e2, e3⟩ := h5 i _ (List.getElem?_eq_getElem hi)
  have hf := h1.fl'.1
  refine ⟨hf.is (i := i) ((List.getElem?_eq_some_iff.1 e1).1), x, ib, n, hf i _ e1, e3, fun y hy => ((h4 i ib e2).1 y hy).1, fun C' hc => (h1.chg hc fun y hy hm => ((h4 i ib e2).1 y hm).2 hy).fl'.1 i _ e1, fun C' xs' hc hw => ⟨vs, ob, bss, ?_, by rw [List.length_set]; exact h2, h3, h4, fun j ys hj => ?_⟩⟩
  · rw [List.length_set]
    exact h1.chg hc fun y hy hm => ((h4 i ib e2).1 y hm).2 hy
  · rw [List.getElem?_set] at hj
    by_cases e : i = j
    · subst e
      rw [if_pos rfl, if_pos hi] at hj
      obtain rfl := Option.some.inj hj
      exact ⟨x, ib, n, e1, e2, hw⟩
    · rw [if_neg e] at hj
      have hne := e
      obtain ⟨x', ib', n', a1, a2, a3⟩ := h5 j ys hj
      exact ⟨x', ib', n', a1, a2, a3.chg hc ((h4 j ib' a2).2 i ib e2 (fun e => hne e.symm))⟩
/-- A row put in the place of another. -/
theorem Rs.st (h : Rs C t' t sz (.slice (some ⟨b, 0, none⟩) m cap) L bs) {i : Nat} (hi : i < L.length) (hx : Rw C t sz x n xs ib) (hd : ∀ y, y ∈ ib → ¬ y ∈ bs)
    (hK : ∀ C', Chg C C' bs → Rs C' t' t sz (.slice (some ⟨b, 0, none⟩) m cap) (L.set i xs) (bs ++ ib) → K undef C') : stK 1 (.pointer (some ⟨b, i, none⟩)) x K C := by
  obtain ⟨vs, ob, bss, h1, h2, h3, h4, h5⟩ := h
  obtain ⟨b', cap', e, rfl, hn, hc, hl, hk⟩ := h1.open_ (by omega)
  simp only [Value.slice.injEq, Option.some.injEq, Addr.mk.injEq] at e
  obtain ⟨⟨rfl, -⟩, rfl, rfl⟩ := e
  have hxc : x.cells = #[x] ∧ x.oneCell' = true := by
    obtain ⟨A, c, rfl⟩ := hx.slice
    exact ⟨vcS _ _ _, ocS _ _ _⟩
  have hvl : vs.length = L.length := by rw [hl, Nat.mul_one]
  refine st_kn hk rfl (by rw [hxc.1]; rfl) (by simp only; omega) (by rw [hxc.1]; simpa using hxc.2) (fun C' hc' ho' k' => hK C' (hc'.mono (by simpa using h3 b (by simp))) ?_)
  rw [hxc.1] at k'
  have hbb : ¬ b ∈ ib := fun hm => hd b hm (h3 b (by simp))
  refine ⟨vs.set i x, [b], bss.set i ib, ?_, by rw [List.length_set, List.length_set]; exact h2, fun y hy => List.mem_append_left _ (h3 y hy), fun j jb hj => ?_, fun j ys hj => ?_⟩
  · rw [List.length_set]; exact .inr ⟨b, cap, rfl, rfl, hn, hc, by rw [List.length_set]; exact hl, k'⟩
  · have old : ∀ j jb, bss[j]? = some jb → ∀ y, y ∈ jb → y ∈ bs := fun j jb hj y hy => ((h4 j jb hj).1 y hy).1
    rw [List.getElem?_set] at hj
    by_cases e : i = j
    · subst e
      rw [if_pos rfl, if_pos (by omega)] at hj
      obtain rfl := Option.some.inj hj
      refine ⟨fun y hy => ⟨List.mem_append_right _ hy, fun e => hbb (by simp at e; exact e ▸ hy)⟩, fun j' jb' hj' hne y hy hm => ?_⟩
      rw [List.getElem?_set, if_neg hne] at hj'
      exact hd y hy (old j' jb' hj' y hm)
    · rw [if_neg e] at hj
      refine ⟨fun y hy => ⟨List.mem_append_left _ ((h4 j jb hj).1 y hy).1, ((h4 j jb hj).1 y hy).2⟩, fun j' jb' hj' hne' y hy hm => ?_⟩
      rw [List.getElem?_set] at hj'
      by_cases e' : i = j'
      · subst e'
        rw [if_pos rfl, if_pos (by omega)] at hj'
        obtain rfl := Option.some.inj hj'
        exact hd y hm (old j jb hj y hy)
      · rw [if_neg e'] at hj'
        exact (h4 j jb hj).2 j' jb' hj' hne' y hy hm
  · rw [List.getElem?_set] at hj
    rw [List.getElem?_set, List.getElem?_set]
    split
    · rename_i e; subst e
      rw [if_pos rfl, if_pos hi] at hj
      obtain rfl := Option.some.inj hj
      rw [if_pos (by omega), if_pos (by omega)]
      exact ⟨x, ib, n, rfl, rfl, hx.chg hc' fun y hy e => hbb (by simp at e; exact e ▸ hy)⟩
    · rename_i hne
      rw [if_neg hne] at hj
      obtain ⟨x', ib', n', a1, a2, a3⟩ := h5 j ys hj
      exact ⟨x', ib', n', a1, a2, a3.chg hc' (((h4 j ib' a2).1 · · |>.2))⟩
/-- One more row. -/
theorem Rs.app (h : Rs C t' t sz v L bs) (hx : Rw C t sz x n xs ib) (hd : ∀ y, y ∈ ib → ¬ y ∈ bs) (hz : z.length = 1) {xa : Option Addr} (hr : Fl C xa [x]) (hm : L.length + 1 ≤ maxLen) (hB : (L.length + 1) * bytes ≤ 140737488355328)
    (hK : ∀ v' C' bs', Chg C C' bs → (∀ y, y ∈ bs' → y ∈ bs ∨ y ∈ ib ∨ C y = none) → Rs C' t' t sz v' (L ++ [xs]) bs' → K v' C') : appK P w0 z t' bytes v (.slice xa 1 xc) K C := by
  obtain ⟨vs, ob, bss, h1, h2, h3, h4, h5⟩ := h
  have hvl : vs.length = L.length := by have := h1.len; rw [this, Nat.mul_one]
  have h1' : Rw C t' z.length v L.length vs ob := by rw [hz]; exact h1
  have hxo : x.oneCell' = true := by
    obtain ⟨A, c, rfl⟩ := hx.slice
    exact ocS _ _ _
  refine app_rw h1' (news := [x]) hr (by rw [hz]; rfl) (by simpa using hxo) hm hB (fun v' C' ob' hc' hn' w' => ?_)
  rw [hz] at w'
  have hdi : ∀ y, y ∈ ib → ¬ y ∈ ob' := fun y hy hm => by
    rcases hn' y hm with ho | ho
    · exact hd y hy (h3 y ho)
    · rcases hx with ⟨_, _, _, rfl⟩ | ⟨b, cap, _, rfl, _, _, _, hk⟩
      · cases hy
      · simp at hy; subst hy; exact hk.ne ho
  have hold : ∀ j jb, bss[j]? = some jb → ∀ y, y ∈ jb → ¬ y ∈ ob' := fun j jb hj y hy hm => by
    rcases hn' y hm with ho | ho
    · exact ((h4 j jb hj).1 y hy).2 ho
    · have hjl : j < L.length := by rw [← h2]; exact (List.getElem?_eq_some_iff.1 hj).1
      obtain ⟨x', ib', n', a1, a2, a3⟩ := h5 j _ (List.getElem?_eq_getElem hjl)
      rw [hj] at a2
      obtain rfl := Option.some.inj a2
      rcases a3 with ⟨_, _, _, rfl⟩ | ⟨b, cap, _, rfl, _, _, _, hk⟩
      · cases hy
      · simp at hy; subst hy; exact hk.ne ho
  refine hK v' C' (ob' ++ (bs ++ ib).filter (fun y => !decide (y ∈ ob) || decide (y ∈ ob'))) (hc'.mono h3) (fun y hy => ?_) ⟨vs ++ [x], ob', bss ++ [ib], ?_, by simp [h2], fun y hy => List.mem_append_left _ hy, fun j jb hj => ?_, fun j ys hj => ?_⟩
  · rcases List.mem_append.1 hy with hy | hy
    · rcases hn' y hy with ho | ho
      · exact .inl (h3 y ho)
      · exact .inr (.inr ho)
    · rcases List.mem_append.1 (List.mem_filter.1 hy).1 with hy | hy
      · exact .inl hy
      · exact .inr (.inl hy)
  · rw [List.length_append]; exact w'
  · have inn : ∀ y, y ∈ bs ∨ y ∈ ib → ¬ y ∈ ob → y ∈ ob' ++ (bs ++ ib).filter (fun y => !decide (y ∈ ob) || decide (y ∈ ob')) := fun y hy hno =>
      List.mem_append_right _ (List.mem_filter.2 ⟨List.mem_append.2 hy, by simp [hno]⟩)
    rcases Nat.lt_or_ge j bss.length with hjl | hjl
    · rw [List.getElem?_append_left hjl] at hj
      refine ⟨fun y hy => ⟨inn y (.inl ((h4 j jb hj).1 y hy).1) ((h4 j jb hj).1 y hy).2, hold j jb hj y hy⟩, fun j' jb' hj' hne y hy hm => ?_⟩
      rcases Nat.lt_or_ge j' bss.length with hjl' | hjl'
      · rw [List.getElem?_append_left hjl'] at hj'
        exact (h4 j jb hj).2 j' jb' hj' hne y hy hm
      · rw [List.getElem?_append_right hjl'] at hj'
        have : j' - bss.length = 0 := by
          rcases Nat.eq_zero_or_pos (j' - bss.length) with h0 | h0
          · exact h0
          · rw [List.getElem?_eq_none (by simp; omega)] at hj'; cases hj'
        rw [this] at hj'
        obtain rfl := Option.some.inj hj'
        exact hd y hm ((h4 j jb hj).1 y hy).1
    · rw [List.getElem?_append_right hjl] at hj
      have hj0 : j - bss.length = 0 := by
        rcases Nat.eq_zero_or_pos (j - bss.length) with h0 | h0
        · exact h0
        · rw [List.getElem?_eq_none (by simp; omega)] at hj; cases hj
      rw [hj0] at hj
      obtain rfl := Option.some.inj hj
      refine ⟨fun y hy => ⟨inn y (.inr hy) (fun ho => hd y hy (h3 y ho)), hdi y hy⟩, fun j' jb' hj' hne y hy hm => ?_⟩
      rcases Nat.lt_or_ge j' bss.length with hjl' | hjl'
      · rw [List.getElem?_append_left hjl'] at hj'
        exact hd y hy ((h4 j' jb' hj').1 y hm).1
      · rw [List.getElem?_append_right hjl'] at hj'
        have : j' - bss.length = 0 := by
          rcases Nat.eq_zero_or_pos (j' - bss.length) with h0 | h0
          · exact h0
          · rw [List.getElem?_eq_none (by simp; omega)] at hj'; cases hj'
        exact hne (by omega)
  · rcases Nat.lt_or_ge j L.length with hjl | hjl
    · rw [List.getElem?_append_left hjl] at hj
      obtain ⟨x', ib', n', a1, a2, a3⟩ := h5 j ys hj
      exact ⟨x', ib', n', by rw [List.getElem?_append_left (by omega)]; exact a1, by rw [List.getElem?_append_left (by omega)]; exact a2, a3.chg hc' fun y hy => ((h4 j ib' a2).1 y hy).2⟩
    · rw [List.getElem?_append_right hjl] at hj
      have hj0 : j - L.length = 0 := by
        rcases Nat.eq_zero_or_pos (j - L.length) with h0 | h0
        · exact h0
        · rw [List.getElem?_eq_none (by simp; omega)] at hj; cases hj
      rw [hj0] at hj
      obtain rfl := Option.some.inj hj
      refine ⟨x, ib, n, by rw [List.getElem?_append_right (by omega), show j - vs.length = 0 by omega]; rfl, by rw [List.getElem?_append_right (by omega), show j - bss.length = 0 by omega]; rfl, hx.chg hc' fun y hy ho => hd y hy (h3 y ho)⟩
end
end Go.Proofs.Ytfjhjfddgdokgaa
namespace Go.Proofs.Ytfjhjfddgdokgaa
set_option linter.all false
open Go Go.RowKit
theorem repl_at (x : Value) (n i : Nat) (h : i < n) : (repl [x] n)[i]? = some x := by
  induction n generalizing i with
  | zero => cases h
  | succ n ih =>
    cases i with
    | zero => rfl
    | succ i => exact ih i (by omega)
theorem repl_len1 (x : Value) (n : Nat) : (repl [x] n).length = n := by
  induction n with
  | zero => rfl
  | succ n ih => simp only [repl, List.length_append, ih, List.length_cons, List.length_nil]; omega
theorem Rs.nils {C : AHeap} {b : Nat} {t' t : TypeId} {sz n : Nat} (h : Kn C b ⟨repl [.slice none 0 0] n, true, t', n * 1⟩) (hn : n ≤ maxLen) : Rs C t' t sz (.slice (some ⟨b, 0, none⟩) n n) (List.replicate n []) [b] := by
  refine ⟨repl [.slice none 0 0] n, [b], List.replicate n [], ?_, by simp, fun x hx => hx, fun i ib hi => ?_, fun i xs hi => ?_⟩
  · have := Rw.mk (n := n) h (by rw [repl_len1, Nat.mul_one]) (Nat.le_refl _) hn
    rwa [List.length_replicate]
  · simp only [List.getElem?_replicate] at hi
    split at hi
    · obtain rfl := Option.some.inj hi
      exact ⟨fun x hx => (by cases hx), fun j jb _ _ x hx => (by cases hx)⟩
    · cases hi
  · simp only [List.getElem?_replicate] at hi
    split at hi
    · rename_i hlt
      obtain rfl := Option.some.inj hi
      exact ⟨_, [], 0, repl_at _ _ _ hlt, by simp [hlt], Rw.nil_ _ _ _⟩
    · cases hi
theorem Rs.fr {C : AHeap} {A : Option Addr} {m c : Nat} {t' t : TypeId} {L : List (List Qd)} {bs : List Nat} (h : Rs C t' t 5 (.slice A m c) (L.map qcells) bs) : FR C A L := fun i hi => by
  obtain ⟨h1, A', n, c', h2, h3, h4⟩ := h.row (i := i) (by rw [List.length_map]; exact hi)
  rw [List.getElem_map] at h3 h4
  rw [qcells_len] at h4
  have : n = L[i].length := by omega
  subst this
  exact ⟨h1, A', c', h2, h3⟩
end Go.Proofs.Ytfjhjfddgdokgaa
namespace Go.Proofs.Ytfjhjfddgdokgaa
set_option linter.all false
open Go Go.RowKit
set_option maxRecDepth 100000
variable (w0 : World) (H : AHeap) (K : Value → AHeap → Prop)
theorem toQuad_ok (q : Qd) (h : K q.val H) : ACalls Try.prog w0 115 [q.val] H K := by
  refine acalls_of_sx mix Try.func115 of115 (by simp [ir115]) ?_; rw [ir115]; (try delta qT qI qC qO qM qG)
  repeat' (first | simp -implicitDefEqProofs only [zG1,zG2,zG3,zG4,zG5,zG6,zG7,eq_self,resV,rval,X.val,binv,fillL,setR,↓reduceIte,Nat.reduceEqDiff,Nat.reduceAdd,Nat.reduceMul,Nat.reduceLeDiff,Nat.reduceLT,Nat.reduceSub,reduceCtorEq,zGr, q_val, *] | ((with_reducible refine rows_intro (fun _ hb => ?_)); try simp only [set_none, ne_eq] at hb) | ((with_reducible refine new_intro (fun _ hb => ?_)); try simp only [set_none, ne_eq] at hb) | (with_reducible refine draw_same ?_) | ((with_reducible refine gd_split ?_ (fun _ => ?_) (fun _ => ?_)); exact rfl) | ((with_reducible refine td_split ?_ (fun _ => ?_) (fun _ => ?_)); exact rfl) | (with_reducible refine c_split (fun _ => ?_) (fun _ => ?_)))
  all_goals exact ⟨H, (by simp -implicitDefEqProofs only [le_set_true, le_refl_true, eq_self, *]), h⟩
end Go.Proofs.Ytfjhjfddgdokgaa
namespace Go.Proofs.Ytfjhjfddgdokgaa
set_option linter.all false
open Go Go.RowKit
set_option maxRecDepth 100000
variable (w0 : World) (H : AHeap) (K : Value → AHeap → Prop)
theorem szQuadS_ok (A : Option Addr) (n c : Nat) (l : Int) (h1 : n ≤ maxLen) (h2 : 0 ≤ l) (h3 : l ≤ 4611686018427387904) (h : K (.int .i64 (if l < n then -1 else l - n)) H) :
    ACalls Try.prog w0 51 [.slice A n c, .int .i64 l] H K := by
  have e0 : (n : Int) ≤ 9223372036854775807 := by simp only [maxLen] at h1; omega
  have e1 : IntKind.i64.wrap (l - n) = l - n := wrap_i64 (by omega) (by omega)
  refine acalls_of_sx mix Try.func51 of51 (by simp [ir51]) ?_; rw [ir51]; (try delta qT qI qC qO qM qG)
  repeat' (first | simp -implicitDefEqProofs only [zG1,zG2,zG3,zG4,zG5,zG6,zG7,eq_self,resV,rval,X.val,binv,fillL,setR,↓reduceIte,Nat.reduceEqDiff,Nat.reduceAdd,Nat.reduceMul,Nat.reduceLeDiff,Nat.reduceLT,Nat.reduceSub,reduceCtorEq,zGr, e1] | ((with_reducible refine rows_intro (fun _ hb => ?_)); try simp only [set_none, ne_eq] at hb) | ((with_reducible refine new_intro (fun _ hb => ?_)); try simp only [set_none, ne_eq] at hb) | (with_reducible refine draw_same ?_) | ((with_reducible refine gd_split ?_ (fun _ => ?_) (fun _ => ?_)); exact rfl) | ((with_reducible refine td_split ?_ (fun _ => ?_) (fun _ => ?_)); exact rfl) | (with_reducible refine c_split (fun _ => ?_) (fun _ => ?_)))
  all_goals (refine ret_same (ki h ?_))
  all_goals (try simp only [beq_iff_eq, beq_eq_false_iff_ne, bne_iff_ne, bne_eq_false_iff_eq, decide_eq_true_eq, decide_eq_false_iff_not, ne_eq, Bool.not_eq_true, Bool.not_eq_false, Bool.not_eq_eq_eq_not, Bool.not_true, Bool.not_false, Int.not_lt, Int.not_le, ge_iff_le, gt_iff_lt] at *)
  all_goals (split <;> omega)
theorem eqQuad_ok (p q : Qd) (h : K (.bool (decide (p = q))) H) : ACalls Try.prog w0 73 [p.val, q.val] H K := by
  refine acalls_of_sx mix Try.func73 of73 (by simp [ir73]) ?_; rw [ir73]; (try delta qT qI qC qO qM qG)
  repeat' (first | simp -implicitDefEqProofs only [zG1,zG2,zG3,zG4,zG5,zG6,zG7,eq_self,resV,rval,X.val,binv,fillL,setR,↓reduceIte,Nat.reduceEqDiff,Nat.reduceAdd,Nat.reduceMul,Nat.reduceLeDiff,Nat.reduceLT,Nat.reduceSub,reduceCtorEq,zGr, q_val, *] | ((with_reducible refine rows_intro (fun _ hb => ?_)); try simp only [set_none, ne_eq] at hb) | ((with_reducible refine new_intro (fun _ hb => ?_)); try simp only [set_none, ne_eq] at hb) | (with_reducible refine draw_same ?_) | ((with_reducible refine gd_split ?_ (fun _ => ?_) (fun _ => ?_)); exact rfl) | ((with_reducible refine td_split ?_ (fun _ => ?_) (fun _ => ?_)); exact rfl) | (with_reducible refine c_split (fun _ => ?_) (fun _ => ?_)))
  all_goals refine ⟨H, ((AHeap.le.refl H).fresh ‹H _ = none› _).trans (AHeap.le.fresh (.refl _) (set_none.2 (by assumption)) _), kb h ?_⟩
  all_goals (try simp only [beq_iff_eq, beq_eq_false_iff_ne, bne_iff_ne, bne_eq_false_iff_eq, decide_eq_true_eq, decide_eq_false_iff_not, ne_eq, Bool.not_eq_true, Bool.not_eq_false, Bool.not_eq_eq_eq_not, Bool.not_true, Bool.not_false, Int.not_lt, Int.not_le, ge_iff_le, gt_iff_lt] at *)
  all_goals (cases p; cases q; simp only [Qd.mk.injEq] at *; simp_all)
theorem eqQuadS_ok (A B : Option Addr) (ca cb : Nat) (xs ys : List Qd) (hx : Fl H A (qcells xs)) (hy : Fl H B (qcells ys)) (hn : xs.length ≤ 4611686018427387904) (h : K (.bool (decide (xs = ys))) H) :
    ACalls Try.prog w0 19 [.slice A xs.length ca, .slice B ys.length cb] H K := by
  refine acalls_of_sx mix Try.func19 of19 (by simp [ir19]) ?_; rw [ir19]; (try delta qT qI qC qO qM qG)
  repeat' (first | simp -implicitDefEqProofs only [zG1,zG2,zG3,zG4,zG5,zG6,zG7,eq_self,resV,rval,X.val,binv,fillL,setR,↓reduceIte,Nat.reduceEqDiff,Nat.reduceAdd,Nat.reduceMul,Nat.reduceLeDiff,Nat.reduceLT,Nat.reduceSub,reduceCtorEq,zGr] | ((with_reducible refine rows_intro (fun _ hb => ?_)); try simp only [set_none, ne_eq] at hb) | ((with_reducible refine new_intro (fun _ hb => ?_)); try simp only [set_none, ne_eq] at hb) | (with_reducible refine draw_same ?_) | ((with_reducible refine gd_split ?_ (fun _ => ?_) (fun _ => ?_)); exact rfl) | ((with_reducible refine td_split ?_ (fun _ => ?_) (fun _ => ?_)); exact rfl) | (with_reducible refine c_split (fun _ => ?_) (fun _ => ?_)))
  · refine ret_same (kb h ?_)
    (try simp only [beq_iff_eq, beq_eq_false_iff_ne, bne_iff_ne, bne_eq_false_iff_eq, decide_eq_true_eq, decide_eq_false_iff_not, ne_eq, Bool.not_eq_true, Bool.not_eq_false, Bool.not_eq_eq_eq_not, Bool.not_true, Bool.not_false, Int.not_lt, Int.not_le, ge_iff_le, gt_iff_lt] at *)
    simp only [false_eq_decide_iff]
    intro e; subst e; omega
  · refine loop_rule (fun n fr H' => ∃ k : Nat, n = xs.length - k ∧ k ≤ xs.length ∧ H' = H ∧ (∀ i, i < k → xs[i]? = ys[i]?) ∧ fr 0 = .slice A xs.length ca ∧ fr 1 = .slice B ys.length cb ∧ fr 5 = .int .i64 k) xs.length
      ⟨0, rfl, Nat.zero_le _, rfl, fun i hi => absurd hi (Nat.not_lt_zero _), rfl, rfl, rfl⟩ ?_
    rintro n fr _ ⟨k, rfl, hk, rfl, he, h0, h1, h5⟩
    have hl : xs.length = ys.length := by (try simp only [beq_iff_eq, beq_eq_false_iff_ne, bne_iff_ne, bne_eq_false_iff_eq, decide_eq_true_eq, decide_eq_false_iff_not, ne_eq, Bool.not_eq_true, Bool.not_eq_false, Bool.not_eq_eq_eq_not, Bool.not_true, Bool.not_false, Int.not_lt, Int.not_le, ge_iff_le, gt_iff_lt] at *); omega
    by_cases hlt : k < xs.length
    · have hlt' : k < ys.length := by omega
      have g0 := lt_dec hlt
      have g1 := rng hlt
      have g2 := rng hlt'
      have g3 := up1 hlt hn
      have p0 := hx.quad hlt
      have r0 := hy.quad hlt'
      repeat' (first | simp -implicitDefEqProofs only [zG1,zG2,zG3,zG4,zG5,zG6,zG7,eq_self,resV,rval,X.val,binv,fillL,setR,↓reduceIte,Nat.reduceEqDiff,Nat.reduceAdd,Nat.reduceMul,Nat.reduceLeDiff,Nat.reduceLT,Nat.reduceSub,reduceCtorEq,zGr, h0, h1, h5, g0, g1, g2, g3, p0, r0, Nat.add_zero] | ((with_reducible refine rows_intro (fun _ hb => ?_)); try simp only [set_none, ne_eq] at hb) | ((with_reducible refine new_intro (fun _ hb => ?_)); try simp only [set_none, ne_eq] at hb) | (with_reducible refine draw_same ?_) | ((with_reducible refine gd_split ?_ (fun _ => ?_) (fun _ => ?_)); exact rfl) | ((with_reducible refine td_split ?_ (fun _ => ?_) (fun _ => ?_)); exact rfl) | (with_reducible refine c_split (fun _ => ?_) (fun _ => ?_)) | (with_reducible refine eqQuad_ok _ _ _ xs[k] ys[k] ?_))
      · refine ret_same (kb h ?_)
        (try simp only [beq_iff_eq, beq_eq_false_iff_ne, bne_iff_ne, bne_eq_false_iff_eq, decide_eq_true_eq, decide_eq_false_iff_not, ne_eq, Bool.not_eq_true, Bool.not_eq_false, Bool.not_eq_eq_eq_not, Bool.not_true, Bool.not_false, Int.not_lt, Int.not_le, ge_iff_le, gt_iff_lt] at *)
        simp only [false_eq_decide_iff]
        rintro rfl
        exact absurd rfl ‹¬ xs[k] = _›
      · refine ⟨_, _, ?_, AHeap.le.refl _, k + 1, rfl, by omega, rfl, fun i hi => ?_, by simp [put_at, h0], by simp [put_at, h1], by simp [put_at]⟩
        · omega
        · rcases Nat.lt_succ_iff_lt_or_eq.1 hi with hi | rfl
          · exact he i hi
          · (try simp only [beq_iff_eq, beq_eq_false_iff_ne, bne_iff_ne, bne_eq_false_iff_eq, decide_eq_true_eq, decide_eq_false_iff_not, ne_eq, Bool.not_eq_true, Bool.not_eq_false, Bool.not_eq_eq_eq_not, Bool.not_true, Bool.not_false, Int.not_lt, Int.not_le, ge_iff_le, gt_iff_lt] at *)
            rw [List.getElem?_eq_getElem hlt, List.getElem?_eq_getElem hlt']
            exact congrArg some ‹_›
    · have g0 := ge_dec hlt
      repeat' (first | simp -implicitDefEqProofs only [zG1,zG2,zG3,zG4,zG5,zG6,zG7,eq_self,resV,rval,X.val,binv,fillL,setR,↓reduceIte,Nat.reduceEqDiff,Nat.reduceAdd,Nat.reduceMul,Nat.reduceLeDiff,Nat.reduceLT,Nat.reduceSub,reduceCtorEq,zGr, h0, h1, h5, g0] | ((with_reducible refine rows_intro (fun _ hb => ?_)); try simp only [set_none, ne_eq] at hb) | ((with_reducible refine new_intro (fun _ hb => ?_)); try simp only [set_none, ne_eq] at hb) | (with_reducible refine draw_same ?_) | ((with_reducible refine gd_split ?_ (fun _ => ?_) (fun _ => ?_)); exact rfl) | ((with_reducible refine td_split ?_ (fun _ => ?_) (fun _ => ?_)); exact rfl) | (with_reducible refine c_split (fun _ => ?_) (fun _ => ?_)))
      refine ret_same (kb h ?_)
      simp only [true_eq_decide_iff]
      apply List.ext_getElem?
      intro i
      by_cases hi : i < k
      · exact he i hi
      · rw [List.getElem?_eq_none (by omega), List.getElem?_eq_none (by omega)]
def opAt (qs : List Qd) (i : Nat) : Int := ((qs[i]?).map (·.op)).getD 0
theorem opAt_eq {qs : List Qd} {i : Nat} (h : i < qs.length) : opAt qs i = qs[i].op := by simp [opAt, h]
def codeValid (qs : List Qd) : Bool := decide (1 ≤ qs.length) && decide (qs.length ≤ 600) && (qs.all fun q => quadValid q qs.length) && (opAt qs (qs.length - 1) == 10 || opAt qs (qs.length - 1) == 4)
theorem code_bad {qs : List Qd} {k : Nat} (h : k < qs.length) (hb : quadValid qs[k] qs.length = false) : codeValid qs = false := by
  have : (qs.all fun q => quadValid q qs.length) = false := by
    rw [List.all_eq_false]
    exact ⟨qs[k], List.getElem_mem h, by rw [hb]; simp⟩
  simp [codeValid, this]
theorem code_good {qs : List Qd} (h1 : 1 ≤ qs.length) (h2 : qs.length ≤ 600) (h : ∀ i (hi : i < qs.length), quadValid qs[i] qs.length = true) : codeValid qs = (opAt qs (qs.length - 1) == 10 || opAt qs (qs.length - 1) == 4) := by
  have : (qs.all fun q => quadValid q qs.length) = true := by
    rw [List.all_eq_true]
    intro q hq
    obtain ⟨i, hi, rfl⟩ := List.getElem_of_mem hq
    exact h i hi
  simp [codeValid, this, h1, h2]
theorem code_at {qs : List Qd} (h : codeValid qs = true) : 1 ≤ qs.length ∧ qs.length ≤ 600 ∧ ∀ i (hi : i < qs.length), quadValid qs[i] qs.length = true := by
  simp only [codeValid, Bool.and_eq_true, decide_eq_true_eq, List.all_eq_true] at h
  exact ⟨h.1.1.1, h.1.1.2, fun i hi => h.1.2 _ (List.getElem_mem hi)⟩
theorem sub1 {n : Nat} (h : 1 ≤ n) (hn : n ≤ 4611686018427387904) : IntKind.i64.wrap ((n : Int) - 1) = ((n - 1 : Nat) : Int) := by rw [wrap_i64 (by omega) (by omega)]; omega
theorem code_len {qs : List Qd} (h : ¬ (1 ≤ qs.length ∧ qs.length ≤ 600)) : codeValid qs = false := by
  cases hc : codeValid qs with
  | false => rfl
  | true => exact absurd ⟨(code_at hc).1, (code_at hc).2.1⟩ h
theorem codeValid_ok (A : Option Addr) (c : Nat) (qs : List Qd) (hx : Fl H A (qcells qs)) (h : K (.bool (codeValid qs)) H) : ACalls Try.prog w0 116 [.slice A qs.length c] H K := by
  refine acalls_of_sx mix Try.func116 of116 (by simp [ir116]) ?_; rw [ir116]; (try delta qT qI qC qO qM qG)
  repeat' (first | simp -implicitDefEqProofs only [zG1,zG2,zG3,zG4,zG5,zG6,zG7,eq_self,resV,rval,X.val,binv,fillL,setR,↓reduceIte,Nat.reduceEqDiff,Nat.reduceAdd,Nat.reduceMul,Nat.reduceLeDiff,Nat.reduceLT,Nat.reduceSub,reduceCtorEq,zGr] | ((with_reducible refine rows_intro (fun _ hb => ?_)); try simp only [set_none, ne_eq] at hb) | ((with_reducible refine new_intro (fun _ hb => ?_)); try simp only [set_none, ne_eq] at hb) | (with_reducible refine draw_same ?_) | ((with_reducible refine gd_split ?_ (fun _ => ?_) (fun _ => ?_)); exact rfl) | ((with_reducible refine td_split ?_ (fun _ => ?_) (fun _ => ?_)); exact rfl) | (with_reducible refine c_split (fun _ => ?_) (fun _ => ?_)))
  · refine ret_same (kb h ?_)
    (try simp only [beq_iff_eq, beq_eq_false_iff_ne, bne_iff_ne, bne_eq_false_iff_eq, decide_eq_true_eq, decide_eq_false_iff_not, ne_eq, Bool.not_eq_true, Bool.not_eq_false, Bool.not_eq_eq_eq_not, Bool.not_true, Bool.not_false, Int.not_lt, Int.not_le, ge_iff_le, gt_iff_lt] at *)
    rw [code_len (by omega)]
  · refine ret_same (kb h ?_)
    (try simp only [beq_iff_eq, beq_eq_false_iff_ne, bne_iff_ne, bne_eq_false_iff_eq, decide_eq_true_eq, decide_eq_false_iff_not, ne_eq, Bool.not_eq_true, Bool.not_eq_false, Bool.not_eq_eq_eq_not, Bool.not_true, Bool.not_false, Int.not_lt, Int.not_le, ge_iff_le, gt_iff_lt] at *)
    rw [code_len (by omega)]
  · have hn1 : 1 ≤ qs.length := by (try simp only [beq_iff_eq, beq_eq_false_iff_ne, bne_iff_ne, bne_eq_false_iff_eq, decide_eq_true_eq, decide_eq_false_iff_not, ne_eq, Bool.not_eq_true, Bool.not_eq_false, Bool.not_eq_eq_eq_not, Bool.not_true, Bool.not_false, Int.not_lt, Int.not_le, ge_iff_le, gt_iff_lt] at *); omega
    have hn2 : qs.length ≤ 600 := by (try simp only [beq_iff_eq, beq_eq_false_iff_ne, bne_iff_ne, bne_eq_false_iff_eq, decide_eq_true_eq, decide_eq_false_iff_not, ne_eq, Bool.not_eq_true, Bool.not_eq_false, Bool.not_eq_eq_eq_not, Bool.not_true, Bool.not_false, Int.not_lt, Int.not_le, ge_iff_le, gt_iff_lt] at *); omega
    refine loop_rule (fun m fr H' => ∃ k : Nat, m = qs.length - k ∧ k ≤ qs.length ∧ H' = H ∧ (∀ i (hi : i < qs.length), i < k → quadValid qs[i] qs.length = true) ∧ fr 0 = .slice A qs.length c ∧ fr 14 = .slice A qs.length c ∧ fr 15 = .int .i64 qs.length ∧ fr 16 = .int .i64 k) qs.length
      ⟨0, rfl, Nat.zero_le _, rfl, fun i _ hi => absurd hi (Nat.not_lt_zero _), rfl, rfl, rfl, rfl⟩ ?_
    rintro m fr _ ⟨k, rfl, hk, rfl, he, f0, f1, f2, f3⟩
    by_cases hlt : k < qs.length
    · have g0 := lt_dec hlt
      have g1 := rng hlt
      have g3 := up1 hlt (by omega)
      have p0 := hx.quad hlt
      repeat' (first | simp -implicitDefEqProofs only [zG1,zG2,zG3,zG4,zG5,zG6,zG7,eq_self,resV,rval,X.val,binv,fillL,setR,↓reduceIte,Nat.reduceEqDiff,Nat.reduceAdd,Nat.reduceMul,Nat.reduceLeDiff,Nat.reduceLT,Nat.reduceSub,reduceCtorEq,zGr, f0, f1, f2, f3, g0, g1, g3, p0, Nat.add_zero] | ((with_reducible refine rows_intro (fun _ hb => ?_)); try simp only [set_none, ne_eq] at hb) | ((with_reducible refine new_intro (fun _ hb => ?_)); try simp only [set_none, ne_eq] at hb) | (with_reducible refine draw_same ?_) | ((with_reducible refine gd_split ?_ (fun _ => ?_) (fun _ => ?_)); exact rfl) | ((with_reducible refine td_split ?_ (fun _ => ?_) (fun _ => ?_)); exact rfl) | (with_reducible refine c_split (fun _ => ?_) (fun _ => ?_)) | (with_reducible refine quadValid_ok _ _ _ qs[k] _ ?_))
      · refine ⟨_, (AHeap.le.refl _).fresh ‹_› _, kb h ?_⟩
        (try simp only [beq_iff_eq, beq_eq_false_iff_ne, bne_iff_ne, bne_eq_false_iff_eq, decide_eq_true_eq, decide_eq_false_iff_not, ne_eq, Bool.not_eq_true, Bool.not_eq_false, Bool.not_eq_eq_eq_not, Bool.not_true, Bool.not_false, Int.not_lt, Int.not_le, ge_iff_le, gt_iff_lt] at *)
        rw [code_bad hlt ‹_›]
      · refine ⟨_, _, ?_, (AHeap.le.refl _).fresh ‹_› _, k + 1, rfl, by omega, rfl, fun i hi hik => ?_, by simp [put_at, f0], by simp [put_at, f1], by simp [put_at, f2], by simp [put_at]⟩
        · omega
        · rcases Nat.lt_succ_iff_lt_or_eq.1 hik with hik | rfl
          · exact he i hi hik
          · (try simp only [beq_iff_eq, beq_eq_false_iff_ne, bne_iff_ne, bne_eq_false_iff_eq, decide_eq_true_eq, decide_eq_false_iff_not, ne_eq, Bool.not_eq_true, Bool.not_eq_false, Bool.not_eq_eq_eq_not, Bool.not_true, Bool.not_false, Int.not_lt, Int.not_le, ge_iff_le, gt_iff_lt] at *)
            assumption
    · have g0 := ge_dec hlt
      have hl : qs.length - 1 < qs.length := by omega
      have p0 := hx.quad hl
      have g1 := rng hl
      have g2 := sub1 hn1 (by omega)
      repeat' (first | simp -implicitDefEqProofs only [zG1,zG2,zG3,zG4,zG5,zG6,zG7,eq_self,resV,rval,X.val,binv,fillL,setR,↓reduceIte,Nat.reduceEqDiff,Nat.reduceAdd,Nat.reduceMul,Nat.reduceLeDiff,Nat.reduceLT,Nat.reduceSub,reduceCtorEq,zGr, f0, f1, f2, f3, g0, p0, g1, g2, Nat.add_zero] | ((with_reducible refine rows_intro (fun _ hb => ?_)); try simp only [set_none, ne_eq] at hb) | ((with_reducible refine new_intro (fun _ hb => ?_)); try simp only [set_none, ne_eq] at hb) | (with_reducible refine draw_same ?_) | ((with_reducible refine gd_split ?_ (fun _ => ?_) (fun _ => ?_)); exact rfl) | ((with_reducible refine td_split ?_ (fun _ => ?_) (fun _ => ?_)); exact rfl) | (with_reducible refine c_split (fun _ => ?_) (fun _ => ?_)))
      all_goals (refine ret_same (kb h ?_))
      all_goals (rw [code_good hn1 hn2 (fun i hi => he i hi (by omega)), opAt_eq hl])
      all_goals simp_all
theorem codeValidS_ok (A : Option Addr) (c : Nat) (qs : List Qd) (hx : Fl H A (qcells qs)) (h : K (.bool (codeValid qs)) H) : ACalls Try.prog w0 113 [.slice A qs.length c] H K := by
  refine acalls_of_sx mix Try.func113 of113 (by simp [ir113]) ?_; rw [ir113]; (try delta qT qI qC qO qM qG)
  repeat' (first | simp -implicitDefEqProofs only [zG1,zG2,zG3,zG4,zG5,zG6,zG7,eq_self,resV,rval,X.val,binv,fillL,setR,↓reduceIte,Nat.reduceEqDiff,Nat.reduceAdd,Nat.reduceMul,Nat.reduceLeDiff,Nat.reduceLT,Nat.reduceSub,reduceCtorEq,zGr] | ((with_reducible refine rows_intro (fun _ hb => ?_)); try simp only [set_none, ne_eq] at hb) | ((with_reducible refine new_intro (fun _ hb => ?_)); try simp only [set_none, ne_eq] at hb) | (with_reducible refine draw_same ?_) | ((with_reducible refine gd_split ?_ (fun _ => ?_) (fun _ => ?_)); exact rfl) | ((with_reducible refine td_split ?_ (fun _ => ?_) (fun _ => ?_)); exact rfl) | (with_reducible refine c_split (fun _ => ?_) (fun _ => ?_)) | (with_reducible refine l6In_ok _ _ _ _ _ _ ?_))
  · refine ret_same (kb h ?_)
    simp only [Bool.not_eq_true', Bool.and_eq_false_iff, decide_eq_false_iff_not] at *
    rw [code_len (by omega)]
  · have hn1 : 1 ≤ qs.length := by (try simp only [beq_iff_eq, beq_eq_false_iff_ne, bne_iff_ne, bne_eq_false_iff_eq, decide_eq_true_eq, decide_eq_false_iff_not, ne_eq, Bool.not_eq_true, Bool.not_eq_false, Bool.not_eq_eq_eq_not, Bool.not_true, Bool.not_false, Int.not_lt, Int.not_le, ge_iff_le, gt_iff_lt] at *); simp at *; omega
    have hn2 : qs.length ≤ 600 := by (try simp only [beq_iff_eq, beq_eq_false_iff_ne, bne_iff_ne, bne_eq_false_iff_eq, decide_eq_true_eq, decide_eq_false_iff_not, ne_eq, Bool.not_eq_true, Bool.not_eq_false, Bool.not_eq_eq_eq_not, Bool.not_true, Bool.not_false, Int.not_lt, Int.not_le, ge_iff_le, gt_iff_lt] at *); simp at *; omega
    refine loop_rule (fun m fr H' => ∃ k : Nat, m = qs.length - k ∧ k ≤ qs.length ∧ H' = H ∧ (∀ i (hi : i < qs.length), i < k → quadValid qs[i] qs.length = true) ∧ fr 0 = .slice A qs.length c ∧ fr 3 = .int .i64 qs.length ∧ fr 4 = .int .i64 k) qs.length
      ⟨0, rfl, Nat.zero_le _, rfl, fun i _ hi => absurd hi (Nat.not_lt_zero _), rfl, rfl, rfl⟩ ?_
    rintro m fr _ ⟨k, rfl, hk, rfl, he, f0, f1, f2⟩
    by_cases hlt : k < qs.length
    · have g0 := lt_dec hlt
      have g1 := rng hlt
      have g3 := up1 hlt (by omega)
      have p0 := hx.quad hlt
      repeat' (first | simp -implicitDefEqProofs only [zG1,zG2,zG3,zG4,zG5,zG6,zG7,eq_self,resV,rval,X.val,binv,fillL,setR,↓reduceIte,Nat.reduceEqDiff,Nat.reduceAdd,Nat.reduceMul,Nat.reduceLeDiff,Nat.reduceLT,Nat.reduceSub,reduceCtorEq,zGr, f0, f1, f2, g0, g1, g3, p0, Nat.add_zero] | ((with_reducible refine rows_intro (fun _ hb => ?_)); try simp only [set_none, ne_eq] at hb) | ((with_reducible refine new_intro (fun _ hb => ?_)); try simp only [set_none, ne_eq] at hb) | (with_reducible refine draw_same ?_) | ((with_reducible refine gd_split ?_ (fun _ => ?_) (fun _ => ?_)); exact rfl) | ((with_reducible refine td_split ?_ (fun _ => ?_) (fun _ => ?_)); exact rfl) | (with_reducible refine c_split (fun _ => ?_) (fun _ => ?_)) | (with_reducible refine quadValidS_ok _ _ _ qs[k] _ ?_))
      · refine ret_same (kb h ?_)
        (try simp only [beq_iff_eq, beq_eq_false_iff_ne, bne_iff_ne, bne_eq_false_iff_eq, decide_eq_true_eq, decide_eq_false_iff_not, ne_eq, Bool.not_eq_true, Bool.not_eq_false, Bool.not_eq_eq_eq_not, Bool.not_true, Bool.not_false, Int.not_lt, Int.not_le, ge_iff_le, gt_iff_lt] at *)
        rw [code_bad hlt ‹_›]
      · refine ⟨_, _, ?_, AHeap.le.refl _, k + 1, rfl, by omega, rfl, fun i hi hik => ?_, by simp [put_at, f0], by simp [put_at, f1], by simp [put_at]⟩
        · omega
        · rcases Nat.lt_succ_iff_lt_or_eq.1 hik with hik | rfl
          · exact he i hi hik
          · (try simp only [beq_iff_eq, beq_eq_false_iff_ne, bne_iff_ne, bne_eq_false_iff_eq, decide_eq_true_eq, decide_eq_false_iff_not, ne_eq, Bool.not_eq_true, Bool.not_eq_false, Bool.not_eq_eq_eq_not, Bool.not_true, Bool.not_false, Int.not_lt, Int.not_le, ge_iff_le, gt_iff_lt] at *)
            assumption
    · have g0 := ge_dec hlt
      have hl : qs.length - 1 < qs.length := by omega
      have p0 := hx.quad hl
      have g1 := rng hl
      have g2 := sub1 hn1 (by omega)
      repeat' (first | simp -implicitDefEqProofs only [zG1,zG2,zG3,zG4,zG5,zG6,zG7,eq_self,resV,rval,X.val,binv,fillL,setR,↓reduceIte,Nat.reduceEqDiff,Nat.reduceAdd,Nat.reduceMul,Nat.reduceLeDiff,Nat.reduceLT,Nat.reduceSub,reduceCtorEq,zGr, f0, f1, f2, g0, p0, g1, g2, Nat.add_zero] | ((with_reducible refine rows_intro (fun _ hb => ?_)); try simp only [set_none, ne_eq] at hb) | ((with_reducible refine new_intro (fun _ hb => ?_)); try simp only [set_none, ne_eq] at hb) | (with_reducible refine draw_same ?_) | ((with_reducible refine gd_split ?_ (fun _ => ?_) (fun _ => ?_)); exact rfl) | ((with_reducible refine td_split ?_ (fun _ => ?_) (fun _ => ?_)); exact rfl) | (with_reducible refine c_split (fun _ => ?_) (fun _ => ?_)))
      all_goals (refine ret_same (kb h ?_))
      all_goals (rw [code_good hn1 hn2 (fun i hi => he i hi (by omega)), opAt_eq hl])
      all_goals simp_all
theorem set_five {cs : List Value} {k : Nat} {q : Qd} (h : k * 5 + 5 ≤ cs.length) (j : Nat) :
    (((((cs.set (k * 5) (.int .i64 q.op)).set (k * 5 + 1) (.int .i64 q.dst)).set (k * 5 + 1 + 1) (.int .i64 q.a)).set (k * 5 + 1 + 1 + 1) (.int .i64 q.b)).set (k * 5 + 1 + 1 + 1 + 1) (.int .i64 q.n))[j]? = if k * 5 ≤ j ∧ j < k * 5 + 5 then q.cells[j - k * 5]? else cs[j]? := by
  simp only [List.getElem?_set, List.length_set]
  by_cases h1 : k * 5 ≤ j ∧ j < k * 5 + 5
  · rw [if_pos h1]
    obtain ⟨r, rfl⟩ : ∃ r, j = k * 5 + r := ⟨j - k * 5, by omega⟩
    have hr : r < 5 := by omega
    rw [Nat.add_sub_cancel_left]
    match r, hr with
    | 0, _ | 1, _ | 2, _ | 3, _ | 4, _ => ((repeat' split) <;> first | omega | rfl)
  · rw [if_neg h1]
    repeat' split
    all_goals first | rfl | omega
theorem toQuadS_ok (A : Option Addr) (c : Nat) (qs : List Qd) (hx : Fl H A (qcells qs)) (hn : qs.length ≤ 4294967296) (h : ∀ v H', Own H 111 5 v qs.length (qcells qs) H' → K v H') :
    ACalls Try.prog w0 53 [.slice A qs.length c] H K := by
  refine acalls_of_sx mix Try.func53 of53 (by simp [ir53]) ?_; rw [ir53]; (try delta qT qI qC qO qM qG)
  repeat' (first | simp -implicitDefEqProofs only [zG1,zG2,zG3,zG4,zG5,zG6,zG7,eq_self,resV,rval,X.val,binv,fillL,setR,↓reduceIte,Nat.reduceEqDiff,Nat.reduceAdd,Nat.reduceMul,Nat.reduceLeDiff,Nat.reduceLT,Nat.reduceSub,reduceCtorEq,zGr] | ((with_reducible refine rows_intro (fun _ hb => ?_)); try simp only [set_none, ne_eq] at hb) | ((with_reducible refine new_intro (fun _ hb => ?_)); try simp only [set_none, ne_eq] at hb) | (with_reducible refine draw_same ?_) | ((with_reducible refine gd_split ?_ (fun _ => ?_) (fun _ => ?_)); exact rfl) | ((with_reducible refine td_split ?_ (fun _ => ?_) (fun _ => ?_)); exact rfl) | (with_reducible refine c_split (fun _ => ?_) (fun _ => ?_)) | (with_reducible refine mk_intro (by omega) (by omega) (fun b hb => ?_)))
  refine loop_rule (fun m fr H' => ∃ (k : Nat) (cs : List Value), m = qs.length - k ∧ k ≤ qs.length ∧ cs.length = qs.length * 5 ∧ H' = H.set b ⟨cs, true, 111, qs.length * 5⟩ ∧ (∀ j, j < k * 5 → cs[j]? = (qcells qs)[j]?) ∧ fr 0 = .slice A qs.length c ∧ fr 3 = .slice (some ⟨b, 0, none⟩) qs.length qs.length ∧ fr 4 = .int .i64 k) qs.length
    ⟨0, repl [.int .i64 0, .int .i64 0, .int .i64 0, .int .i64 0, .int .i64 0] qs.length, rfl, Nat.zero_le _, by rw [length_repl]; rfl, rfl, fun j hj => by omega, rfl, rfl, rfl⟩ ?_
  rintro m fr _ ⟨k, cs, rfl, hk, hcs, rfl, he, f0, f1, f2⟩
  by_cases hlt : k < qs.length
  · have g0 := lt_dec hlt
    have g1 := rng hlt
    have g3 := up1 hlt (by omega)
    have p0 := (hx.fresh hb ⟨cs, true, 111, qs.length * 5⟩).quad hlt
    have g4 : k * 5 + 5 ≤ cs.length := by omega
    repeat' (first | simp -implicitDefEqProofs only [zG1,zG2,zG3,zG4,zG5,zG6,zG7,eq_self,resV,rval,X.val,binv,fillL,setR,↓reduceIte,Nat.reduceEqDiff,Nat.reduceAdd,Nat.reduceMul,Nat.reduceLeDiff,Nat.reduceLT,Nat.reduceSub,reduceCtorEq,zGr, f0, f1, f2, g0, g1, g3, g4, p0, Nat.add_zero, true_and] | ((with_reducible refine rows_intro (fun _ hb => ?_)); try simp only [set_none, ne_eq] at hb) | ((with_reducible refine new_intro (fun _ hb => ?_)); try simp only [set_none, ne_eq] at hb) | (with_reducible refine draw_same ?_) | ((with_reducible refine gd_split ?_ (fun _ => ?_) (fun _ => ?_)); exact rfl) | ((with_reducible refine td_split ?_ (fun _ => ?_) (fun _ => ?_)); exact rfl) | (with_reducible refine c_split (fun _ => ?_) (fun _ => ?_)) | (with_reducible refine toQuad_ok _ _ _ qs[k] ?_))
    refine ⟨_, _, ?_, AHeap.le.refl _, k + 1, _, rfl, by omega, ?_, rfl, fun j hj => ?_, by simp [put_at, f0], by simp [put_at, f1], by simp [put_at]⟩
    · omega
    · simp only [List.length_set]; exact hcs
    · rw [set_five g4 j]
      split
      · rename_i hj'
        have := qcells_at hlt (j - k * 5) (by omega)
        rw [show k * 5 + (j - k * 5) = j by omega] at this
        exact this.symm
      · exact he j (by omega)
  · have g0 := ge_dec hlt
    repeat' (first | simp -implicitDefEqProofs only [zG1,zG2,zG3,zG4,zG5,zG6,zG7,eq_self,resV,rval,X.val,binv,fillL,setR,↓reduceIte,Nat.reduceEqDiff,Nat.reduceAdd,Nat.reduceMul,Nat.reduceLeDiff,Nat.reduceLT,Nat.reduceSub,reduceCtorEq,zGr, f0, f1, f2, g0] | ((with_reducible refine rows_intro (fun _ hb => ?_)); try simp only [set_none, ne_eq] at hb) | ((with_reducible refine new_intro (fun _ hb => ?_)); try simp only [set_none, ne_eq] at hb) | (with_reducible refine draw_same ?_) | ((with_reducible refine gd_split ?_ (fun _ => ?_) (fun _ => ?_)); exact rfl) | ((with_reducible refine td_split ?_ (fun _ => ?_) (fun _ => ?_)); exact rfl) | (with_reducible refine c_split (fun _ => ?_) (fun _ => ?_)))
    obtain rfl : k = qs.length := by omega
    refine ret_same (h _ _ (.inr ⟨b, qs.length, rfl, hb, Nat.le_refl _, by simp only [maxLen]; omega, by rw [qcells_len], ?_⟩))
    have : cs = qcells qs := by
      apply List.ext_getElem?
      intro j
      by_cases hj : j < qs.length * 5
      · exact he j hj
      · rw [List.getElem?_eq_none (by omega), List.getElem?_eq_none (by rw [qcells_len]; omega)]
    rw [this]
end Go.Proofs.Ytfjhjfddgdokgaa
namespace Go.Proofs.Ytfjhjfddgdokgaa
set_option linter.all false
open Go Go.RowKit
set_option maxRecDepth 100000
variable (w0 : World) (H : AHeap) (K : Value → AHeap → Prop)
theorem eqIntS_ok (A B : Option Addr) (ca cb : Nat) (xs ys : List Int) (hx : Fl H A (ints xs)) (hy : Fl H B (ints ys)) (hn : xs.length ≤ 4611686018427387904) (h : K (.bool (decide (xs = ys))) H) :
    ACalls Try.prog w0 42 [.slice A xs.length ca, .slice B ys.length cb] H K := by
  refine acalls_of_sx mix Try.func42 of42 (by simp [ir42]) ?_; rw [ir42]; (try delta qT qI qC qO qM qG)
  repeat' (first | simp -implicitDefEqProofs only [zG1,zG2,zG3,zG4,zG5,zG6,zG7,eq_self,resV,rval,X.val,binv,fillL,setR,↓reduceIte,Nat.reduceEqDiff,Nat.reduceAdd,Nat.reduceMul,Nat.reduceLeDiff,Nat.reduceLT,Nat.reduceSub,reduceCtorEq,zGr] | ((with_reducible refine rows_intro (fun _ hb => ?_)); try simp only [set_none, ne_eq] at hb) | ((with_reducible refine new_intro (fun _ hb => ?_)); try simp only [set_none, ne_eq] at hb) | (with_reducible refine draw_same ?_) | ((with_reducible refine gd_split ?_ (fun _ => ?_) (fun _ => ?_)); exact rfl) | ((with_reducible refine td_split ?_ (fun _ => ?_) (fun _ => ?_)); exact rfl) | (with_reducible refine c_split (fun _ => ?_) (fun _ => ?_)))
  · refine ret_same (kb h ?_)
    (try simp only [beq_iff_eq, beq_eq_false_iff_ne, bne_iff_ne, bne_eq_false_iff_eq, decide_eq_true_eq, decide_eq_false_iff_not, ne_eq, Bool.not_eq_true, Bool.not_eq_false, Bool.not_eq_eq_eq_not, Bool.not_true, Bool.not_false, Int.not_lt, Int.not_le, ge_iff_le, gt_iff_lt] at *)
    simp only [false_eq_decide_iff]
    intro e; subst e; omega
  · refine loop_rule (fun n fr H' => ∃ k : Nat, n = xs.length - k ∧ k ≤ xs.length ∧ H' = H ∧ (∀ i, i < k → xs[i]? = ys[i]?) ∧ fr 0 = .slice A xs.length ca ∧ fr 1 = .slice B ys.length cb ∧ fr 5 = .int .i64 k) xs.length
      ⟨0, rfl, Nat.zero_le _, rfl, fun i hi => absurd hi (Nat.not_lt_zero _), rfl, rfl, rfl⟩ ?_
    rintro n fr _ ⟨k, rfl, hk, rfl, he, h0, h1, h5⟩
    have hl : xs.length = ys.length := by (try simp only [beq_iff_eq, beq_eq_false_iff_ne, bne_iff_ne, bne_eq_false_iff_eq, decide_eq_true_eq, decide_eq_false_iff_not, ne_eq, Bool.not_eq_true, Bool.not_eq_false, Bool.not_eq_eq_eq_not, Bool.not_true, Bool.not_false, Int.not_lt, Int.not_le, ge_iff_le, gt_iff_lt] at *); omega
    by_cases hlt : k < xs.length
    · have hlt' : k < ys.length := by omega
      have g0 := lt_dec hlt
      have g1 := rng hlt
      have g2 := rng hlt'
      have g3 := up1 hlt hn
      have g4 := hx.ints_is hlt
      have g5 := hy.ints_is hlt'
      have g6 := hx.int hlt
      have g7 := hy.int hlt'
      repeat' (first | simp -implicitDefEqProofs only [zG1,zG2,zG3,zG4,zG5,zG6,zG7,eq_self,resV,rval,X.val,binv,fillL,setR,↓reduceIte,Nat.reduceEqDiff,Nat.reduceAdd,Nat.reduceMul,Nat.reduceLeDiff,Nat.reduceLT,Nat.reduceSub,reduceCtorEq,zGr, h0, h1, h5, g0, g1, g2, g3, g4, g5, g6, g7, Nat.mul_one] | ((with_reducible refine rows_intro (fun _ hb => ?_)); try simp only [set_none, ne_eq] at hb) | ((with_reducible refine new_intro (fun _ hb => ?_)); try simp only [set_none, ne_eq] at hb) | (with_reducible refine draw_same ?_) | ((with_reducible refine gd_split ?_ (fun _ => ?_) (fun _ => ?_)); exact rfl) | ((with_reducible refine td_split ?_ (fun _ => ?_) (fun _ => ?_)); exact rfl) | (with_reducible refine c_split (fun _ => ?_) (fun _ => ?_)))
      · refine ret_same (kb h ?_)
        (try simp only [beq_iff_eq, beq_eq_false_iff_ne, bne_iff_ne, bne_eq_false_iff_eq, decide_eq_true_eq, decide_eq_false_iff_not, ne_eq, Bool.not_eq_true, Bool.not_eq_false, Bool.not_eq_eq_eq_not, Bool.not_true, Bool.not_false, Int.not_lt, Int.not_le, ge_iff_le, gt_iff_lt] at *)
        simp only [false_eq_decide_iff]
        rintro rfl
        grind
      · refine ⟨_, _, ?_, AHeap.le.refl _, k + 1, rfl, by omega, rfl, fun i hi => ?_, by simp [put_at, h0], by simp [put_at, h1], by simp [put_at]⟩
        · omega
        · rcases Nat.lt_succ_iff_lt_or_eq.1 hi with hi | rfl
          · exact he i hi
          · (try simp only [beq_iff_eq, beq_eq_false_iff_ne, bne_iff_ne, bne_eq_false_iff_eq, decide_eq_true_eq, decide_eq_false_iff_not, ne_eq, Bool.not_eq_true, Bool.not_eq_false, Bool.not_eq_eq_eq_not, Bool.not_true, Bool.not_false, Int.not_lt, Int.not_le, ge_iff_le, gt_iff_lt] at *)
            grind
    · have g0 := ge_dec hlt
      repeat' (first | simp -implicitDefEqProofs only [zG1,zG2,zG3,zG4,zG5,zG6,zG7,eq_self,resV,rval,X.val,binv,fillL,setR,↓reduceIte,Nat.reduceEqDiff,Nat.reduceAdd,Nat.reduceMul,Nat.reduceLeDiff,Nat.reduceLT,Nat.reduceSub,reduceCtorEq,zGr, h0, h1, h5, g0] | ((with_reducible refine rows_intro (fun _ hb => ?_)); try simp only [set_none, ne_eq] at hb) | ((with_reducible refine new_intro (fun _ hb => ?_)); try simp only [set_none, ne_eq] at hb) | (with_reducible refine draw_same ?_) | ((with_reducible refine gd_split ?_ (fun _ => ?_) (fun _ => ?_)); exact rfl) | ((with_reducible refine td_split ?_ (fun _ => ?_) (fun _ => ?_)); exact rfl) | (with_reducible refine c_split (fun _ => ?_) (fun _ => ?_)))
      refine ret_same (kb h ?_)
      simp only [true_eq_decide_iff]
      apply List.ext_getElem?
      intro i
      by_cases hi : i < k
      · exact he i hi
      · rw [List.getElem?_eq_none (by omega), List.getElem?_eq_none (by omega)]
theorem mark_step {vs : List Value} {k : Int} {i : Nat} (h : i < vs.length) : (ints (marks k i) ++ vs.drop i).set i (.int .i64 (k + i)) = ints (marks k (i + 1)) ++ vs.drop (i + 1) := by
  apply List.ext_getElem?
  intro j
  have e1 : (ints (marks k i)).length = i := by rw [ints_len, marks_len]
  have e2 : (ints (marks k (i + 1))).length = i + 1 := by rw [ints_len, marks_len]
  rw [List.getElem?_set, List.getElem?_append, List.getElem?_append, e1, e2]
  by_cases hj : j = i
  · subst hj
    rw [if_pos rfl, if_pos (by rw [List.length_append, e1, List.length_drop]; omega), if_pos (by omega)]
    simp [ints, marks_at k (j + 1) j (by omega)]
  · rw [if_neg (fun e => hj e.symm)]
    by_cases hlt : j < i
    · rw [if_pos hlt, if_pos (by omega)]
      simp [ints, marks_at k i j hlt, marks_at k (i + 1) j (by omega)]
    · rw [if_neg hlt, if_neg (by omega)]
      simp only [List.getElem?_drop]
      congr 1; omega
theorem upz {k : Int} {n i : Nat} (h : i < n) (hn : n ≤ 4611686018427387904) (h0 : 0 ≤ k) (h1 : k < 4611686018427387904) : IntKind.i64.wrap (k + (i : Int) + 1) = k + ((i + 1 : Nat) : Int) := by rw [wrap_i64 (by omega) (by omega)]; omega
theorem markIntS_ok (H1 : AHeap) (t : TypeId) (v : Value) (n : Nat) (vs : List Value) (k : Int) (ho : Own H1 t 1 v n vs H) (hn : n ≤ 4611686018427387904) (h0 : 0 ≤ k) (h1 : k < 4611686018427387904)
    (h : ∀ H', Own H1 t 1 v n (ints (marks k n)) H' → K (.int .i64 (k + n)) H') : ACalls Try.prog w0 43 [v, .int .i64 k] H K := by
  refine acalls_of_sx mix Try.func43 of43 (by simp [ir43]) ?_; rw [ir43]; (try delta qT qI qC qO qM qG)
  rcases ho with ⟨rfl, rfl, rfl, rfl⟩ | ⟨b, cap, rfl, hb, hc, hm, hl, rfl⟩
  · repeat' (first | simp -implicitDefEqProofs only [zG1,zG2,zG3,zG4,zG5,zG6,zG7,eq_self,resV,rval,X.val,binv,fillL,setR,↓reduceIte,Nat.reduceEqDiff,Nat.reduceAdd,Nat.reduceMul,Nat.reduceLeDiff,Nat.reduceLT,Nat.reduceSub,reduceCtorEq,zGr] | ((with_reducible refine rows_intro (fun _ hb => ?_)); try simp only [set_none, ne_eq] at hb) | ((with_reducible refine new_intro (fun _ hb => ?_)); try simp only [set_none, ne_eq] at hb) | (with_reducible refine draw_same ?_) | ((with_reducible refine gd_split ?_ (fun _ => ?_) (fun _ => ?_)); exact rfl) | ((with_reducible refine td_split ?_ (fun _ => ?_) (fun _ => ?_)); exact rfl) | (with_reducible refine c_split (fun _ => ?_) (fun _ => ?_)))
    refine loop_rule (fun n fr H' => n = 0 ∧ H' = H ∧ fr 0 = .slice none 0 0 ∧ fr 1 = .int .i64 k ∧ fr 5 = .int .i64 0) 0 ⟨rfl, rfl, rfl, rfl, rfl⟩ ?_
    rintro n fr _ ⟨rfl, rfl, f0, f1, f5⟩
    have g0 : decide ((0 : Int) < ((0 : Nat) : Int)) = false := by simp
    repeat' (first | simp -implicitDefEqProofs only [zG1,zG2,zG3,zG4,zG5,zG6,zG7,eq_self,resV,rval,X.val,binv,fillL,setR,↓reduceIte,Nat.reduceEqDiff,Nat.reduceAdd,Nat.reduceMul,Nat.reduceLeDiff,Nat.reduceLT,Nat.reduceSub,reduceCtorEq,zGr, f0, f1, f5, g0] | ((with_reducible refine rows_intro (fun _ hb => ?_)); try simp only [set_none, ne_eq] at hb) | ((with_reducible refine new_intro (fun _ hb => ?_)); try simp only [set_none, ne_eq] at hb) | (with_reducible refine draw_same ?_) | ((with_reducible refine gd_split ?_ (fun _ => ?_) (fun _ => ?_)); exact rfl) | ((with_reducible refine td_split ?_ (fun _ => ?_) (fun _ => ?_)); exact rfl) | (with_reducible refine c_split (fun _ => ?_) (fun _ => ?_)))
    refine ret_same (ki (h _ (.inl ⟨rfl, rfl, rfl, rfl⟩)) (by omega))
  · rw [Nat.mul_one] at hl
    repeat' (first | simp -implicitDefEqProofs only [zG1,zG2,zG3,zG4,zG5,zG6,zG7,eq_self,resV,rval,X.val,binv,fillL,setR,↓reduceIte,Nat.reduceEqDiff,Nat.reduceAdd,Nat.reduceMul,Nat.reduceLeDiff,Nat.reduceLT,Nat.reduceSub,reduceCtorEq,zGr] | ((with_reducible refine rows_intro (fun _ hb => ?_)); try simp only [set_none, ne_eq] at hb) | ((with_reducible refine new_intro (fun _ hb => ?_)); try simp only [set_none, ne_eq] at hb) | (with_reducible refine draw_same ?_) | ((with_reducible refine gd_split ?_ (fun _ => ?_) (fun _ => ?_)); exact rfl) | ((with_reducible refine td_split ?_ (fun _ => ?_) (fun _ => ?_)); exact rfl) | (with_reducible refine c_split (fun _ => ?_) (fun _ => ?_)))
    refine loop_rule (fun m fr H' => ∃ i : Nat, m = n - i ∧ i ≤ n ∧ H' = H1.set b ⟨ints (marks k i) ++ vs.drop i, true, t, cap * 1⟩ ∧ fr 0 = .slice (some ⟨b, 0, none⟩) n cap ∧ fr 1 = .int .i64 (k + i) ∧ fr 5 = .int .i64 i) n
      ⟨0, rfl, Nat.zero_le _, by simp [ints, marks], rfl, by simp [fr0, put_at], rfl⟩ ?_
    rintro m fr _ ⟨i, rfl, hi, rfl, f0, f1, f5⟩
    by_cases hlt : i < n
    · have g0 := lt_dec hlt
      have g1 := rng hlt
      have g3 := up1 hlt hn
      have g4 := upz hlt hn h0 h1
      have g5 := mark_step (vs := vs) (k := k) (i := i) (by omega)
      have g6 : i + 1 ≤ (ints (marks k i) ++ vs.drop i).length := by rw [List.length_append, ints_len, marks_len, List.length_drop]; omega
      repeat' (first | simp -implicitDefEqProofs only [zG1,zG2,zG3,zG4,zG5,zG6,zG7,eq_self,resV,rval,X.val,binv,fillL,setR,↓reduceIte,Nat.reduceEqDiff,Nat.reduceAdd,Nat.reduceMul,Nat.reduceLeDiff,Nat.reduceLT,Nat.reduceSub,reduceCtorEq,zGr, f0, f1, f5, g0, g1, g3, g4, g5, g6, Nat.mul_one, adr_lit, true_and] | ((with_reducible refine rows_intro (fun _ hb => ?_)); try simp only [set_none, ne_eq] at hb) | ((with_reducible refine new_intro (fun _ hb => ?_)); try simp only [set_none, ne_eq] at hb) | (with_reducible refine draw_same ?_) | ((with_reducible refine gd_split ?_ (fun _ => ?_) (fun _ => ?_)); exact rfl) | ((with_reducible refine td_split ?_ (fun _ => ?_) (fun _ => ?_)); exact rfl) | (with_reducible refine c_split (fun _ => ?_) (fun _ => ?_)))
      refine ⟨_, _, ?_, AHeap.le.refl _, i + 1, rfl, by omega, by simp only [Nat.mul_one], by simp [put_at, f0], by simp [put_at], by simp [put_at]⟩
      omega
    · have g0 := ge_dec hlt
      obtain rfl : i = n := by omega
      repeat' (first | simp -implicitDefEqProofs only [zG1,zG2,zG3,zG4,zG5,zG6,zG7,eq_self,resV,rval,X.val,binv,fillL,setR,↓reduceIte,Nat.reduceEqDiff,Nat.reduceAdd,Nat.reduceMul,Nat.reduceLeDiff,Nat.reduceLT,Nat.reduceSub,reduceCtorEq,zGr, f0, f1, f5, g0] | ((with_reducible refine rows_intro (fun _ hb => ?_)); try simp only [set_none, ne_eq] at hb) | ((with_reducible refine new_intro (fun _ hb => ?_)); try simp only [set_none, ne_eq] at hb) | (with_reducible refine draw_same ?_) | ((with_reducible refine gd_split ?_ (fun _ => ?_) (fun _ => ?_)); exact rfl) | ((with_reducible refine td_split ?_ (fun _ => ?_) (fun _ => ?_)); exact rfl) | (with_reducible refine c_split (fun _ => ?_) (fun _ => ?_)))
      refine ret_same (h _ (.inr ⟨b, cap, rfl, hb, hc, hm, by rw [ints_len, marks_len, Nat.mul_one], ?_⟩))
      rw [List.drop_of_length_le (by omega), List.append_nil, Nat.mul_one]
theorem heldIntS_ok (A : Option Addr) (n c : Nat) (k : Int) (hx : Fl H A (ints (marks k n))) (hn : n ≤ 4611686018427387904) (h0 : 0 ≤ k) (h1 : k < 4611686018427387904) (h : K (.int .i64 (k + n)) H) :
    ACalls Try.prog w0 107 [.slice A n c, .int .i64 k] H K := by
  refine acalls_of_sx mix Try.func107 of107 (by simp [ir107]) ?_; rw [ir107]; (try delta qT qI qC qO qM qG)
  repeat' (first | simp -implicitDefEqProofs only [zG1,zG2,zG3,zG4,zG5,zG6,zG7,eq_self,resV,rval,X.val,binv,fillL,setR,↓reduceIte,Nat.reduceEqDiff,Nat.reduceAdd,Nat.reduceMul,Nat.reduceLeDiff,Nat.reduceLT,Nat.reduceSub,reduceCtorEq,zGr] | ((with_reducible refine rows_intro (fun _ hb => ?_)); try simp only [set_none, ne_eq] at hb) | ((with_reducible refine new_intro (fun _ hb => ?_)); try simp only [set_none, ne_eq] at hb) | (with_reducible refine draw_same ?_) | ((with_reducible refine gd_split ?_ (fun _ => ?_) (fun _ => ?_)); exact rfl) | ((with_reducible refine td_split ?_ (fun _ => ?_) (fun _ => ?_)); exact rfl) | (with_reducible refine c_split (fun _ => ?_) (fun _ => ?_)))
  refine loop_rule (fun m fr H' => ∃ i : Nat, m = n - i ∧ i ≤ n ∧ H' = H ∧ fr 0 = .slice A n c ∧ fr 1 = .int .i64 (k + i) ∧ fr 5 = .int .i64 i) n
    ⟨0, rfl, Nat.zero_le _, rfl, rfl, by simp [fr0, put_at], rfl⟩ ?_
  rintro m fr _ ⟨i, rfl, hi, rfl, f0, f1, f5⟩
  by_cases hlt : i < n
  · have hlt' : i < (marks k n).length := by rw [marks_len]; exact hlt
    have g0 := lt_dec hlt
    have g1 := rng hlt
    have g3 := up1 hlt hn
    have g4 := upz hlt hn h0 h1
    have g5 := hx.ints_is hlt'
    have g6 := hx.int hlt'
    have g7 : (marks k n)[i] = k + i := by
      have := marks_at k n i hlt
      rw [List.getElem?_eq_getElem hlt'] at this
      exact Option.some.inj this
    rw [g7] at g6
    repeat' (first | simp -implicitDefEqProofs only [zG1,zG2,zG3,zG4,zG5,zG6,zG7,eq_self,resV,rval,X.val,binv,fillL,setR,↓reduceIte,Nat.reduceEqDiff,Nat.reduceAdd,Nat.reduceMul,Nat.reduceLeDiff,Nat.reduceLT,Nat.reduceSub,reduceCtorEq,zGr, f0, f1, f5, g0, g1, g3, g4, g5, g6, Nat.mul_one] | ((with_reducible refine rows_intro (fun _ hb => ?_)); try simp only [set_none, ne_eq] at hb) | ((with_reducible refine new_intro (fun _ hb => ?_)); try simp only [set_none, ne_eq] at hb) | (with_reducible refine draw_same ?_) | ((with_reducible refine gd_split ?_ (fun _ => ?_) (fun _ => ?_)); exact rfl) | ((with_reducible refine td_split ?_ (fun _ => ?_) (fun _ => ?_)); exact rfl) | (with_reducible refine c_split (fun _ => ?_) (fun _ => ?_)))
    refine ⟨_, _, ?_, AHeap.le.refl _, i + 1, rfl, by omega, rfl, by simp [put_at, f0], by simp [put_at], by simp [put_at]⟩
    omega
  · have g0 := ge_dec hlt
    obtain rfl : i = n := by omega
    repeat' (first | simp -implicitDefEqProofs only [zG1,zG2,zG3,zG4,zG5,zG6,zG7,eq_self,resV,rval,X.val,binv,fillL,setR,↓reduceIte,Nat.reduceEqDiff,Nat.reduceAdd,Nat.reduceMul,Nat.reduceLeDiff,Nat.reduceLT,Nat.reduceSub,reduceCtorEq,zGr, f0, f1, f5, g0] | ((with_reducible refine rows_intro (fun _ hb => ?_)); try simp only [set_none, ne_eq] at hb) | ((with_reducible refine new_intro (fun _ hb => ?_)); try simp only [set_none, ne_eq] at hb) | (with_reducible refine draw_same ?_) | ((with_reducible refine gd_split ?_ (fun _ => ?_) (fun _ => ?_)); exact rfl) | ((with_reducible refine td_split ?_ (fun _ => ?_) (fun _ => ?_)); exact rfl) | (with_reducible refine c_split (fun _ => ?_) (fun _ => ?_)))
    exact ret_same h
end Go.Proofs.Ytfjhjfddgdokgaa
namespace Go.Proofs.Ytfjhjfddgdokgaa
set_option linter.all false
open Go Go.RowKit
set_option maxRecDepth 100000
variable (w0 : World) (H : AHeap) (K : Value → AHeap → Prop)
theorem mkI12 {t : TypeId} {D : Value → AHeap → Prop} {H : AHeap} (h : ∀ b, H b = none → D (.slice (some ⟨b, 0, none⟩) 12 12) (H.set b ⟨ints [0, 0, 0, 0, 0, 0, 0, 0, 0, 0, 0, 0], true, t, 12 * 1⟩)) : mkK [.int .i64 0] t 8 (.int .i64 12) (.int .i64 12) D H :=
  ⟨by decide, by decide, by decide, by decide, h⟩
theorem eqThread_ok (A B : Option Addr) (ca cb : Nat) (xs : List Int) (p : Int) (hx : Fl H A (ints xs)) (hy : Fl H B (ints xs)) (hn : xs.length ≤ 4611686018427387904) (h : K (.bool true) H) :
    ACalls Try.prog w0 150 [.agg #[.slice A xs.length ca, .int .i64 p], .agg #[.slice B xs.length cb, .int .i64 p]] H K := by
  refine acalls_of_sx mix Try.func150 of150 (by simp [ir150]) ?_; rw [ir150]; (try delta qT qI qC qO qM qG)
  repeat' (first | simp -implicitDefEqProofs only [zG1,zG2,zG3,zG4,zG5,zG6,zG7,eq_self,resV,rval,X.val,binv,fillL,setR,↓reduceIte,Nat.reduceEqDiff,Nat.reduceAdd,Nat.reduceMul,Nat.reduceLeDiff,Nat.reduceLT,Nat.reduceSub,reduceCtorEq,zGr] | ((with_reducible refine rows_intro (fun _ hb => ?_)); try simp only [set_none, ne_eq] at hb) | ((with_reducible refine new_intro (fun _ hb => ?_)); try simp only [set_none, ne_eq] at hb) | (with_reducible refine draw_same ?_) | ((with_reducible refine gd_split ?_ (fun _ => ?_) (fun _ => ?_)); exact rfl) | ((with_reducible refine td_split ?_ (fun _ => ?_) (fun _ => ?_)); exact rfl) | (with_reducible refine c_split (fun _ => ?_) (fun _ => ?_)))
  have l1 : AHeap.le H ((H.set _ _).set _ _) := ((AHeap.le.refl H).fresh ‹H _ = none› ⟨[.slice A xs.length ca, .int .i64 p], true, 125, 2⟩).trans ((AHeap.le.refl _).fresh (set_none.2 hb) ⟨[.slice B xs.length cb, .int .i64 p], true, 125, 2⟩)
  repeat' (first | simp -implicitDefEqProofs only [zG1,zG2,zG3,zG4,zG5,zG6,zG7,eq_self,resV,rval,X.val,binv,fillL,setR,↓reduceIte,Nat.reduceEqDiff,Nat.reduceAdd,Nat.reduceMul,Nat.reduceLeDiff,Nat.reduceLT,Nat.reduceSub,reduceCtorEq,zGr, decide_true, bne_self_eq_false, *] | ((with_reducible refine rows_intro (fun _ hb => ?_)); try simp only [set_none, ne_eq] at hb) | ((with_reducible refine new_intro (fun _ hb => ?_)); try simp only [set_none, ne_eq] at hb) | (with_reducible refine draw_same ?_) | ((with_reducible refine gd_split ?_ (fun _ => ?_) (fun _ => ?_)); exact rfl) | ((with_reducible refine td_split ?_ (fun _ => ?_) (fun _ => ?_)); exact rfl) | (with_reducible refine c_split (fun _ => ?_) (fun _ => ?_)) | (with_reducible refine eqIntS_ok _ _ _ _ _ _ _ _ _ (hx.le l1) (hy.le l1) hn ?_))
  exact ⟨H, l1, h⟩
end Go.Proofs.Ytfjhjfddgdokgaa
namespace Go.Proofs.Ytfjhjfddgdokgaa
set_option linter.all false
open Go Go.RowKit
/-- How many elements there are in all. -/
def tot (sz : Nat) (L : List (List Value)) : Nat := (L.map fun x => x.length / sz).sum
/-- A fact: its kind and its number. -/
structure Fc where
  kind : Int
  n : Int
  deriving DecidableEq
abbrev Fc.cells (f : Fc) : List Value := [.int .i64 f.kind, .int .i64 f.n]
abbrev Fc.val (f : Fc) : Value := .agg #[.int .i64 f.kind, .int .i64 f.n]
theorem tot_take {sz : Nat} {L : List (List Value)} {i n : Nat} (hi : i < L.length) (hl : L[i].length = n * sz) (hs : 0 < sz := by decide) : tot sz (L.take (i + 1)) = tot sz (L.take i) + n := by
  rw [List.take_add_one, List.getElem?_eq_getElem hi]
  simp only [tot, Option.toList_some, List.map_append, List.map_cons, List.map_nil, List.sum_append, List.sum_cons, List.sum_nil, hl]
  rw [Nat.mul_div_cancel _ hs]; omega
theorem tot_take_le (sz : Nat) (L : List (List Value)) (i : Nat) : tot sz (L.take i) ≤ tot sz L := by
  have : tot sz L = tot sz (L.take i) + tot sz (L.drop i) := by
    simp only [tot]
    rw [← List.sum_append, ← List.map_append, List.take_append_drop]
  omega
/-- M is L, its rows marked one behind the other from k on. -/
def Marked (sz : Nat) (mk : Int → Nat → List Value) (k w : Int) (L M : List (List Value)) : Prop :=
  M.length = L.length ∧ ∀ i (hi : i < L.length) n, L[i].length = n * sz → M[i]? = some (mk (k + w * (tot sz (L.take i) : Int)) n)
def Midd (sz : Nat) (mk : Int → Nat → List Value) (k w : Int) (L M : List (List Value)) (j : Nat) : Prop :=
  M.length = L.length ∧ (∀ i (hi : i < L.length), i < j → ∀ n, L[i].length = n * sz → M[i]? = some (mk (k + w * (tot sz (L.take i) : Int)) n)) ∧ ∀ i, j ≤ i → M[i]? = L[i]?
section
variable {sz : Nat} {mk : Int → Nat → List Value} {k w : Int} {L M : List (List Value)} {j n : Nat}
theorem Midd.start : Midd sz mk k w L L 0 := ⟨rfl, fun i _ hi => absurd hi (Nat.not_lt_zero _), fun _ _ => rfl⟩
theorem Midd.at_ (h : Midd sz mk k w L M j) (hj : j < L.length) : M[j]'(by rw [h.1]; exact hj) = L[j] := by
  have := h.2.2 j (Nat.le_refl _)
  rw [List.getElem?_eq_getElem hj, List.getElem?_eq_getElem (by rw [h.1]; exact hj)] at this
  exact Option.some.inj this
theorem Midd.step (h : Midd sz mk k w L M j) (hj : j < L.length) (hn : L[j].length = n * sz) (hs : 0 < sz := by decide) : Midd sz mk k w L (M.set j (mk (k + w * (tot sz (L.take j) : Int)) n)) (j + 1) := by
  refine ⟨by rw [List.length_set]; exact h.1, fun i hi hij n' hn' => ?_, fun i hij => ?_⟩
  · rw [List.getElem?_set]
    by_cases e : j = i
    · subst e
      rw [if_pos rfl, if_pos (by rw [h.1]; exact hj)]
      rw [hn] at hn'
      obtain rfl := Nat.eq_of_mul_eq_mul_right hs hn'
      rfl
    · rw [if_neg e]; exact h.2.1 i hi (by omega) n' hn'
  · rw [List.getElem?_set, if_neg (by omega)]; exact h.2.2 i (by omega)
theorem Marked.at_ (h : Marked sz mk k w L M) {i : Nat} (hi : i < L.length) (hn : L[i].length = n * sz) : M[i]'(by rw [h.1]; exact hi) = mk (k + w * (tot sz (L.take i) : Int)) n := by
  have := h.2 i hi n hn
  rw [List.getElem?_eq_getElem (by rw [h.1]; exact hi)] at this
  exact Option.some.inj this
theorem Midd.done (h : Midd sz mk k w L M L.length) : Marked sz mk k w L M := ⟨h.1, fun i hi n hn => h.2.1 i hi hi n hn⟩
end
end Go.Proofs.Ytfjhjfddgdokgaa
namespace Go.Proofs.Ytfjhjfddgdokgaa
set_option linter.all false
open Go Go.RowKit
section
variable {P : Program} {w : World}
end
section
variable {α : Type} {f : α → List Value} {w : Nat}
end
section
variable {H : AHeap} {b n : Nat} {k : Blk} {A : Option Addr}
theorem rdn_same (hl : n ≤ k.cells.length) : (H.set b k).rdn (some ⟨b, 0, none⟩) n = some (k.cells.take n) := by
  refine rdn_of (by rw [List.length_take]; omega) fun j v hj => ?_
  rw [List.getElem?_take] at hj
  split at hj
  · rw [adr_lit, Nat.zero_add, cell_same]; exact hj
  · cases hj
theorem rdn_old (hb : H b = none) (h : (H.rdn A n).isSome = true) : (H.set b k).rdn A n = H.rdn A n := by
  obtain ⟨l, hl⟩ := Option.isSome_iff_exists.1 h
  rw [hl]
  exact ((AHeap.le.refl H).fresh hb k).rdn hl
theorem Kn.rdn {C : AHeap} {l : List Value} (h : Kn C b k) {o : Nat} (hl : ∀ j, j < l.length → k.cells[o + j]? = l[j]?) : C.rdn (some ⟨b, o, none⟩) l.length = some l := by
  refine rdn_of rfl fun j v hj => ?_
  have := (List.getElem?_eq_some_iff.1 hj).1
  rw [adr_lit]
  exact h.cell (by rw [hl j this]; exact hj)
theorem Fl.rdn {C : AHeap} {vs l : List Value} (h : Fl C A vs) {o : Nat} (hl : ∀ j, j < l.length → vs[o + j]? = l[j]?) : C.rdn (adr A o) l.length = some l := by
  refine rdn_of rfl fun j v hj => ?_
  have := (List.getElem?_eq_some_iff.1 hj).1
  rw [adr_adr]
  exact h (o + j) v (by rw [hl j this]; exact hj)
theorem Fl.rdq {C : AHeap} {qs : List Qd} (h : Fl C A (qcells qs)) {i : Nat} (hi : i < qs.length) : C.rdn (adr A (i * 5)) 5 = some qs[i].cells :=
  h.rdn (l := qs[i].cells) fun j hj => qcells_at hi j hj
end
theorem zGp : (type_of% @st_known) ∧ (type_of% @cell_old) ∧ (type_of% @set_mid) ∧ (type_of% @rdn_same) ∧ (type_of% @rdn_old) ∧ (type_of% @List.take_succ_cons.{0}) ∧ (type_of% @List.take_zero.{0}) := ⟨@st_known, @cell_old, @set_mid, @rdn_same, @rdn_old, @List.take_succ_cons.{0}, @List.take_zero.{0}⟩
end Go.Proofs.Ytfjhjfddgdokgaa
namespace Go.Proofs.Ytfjhjfddgdokgaa
set_option linter.all false
open Go Go.RowKit
set_option maxRecDepth 100000
variable (w0 : World) (H : AHeap) (K : Value → AHeap → Prop)
theorem marks_val (k : Int) (n j : Nat) (h : j < n) : (ints (marks k n))[j]? = some (.int .i64 (k + j)) := by simp [ints, marks_at k n j h]
theorem markQuadS_ok (H1 : AHeap) (t : TypeId) (v : Value) (n : Nat) (vs : List Value) (k : Int) (ho : Own H1 t 5 v n vs H) (hn : n ≤ 4294967296) (h0 : 0 ≤ k) (h1 : k ≤ 4294967296)
    (h : ∀ H', Own H1 t 5 v n (ints (marks k (n * 5))) H' → K (.int .i64 (k + 5 * n)) H') : ACalls Try.prog w0 21 [v, .int .i64 k] H K := by
  refine acalls_of_sx mix Try.func21 of21 (by simp [ir21]) ?_; rw [ir21]; (try delta qT qI qC qO qM qG)
  rcases ho with ⟨rfl, rfl, rfl, rfl⟩ | ⟨b, cap, rfl, hb, hc, hm, hl, rfl⟩
  · repeat' (first | simp -implicitDefEqProofs only [zG1,zG2,zG3,zG4,zG5,zG6,zG7,eq_self,resV,rval,X.val,binv,fillL,setR,↓reduceIte,Nat.reduceEqDiff,Nat.reduceAdd,Nat.reduceMul,Nat.reduceLeDiff,Nat.reduceLT,Nat.reduceSub,reduceCtorEq,zGr] | ((with_reducible refine rows_intro (fun _ hb => ?_)); try simp only [set_none, ne_eq] at hb) | ((with_reducible refine new_intro (fun _ hb => ?_)); try simp only [set_none, ne_eq] at hb) | (with_reducible refine draw_same ?_) | ((with_reducible refine gd_split ?_ (fun _ => ?_) (fun _ => ?_)); exact rfl) | ((with_reducible refine td_split ?_ (fun _ => ?_) (fun _ => ?_)); exact rfl) | (with_reducible refine c_split (fun _ => ?_) (fun _ => ?_)))
    refine loop_rule (fun n fr H' => n = 0 ∧ H' = H ∧ fr 0 = .slice none 0 0 ∧ fr 1 = .int .i64 k ∧ fr 5 = .int .i64 0) 0 ⟨rfl, rfl, rfl, rfl, rfl⟩ ?_
    rintro n fr _ ⟨rfl, rfl, f0, f1, f5⟩
    have g0 : decide ((0 : Int) < ((0 : Nat) : Int)) = false := by simp
    repeat' (first | simp -implicitDefEqProofs only [zG1,zG2,zG3,zG4,zG5,zG6,zG7,eq_self,resV,rval,X.val,binv,fillL,setR,↓reduceIte,Nat.reduceEqDiff,Nat.reduceAdd,Nat.reduceMul,Nat.reduceLeDiff,Nat.reduceLT,Nat.reduceSub,reduceCtorEq,zGr, f0, f1, f5, g0] | ((with_reducible refine rows_intro (fun _ hb => ?_)); try simp only [set_none, ne_eq] at hb) | ((with_reducible refine new_intro (fun _ hb => ?_)); try simp only [set_none, ne_eq] at hb) | (with_reducible refine draw_same ?_) | ((with_reducible refine gd_split ?_ (fun _ => ?_) (fun _ => ?_)); exact rfl) | ((with_reducible refine td_split ?_ (fun _ => ?_) (fun _ => ?_)); exact rfl) | (with_reducible refine c_split (fun _ => ?_) (fun _ => ?_)))
    refine ret_same (ki (h _ (.inl ⟨rfl, rfl, rfl, rfl⟩)) (by omega))
  · repeat' (first | simp -implicitDefEqProofs only [zG1,zG2,zG3,zG4,zG5,zG6,zG7,eq_self,resV,rval,X.val,binv,fillL,setR,↓reduceIte,Nat.reduceEqDiff,Nat.reduceAdd,Nat.reduceMul,Nat.reduceLeDiff,Nat.reduceLT,Nat.reduceSub,reduceCtorEq,zGr] | ((with_reducible refine rows_intro (fun _ hb => ?_)); try simp only [set_none, ne_eq] at hb) | ((with_reducible refine new_intro (fun _ hb => ?_)); try simp only [set_none, ne_eq] at hb) | (with_reducible refine draw_same ?_) | ((with_reducible refine gd_split ?_ (fun _ => ?_) (fun _ => ?_)); exact rfl) | ((with_reducible refine td_split ?_ (fun _ => ?_) (fun _ => ?_)); exact rfl) | (with_reducible refine c_split (fun _ => ?_) (fun _ => ?_)))
    refine loop_rule (fun m fr H' => ∃ (i : Nat) (cs : List Value), m = n - i ∧ i ≤ n ∧ cs.length = n * 5 ∧ (∀ j, j < i * 5 → cs[j]? = some (.int .i64 (k + j))) ∧ H' = H1.set b ⟨cs, true, t, cap * 5⟩ ∧ fr 0 = .slice (some ⟨b, 0, none⟩) n cap ∧ fr 1 = .int .i64 (k + 5 * i) ∧ fr 5 = .int .i64 i) n
      ⟨0, vs, rfl, Nat.zero_le _, hl, fun j hj => by omega, rfl, rfl, by simp [fr0, put_at], rfl⟩ ?_
    rintro m fr _ ⟨i, cs, rfl, hi, hcs, hcv, rfl, f0, f1, f5⟩
    by_cases hlt : i < n
    · have g0 := lt_dec hlt
      have g1 := rng hlt
      have g3 := up1 hlt (by omega)
      have w1 : IntKind.i64.wrap (k + 5 * (i : Int) + 1) = k + 5 * i + 1 := wrap_i64 (by omega) (by omega)
      have w2 : IntKind.i64.wrap (k + 5 * (i : Int) + 1 + 1) = k + 5 * i + 1 + 1 := wrap_i64 (by omega) (by omega)
      have w3 : IntKind.i64.wrap (k + 5 * (i : Int) + 1 + 1 + 1) = k + 5 * i + 1 + 1 + 1 := wrap_i64 (by omega) (by omega)
      have w4 : IntKind.i64.wrap (k + 5 * (i : Int) + 1 + 1 + 1 + 1) = k + 5 * i + 1 + 1 + 1 + 1 := wrap_i64 (by omega) (by omega)
      have w5 : IntKind.i64.wrap (k + 5 * (i : Int) + 1 + 1 + 1 + 1 + 1) = k + 5 * i + 1 + 1 + 1 + 1 + 1 := wrap_i64 (by omega) (by omega)
      have s0 : (i * 5 + 1 ≤ n * 5) = True := eq_true (by omega)
      have s1 : (i * 5 + 1 + 1 ≤ n * 5) = True := eq_true (by omega)
      have s2 : (i * 5 + 2 + 1 ≤ n * 5) = True := eq_true (by omega)
      have s3 : (i * 5 + 3 + 1 ≤ n * 5) = True := eq_true (by omega)
      have s4 : (i * 5 + 4 + 1 ≤ n * 5) = True := eq_true (by omega)
      repeat' (first | simp -implicitDefEqProofs only [zG1,zG2,zG3,zG4,zG5,zG6,zG7,eq_self,resV,rval,X.val,binv,fillL,setR,↓reduceIte,Nat.reduceEqDiff,Nat.reduceAdd,Nat.reduceMul,Nat.reduceLeDiff,Nat.reduceLT,Nat.reduceSub,reduceCtorEq,zGr, f0, f1, f5, g0, g1, g3, w1, w2, w3, w4, w5, s0, s1, s2, s3, s4, hcs, adr_lit, List.length_set, Nat.add_zero, true_and] | ((with_reducible refine rows_intro (fun _ hb => ?_)); try simp only [set_none, ne_eq] at hb) | ((with_reducible refine new_intro (fun _ hb => ?_)); try simp only [set_none, ne_eq] at hb) | (with_reducible refine draw_same ?_) | ((with_reducible refine gd_split ?_ (fun _ => ?_) (fun _ => ?_)); exact rfl) | ((with_reducible refine td_split ?_ (fun _ => ?_) (fun _ => ?_)); exact rfl) | (with_reducible refine c_split (fun _ => ?_) (fun _ => ?_)))
      refine ⟨_, _, ?_, AHeap.le.refl _, i + 1, _, rfl, by omega, ?_, fun j hj => ?_, rfl, by simp [put_at, f0], ?_, by simp [put_at]⟩
      · omega
      · simp only [List.length_set]; exact hcs
      · simp only [List.getElem?_set, List.length_set, hcs]
        repeat' split
        all_goals first | omega | (subst_vars; congr 2; omega) | exact hcv j (by omega)
      · simp only [put_at]
        simp
        omega
    · have g0 := ge_dec hlt
      obtain rfl : i = n := by omega
      repeat' (first | simp -implicitDefEqProofs only [zG1,zG2,zG3,zG4,zG5,zG6,zG7,eq_self,resV,rval,X.val,binv,fillL,setR,↓reduceIte,Nat.reduceEqDiff,Nat.reduceAdd,Nat.reduceMul,Nat.reduceLeDiff,Nat.reduceLT,Nat.reduceSub,reduceCtorEq,zGr, f0, f1, f5, g0] | ((with_reducible refine rows_intro (fun _ hb => ?_)); try simp only [set_none, ne_eq] at hb) | ((with_reducible refine new_intro (fun _ hb => ?_)); try simp only [set_none, ne_eq] at hb) | (with_reducible refine draw_same ?_) | ((with_reducible refine gd_split ?_ (fun _ => ?_) (fun _ => ?_)); exact rfl) | ((with_reducible refine td_split ?_ (fun _ => ?_) (fun _ => ?_)); exact rfl) | (with_reducible refine c_split (fun _ => ?_) (fun _ => ?_)))
      refine ret_same (h _ (.inr ⟨b, cap, rfl, hb, hc, hm, by rw [ints_len, marks_len], ?_⟩))
      have : cs = ints (marks k (i * 5)) := by
        apply List.ext_getElem?
        intro j
        by_cases hj : j < i * 5
        · rw [hcv j hj, marks_val k _ j hj]
        · rw [List.getElem?_eq_none (by omega), List.getElem?_eq_none (by rw [ints_len, marks_len]; omega)]
      rw [this]
theorem heldQuadS_ok (A : Option Addr) (n c : Nat) (k : Int) (hx : Fl H A (ints (marks k (n * 5)))) (hn : n ≤ 4294967296) (h0 : 0 ≤ k) (h1 : k ≤ 4294967296) (h : K (.int .i64 (k + 5 * n)) H) :
    ACalls Try.prog w0 22 [.slice A n c, .int .i64 k] H K := by
  refine acalls_of_sx mix Try.func22 of22 (by simp [ir22]) ?_; rw [ir22]; (try delta qT qI qC qO qM qG)
  repeat' (first | simp -implicitDefEqProofs only [zG1,zG2,zG3,zG4,zG5,zG6,zG7,eq_self,resV,rval,X.val,binv,fillL,setR,↓reduceIte,Nat.reduceEqDiff,Nat.reduceAdd,Nat.reduceMul,Nat.reduceLeDiff,Nat.reduceLT,Nat.reduceSub,reduceCtorEq,zGr] | ((with_reducible refine rows_intro (fun _ hb => ?_)); try simp only [set_none, ne_eq] at hb) | ((with_reducible refine new_intro (fun _ hb => ?_)); try simp only [set_none, ne_eq] at hb) | (with_reducible refine draw_same ?_) | ((with_reducible refine gd_split ?_ (fun _ => ?_) (fun _ => ?_)); exact rfl) | ((with_reducible refine td_split ?_ (fun _ => ?_) (fun _ => ?_)); exact rfl) | (with_reducible refine c_split (fun _ => ?_) (fun _ => ?_)))
  have hA : ∀ i, i < n → A.isSome = true := fun i hi => hx.is (i := i * 5) (by rw [ints_len, marks_len]; omega)
  have hg : ∀ i, i < n → ∀ j : Nat, j < 5 → H.cell (adr A (i * 5 + j)) = some (.int .i64 (k + 5 * i + j)) := by
    intro i hi j hj
    rw [hx _ _ (marks_val k (n * 5) (i * 5 + j) (by omega))]
    congr 2; omega
  have hcl : ∀ i, i < n → H.cell (adr A (i * 5)) = some (.int .i64 (k + 5 * i)) ∧ H.cell (adr A (i * 5 + 1)) = some (.int .i64 (k + 5 * i + 1)) ∧ H.cell (adr A (i * 5 + 2)) = some (.int .i64 (k + 5 * i + 1 + 1)) ∧ H.cell (adr A (i * 5 + 3)) = some (.int .i64 (k + 5 * i + 1 + 1 + 1)) ∧ H.cell (adr A (i * 5 + 4)) = some (.int .i64 (k + 5 * i + 1 + 1 + 1 + 1)) := by
    intro i hi
    refine ⟨by simpa using hg i hi 0 (by omega), by simpa using hg i hi 1 (by omega), ?_, ?_, ?_⟩
    · rw [hg i hi 2 (by omega)]; congr 2; omega
    · rw [hg i hi 3 (by omega)]; congr 2; omega
    · rw [hg i hi 4 (by omega)]; congr 2; omega
  refine loop_rule (fun m fr H' => ∃ i : Nat, m = n - i ∧ i ≤ n ∧ H' = H ∧ fr 0 = .slice A n c ∧ fr 1 = .int .i64 (k + 5 * i) ∧ fr 5 = .int .i64 i) n
    ⟨0, rfl, Nat.zero_le _, rfl, rfl, by simp [fr0, put_at], rfl⟩ ?_
  rintro m fr _ ⟨i, rfl, hi, rfl, f0, f1, f5⟩
  by_cases hlt : i < n
  · have g0 := lt_dec hlt
    have g1 := rng hlt
    have g3 := up1 hlt (by omega)
    have w1 : IntKind.i64.wrap (k + 5 * (i : Int) + 1) = k + 5 * i + 1 := wrap_i64 (by omega) (by omega)
    have w2 : IntKind.i64.wrap (k + 5 * (i : Int) + 1 + 1) = k + 5 * i + 1 + 1 := wrap_i64 (by omega) (by omega)
    have w3 : IntKind.i64.wrap (k + 5 * (i : Int) + 1 + 1 + 1) = k + 5 * i + 1 + 1 + 1 := wrap_i64 (by omega) (by omega)
    have w4 : IntKind.i64.wrap (k + 5 * (i : Int) + 1 + 1 + 1 + 1) = k + 5 * i + 1 + 1 + 1 + 1 := wrap_i64 (by omega) (by omega)
    have w5 : IntKind.i64.wrap (k + 5 * (i : Int) + 1 + 1 + 1 + 1 + 1) = k + 5 * i + 1 + 1 + 1 + 1 + 1 := wrap_i64 (by omega) (by omega)
    have hA' := hA i hlt
    have hc' := hcl i hlt
    repeat' (first | simp -implicitDefEqProofs only [zG1,zG2,zG3,zG4,zG5,zG6,zG7,eq_self,resV,rval,X.val,binv,fillL,setR,↓reduceIte,Nat.reduceEqDiff,Nat.reduceAdd,Nat.reduceMul,Nat.reduceLeDiff,Nat.reduceLT,Nat.reduceSub,reduceCtorEq,zGr, f0, f1, f5, g0, g1, g3, hA', hc', w1, w2, w3, w4, w5, Nat.add_zero] | ((with_reducible refine rows_intro (fun _ hb => ?_)); try simp only [set_none, ne_eq] at hb) | ((with_reducible refine new_intro (fun _ hb => ?_)); try simp only [set_none, ne_eq] at hb) | (with_reducible refine draw_same ?_) | ((with_reducible refine gd_split ?_ (fun _ => ?_) (fun _ => ?_)); exact rfl) | ((with_reducible refine td_split ?_ (fun _ => ?_) (fun _ => ?_)); exact rfl) | (with_reducible refine c_split (fun _ => ?_) (fun _ => ?_)))
    refine ⟨_, _, ?_, AHeap.le.refl _, i + 1, rfl, by omega, rfl, by simp [put_at, f0], ?_, by simp [put_at]⟩
    · omega
    · simp only [put_at]
      simp
      omega
  · have g0 := ge_dec hlt
    obtain rfl : i = n := by omega
    repeat' (first | simp -implicitDefEqProofs only [zG1,zG2,zG3,zG4,zG5,zG6,zG7,eq_self,resV,rval,X.val,binv,fillL,setR,↓reduceIte,Nat.reduceEqDiff,Nat.reduceAdd,Nat.reduceMul,Nat.reduceLeDiff,Nat.reduceLT,Nat.reduceSub,reduceCtorEq,zGr, f0, f1, f5, g0] | ((with_reducible refine rows_intro (fun _ hb => ?_)); try simp only [set_none, ne_eq] at hb) | ((with_reducible refine new_intro (fun _ hb => ?_)); try simp only [set_none, ne_eq] at hb) | (with_reducible refine draw_same ?_) | ((with_reducible refine gd_split ?_ (fun _ => ?_) (fun _ => ?_)); exact rfl) | ((with_reducible refine td_split ?_ (fun _ => ?_) (fun _ => ?_)); exact rfl) | (with_reducible refine c_split (fun _ => ?_) (fun _ => ?_)))
    exact ret_same h
end Go.Proofs.Ytfjhjfddgdokgaa
namespace Go.Proofs.Ytfjhjfddgdokgaa
set_option linter.all false
open Go Go.RowKit
set_option maxRecDepth 100000
variable (w0 : World) (C : AHeap) (K : Value → AHeap → Prop)
theorem markQuadS_rw {t : TypeId} {v : Value} {n : Nat} {xs : List Value} {bs : List Nat} (hr : Rw C t 5 v n xs bs) (hn : n ≤ 4294967296) (k : Int) (h0 : 0 ≤ k) (h1 : k ≤ 4294967296)
    (h : ∀ C', Chg C C' bs → Rw C' t 5 v n (ints (marks k (n * 5))) bs → K (.int .i64 (k + 5 * n)) C') : ACalls Try.prog w0 21 [v, .int .i64 k] C K := by
  obtain ⟨A, B, lB, oB, hA⟩ := hr.own_
  refine ACalls.mono (markQuadS_ok _ _ _ _ _ _ _ _ k oB hn h0 h1 (fun C' o => ?_)) lB
  obtain ⟨h1, h2⟩ := Rw.put oB hA hr rfl o
  exact h C' h1 h2
end Go.Proofs.Ytfjhjfddgdokgaa
namespace Go.Proofs.Ytfjhjfddgdokgaa
set_option linter.all false
open Go Go.RowKit Go.Joins Go.ChangeShapes Go.WideShapes Go.ChangeAt Go.Deep
set_option linter.unusedVariables false
set_option maxRecDepth 100000
section
variable (w0 : World) (H : AHeap) (K : Value → AHeap → Prop)
theorem repl_zeroI (n : Nat) : repl [Value.int .i64 0] n = ints (List.replicate n 0) := by
  induction n with
  | zero => rfl
  | succ n ih => simp only [repl, ih, List.replicate_succ]; rfl
theorem toIntS_ok (A : Option Addr) (c : Nat) (xs : List Int) (hx : Fl H A (ints xs)) (hn : xs.length ≤ 1048576) (h : ∀ v C bs, AHeap.le H C → New H bs → Rw C 3 1 v xs.length (ints xs) bs → K v C) :
    ACalls Try.prog w0 39 [.slice A xs.length c] H K := by
  refine acalls_of_sx mix Try.func39 of39 (by simp [ir39]) ?_; rw [ir39]; (try delta qT qI qC qO qM qG)
  repeat' (first | simp -implicitDefEqProofs only [zG1,zG2,zG3,zG4,zG5,zG6,zG7,eq_self,resV,rval,X.val,binv,fillL,setR,↓reduceIte,Nat.reduceEqDiff,Nat.reduceAdd,Nat.reduceMul,Nat.reduceLeDiff,Nat.reduceLT,Nat.reduceSub,reduceCtorEq,zGp] | ((with_reducible refine rows_intro (fun _ hb => ?_)); try simp only [set_none, ne_eq] at hb) | ((with_reducible refine new_intro (fun _ hb => ?_)); try simp only [set_none, ne_eq] at hb) | (with_reducible refine draw_same ?_) | ((with_reducible refine gd_split ?_ (fun _ => ?_) (fun _ => ?_)); exact rfl) | ((with_reducible refine td_split ?_ (fun _ => ?_) (fun _ => ?_)); exact rfl) | (with_reducible refine c_split (fun _ => ?_) (fun _ => ?_)))
  refine mk_intro (n := xs.length) (by omega) (by omega) (fun b hb => ?_)
  repeat' (first | simp -implicitDefEqProofs only [zG1,zG2,zG3,zG4,zG5,zG6,zG7,eq_self,resV,rval,X.val,binv,fillL,setR,↓reduceIte,Nat.reduceEqDiff,Nat.reduceAdd,Nat.reduceMul,Nat.reduceLeDiff,Nat.reduceLT,Nat.reduceSub,reduceCtorEq,zGp] | ((with_reducible refine rows_intro (fun _ hb => ?_)); try simp only [set_none, ne_eq] at hb) | ((with_reducible refine new_intro (fun _ hb => ?_)); try simp only [set_none, ne_eq] at hb) | (with_reducible refine draw_same ?_) | ((with_reducible refine gd_split ?_ (fun _ => ?_) (fun _ => ?_)); exact rfl) | ((with_reducible refine td_split ?_ (fun _ => ?_) (fun _ => ?_)); exact rfl) | (with_reducible refine c_split (fun _ => ?_) (fun _ => ?_)))
  refine for_rule xs.length (fun k fr C => AHeap.le H C ∧ Kn C b ⟨ints (xs.take k ++ List.replicate (xs.length - k) 0), true, 3, xs.length * 1⟩ ∧ fr 0 = .slice A xs.length c ∧ fr 3 = .slice (some ⟨b, 0, none⟩) xs.length xs.length ∧ fr 4 = .int .i64 k)
    ⟨(AHeap.le.refl H).fresh hb _, by rw [List.take_zero, List.nil_append, Nat.sub_zero, ← repl_zeroI]; exact Kn.same _ _ _, (by first | rfl | (simp only [put_at, ↓reduceIte, Nat.reduceEqDiff]; first | done | rfl | assumption) | simp [put_at, *]), (by first | rfl | (simp only [put_at, ↓reduceIte, Nat.reduceEqDiff]; first | done | rfl | assumption) | simp [put_at, *]), (by first | rfl | (simp only [put_at, ↓reduceIte, Nat.reduceEqDiff]; first | done | rfl | assumption) | simp [put_at, *])⟩ ?_ ?_
  · rintro k fr C hk ⟨hle, kn, f0, f3, f4⟩ N hN
    have g0 := lt_dec hk
    have g1 := rng hk
    have g2 := up1 hk (by omega)
    have q1 := (hx.le hle).int hk
    have q2 := (hx.le hle).ints_is hk
    have ll : (xs.take k ++ List.replicate (xs.length - k) (0 : Int)).length = xs.length := by simp; omega
    have es : (xs.take k ++ List.replicate (xs.length - k) (0 : Int)).set k xs[k] = xs.take (k + 1) ++ List.replicate (xs.length - (k + 1)) 0 := by
      obtain ⟨m, hm⟩ : ∃ m, xs.length - k = m + 1 := ⟨xs.length - k - 1, by omega⟩
      have el : (xs.take k).length = k := by simp; omega
      rw [List.set_append_right _ _ (by omega), el, Nat.sub_self, hm, List.replicate_succ, List.set_cons_zero, List.take_add_one, List.getElem?_eq_getElem hk, show xs.length - (k + 1) = m by omega, Option.toList_some, List.append_assoc]
      rfl
    repeat' (first | simp -implicitDefEqProofs only [zG1,zG2,zG3,zG4,zG5,zG6,zG7,eq_self,resV,rval,X.val,binv,fillL,setR,↓reduceIte,Nat.reduceEqDiff,Nat.reduceAdd,Nat.reduceMul,Nat.reduceLeDiff,Nat.reduceLT,Nat.reduceSub,reduceCtorEq,zGp, f0, f3, f4, g0, g1, g2, q1, q2, adr_lit, Nat.zero_add, Nat.mul_one] | ((with_reducible refine rows_intro (fun _ hb => ?_)); try simp only [set_none, ne_eq] at hb) | ((with_reducible refine new_intro (fun _ hb => ?_)); try simp only [set_none, ne_eq] at hb) | (with_reducible refine draw_same ?_) | ((with_reducible refine gd_split ?_ (fun _ => ?_) (fun _ => ?_)); exact rfl) | ((with_reducible refine td_split ?_ (fun _ => ?_) (fun _ => ?_)); exact rfl) | (with_reducible refine c_split (fun _ => ?_) (fun _ => ?_)))
    refine st_kn kn rfl rfl (by simp only; rw [ints_len, ll]; show k + 1 ≤ _; omega) (by simp [vcI, ocI]) (fun C6 hc6 ho6 k6 => ?_)
    repeat' (first | simp -implicitDefEqProofs only [zG1,zG2,zG3,zG4,zG5,zG6,zG7,eq_self,resV,rval,X.val,binv,fillL,setR,↓reduceIte,Nat.reduceEqDiff,Nat.reduceAdd,Nat.reduceMul,Nat.reduceLeDiff,Nat.reduceLT,Nat.reduceSub,reduceCtorEq,zGp, f0, f3, f4, g2] | ((with_reducible refine rows_intro (fun _ hb => ?_)); try simp only [set_none, ne_eq] at hb) | ((with_reducible refine new_intro (fun _ hb => ?_)); try simp only [set_none, ne_eq] at hb) | (with_reducible refine draw_same ?_) | ((with_reducible refine gd_split ?_ (fun _ => ?_) (fun _ => ?_)); exact rfl) | ((with_reducible refine td_split ?_ (fun _ => ?_) (fun _ => ?_)); exact rfl) | (with_reducible refine c_split (fun _ => ?_) (fun _ => ?_)))
    refine hN _ _ _ (.refl _) ⟨hc6.keep hle (New.one hb), ?_, (by first | rfl | (simp only [put_at, ↓reduceIte, Nat.reduceEqDiff]; first | done | rfl | assumption) | simp [put_at, *]), (by first | rfl | (simp only [put_at, ↓reduceIte, Nat.reduceEqDiff]; first | done | rfl | assumption) | simp [put_at, *]), (by first | rfl | (simp only [put_at, ↓reduceIte, Nat.reduceEqDiff]; first | done | rfl | assumption) | simp [put_at, *])⟩
    have : (ints (xs.take k ++ List.replicate (xs.length - k) (0 : Int))).set k (.int .i64 xs[k]) = ints (xs.take (k + 1) ++ List.replicate (xs.length - (k + 1)) 0) := by rw [← es]; simp [ints, List.map_set]
    rw [← this]; exact k6
  · rintro fr C ⟨hle, kn, f0, f3, f4⟩ N
    have g0 : decide ((xs.length : Int) < (xs.length : Int)) = false := by simp
    rw [List.take_of_length_le (Nat.le_refl _), Nat.sub_self, List.replicate_zero, List.append_nil] at kn
    repeat' (first | simp -implicitDefEqProofs only [zG1,zG2,zG3,zG4,zG5,zG6,zG7,eq_self,resV,rval,X.val,binv,fillL,setR,↓reduceIte,Nat.reduceEqDiff,Nat.reduceAdd,Nat.reduceMul,Nat.reduceLeDiff,Nat.reduceLT,Nat.reduceSub,reduceCtorEq,zGp, f0, f3, f4, g0] | ((with_reducible refine rows_intro (fun _ hb => ?_)); try simp only [set_none, ne_eq] at hb) | ((with_reducible refine new_intro (fun _ hb => ?_)); try simp only [set_none, ne_eq] at hb) | (with_reducible refine draw_same ?_) | ((with_reducible refine gd_split ?_ (fun _ => ?_) (fun _ => ?_)); exact rfl) | ((with_reducible refine td_split ?_ (fun _ => ?_) (fun _ => ?_)); exact rfl) | (with_reducible refine c_split (fun _ => ?_) (fun _ => ?_)))
    exact ret_same (h _ _ [b] hle (New.one hb) (Rw.mk kn (by rw [ints_len, Nat.mul_one]) (Nat.le_refl _) (by simp only [maxLen]; omega)))
def words (xs : List Int) : Bool := xs.all fun x => wordValid x
def threadValid (xs : List Int) (p : Int) (qs : List Qd) : Bool := codeValid qs && (decide (xs.length = 12) && words xs && decide (0 ≤ p) && decide (p < qs.length))
theorem areWords_ok (A : Option Addr) (c : Nat) (xs : List Int) (hx : Fl H A (ints xs)) (hn : xs.length ≤ 1048576) (h : K (.bool (words xs)) H) :
    ACalls Try.prog w0 147 [.slice A xs.length c] H K := by
  refine acalls_of_sx mix Try.func147 of147 (by simp [ir147]) ?_; rw [ir147]; (try delta qT qI qC qO qM qG)
  repeat' (first | simp -implicitDefEqProofs only [zG1,zG2,zG3,zG4,zG5,zG6,zG7,eq_self,resV,rval,X.val,binv,fillL,setR,↓reduceIte,Nat.reduceEqDiff,Nat.reduceAdd,Nat.reduceMul,Nat.reduceLeDiff,Nat.reduceLT,Nat.reduceSub,reduceCtorEq,zGp] | ((with_reducible refine rows_intro (fun _ hb => ?_)); try simp only [set_none, ne_eq] at hb) | ((with_reducible refine new_intro (fun _ hb => ?_)); try simp only [set_none, ne_eq] at hb) | (with_reducible refine draw_same ?_) | ((with_reducible refine gd_split ?_ (fun _ => ?_) (fun _ => ?_)); exact rfl) | ((with_reducible refine td_split ?_ (fun _ => ?_) (fun _ => ?_)); exact rfl) | (with_reducible refine c_split (fun _ => ?_) (fun _ => ?_)))
  refine for_rule xs.length (fun k fr C => C = H ∧ (∀ i (hi : i < xs.length), i < k → wordValid xs[i] = true) ∧ fr 5 = .slice A xs.length c ∧ fr 6 = .int .i64 xs.length ∧ fr 7 = .int .i64 k)
    ⟨rfl, fun i _ hi => absurd hi (Nat.not_lt_zero _), (by first | rfl | (simp only [put_at, ↓reduceIte, Nat.reduceEqDiff]; first | done | rfl | assumption) | simp [put_at, *]), (by first | rfl | (simp only [put_at, ↓reduceIte, Nat.reduceEqDiff]; first | done | rfl | assumption) | simp [put_at, *]), (by first | rfl | (simp only [put_at, ↓reduceIte, Nat.reduceEqDiff]; first | done | rfl | assumption) | simp [put_at, *])⟩ ?_ ?_
  · rintro k fr C hk ⟨rfl, hw, f5, f6, f7⟩ N hN
    have g0 := lt_dec hk
    have g1 := rng hk
    have g2 := up1 hk (by omega)
    have q1 := hx.int hk
    have q2 := hx.ints_is hk
    cases hv : wordValid xs[k] with
    | true =>
      repeat' (first | simp -implicitDefEqProofs only [zG1,zG2,zG3,zG4,zG5,zG6,zG7,eq_self,resV,rval,X.val,binv,fillL,setR,↓reduceIte,Nat.reduceEqDiff,Nat.reduceAdd,Nat.reduceMul,Nat.reduceLeDiff,Nat.reduceLT,Nat.reduceSub,reduceCtorEq,zGp, f5, f6, f7, g0, g1, g2, q1, q2, hv, Nat.mul_one] | ((with_reducible refine rows_intro (fun _ hb => ?_)); try simp only [set_none, ne_eq] at hb) | ((with_reducible refine new_intro (fun _ hb => ?_)); try simp only [set_none, ne_eq] at hb) | (with_reducible refine draw_same ?_) | ((with_reducible refine gd_split ?_ (fun _ => ?_) (fun _ => ?_)); exact rfl) | ((with_reducible refine td_split ?_ (fun _ => ?_) (fun _ => ?_)); exact rfl) | (with_reducible refine c_split (fun _ => ?_) (fun _ => ?_)) | (with_reducible refine wordValid_ok _ _ _ _ ?_))
      refine hN _ _ _ (.refl _) ⟨rfl, fun i hi hik => ?_, (by first | rfl | (simp only [put_at, ↓reduceIte, Nat.reduceEqDiff]; first | done | rfl | assumption) | simp [put_at, *]), (by first | rfl | (simp only [put_at, ↓reduceIte, Nat.reduceEqDiff]; first | done | rfl | assumption) | simp [put_at, *]), (by first | rfl | (simp only [put_at, ↓reduceIte, Nat.reduceEqDiff]; first | done | rfl | assumption) | simp [put_at, *])⟩
      rcases Nat.lt_succ_iff_lt_or_eq.1 hik with hik | rfl
      · exact hw i hi hik
      · exact hv
    | false =>
      have e : words xs = false := by
        rw [words, List.all_eq_false]
        exact ⟨xs[k], List.getElem_mem hk, by rw [hv]; simp⟩
      rw [e] at h
      repeat' (first | simp -implicitDefEqProofs only [zG1,zG2,zG3,zG4,zG5,zG6,zG7,eq_self,resV,rval,X.val,binv,fillL,setR,↓reduceIte,Nat.reduceEqDiff,Nat.reduceAdd,Nat.reduceMul,Nat.reduceLeDiff,Nat.reduceLT,Nat.reduceSub,reduceCtorEq,zGp, f5, f6, f7, g0, g1, g2, q1, q2, hv, Nat.mul_one] | ((with_reducible refine rows_intro (fun _ hb => ?_)); try simp only [set_none, ne_eq] at hb) | ((with_reducible refine new_intro (fun _ hb => ?_)); try simp only [set_none, ne_eq] at hb) | (with_reducible refine draw_same ?_) | ((with_reducible refine gd_split ?_ (fun _ => ?_) (fun _ => ?_)); exact rfl) | ((with_reducible refine td_split ?_ (fun _ => ?_) (fun _ => ?_)); exact rfl) | (with_reducible refine c_split (fun _ => ?_) (fun _ => ?_)) | (with_reducible refine wordValid_ok _ _ _ _ ?_))
      exact ret_same h
  · rintro fr C ⟨rfl, hw, f5, f6, f7⟩ N
    have g0 : decide ((xs.length : Int) < (xs.length : Int)) = false := by simp
    have e : words xs = true := by
      rw [words, List.all_eq_true]
      intro x hx
      obtain ⟨i, hi, rfl⟩ := List.getElem_of_mem hx
      exact hw i hi hi
    rw [e] at h
    repeat' (first | simp -implicitDefEqProofs only [zG1,zG2,zG3,zG4,zG5,zG6,zG7,eq_self,resV,rval,X.val,binv,fillL,setR,↓reduceIte,Nat.reduceEqDiff,Nat.reduceAdd,Nat.reduceMul,Nat.reduceLeDiff,Nat.reduceLT,Nat.reduceSub,reduceCtorEq,zGp, f5, f6, f7, g0] | ((with_reducible refine rows_intro (fun _ hb => ?_)); try simp only [set_none, ne_eq] at hb) | ((with_reducible refine new_intro (fun _ hb => ?_)); try simp only [set_none, ne_eq] at hb) | (with_reducible refine draw_same ?_) | ((with_reducible refine gd_split ?_ (fun _ => ?_) (fun _ => ?_)); exact rfl) | ((with_reducible refine td_split ?_ (fun _ => ?_) (fun _ => ?_)); exact rfl) | (with_reducible refine c_split (fun _ => ?_) (fun _ => ?_)))
    exact ret_same h
theorem l4Words_ok (A : Option Addr) (c : Nat) (xs : List Int) (hx : Fl H A (ints xs)) (hn : xs.length ≤ 1048576) (h : K (.bool (decide (xs.length = 12) && words xs)) H) :
    ACalls Try.prog w0 88 [.slice A xs.length c, .int .i64 12] H K := by
  by_cases hl : xs.length = 12
  · have d1 : ((xs.length : Int) != 12) = false := by simp [hl]
    have d0 : decide (xs.length = 12) = true := by simp [hl]
    rw [d0, Bool.true_and] at h
    clear hl
    refine acalls_of_sx mix Try.func88 of88 (by simp [ir88]) ?_; rw [ir88]; (try delta qT qI qC qO qM qG)
    repeat' (first | simp -implicitDefEqProofs only [zG1,zG2,zG3,zG4,zG5,zG6,zG7,eq_self,resV,rval,X.val,binv,fillL,setR,↓reduceIte,Nat.reduceEqDiff,Nat.reduceAdd,Nat.reduceMul,Nat.reduceLeDiff,Nat.reduceLT,Nat.reduceSub,reduceCtorEq,zGp, d1] | ((with_reducible refine rows_intro (fun _ hb => ?_)); try simp only [set_none, ne_eq] at hb) | ((with_reducible refine new_intro (fun _ hb => ?_)); try simp only [set_none, ne_eq] at hb) | (with_reducible refine draw_same ?_) | ((with_reducible refine gd_split ?_ (fun _ => ?_) (fun _ => ?_)); exact rfl) | ((with_reducible refine td_split ?_ (fun _ => ?_) (fun _ => ?_)); exact rfl) | (with_reducible refine c_split (fun _ => ?_) (fun _ => ?_)))
    refine for_rule xs.length (fun k fr C => C = H ∧ (∀ i (hi : i < xs.length), i < k → wordValid xs[i] = true) ∧ fr 0 = .slice A xs.length c ∧ fr 5 = .int .i64 k)
      ⟨rfl, fun i _ hi => absurd hi (Nat.not_lt_zero _), (by first | rfl | (simp only [put_at, ↓reduceIte, Nat.reduceEqDiff]; first | done | rfl | assumption) | simp [put_at, *]), (by first | rfl | (simp only [put_at, ↓reduceIte, Nat.reduceEqDiff]; first | done | rfl | assumption) | simp [put_at, *])⟩ ?_ ?_
    · rintro k fr C hk ⟨rfl, hw, f0, f5⟩ N hN
      have g0 := lt_dec hk
      have g1 := rng hk
      have g2 := up1 hk (by omega)
      have q1 := hx.int hk
      have q2 := hx.ints_is hk
      cases hv : wordValid xs[k] with
      | true =>
        repeat' (first | simp -implicitDefEqProofs only [zG1,zG2,zG3,zG4,zG5,zG6,zG7,eq_self,resV,rval,X.val,binv,fillL,setR,↓reduceIte,Nat.reduceEqDiff,Nat.reduceAdd,Nat.reduceMul,Nat.reduceLeDiff,Nat.reduceLT,Nat.reduceSub,reduceCtorEq,zGp, f0, f5, g0, g1, g2, q1, q2, hv, Nat.mul_one] | ((with_reducible refine rows_intro (fun _ hb => ?_)); try simp only [set_none, ne_eq] at hb) | ((with_reducible refine new_intro (fun _ hb => ?_)); try simp only [set_none, ne_eq] at hb) | (with_reducible refine draw_same ?_) | ((with_reducible refine gd_split ?_ (fun _ => ?_) (fun _ => ?_)); exact rfl) | ((with_reducible refine td_split ?_ (fun _ => ?_) (fun _ => ?_)); exact rfl) | (with_reducible refine c_split (fun _ => ?_) (fun _ => ?_)) | (with_reducible refine wordValidS_ok _ _ _ _ ?_))
        refine hN _ _ _ (.refl _) ⟨rfl, fun i hi hik => ?_, (by first | rfl | (simp only [put_at, ↓reduceIte, Nat.reduceEqDiff]; first | done | rfl | assumption) | simp [put_at, *]), (by first | rfl | (simp only [put_at, ↓reduceIte, Nat.reduceEqDiff]; first | done | rfl | assumption) | simp [put_at, *])⟩
        rcases Nat.lt_succ_iff_lt_or_eq.1 hik with hik | rfl
        · exact hw i hi hik
        · exact hv
      | false =>
        have e : words xs = false := by
          rw [words, List.all_eq_false]
          exact ⟨xs[k], List.getElem_mem hk, by rw [hv]; simp⟩
        rw [e] at h
        repeat' (first | simp -implicitDefEqProofs only [zG1,zG2,zG3,zG4,zG5,zG6,zG7,eq_self,resV,rval,X.val,binv,fillL,setR,↓reduceIte,Nat.reduceEqDiff,Nat.reduceAdd,Nat.reduceMul,Nat.reduceLeDiff,Nat.reduceLT,Nat.reduceSub,reduceCtorEq,zGp, f0, f5, g0, g1, g2, q1, q2, hv, Nat.mul_one] | ((with_reducible refine rows_intro (fun _ hb => ?_)); try simp only [set_none, ne_eq] at hb) | ((with_reducible refine new_intro (fun _ hb => ?_)); try simp only [set_none, ne_eq] at hb) | (with_reducible refine draw_same ?_) | ((with_reducible refine gd_split ?_ (fun _ => ?_) (fun _ => ?_)); exact rfl) | ((with_reducible refine td_split ?_ (fun _ => ?_) (fun _ => ?_)); exact rfl) | (with_reducible refine c_split (fun _ => ?_) (fun _ => ?_)) | (with_reducible refine wordValidS_ok _ _ _ _ ?_))
        exact ret_same h
    · rintro fr C ⟨rfl, hw, f0, f5⟩ N
      have g0 : decide ((xs.length : Int) < (xs.length : Int)) = false := by simp
      have e : words xs = true := by
        rw [words, List.all_eq_true]
        intro x hx
        obtain ⟨i, hi, rfl⟩ := List.getElem_of_mem hx
        exact hw i hi hi
      rw [e] at h
      repeat' (first | simp -implicitDefEqProofs only [zG1,zG2,zG3,zG4,zG5,zG6,zG7,eq_self,resV,rval,X.val,binv,fillL,setR,↓reduceIte,Nat.reduceEqDiff,Nat.reduceAdd,Nat.reduceMul,Nat.reduceLeDiff,Nat.reduceLT,Nat.reduceSub,reduceCtorEq,zGp, f0, f5, g0] | ((with_reducible refine rows_intro (fun _ hb => ?_)); try simp only [set_none, ne_eq] at hb) | ((with_reducible refine new_intro (fun _ hb => ?_)); try simp only [set_none, ne_eq] at hb) | (with_reducible refine draw_same ?_) | ((with_reducible refine gd_split ?_ (fun _ => ?_) (fun _ => ?_)); exact rfl) | ((with_reducible refine td_split ?_ (fun _ => ?_) (fun _ => ?_)); exact rfl) | (with_reducible refine c_split (fun _ => ?_) (fun _ => ?_)))
      exact ret_same h
  · have d1 : ((xs.length : Int) != 12) = true := by simp; omega
    have d0 : decide (xs.length = 12) = false := by simp [hl]
    rw [d0, Bool.false_and] at h
    refine acalls_of_sx mix Try.func88 of88 (by simp [ir88]) ?_; rw [ir88]; (try delta qT qI qC qO qM qG)
    repeat' (first | simp -implicitDefEqProofs only [zG1,zG2,zG3,zG4,zG5,zG6,zG7,eq_self,resV,rval,X.val,binv,fillL,setR,↓reduceIte,Nat.reduceEqDiff,Nat.reduceAdd,Nat.reduceMul,Nat.reduceLeDiff,Nat.reduceLT,Nat.reduceSub,reduceCtorEq,zGp, d1] | ((with_reducible refine rows_intro (fun _ hb => ?_)); try simp only [set_none, ne_eq] at hb) | ((with_reducible refine new_intro (fun _ hb => ?_)); try simp only [set_none, ne_eq] at hb) | (with_reducible refine draw_same ?_) | ((with_reducible refine gd_split ?_ (fun _ => ?_) (fun _ => ?_)); exact rfl) | ((with_reducible refine td_split ?_ (fun _ => ?_) (fun _ => ?_)); exact rfl) | (with_reducible refine c_split (fun _ => ?_) (fun _ => ?_)))
    exact ret_same h
theorem threadValid_ok (A : Option Addr) (c : Nat) (xs : List Int) (p : Int) (hx : Fl H A (ints xs)) (hn : xs.length ≤ 1048576) (B : Option Addr) (d : Nat) (qs : List Qd) (hy : Fl H B (qcells qs)) (hm : qs.length ≤ 1048576) (h : K (.bool (threadValid xs p qs)) H) :
    ACalls Try.prog w0 93 [.agg #[.slice A xs.length c, .int .i64 p], .slice B qs.length d] H K := by
  have fits : ∀ (C : AHeap) (D : Value → AHeap → Prop), AHeap.le H C → D (.bool (decide (xs.length = 12) && words xs && decide (0 ≤ p) && decide (p < qs.length))) C → ACalls Try.prog w0 149 [.agg #[.slice A xs.length c, .int .i64 p], .slice B qs.length d] C D := by
    intro C D hl hD
    by_cases h12 : xs.length = 12
    · have d1 : ((xs.length : Int) == 12) = true := by simp [h12]
      rw [decide_eq_true h12, Bool.true_and] at hD
      clear h12
      cases hw : words xs with
      | false =>
        rw [hw] at hD
        refine acalls_of_sx mix Try.func149 of149 (by simp [ir149]) ?_; rw [ir149]; (try delta qT qI qC qO qM qG)
        repeat' (first | simp -implicitDefEqProofs only [zG1,zG2,zG3,zG4,zG5,zG6,zG7,eq_self,resV,rval,X.val,binv,fillL,setR,↓reduceIte,Nat.reduceEqDiff,Nat.reduceAdd,Nat.reduceMul,Nat.reduceLeDiff,Nat.reduceLT,Nat.reduceSub,reduceCtorEq,zGp, d1, hw] | ((with_reducible refine rows_intro (fun _ hb => ?_)); try simp only [set_none, ne_eq] at hb) | ((with_reducible refine new_intro (fun _ hb => ?_)); try simp only [set_none, ne_eq] at hb) | (with_reducible refine draw_same ?_) | ((with_reducible refine gd_split ?_ (fun _ => ?_) (fun _ => ?_)); exact rfl) | ((with_reducible refine td_split ?_ (fun _ => ?_) (fun _ => ?_)); exact rfl) | (with_reducible refine c_split (fun _ => ?_) (fun _ => ?_)) | (with_reducible refine areWords_ok _ _ _ A c xs (hx.le (hl.fresh ‹C _ = none› _)) hn ?_))
        exact ⟨C, (AHeap.le.refl C).fresh (by assumption) _, by simpa using hD⟩
      | true =>
        rw [hw] at hD
        by_cases h0 : 0 ≤ p
        · have d2 : decide (p ≥ 0) = true := by simpa using h0
          refine acalls_of_sx mix Try.func149 of149 (by simp [ir149]) ?_; rw [ir149]; (try delta qT qI qC qO qM qG)
          repeat' (first | simp -implicitDefEqProofs only [zG1,zG2,zG3,zG4,zG5,zG6,zG7,eq_self,resV,rval,X.val,binv,fillL,setR,↓reduceIte,Nat.reduceEqDiff,Nat.reduceAdd,Nat.reduceMul,Nat.reduceLeDiff,Nat.reduceLT,Nat.reduceSub,reduceCtorEq,zGp, d1, hw, d2] | ((with_reducible refine rows_intro (fun _ hb => ?_)); try simp only [set_none, ne_eq] at hb) | ((with_reducible refine new_intro (fun _ hb => ?_)); try simp only [set_none, ne_eq] at hb) | (with_reducible refine draw_same ?_) | ((with_reducible refine gd_split ?_ (fun _ => ?_) (fun _ => ?_)); exact rfl) | ((with_reducible refine td_split ?_ (fun _ => ?_) (fun _ => ?_)); exact rfl) | (with_reducible refine c_split (fun _ => ?_) (fun _ => ?_)) | (with_reducible refine areWords_ok _ _ _ A c xs (hx.le (hl.fresh ‹C _ = none› _)) hn ?_))
          exact ⟨C, (AHeap.le.refl C).fresh (by assumption) _, by simpa [h0] using hD⟩
        · have d2 : decide (p ≥ 0) = false := by simp; omega
          refine acalls_of_sx mix Try.func149 of149 (by simp [ir149]) ?_; rw [ir149]; (try delta qT qI qC qO qM qG)
          repeat' (first | simp -implicitDefEqProofs only [zG1,zG2,zG3,zG4,zG5,zG6,zG7,eq_self,resV,rval,X.val,binv,fillL,setR,↓reduceIte,Nat.reduceEqDiff,Nat.reduceAdd,Nat.reduceMul,Nat.reduceLeDiff,Nat.reduceLT,Nat.reduceSub,reduceCtorEq,zGp, d1, hw, d2] | ((with_reducible refine rows_intro (fun _ hb => ?_)); try simp only [set_none, ne_eq] at hb) | ((with_reducible refine new_intro (fun _ hb => ?_)); try simp only [set_none, ne_eq] at hb) | (with_reducible refine draw_same ?_) | ((with_reducible refine gd_split ?_ (fun _ => ?_) (fun _ => ?_)); exact rfl) | ((with_reducible refine td_split ?_ (fun _ => ?_) (fun _ => ?_)); exact rfl) | (with_reducible refine c_split (fun _ => ?_) (fun _ => ?_)) | (with_reducible refine areWords_ok _ _ _ A c xs (hx.le (hl.fresh ‹C _ = none› _)) hn ?_))
          exact ⟨C, (AHeap.le.refl C).fresh (by assumption) _, by simpa [h0] using hD⟩
    · have d1 : ((xs.length : Int) == 12) = false := by simp; omega
      rw [decide_eq_false h12] at hD
      refine acalls_of_sx mix Try.func149 of149 (by simp [ir149]) ?_; rw [ir149]; (try delta qT qI qC qO qM qG)
      repeat' (first | simp -implicitDefEqProofs only [zG1,zG2,zG3,zG4,zG5,zG6,zG7,eq_self,resV,rval,X.val,binv,fillL,setR,↓reduceIte,Nat.reduceEqDiff,Nat.reduceAdd,Nat.reduceMul,Nat.reduceLeDiff,Nat.reduceLT,Nat.reduceSub,reduceCtorEq,zGp, d1] | ((with_reducible refine rows_intro (fun _ hb => ?_)); try simp only [set_none, ne_eq] at hb) | ((with_reducible refine new_intro (fun _ hb => ?_)); try simp only [set_none, ne_eq] at hb) | (with_reducible refine draw_same ?_) | ((with_reducible refine gd_split ?_ (fun _ => ?_) (fun _ => ?_)); exact rfl) | ((with_reducible refine td_split ?_ (fun _ => ?_) (fun _ => ?_)); exact rfl) | (with_reducible refine c_split (fun _ => ?_) (fun _ => ?_)))
      exact ⟨C, (AHeap.le.refl C).fresh (by assumption) _, by simpa using hD⟩
  cases hv : codeValid qs with
  | false =>
    have e : threadValid xs p qs = false := by simp [threadValid, hv]
    rw [e] at h
    refine acalls_of_sx mix Try.func93 of93 (by simp [ir93]) ?_; rw [ir93]; (try delta qT qI qC qO qM qG)
    repeat' (first | simp -implicitDefEqProofs only [zG1,zG2,zG3,zG4,zG5,zG6,zG7,eq_self,resV,rval,X.val,binv,fillL,setR,↓reduceIte,Nat.reduceEqDiff,Nat.reduceAdd,Nat.reduceMul,Nat.reduceLeDiff,Nat.reduceLT,Nat.reduceSub,reduceCtorEq,zGp, hv] | ((with_reducible refine rows_intro (fun _ hb => ?_)); try simp only [set_none, ne_eq] at hb) | ((with_reducible refine new_intro (fun _ hb => ?_)); try simp only [set_none, ne_eq] at hb) | (with_reducible refine draw_same ?_) | ((with_reducible refine gd_split ?_ (fun _ => ?_) (fun _ => ?_)); exact rfl) | ((with_reducible refine td_split ?_ (fun _ => ?_) (fun _ => ?_)); exact rfl) | (with_reducible refine c_split (fun _ => ?_) (fun _ => ?_)) | (with_reducible refine codeValid_ok _ _ _ _ _ _ (hy.fresh ‹H _ = none› _) ?_))
    exact ⟨H, (AHeap.le.refl H).fresh (by assumption) _, h⟩
  | true =>
    have e : threadValid xs p qs = (decide (xs.length = 12) && words xs && decide (0 ≤ p) && decide (p < qs.length)) := by simp [threadValid, hv]
    rw [e] at h
    refine acalls_of_sx mix Try.func93 of93 (by simp [ir93]) ?_; rw [ir93]; (try delta qT qI qC qO qM qG)
    repeat' (first | simp -implicitDefEqProofs only [zG1,zG2,zG3,zG4,zG5,zG6,zG7,eq_self,resV,rval,X.val,binv,fillL,setR,↓reduceIte,Nat.reduceEqDiff,Nat.reduceAdd,Nat.reduceMul,Nat.reduceLeDiff,Nat.reduceLT,Nat.reduceSub,reduceCtorEq,zGp, hv] | ((with_reducible refine rows_intro (fun _ hb => ?_)); try simp only [set_none, ne_eq] at hb) | ((with_reducible refine new_intro (fun _ hb => ?_)); try simp only [set_none, ne_eq] at hb) | (with_reducible refine draw_same ?_) | ((with_reducible refine gd_split ?_ (fun _ => ?_) (fun _ => ?_)); exact rfl) | ((with_reducible refine td_split ?_ (fun _ => ?_) (fun _ => ?_)); exact rfl) | (with_reducible refine c_split (fun _ => ?_) (fun _ => ?_)) | (with_reducible refine codeValid_ok _ _ _ _ _ _ (hy.fresh ‹H _ = none› _) ?_))
    refine fits _ _ ((AHeap.le.refl H).fresh (by assumption) _) ?_
    repeat' (first | simp -implicitDefEqProofs only [zG1,zG2,zG3,zG4,zG5,zG6,zG7,eq_self,resV,rval,X.val,binv,fillL,setR,↓reduceIte,Nat.reduceEqDiff,Nat.reduceAdd,Nat.reduceMul,Nat.reduceLeDiff,Nat.reduceLT,Nat.reduceSub,reduceCtorEq,zGp] | ((with_reducible refine rows_intro (fun _ hb => ?_)); try simp only [set_none, ne_eq] at hb) | ((with_reducible refine new_intro (fun _ hb => ?_)); try simp only [set_none, ne_eq] at hb) | (with_reducible refine draw_same ?_) | ((with_reducible refine gd_split ?_ (fun _ => ?_) (fun _ => ?_)); exact rfl) | ((with_reducible refine td_split ?_ (fun _ => ?_) (fun _ => ?_)); exact rfl) | (with_reducible refine c_split (fun _ => ?_) (fun _ => ?_)))
    exact ⟨H, (AHeap.le.refl H).fresh (by assumption) _, h⟩
theorem threadValidS_ok (A : Option Addr) (c : Nat) (xs : List Int) (p : Int) (hx : Fl H A (ints xs)) (hn : xs.length ≤ 1048576) (B : Option Addr) (d : Nat) (qs : List Qd) (hy : Fl H B (qcells qs)) (hm : qs.length ≤ 1048576) (h : K (.bool (threadValid xs p qs)) H) :
    ACalls Try.prog w0 86 [.agg #[.slice A xs.length c, .int .i64 p], .slice B qs.length d] H K := by
  have w1 : IntKind.i64.wrap ((qs.length : Int) - 1) = (qs.length : Int) - 1 := wrap_i64 (by omega) (by omega)
  have fits : ∀ (C : AHeap) (D : Value → AHeap → Prop), AHeap.le H C → D (.bool (decide (xs.length = 12) && words xs && decide (0 ≤ p) && decide (p < qs.length))) C → ACalls Try.prog w0 142 [.agg #[.slice A xs.length c, .int .i64 p], .int .i64 qs.length] C D := by
    intro C D hl hD
    cases hw : (decide (xs.length = 12) && words xs) with
    | false =>
      rw [hw] at hD
      refine acalls_of_sx mix Try.func142 of142 (by simp [ir142]) ?_; rw [ir142]; (try delta qT qI qC qO qM qG)
      repeat' (first | simp -implicitDefEqProofs only [zG1,zG2,zG3,zG4,zG5,zG6,zG7,eq_self,resV,rval,X.val,binv,fillL,setR,↓reduceIte,Nat.reduceEqDiff,Nat.reduceAdd,Nat.reduceMul,Nat.reduceLeDiff,Nat.reduceLT,Nat.reduceSub,reduceCtorEq,zGp, hw] | ((with_reducible refine rows_intro (fun _ hb => ?_)); try simp only [set_none, ne_eq] at hb) | ((with_reducible refine new_intro (fun _ hb => ?_)); try simp only [set_none, ne_eq] at hb) | (with_reducible refine draw_same ?_) | ((with_reducible refine gd_split ?_ (fun _ => ?_) (fun _ => ?_)); exact rfl) | ((with_reducible refine td_split ?_ (fun _ => ?_) (fun _ => ?_)); exact rfl) | (with_reducible refine c_split (fun _ => ?_) (fun _ => ?_)) | (with_reducible refine l4Words_ok _ _ _ A c xs (hx.le (hl.fresh ‹C _ = none› _)) hn ?_))
      exact ⟨C, (AHeap.le.refl C).fresh (by assumption) _, by simpa using hD⟩
    | true =>
      rw [hw, Bool.true_and] at hD
      refine acalls_of_sx mix Try.func142 of142 (by simp [ir142]) ?_; rw [ir142]; (try delta qT qI qC qO qM qG)
      repeat' (first | simp -implicitDefEqProofs only [zG1,zG2,zG3,zG4,zG5,zG6,zG7,eq_self,resV,rval,X.val,binv,fillL,setR,↓reduceIte,Nat.reduceEqDiff,Nat.reduceAdd,Nat.reduceMul,Nat.reduceLeDiff,Nat.reduceLT,Nat.reduceSub,reduceCtorEq,zGp, hw, w1] | ((with_reducible refine rows_intro (fun _ hb => ?_)); try simp only [set_none, ne_eq] at hb) | ((with_reducible refine new_intro (fun _ hb => ?_)); try simp only [set_none, ne_eq] at hb) | (with_reducible refine draw_same ?_) | ((with_reducible refine gd_split ?_ (fun _ => ?_) (fun _ => ?_)); exact rfl) | ((with_reducible refine td_split ?_ (fun _ => ?_) (fun _ => ?_)); exact rfl) | (with_reducible refine c_split (fun _ => ?_) (fun _ => ?_)) | (with_reducible refine l4Words_ok _ _ _ A c xs (hx.le (hl.fresh ‹C _ = none› _)) hn ?_) | (with_reducible refine l6In_ok _ _ _ _ _ _ ?_))
      refine ⟨C, (AHeap.le.refl C).fresh (by assumption) _, ?_⟩
      have e : (decide (0 ≤ p) && decide (p ≤ (qs.length : Int) - 1)) = (decide (0 ≤ p) && decide (p < (qs.length : Int))) := by
        congr 1; simp; omega
      first | (rw [← e] at hD; simpa using hD) | (simpa [e] using hD)
  cases hv : codeValid qs with
  | false =>
    have e : threadValid xs p qs = false := by simp [threadValid, hv]
    rw [e] at h
    refine acalls_of_sx mix Try.func86 of86 (by simp [ir86]) ?_; rw [ir86]; (try delta qT qI qC qO qM qG)
    repeat' (first | simp -implicitDefEqProofs only [zG1,zG2,zG3,zG4,zG5,zG6,zG7,eq_self,resV,rval,X.val,binv,fillL,setR,↓reduceIte,Nat.reduceEqDiff,Nat.reduceAdd,Nat.reduceMul,Nat.reduceLeDiff,Nat.reduceLT,Nat.reduceSub,reduceCtorEq,zGp, hv] | ((with_reducible refine rows_intro (fun _ hb => ?_)); try simp only [set_none, ne_eq] at hb) | ((with_reducible refine new_intro (fun _ hb => ?_)); try simp only [set_none, ne_eq] at hb) | (with_reducible refine draw_same ?_) | ((with_reducible refine gd_split ?_ (fun _ => ?_) (fun _ => ?_)); exact rfl) | ((with_reducible refine td_split ?_ (fun _ => ?_) (fun _ => ?_)); exact rfl) | (with_reducible refine c_split (fun _ => ?_) (fun _ => ?_)) | (with_reducible refine codeValidS_ok _ _ _ _ _ _ (hy.fresh ‹H _ = none› _) ?_))
    exact ⟨H, (AHeap.le.refl H).fresh (by assumption) _, h⟩
  | true =>
    have e : threadValid xs p qs = (decide (xs.length = 12) && words xs && decide (0 ≤ p) && decide (p < qs.length)) := by simp [threadValid, hv]
    rw [e] at h
    refine acalls_of_sx mix Try.func86 of86 (by simp [ir86]) ?_; rw [ir86]; (try delta qT qI qC qO qM qG)
    repeat' (first | simp -implicitDefEqProofs only [zG1,zG2,zG3,zG4,zG5,zG6,zG7,eq_self,resV,rval,X.val,binv,fillL,setR,↓reduceIte,Nat.reduceEqDiff,Nat.reduceAdd,Nat.reduceMul,Nat.reduceLeDiff,Nat.reduceLT,Nat.reduceSub,reduceCtorEq,zGp, hv] | ((with_reducible refine rows_intro (fun _ hb => ?_)); try simp only [set_none, ne_eq] at hb) | ((with_reducible refine new_intro (fun _ hb => ?_)); try simp only [set_none, ne_eq] at hb) | (with_reducible refine draw_same ?_) | ((with_reducible refine gd_split ?_ (fun _ => ?_) (fun _ => ?_)); exact rfl) | ((with_reducible refine td_split ?_ (fun _ => ?_) (fun _ => ?_)); exact rfl) | (with_reducible refine c_split (fun _ => ?_) (fun _ => ?_)) | (with_reducible refine codeValidS_ok _ _ _ _ _ _ (hy.fresh ‹H _ = none› _) ?_))
    refine fits _ _ ((AHeap.le.refl H).fresh (by assumption) _) ?_
    repeat' (first | simp -implicitDefEqProofs only [zG1,zG2,zG3,zG4,zG5,zG6,zG7,eq_self,resV,rval,X.val,binv,fillL,setR,↓reduceIte,Nat.reduceEqDiff,Nat.reduceAdd,Nat.reduceMul,Nat.reduceLeDiff,Nat.reduceLT,Nat.reduceSub,reduceCtorEq,zGp] | ((with_reducible refine rows_intro (fun _ hb => ?_)); try simp only [set_none, ne_eq] at hb) | ((with_reducible refine new_intro (fun _ hb => ?_)); try simp only [set_none, ne_eq] at hb) | (with_reducible refine draw_same ?_) | ((with_reducible refine gd_split ?_ (fun _ => ?_) (fun _ => ?_)); exact rfl) | ((with_reducible refine td_split ?_ (fun _ => ?_) (fun _ => ?_)); exact rfl) | (with_reducible refine c_split (fun _ => ?_) (fun _ => ?_)))
    exact ⟨H, (AHeap.le.refl H).fresh (by assumption) _, h⟩
end
end Go.Proofs.Ytfjhjfddgdokgaa
namespace Go.Proofs.Ytfjhjfddgdokgaa
set_option linter.all false
open Go Go.RowKit
set_option maxRecDepth 100000
variable (w0 : World) (H : AHeap) (K : Value → AHeap → Prop)
def sumL (L : List (List Qd)) : Nat := (L.map List.length).sum
def sumP (ts : List (List Int × Int)) : Nat := (ts.map fun t => t.1.length).sum
theorem sumL_step {L : List (List Qd)} {k : Nat} (hk : k < L.length) : sumL (L.take (k + 1)) = sumL (L.take k) + L[k].length := by
  rw [List.take_add_one, List.getElem?_eq_getElem hk]
  simp only [sumL, Option.toList_some, List.map_append, List.map_cons, List.map_nil, List.sum_append, List.sum_cons, List.sum_nil, Nat.add_zero]
theorem sumL_le (L : List (List Qd)) (k : Nat) : sumL (L.take k) ≤ sumL L := by
  have : sumL L = sumL (L.take k) + sumL (L.drop k) := by
    simp only [sumL]
    rw [← List.sum_append, ← List.map_append, List.take_append_drop]
  omega
theorem sumP_step {ts : List (List Int × Int)} {k : Nat} (hk : k < ts.length) : sumP (ts.take (k + 1)) = sumP (ts.take k) + ts[k].1.length := by
  rw [List.take_add_one, List.getElem?_eq_getElem hk]
  simp only [sumP, Option.toList_some, List.map_append, List.map_cons, List.map_nil, List.sum_append, List.sum_cons, List.sum_nil, Nat.add_zero]
theorem sumP_le (ts : List (List Int × Int)) (k : Nat) : sumP (ts.take k) ≤ sumP ts := by
  have : sumP ts = sumP (ts.take k) + sumP (ts.drop k) := by
    simp only [sumP]
    rw [← List.sum_append, ← List.map_append, List.take_append_drop]
  omega
theorem FP.rd0 {H : AHeap} {A : Option Addr} {ts : List (List Int × Int)} (h : FP H A 0 1 ts) {k : Nat} (hk : k < ts.length) : A.isSome = true ∧ ∃ A' c, H.rdn (adr A (k * 2)) 2 = some [.slice A' ts[k].1.length c, .int .i64 ts[k].2] ∧ Fl H A' (ints ts[k].1) := by
  obtain ⟨h1, A', c, h2, h3, h4⟩ := h k hk
  refine ⟨h1, A', c, rdn_of rfl fun j v hj => ?_, h4⟩
  rw [adr_adr]
  match j, hj with
  | 0, hj => simp at hj; rw [← hj]; exact h2
  | 1, hj => simp at hj; rw [← hj]; exact h3
theorem FP.rd1 {H : AHeap} {A : Option Addr} {ts : List (List Int × Int)} (h : FP H A 1 0 ts) {k : Nat} (hk : k < ts.length) : A.isSome = true ∧ ∃ A' c, H.rdn (adr A (k * 2)) 2 = some [.int .i64 ts[k].2, .slice A' ts[k].1.length c] ∧ Fl H A' (ints ts[k].1) := by
  obtain ⟨h1, A', c, h2, h3, h4⟩ := h k hk
  refine ⟨h1, A', c, rdn_of rfl fun j v hj => ?_, h4⟩
  rw [adr_adr]
  match j, hj with
  | 0, hj => simp at hj; rw [← hj]; exact h3
  | 1, hj => simp at hj; rw [← hj]; exact h2
theorem szQuadSS_ok (A : Option Addr) (c : Nat) (L : List (List Qd)) (hx : FR H A L) (hm : L.length ≤ maxLen) (hL : ∀ x ∈ L, x.length ≤ maxLen) (l : Int) (h2 : 0 ≤ l) (h3 : l ≤ 4611686018427387904) (h : K (.int .i64 (if l < L.length + sumL L then -1 else l - (L.length + sumL L))) H) :
    ACalls Try.prog w0 37 [.slice A L.length c, .int .i64 l] H K := by
  have e0 : (L.length : Int) ≤ 9223372036854775807 := by simp only [maxLen] at hm; omega
  have e1 : IntKind.i64.wrap (l - L.length) = l - L.length := wrap_i64 (by omega) (by omega)
  by_cases hl : l < L.length
  · have d1 : decide (l - (L.length : Int) < 0) = true := by simp; omega
    rw [if_pos (by omega)] at h
    refine acalls_of_sx mix Try.func37 of37 (by simp [ir37]) ?_; rw [ir37]; (try delta qT qI qC qO qM qG)
    repeat' (first | simp -implicitDefEqProofs only [zG1,zG2,zG3,zG4,zG5,zG6,zG7,eq_self,resV,rval,X.val,binv,fillL,setR,↓reduceIte,Nat.reduceEqDiff,Nat.reduceAdd,Nat.reduceMul,Nat.reduceLeDiff,Nat.reduceLT,Nat.reduceSub,reduceCtorEq,zGp, e1, d1] | ((with_reducible refine rows_intro (fun _ hb => ?_)); try simp only [set_none, ne_eq] at hb) | ((with_reducible refine new_intro (fun _ hb => ?_)); try simp only [set_none, ne_eq] at hb) | (with_reducible refine draw_same ?_) | ((with_reducible refine gd_split ?_ (fun _ => ?_) (fun _ => ?_)); exact rfl) | ((with_reducible refine td_split ?_ (fun _ => ?_) (fun _ => ?_)); exact rfl) | (with_reducible refine c_split (fun _ => ?_) (fun _ => ?_)))
    exact ret_same h
  · have d1 : decide (l - (L.length : Int) < 0) = false := by simp; omega
    refine acalls_of_sx mix Try.func37 of37 (by simp [ir37]) ?_; rw [ir37]; (try delta qT qI qC qO qM qG)
    repeat' (first | simp -implicitDefEqProofs only [zG1,zG2,zG3,zG4,zG5,zG6,zG7,eq_self,resV,rval,X.val,binv,fillL,setR,↓reduceIte,Nat.reduceEqDiff,Nat.reduceAdd,Nat.reduceMul,Nat.reduceLeDiff,Nat.reduceLT,Nat.reduceSub,reduceCtorEq,zGp, e1, d1] | ((with_reducible refine rows_intro (fun _ hb => ?_)); try simp only [set_none, ne_eq] at hb) | ((with_reducible refine new_intro (fun _ hb => ?_)); try simp only [set_none, ne_eq] at hb) | (with_reducible refine draw_same ?_) | ((with_reducible refine gd_split ?_ (fun _ => ?_) (fun _ => ?_)); exact rfl) | ((with_reducible refine td_split ?_ (fun _ => ?_) (fun _ => ?_)); exact rfl) | (with_reducible refine c_split (fun _ => ?_) (fun _ => ?_)))
    refine for_rule L.length (fun k fr C => C = H ∧ (0 : Int) ≤ l - L.length - sumL (L.take k) ∧ fr 0 = .slice A L.length c ∧ fr 1 = .int .i64 (l - L.length - sumL (L.take k)) ∧ fr 5 = .int .i64 k)
      ⟨rfl, by simp [sumL]; omega, (by first | rfl | (simp only [put_at, ↓reduceIte, Nat.reduceEqDiff]; first | done | rfl | assumption) | simp [put_at, *]), by simp [put_at, sumL], (by first | rfl | (simp only [put_at, ↓reduceIte, Nat.reduceEqDiff]; first | done | rfl | assumption) | simp [put_at, *])⟩ ?_ ?_
    · rintro k fr C hk ⟨rfl, hp, f0, f1, f5⟩ N hN
      have g0 := lt_dec hk
      have g1 := rng hk
      have g2 := up1 hk (by omega)
      obtain ⟨q1, A', c', q2, fl⟩ := hx k hk
      have hs := sumL_step hk
      have hle := sumL_le L (k + 1)
      have hm' := hL _ (List.getElem_mem hk)
      by_cases hb : l - L.length - sumL (L.take k) < L[k].length
      · have d2 : decide ((-1 : Int) < 0) = true := by decide
        rw [if_pos (by omega)] at h
        have hsz : ∀ (D : Value → AHeap → Prop), D (.int .i64 (-1)) C → ACalls Try.prog w0 51 [.slice A' L[k].length c', .int .i64 (l - L.length - sumL (L.take k))] C D := fun D hD => szQuadS_ok _ _ _ _ _ _ _ hm' hp (by omega) (by rw [if_pos hb]; exact hD)
        repeat' (first | simp -implicitDefEqProofs only [zG1,zG2,zG3,zG4,zG5,zG6,zG7,eq_self,resV,rval,X.val,binv,fillL,setR,↓reduceIte,Nat.reduceEqDiff,Nat.reduceAdd,Nat.reduceMul,Nat.reduceLeDiff,Nat.reduceLT,Nat.reduceSub,reduceCtorEq,zGp, f0, f1, f5, g0, g1, q1, q2, d2, Nat.mul_one] | ((with_reducible refine rows_intro (fun _ hb => ?_)); try simp only [set_none, ne_eq] at hb) | ((with_reducible refine new_intro (fun _ hb => ?_)); try simp only [set_none, ne_eq] at hb) | (with_reducible refine draw_same ?_) | ((with_reducible refine gd_split ?_ (fun _ => ?_) (fun _ => ?_)); exact rfl) | ((with_reducible refine td_split ?_ (fun _ => ?_) (fun _ => ?_)); exact rfl) | (with_reducible refine c_split (fun _ => ?_) (fun _ => ?_)) | (with_reducible refine hsz _ ?_))
        exact ret_same h
      · have d2 : decide (l - L.length - sumL (L.take k) - L[k].length < 0) = false := by simp; omega
        have hsz : ∀ (D : Value → AHeap → Prop), D (.int .i64 (l - L.length - sumL (L.take k) - L[k].length)) C → ACalls Try.prog w0 51 [.slice A' L[k].length c', .int .i64 (l - L.length - sumL (L.take k))] C D := fun D hD => szQuadS_ok _ _ _ _ _ _ _ hm' hp (by omega) (by rw [if_neg hb]; exact hD)
        have e3 : l - L.length - sumL (L.take k) - L[k].length = l - L.length - (sumL (L.take (k + 1)) : Int) := by rw [hs]; push_cast; omega
        rw [e3] at hsz d2
        repeat' (first | simp -implicitDefEqProofs only [zG1,zG2,zG3,zG4,zG5,zG6,zG7,eq_self,resV,rval,X.val,binv,fillL,setR,↓reduceIte,Nat.reduceEqDiff,Nat.reduceAdd,Nat.reduceMul,Nat.reduceLeDiff,Nat.reduceLT,Nat.reduceSub,reduceCtorEq,zGp, f0, f1, f5, g0, g1, g2, q1, q2, d2, Nat.mul_one] | ((with_reducible refine rows_intro (fun _ hb => ?_)); try simp only [set_none, ne_eq] at hb) | ((with_reducible refine new_intro (fun _ hb => ?_)); try simp only [set_none, ne_eq] at hb) | (with_reducible refine draw_same ?_) | ((with_reducible refine gd_split ?_ (fun _ => ?_) (fun _ => ?_)); exact rfl) | ((with_reducible refine td_split ?_ (fun _ => ?_) (fun _ => ?_)); exact rfl) | (with_reducible refine c_split (fun _ => ?_) (fun _ => ?_)) | (with_reducible refine hsz _ ?_))
        exact hN _ _ _ (.refl _) ⟨rfl, by omega, (by first | rfl | (simp only [put_at, ↓reduceIte, Nat.reduceEqDiff]; first | done | rfl | assumption) | simp [put_at, *]), (by first | rfl | (simp only [put_at, ↓reduceIte, Nat.reduceEqDiff]; first | done | rfl | assumption) | simp [put_at, *]), (by first | rfl | (simp only [put_at, ↓reduceIte, Nat.reduceEqDiff]; first | done | rfl | assumption) | simp [put_at, *])⟩
    · rintro fr C ⟨rfl, hp, f0, f1, f5⟩ N
      have g0 : decide ((L.length : Int) < (L.length : Int)) = false := by simp
      rw [List.take_length] at hp f1
      rw [if_neg (by omega)] at h
      repeat' (first | simp -implicitDefEqProofs only [zG1,zG2,zG3,zG4,zG5,zG6,zG7,eq_self,resV,rval,X.val,binv,fillL,setR,↓reduceIte,Nat.reduceEqDiff,Nat.reduceAdd,Nat.reduceMul,Nat.reduceLeDiff,Nat.reduceLT,Nat.reduceSub,reduceCtorEq,zGp, f0, f1, f5, g0] | ((with_reducible refine rows_intro (fun _ hb => ?_)); try simp only [set_none, ne_eq] at hb) | ((with_reducible refine new_intro (fun _ hb => ?_)); try simp only [set_none, ne_eq] at hb) | (with_reducible refine draw_same ?_) | ((with_reducible refine gd_split ?_ (fun _ => ?_) (fun _ => ?_)); exact rfl) | ((with_reducible refine td_split ?_ (fun _ => ?_) (fun _ => ?_)); exact rfl) | (with_reducible refine c_split (fun _ => ?_) (fun _ => ?_)))
      exact ret_same (ki h (by omega))
end Go.Proofs.Ytfjhjfddgdokgaa
namespace Go.Proofs.Ytfjhjfddgdokgaa
set_option linter.all false
open Go Go.RowKit
set_option maxRecDepth 100000
variable (w0 : World) (H : AHeap) (K : Value → AHeap → Prop)
theorem toQuadSS_ok (A : Option Addr) (c : Nat) (L : List (List Qd)) (hx : FR H A L) (hn : L.length ≤ 1048576) (hL : ∀ x ∈ L, x.length ≤ 1048576) (h : ∀ v C bs, AHeap.le H C → New H bs → Rs C 29 111 5 v (L.map qcells) bs → K v C) :
    ACalls Try.prog w0 40 [.slice A L.length c] H K := by
  refine acalls_of_sx mix Try.func40 of40 (by simp [ir40]) ?_; rw [ir40]; (try delta qT qI qC qO qM qG)
  repeat' (first | simp -implicitDefEqProofs only [zG1,zG2,zG3,zG4,zG5,zG6,zG7,eq_self,resV,rval,X.val,binv,fillL,setR,↓reduceIte,Nat.reduceEqDiff,Nat.reduceAdd,Nat.reduceMul,Nat.reduceLeDiff,Nat.reduceLT,Nat.reduceSub,reduceCtorEq,zGp] | ((with_reducible refine rows_intro (fun _ hb => ?_)); try simp only [set_none, ne_eq] at hb) | ((with_reducible refine new_intro (fun _ hb => ?_)); try simp only [set_none, ne_eq] at hb) | (with_reducible refine draw_same ?_) | ((with_reducible refine gd_split ?_ (fun _ => ?_) (fun _ => ?_)); exact rfl) | ((with_reducible refine td_split ?_ (fun _ => ?_) (fun _ => ?_)); exact rfl) | (with_reducible refine c_split (fun _ => ?_) (fun _ => ?_)))
  refine mk_intro (n := L.length) (by omega) (by omega) (fun b hb => ?_)
  repeat' (first | simp -implicitDefEqProofs only [zG1,zG2,zG3,zG4,zG5,zG6,zG7,eq_self,resV,rval,X.val,binv,fillL,setR,↓reduceIte,Nat.reduceEqDiff,Nat.reduceAdd,Nat.reduceMul,Nat.reduceLeDiff,Nat.reduceLT,Nat.reduceSub,reduceCtorEq,zGp] | ((with_reducible refine rows_intro (fun _ hb => ?_)); try simp only [set_none, ne_eq] at hb) | ((with_reducible refine new_intro (fun _ hb => ?_)); try simp only [set_none, ne_eq] at hb) | (with_reducible refine draw_same ?_) | ((with_reducible refine gd_split ?_ (fun _ => ?_) (fun _ => ?_)); exact rfl) | ((with_reducible refine td_split ?_ (fun _ => ?_) (fun _ => ?_)); exact rfl) | (with_reducible refine c_split (fun _ => ?_) (fun _ => ?_)))
  refine for_rule L.length (fun k fr C => ∃ bs, AHeap.le H C ∧ New H bs ∧ Rs C 29 111 5 (.slice (some ⟨b, 0, none⟩) L.length L.length) ((L.take k).map qcells ++ List.replicate (L.length - k) []) bs ∧ fr 0 = .slice A L.length c ∧ fr 3 = .slice (some ⟨b, 0, none⟩) L.length L.length ∧ fr 4 = .int .i64 k)
    ⟨[b], (AHeap.le.refl H).fresh hb _, New.one hb, by rw [List.take_zero, List.map_nil, List.nil_append, Nat.sub_zero]; exact Rs.nils (Kn.same _ _ _) (by simp only [maxLen]; omega), (by first | rfl | (simp only [put_at, ↓reduceIte, Nat.reduceEqDiff]; first | done | rfl | assumption) | simp [put_at, *]), (by first | rfl | (simp only [put_at, ↓reduceIte, Nat.reduceEqDiff]; first | done | rfl | assumption) | simp [put_at, *]), (by first | rfl | (simp only [put_at, ↓reduceIte, Nat.reduceEqDiff]; first | done | rfl | assumption) | simp [put_at, *])⟩ ?_ ?_
  · rintro k fr C hk ⟨bs0, hle, hn0, hR0, f0, f3, f4⟩ N hN
    obtain ⟨bs, hs, hne, hR⟩ := hR0.tight
    have hnb : New H bs := fun y hy => hn0 y (hs y hy)
    have g0 := lt_dec hk
    have g1 := rng hk
    have g2 := up1 hk (by omega)
    obtain ⟨q1, A', c', q2, fl⟩ := (hx.le hle) k hk
    have ll : ((L.take k).map qcells ++ List.replicate (L.length - k) []).length = L.length := by simp; omega
    have es : ((L.take k).map qcells ++ List.replicate (L.length - k) []).set k (qcells L[k]) = (L.take (k + 1)).map qcells ++ List.replicate (L.length - (k + 1)) [] := by
      obtain ⟨m, hm⟩ : ∃ m, L.length - k = m + 1 := ⟨L.length - k - 1, by omega⟩
      have el : ((L.take k).map qcells).length = k := by simp; omega
      rw [List.set_append_right _ _ (by omega), el, Nat.sub_self, hm, List.replicate_succ, List.set_cons_zero, List.take_add_one, List.getElem?_eq_getElem hk, show L.length - (k + 1) = m by omega, Option.toList_some, List.map_append, List.append_assoc]
      rfl
    repeat' (first | simp -implicitDefEqProofs only [zG1,zG2,zG3,zG4,zG5,zG6,zG7,eq_self,resV,rval,X.val,binv,fillL,setR,↓reduceIte,Nat.reduceEqDiff,Nat.reduceAdd,Nat.reduceMul,Nat.reduceLeDiff,Nat.reduceLT,Nat.reduceSub,reduceCtorEq,zGp, f0, f3, f4, g0, g1, g2, q1, q2, adr_lit, Nat.zero_add, Nat.mul_one] | ((with_reducible refine rows_intro (fun _ hb => ?_)); try simp only [set_none, ne_eq] at hb) | ((with_reducible refine new_intro (fun _ hb => ?_)); try simp only [set_none, ne_eq] at hb) | (with_reducible refine draw_same ?_) | ((with_reducible refine gd_split ?_ (fun _ => ?_) (fun _ => ?_)); exact rfl) | ((with_reducible refine td_split ?_ (fun _ => ?_) (fun _ => ?_)); exact rfl) | (with_reducible refine c_split (fun _ => ?_) (fun _ => ?_)))
    refine toQuadS_ok _ _ _ A' c' L[k] fl (by have := hL _ (List.getElem_mem hk); omega) (rw_of fun v5 C5 bs5 l5 n5 w5 => ?_)
    repeat' (first | simp -implicitDefEqProofs only [zG1,zG2,zG3,zG4,zG5,zG6,zG7,eq_self,resV,rval,X.val,binv,fillL,setR,↓reduceIte,Nat.reduceEqDiff,Nat.reduceAdd,Nat.reduceMul,Nat.reduceLeDiff,Nat.reduceLT,Nat.reduceSub,reduceCtorEq,zGp, f0, f3, f4, g1, adr_lit, Nat.zero_add, Nat.mul_one] | ((with_reducible refine rows_intro (fun _ hb => ?_)); try simp only [set_none, ne_eq] at hb) | ((with_reducible refine new_intro (fun _ hb => ?_)); try simp only [set_none, ne_eq] at hb) | (with_reducible refine draw_same ?_) | ((with_reducible refine gd_split ?_ (fun _ => ?_) (fun _ => ?_)); exact rfl) | ((with_reducible refine td_split ?_ (fun _ => ?_) (fun _ => ?_)); exact rfl) | (with_reducible refine c_split (fun _ => ?_) (fun _ => ?_)))
    have hR5 := hR.trans l5
    have hR5' : Rs C5 29 111 5 (.slice (some ⟨b, 0, none⟩) L.length L.length) ((L.take k).map qcells ++ List.replicate (L.length - k) []) bs := hR5
    refine hR5'.st (i := k) (by rw [ll]; exact hk) w5 (fun y hy hm => hne y hm (n5 y hy)) (fun C6 hc6 hR6 => ?_)
    rw [es] at hR6
    repeat' (first | simp -implicitDefEqProofs only [zG1,zG2,zG3,zG4,zG5,zG6,zG7,eq_self,resV,rval,X.val,binv,fillL,setR,↓reduceIte,Nat.reduceEqDiff,Nat.reduceAdd,Nat.reduceMul,Nat.reduceLeDiff,Nat.reduceLT,Nat.reduceSub,reduceCtorEq,zGp, f0, f3, f4, g2] | ((with_reducible refine rows_intro (fun _ hb => ?_)); try simp only [set_none, ne_eq] at hb) | ((with_reducible refine new_intro (fun _ hb => ?_)); try simp only [set_none, ne_eq] at hb) | (with_reducible refine draw_same ?_) | ((with_reducible refine gd_split ?_ (fun _ => ?_) (fun _ => ?_)); exact rfl) | ((with_reducible refine td_split ?_ (fun _ => ?_) (fun _ => ?_)); exact rfl) | (with_reducible refine c_split (fun _ => ?_) (fun _ => ?_)))
    exact hN _ _ _ (.refl _) ⟨bs ++ bs5, hc6.keep (hle.trans l5) hnb, hnb.app (n5.le hle), hR6, (by first | rfl | (simp only [put_at, ↓reduceIte, Nat.reduceEqDiff]; first | done | rfl | assumption) | simp [put_at, *]), (by first | rfl | (simp only [put_at, ↓reduceIte, Nat.reduceEqDiff]; first | done | rfl | assumption) | simp [put_at, *]), (by first | rfl | (simp only [put_at, ↓reduceIte, Nat.reduceEqDiff]; first | done | rfl | assumption) | simp [put_at, *])⟩
  · rintro fr C ⟨bs, hle, hnb, hR, f0, f3, f4⟩ N
    have g0 : decide ((L.length : Int) < (L.length : Int)) = false := by simp
    rw [List.take_of_length_le (Nat.le_refl _), Nat.sub_self, List.replicate_zero, List.append_nil] at hR
    repeat' (first | simp -implicitDefEqProofs only [zG1,zG2,zG3,zG4,zG5,zG6,zG7,eq_self,resV,rval,X.val,binv,fillL,setR,↓reduceIte,Nat.reduceEqDiff,Nat.reduceAdd,Nat.reduceMul,Nat.reduceLeDiff,Nat.reduceLT,Nat.reduceSub,reduceCtorEq,zGp, f0, f3, f4, g0] | ((with_reducible refine rows_intro (fun _ hb => ?_)); try simp only [set_none, ne_eq] at hb) | ((with_reducible refine new_intro (fun _ hb => ?_)); try simp only [set_none, ne_eq] at hb) | (with_reducible refine draw_same ?_) | ((with_reducible refine gd_split ?_ (fun _ => ?_) (fun _ => ?_)); exact rfl) | ((with_reducible refine td_split ?_ (fun _ => ?_) (fun _ => ?_)); exact rfl) | (with_reducible refine c_split (fun _ => ?_) (fun _ => ?_)))
    exact ret_same (h _ _ _ hle hnb hR)
theorem eqThreadS_ok (A B : Option Addr) (ca cb : Nat) (ts : List (List Int × Int)) (hx : FP H A 0 1 ts) (hy : FP H B 0 1 ts) (hn : ts.length ≤ 1048576) (hL : ∀ x ∈ ts, x.1.length ≤ 1048576) (h : K (.bool true) H) :
    ACalls Try.prog w0 95 [.slice A ts.length ca, .slice B ts.length cb] H K := by
  refine acalls_of_sx mix Try.func95 of95 (by simp [ir95]) ?_; rw [ir95]; (try delta qT qI qC qO qM qG)
  repeat' (first | simp -implicitDefEqProofs only [zG1,zG2,zG3,zG4,zG5,zG6,zG7,eq_self,resV,rval,X.val,binv,fillL,setR,↓reduceIte,Nat.reduceEqDiff,Nat.reduceAdd,Nat.reduceMul,Nat.reduceLeDiff,Nat.reduceLT,Nat.reduceSub,reduceCtorEq,zGp, bne_self_eq_false] | ((with_reducible refine rows_intro (fun _ hb => ?_)); try simp only [set_none, ne_eq] at hb) | ((with_reducible refine new_intro (fun _ hb => ?_)); try simp only [set_none, ne_eq] at hb) | (with_reducible refine draw_same ?_) | ((with_reducible refine gd_split ?_ (fun _ => ?_) (fun _ => ?_)); exact rfl) | ((with_reducible refine td_split ?_ (fun _ => ?_) (fun _ => ?_)); exact rfl) | (with_reducible refine c_split (fun _ => ?_) (fun _ => ?_)))
  refine for_rule ts.length (fun k fr C => C = H ∧ fr 0 = .slice A ts.length ca ∧ fr 1 = .slice B ts.length cb ∧ fr 5 = .int .i64 k) ⟨rfl, (by first | rfl | (simp only [put_at, ↓reduceIte, Nat.reduceEqDiff]; first | done | rfl | assumption) | simp [put_at, *]), (by first | rfl | (simp only [put_at, ↓reduceIte, Nat.reduceEqDiff]; first | done | rfl | assumption) | simp [put_at, *]), (by first | rfl | (simp only [put_at, ↓reduceIte, Nat.reduceEqDiff]; first | done | rfl | assumption) | simp [put_at, *])⟩ ?_ ?_
  · rintro k fr C hk ⟨rfl, f0, f1, f5⟩ N hN
    have g0 := lt_dec hk
    have g1 := rng hk
    have g3 := up1 hk (by omega)
    obtain ⟨q1, A', c', q2, fl⟩ := hx.rd0 hk
    obtain ⟨q3, B', c'', q4, fl'⟩ := hy.rd0 hk
    have hb := hL _ (List.getElem_mem hk)
    repeat' (first | simp -implicitDefEqProofs only [zG1,zG2,zG3,zG4,zG5,zG6,zG7,eq_self,resV,rval,X.val,binv,fillL,setR,↓reduceIte,Nat.reduceEqDiff,Nat.reduceAdd,Nat.reduceMul,Nat.reduceLeDiff,Nat.reduceLT,Nat.reduceSub,reduceCtorEq,zGp, f0, f1, f5, g0, g1, g3, q1, q2, q3, q4] | ((with_reducible refine rows_intro (fun _ hb => ?_)); try simp only [set_none, ne_eq] at hb) | ((with_reducible refine new_intro (fun _ hb => ?_)); try simp only [set_none, ne_eq] at hb) | (with_reducible refine draw_same ?_) | ((with_reducible refine gd_split ?_ (fun _ => ?_) (fun _ => ?_)); exact rfl) | ((with_reducible refine td_split ?_ (fun _ => ?_) (fun _ => ?_)); exact rfl) | (with_reducible refine c_split (fun _ => ?_) (fun _ => ?_)) | (with_reducible refine eqThread_ok _ _ _ A' B' c' c'' ts[k].1 ts[k].2 fl fl' (by omega) ?_))
    exact hN _ _ _ (.refl _) ⟨rfl, (by first | rfl | (simp only [put_at, ↓reduceIte, Nat.reduceEqDiff]; first | done | rfl | assumption) | simp [put_at, *]), (by first | rfl | (simp only [put_at, ↓reduceIte, Nat.reduceEqDiff]; first | done | rfl | assumption) | simp [put_at, *]), (by first | rfl | (simp only [put_at, ↓reduceIte, Nat.reduceEqDiff]; first | done | rfl | assumption) | simp [put_at, *])⟩
  · rintro fr C ⟨rfl, f0, f1, f5⟩ N
    have g0 : decide ((ts.length : Int) < (ts.length : Int)) = false := by simp
    repeat' (first | simp -implicitDefEqProofs only [zG1,zG2,zG3,zG4,zG5,zG6,zG7,eq_self,resV,rval,X.val,binv,fillL,setR,↓reduceIte,Nat.reduceEqDiff,Nat.reduceAdd,Nat.reduceMul,Nat.reduceLeDiff,Nat.reduceLT,Nat.reduceSub,reduceCtorEq,zGp, f0, f1, f5, g0] | ((with_reducible refine rows_intro (fun _ hb => ?_)); try simp only [set_none, ne_eq] at hb) | ((with_reducible refine new_intro (fun _ hb => ?_)); try simp only [set_none, ne_eq] at hb) | (with_reducible refine draw_same ?_) | ((with_reducible refine gd_split ?_ (fun _ => ?_) (fun _ => ?_)); exact rfl) | ((with_reducible refine td_split ?_ (fun _ => ?_) (fun _ => ?_)); exact rfl) | (with_reducible refine c_split (fun _ => ?_) (fun _ => ?_)))
    exact ret_same h
theorem eqBox_ok (A B : Option Addr) (ca cb : Nat) (xs : List Int) (p : Int) (hx : Fl H A (ints xs)) (hy : Fl H B (ints xs)) (hn : xs.length ≤ 4611686018427387904) (h : K (.bool true) H) :
    ACalls Try.prog w0 151 [.agg #[.int .i64 p, .slice A xs.length ca], .agg #[.int .i64 p, .slice B xs.length cb]] H K := by
  refine acalls_of_sx mix Try.func151 of151 (by simp [ir151]) ?_; rw [ir151]; (try delta qT qI qC qO qM qG)
  repeat' (first | simp -implicitDefEqProofs only [zG1,zG2,zG3,zG4,zG5,zG6,zG7,eq_self,resV,rval,X.val,binv,fillL,setR,↓reduceIte,Nat.reduceEqDiff,Nat.reduceAdd,Nat.reduceMul,Nat.reduceLeDiff,Nat.reduceLT,Nat.reduceSub,reduceCtorEq,zGr] | ((with_reducible refine rows_intro (fun _ hb => ?_)); try simp only [set_none, ne_eq] at hb) | ((with_reducible refine new_intro (fun _ hb => ?_)); try simp only [set_none, ne_eq] at hb) | (with_reducible refine draw_same ?_) | ((with_reducible refine gd_split ?_ (fun _ => ?_) (fun _ => ?_)); exact rfl) | ((with_reducible refine td_split ?_ (fun _ => ?_) (fun _ => ?_)); exact rfl) | (with_reducible refine c_split (fun _ => ?_) (fun _ => ?_)))
  have l1 : AHeap.le H ((H.set _ _).set _ _) := ((AHeap.le.refl H).fresh ‹H _ = none› ⟨[.int .i64 p, .slice A xs.length ca], true, 179, 2⟩).trans ((AHeap.le.refl _).fresh (set_none.2 hb) ⟨[.int .i64 p, .slice B xs.length cb], true, 179, 2⟩)
  repeat' (first | simp -implicitDefEqProofs only [zG1,zG2,zG3,zG4,zG5,zG6,zG7,eq_self,resV,rval,X.val,binv,fillL,setR,↓reduceIte,Nat.reduceEqDiff,Nat.reduceAdd,Nat.reduceMul,Nat.reduceLeDiff,Nat.reduceLT,Nat.reduceSub,reduceCtorEq,zGr, decide_true, bne_self_eq_false, *] | ((with_reducible refine rows_intro (fun _ hb => ?_)); try simp only [set_none, ne_eq] at hb) | ((with_reducible refine new_intro (fun _ hb => ?_)); try simp only [set_none, ne_eq] at hb) | (with_reducible refine draw_same ?_) | ((with_reducible refine gd_split ?_ (fun _ => ?_) (fun _ => ?_)); exact rfl) | ((with_reducible refine td_split ?_ (fun _ => ?_) (fun _ => ?_)); exact rfl) | (with_reducible refine c_split (fun _ => ?_) (fun _ => ?_)) | (with_reducible refine eqIntS_ok _ _ _ _ _ _ _ _ _ (hx.le l1) (hy.le l1) hn ?_))
  exact ⟨H, l1, h⟩
theorem eqBoxS_ok (A B : Option Addr) (ca cb : Nat) (ts : List (List Int × Int)) (hx : FP H A 1 0 ts) (hy : FP H B 1 0 ts) (hn : ts.length ≤ 1048576) (hL : ∀ x ∈ ts, x.1.length ≤ 1048576) (h : K (.bool true) H) :
    ACalls Try.prog w0 96 [.slice A ts.length ca, .slice B ts.length cb] H K := by
  refine acalls_of_sx mix Try.func96 of96 (by simp [ir96]) ?_; rw [ir96]; (try delta qT qI qC qO qM qG)
  repeat' (first | simp -implicitDefEqProofs only [zG1,zG2,zG3,zG4,zG5,zG6,zG7,eq_self,resV,rval,X.val,binv,fillL,setR,↓reduceIte,Nat.reduceEqDiff,Nat.reduceAdd,Nat.reduceMul,Nat.reduceLeDiff,Nat.reduceLT,Nat.reduceSub,reduceCtorEq,zGp, bne_self_eq_false] | ((with_reducible refine rows_intro (fun _ hb => ?_)); try simp only [set_none, ne_eq] at hb) | ((with_reducible refine new_intro (fun _ hb => ?_)); try simp only [set_none, ne_eq] at hb) | (with_reducible refine draw_same ?_) | ((with_reducible refine gd_split ?_ (fun _ => ?_) (fun _ => ?_)); exact rfl) | ((with_reducible refine td_split ?_ (fun _ => ?_) (fun _ => ?_)); exact rfl) | (with_reducible refine c_split (fun _ => ?_) (fun _ => ?_)))
  refine for_rule ts.length (fun k fr C => C = H ∧ fr 0 = .slice A ts.length ca ∧ fr 1 = .slice B ts.length cb ∧ fr 5 = .int .i64 k) ⟨rfl, (by first | rfl | (simp only [put_at, ↓reduceIte, Nat.reduceEqDiff]; first | done | rfl | assumption) | simp [put_at, *]), (by first | rfl | (simp only [put_at, ↓reduceIte, Nat.reduceEqDiff]; first | done | rfl | assumption) | simp [put_at, *]), (by first | rfl | (simp only [put_at, ↓reduceIte, Nat.reduceEqDiff]; first | done | rfl | assumption) | simp [put_at, *])⟩ ?_ ?_
  · rintro k fr C hk ⟨rfl, f0, f1, f5⟩ N hN
    have g0 := lt_dec hk
    have g1 := rng hk
    have g3 := up1 hk (by omega)
    obtain ⟨q1, A', c', q2, fl⟩ := hx.rd1 hk
    obtain ⟨q3, B', c'', q4, fl'⟩ := hy.rd1 hk
    have hb := hL _ (List.getElem_mem hk)
    repeat' (first | simp -implicitDefEqProofs only [zG1,zG2,zG3,zG4,zG5,zG6,zG7,eq_self,resV,rval,X.val,binv,fillL,setR,↓reduceIte,Nat.reduceEqDiff,Nat.reduceAdd,Nat.reduceMul,Nat.reduceLeDiff,Nat.reduceLT,Nat.reduceSub,reduceCtorEq,zGp, f0, f1, f5, g0, g1, g3, q1, q2, q3, q4] | ((with_reducible refine rows_intro (fun _ hb => ?_)); try simp only [set_none, ne_eq] at hb) | ((with_reducible refine new_intro (fun _ hb => ?_)); try simp only [set_none, ne_eq] at hb) | (with_reducible refine draw_same ?_) | ((with_reducible refine gd_split ?_ (fun _ => ?_) (fun _ => ?_)); exact rfl) | ((with_reducible refine td_split ?_ (fun _ => ?_) (fun _ => ?_)); exact rfl) | (with_reducible refine c_split (fun _ => ?_) (fun _ => ?_)) | (with_reducible refine eqBox_ok _ _ _ A' B' c' c'' ts[k].1 ts[k].2 fl fl' (by omega) ?_))
    exact hN _ _ _ (.refl _) ⟨rfl, (by first | rfl | (simp only [put_at, ↓reduceIte, Nat.reduceEqDiff]; first | done | rfl | assumption) | simp [put_at, *]), (by first | rfl | (simp only [put_at, ↓reduceIte, Nat.reduceEqDiff]; first | done | rfl | assumption) | simp [put_at, *]), (by first | rfl | (simp only [put_at, ↓reduceIte, Nat.reduceEqDiff]; first | done | rfl | assumption) | simp [put_at, *])⟩
  · rintro fr C ⟨rfl, f0, f1, f5⟩ N
    have g0 : decide ((ts.length : Int) < (ts.length : Int)) = false := by simp
    repeat' (first | simp -implicitDefEqProofs only [zG1,zG2,zG3,zG4,zG5,zG6,zG7,eq_self,resV,rval,X.val,binv,fillL,setR,↓reduceIte,Nat.reduceEqDiff,Nat.reduceAdd,Nat.reduceMul,Nat.reduceLeDiff,Nat.reduceLT,Nat.reduceSub,reduceCtorEq,zGp, f0, f1, f5, g0] | ((with_reducible refine rows_intro (fun _ hb => ?_)); try simp only [set_none, ne_eq] at hb) | ((with_reducible refine new_intro (fun _ hb => ?_)); try simp only [set_none, ne_eq] at hb) | (with_reducible refine draw_same ?_) | ((with_reducible refine gd_split ?_ (fun _ => ?_) (fun _ => ?_)); exact rfl) | ((with_reducible refine td_split ?_ (fun _ => ?_) (fun _ => ?_)); exact rfl) | (with_reducible refine c_split (fun _ => ?_) (fun _ => ?_)))
    exact ret_same h
theorem eqQuadSS_ok (A B : Option Addr) (ca cb : Nat) (L : List (List Qd)) (hx : FR H A L) (hy : FR H B L) (hn : L.length ≤ 1048576) (hL : ∀ x ∈ L, x.length ≤ 1048576) (h : K (.bool true) H) :
    ACalls Try.prog w0 27 [.slice A L.length ca, .slice B L.length cb] H K := by
  refine acalls_of_sx mix Try.func27 of27 (by simp [ir27]) ?_; rw [ir27]; (try delta qT qI qC qO qM qG)
  repeat' (first | simp -implicitDefEqProofs only [zG1,zG2,zG3,zG4,zG5,zG6,zG7,eq_self,resV,rval,X.val,binv,fillL,setR,↓reduceIte,Nat.reduceEqDiff,Nat.reduceAdd,Nat.reduceMul,Nat.reduceLeDiff,Nat.reduceLT,Nat.reduceSub,reduceCtorEq,zGp, bne_self_eq_false] | ((with_reducible refine rows_intro (fun _ hb => ?_)); try simp only [set_none, ne_eq] at hb) | ((with_reducible refine new_intro (fun _ hb => ?_)); try simp only [set_none, ne_eq] at hb) | (with_reducible refine draw_same ?_) | ((with_reducible refine gd_split ?_ (fun _ => ?_) (fun _ => ?_)); exact rfl) | ((with_reducible refine td_split ?_ (fun _ => ?_) (fun _ => ?_)); exact rfl) | (with_reducible refine c_split (fun _ => ?_) (fun _ => ?_)))
  refine for_rule L.length (fun k fr C => C = H ∧ fr 0 = .slice A L.length ca ∧ fr 1 = .slice B L.length cb ∧ fr 5 = .int .i64 k) ⟨rfl, (by first | rfl | (simp only [put_at, ↓reduceIte, Nat.reduceEqDiff]; first | done | rfl | assumption) | simp [put_at, *]), (by first | rfl | (simp only [put_at, ↓reduceIte, Nat.reduceEqDiff]; first | done | rfl | assumption) | simp [put_at, *]), (by first | rfl | (simp only [put_at, ↓reduceIte, Nat.reduceEqDiff]; first | done | rfl | assumption) | simp [put_at, *])⟩ ?_ ?_
  · rintro k fr C hk ⟨rfl, f0, f1, f5⟩ N hN
    have g0 := lt_dec hk
    have g1 := rng hk
    have g3 := up1 hk (by omega)
    obtain ⟨q1, A', c', q2, fl⟩ := hx k hk
    obtain ⟨q3, B', c'', q4, fl'⟩ := hy k hk
    have hb := hL _ (List.getElem_mem hk)
    repeat' (first | simp -implicitDefEqProofs only [zG1,zG2,zG3,zG4,zG5,zG6,zG7,eq_self,resV,rval,X.val,binv,fillL,setR,↓reduceIte,Nat.reduceEqDiff,Nat.reduceAdd,Nat.reduceMul,Nat.reduceLeDiff,Nat.reduceLT,Nat.reduceSub,reduceCtorEq,zGp, f0, f1, f5, g0, g1, g3, q1, q2, q3, q4, Nat.mul_one, decide_true] | ((with_reducible refine rows_intro (fun _ hb => ?_)); try simp only [set_none, ne_eq] at hb) | ((with_reducible refine new_intro (fun _ hb => ?_)); try simp only [set_none, ne_eq] at hb) | (with_reducible refine draw_same ?_) | ((with_reducible refine gd_split ?_ (fun _ => ?_) (fun _ => ?_)); exact rfl) | ((with_reducible refine td_split ?_ (fun _ => ?_) (fun _ => ?_)); exact rfl) | (with_reducible refine c_split (fun _ => ?_) (fun _ => ?_)) | (with_reducible refine eqQuadS_ok _ _ _ A' B' c' c'' L[k] L[k] fl fl' (by omega) ?_))
    exact hN _ _ _ (.refl _) ⟨rfl, (by first | rfl | (simp only [put_at, ↓reduceIte, Nat.reduceEqDiff]; first | done | rfl | assumption) | simp [put_at, *]), (by first | rfl | (simp only [put_at, ↓reduceIte, Nat.reduceEqDiff]; first | done | rfl | assumption) | simp [put_at, *]), (by first | rfl | (simp only [put_at, ↓reduceIte, Nat.reduceEqDiff]; first | done | rfl | assumption) | simp [put_at, *])⟩
  · rintro fr C ⟨rfl, f0, f1, f5⟩ N
    have g0 : decide ((L.length : Int) < (L.length : Int)) = false := by simp
    repeat' (first | simp -implicitDefEqProofs only [zG1,zG2,zG3,zG4,zG5,zG6,zG7,eq_self,resV,rval,X.val,binv,fillL,setR,↓reduceIte,Nat.reduceEqDiff,Nat.reduceAdd,Nat.reduceMul,Nat.reduceLeDiff,Nat.reduceLT,Nat.reduceSub,reduceCtorEq,zGp, f0, f1, f5, g0] | ((with_reducible refine rows_intro (fun _ hb => ?_)); try simp only [set_none, ne_eq] at hb) | ((with_reducible refine new_intro (fun _ hb => ?_)); try simp only [set_none, ne_eq] at hb) | (with_reducible refine draw_same ?_) | ((with_reducible refine gd_split ?_ (fun _ => ?_) (fun _ => ?_)); exact rfl) | ((with_reducible refine td_split ?_ (fun _ => ?_) (fun _ => ?_)); exact rfl) | (with_reducible refine c_split (fun _ => ?_) (fun _ => ?_)))
    exact ret_same h
end Go.Proofs.Ytfjhjfddgdokgaa
