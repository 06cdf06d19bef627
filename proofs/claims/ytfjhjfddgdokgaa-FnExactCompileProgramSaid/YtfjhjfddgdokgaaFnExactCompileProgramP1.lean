/- The statement FnExactCompileProgram holds for all arguments; part 1 of the texts that show it. No further condition. -/
import Derived.Test.YtfjhjfddgdokgaaFnExactCompileProgramP0
import Derived.Test.YtfjhjfddgdokgaaProg
import Derived.KernelRfl
import Derived.Test.YtfjhjfddgdokgaaChecked
import Derived.Test.YtfjhjfddgdokgaaRows
import Derived.WalkKit
import Derived.ProofKit
import Derived.OpenShut
import Derived.ShutString
import Derived.ChangeOld
import Derived.Below
import Derived.SizedLaws
import Derived.Lib.SmallJoins
import Derived.Deep.Slices
import Derived.Deep.Fields
import Derived.ChangeSame
import Derived.Laws.BitsAllLaws
namespace Go.Proofs.Ytfjhjfddgdokgaa
open Go Go.RowKit
set_option maxRecDepth 100000
def ir175 : XF := ⟨23, [(.tmp 2)], (.seq (.ops [(qO 2 (.mov (.const (.slice none 0 0))))]) (.seq (.ops [(qM 5 0), (qO 6 (.len (qT 5))), (qO 7 (.mks [(.int .i64 0), (.int .i64 0), (.slice none 0 0)] 103 40 (qT 6) (qT 6))), (qM 3 7)]) (.seq (.seq (.ops [(qO 4 (.mov (qI 0)))]) (.block 0 (.loop (.seq (.seq (.ops [(qM 8 4), (qM 9 0), (qO 10 (.len (qT 9))), (qO 11 (.bin .lss (qT 8) (qT 10)))]) (.cond (qT 11) .skip (.exit 0))) (.seq (.block 1 (.ops [(qM 14 3), (qM 15 4), (qM 16 0), (qM 17 4), (qO 18 (.idx 3 (qT 16) (qT 17))), (qO 19 (.ldn 3 (qT 18))), (qO 20 (qC 133 [(qT 19)])), (qO 21 (.idx 3 (qT 14) (qT 15))), ⟨none, (.st 3 (qT 21) (qT 20)), none⟩])) (.ops [(qM 12 4), (qO 13 (.bin .add (qT 12) (qI 1))), (qM 4 13)])))))) (.seq (.ops [(qM 22 3), (qM 2 22)]) .ret))))⟩
theorem of175 : XF.of Try.prog Try.f175 = some ir175 := by kernel_rfl
def ir176 : XF := ⟨77, [(.tmp 8)], (.seq (.ops [(qO 8 (.mov (.const (.bool false))))]) (.seq (.ops [(qM 11 3), (qO 12 (.nilc (qT 11))), (qO 13 (.ld (qT 12))), (qM 14 0), (qO 15 (.len (qT 14))), (qO 16 (.bin .add (qT 13) (qT 15))), (qO 17 (.nilc (qT 11))), ⟨none, (.st 1 (qT 17) (qT 16)), none⟩]) (.seq (.seq (.ops [(qM 18 3), (qO 19 (.nilc (qT 18))), (qO 20 (.ld (qT 19))), (qO 21 (.bin .gtr (qT 20) (qI 16)))]) (.cond (qT 21) (.seq (.ops [(qO 8 (.mov (.const (.bool false))))]) .ret) .skip)) (.seq (.seq (.ops [(qM 22 0), (qO 23 (.len (qT 22))), (qO 24 (.mov (qI 0)))]) (.block 0 (.loop (.seq (.ops [(qO 25 (.bin .lss (qT 24) (qT 23)))]) (.seq (.cond (qT 25) .skip (.exit 0)) (.seq (.block 1 (.seq (.ops [(qM 26 24), (qM 9 26)]) (.seq (.ops [(qM 27 0), (qM 28 9), (qO 29 (.idx 8 (qT 27) (qT 28))), (qM 10 29)]) (.seq (.seq (.ops [(qM 30 10), (qM 31 1), (qO 32 (qC 198 [(qT 30), (qT 31)])), (qO 33 (.not (qT 32))), (qM 34 33), (qG 35 (.mov (qT 2)) 34 false), (qG 36 (.bin .gtr (qT 35) (qI 3)) 34 false), (qO 37 (.pick (qT 34) (.const (.bool true)) (qT 36)))]) (.cond (qT 37) (.seq (.ops [(qO 8 (.mov (.const (.bool false))))]) .ret) .skip)) (.seq (.seq (.ops [(qM 38 10), (qO 39 (.nilc (qT 38))), (qO 40 (.fld 0 (qT 39))), (qO 41 (.ld (qT 40))), (qO 42 (.bin .neq (qT 41) (qI 2))), (qM 43 42), (qG 44 (.mov (qT 10)) 43 true), (qG 45 (.nilc (qT 44)) 43 true), (qG 46 (.fld 0 (qT 45)) 43 true), (qG 47 (.ld (qT 46)) 43 true), (qG 48 (.bin .neq (qT 47) (qI 3)) 43 true), (qO 49 (.pick (qT 43) (qT 48) (.const (.bool false))))]) (.cond (qT 49) (.exit 1) .skip)) (.seq (.ops [(qM 50 2), (qO 51 (.bin .geq (qT 50) (qI 3))), (qM 52 51), (qG 53 (.mov (qT 10)) 52 false), (qG 54 (.nilc (qT 53)) 52 false), (qG 55 (.fld 6 (qT 54)) 52 false), (qG 56 (.ld (qT 55)) 52 false), (qG 57 (.mov (qT 1)) 52 false), (qG 58 (.mov (qT 2)) 52 false), (qG 59 (.bin .add (qT 58) (qI 1)) 52 false), (qG 60 (.mov (qT 3)) 52 false), (qG 61 (qC 176 [(qT 56), (qT 57), (qT 59), (qT 60)]) 52 false), (qG 62 (.not (qT 61)) 52 false), (qO 63 (.pick (qT 52) (.const (.bool true)) (qT 62))), (qM 64 63), (qG 65 (.mov (qT 10)) 64 false), (qG 66 (.nilc (qT 65)) 64 false), (qG 67 (.fld 7 (qT 66)) 64 false), (qG 68 (.ld (qT 67)) 64 false), (qG 69 (.mov (qT 1)) 64 false), (qG 70 (.mov (qT 2)) 64 false), (qG 71 (.bin .add (qT 70) (qI 1)) 64 false), (qG 72 (.mov (qT 3)) 64 false), (qG 73 (qC 176 [(qT 68), (qT 69), (qT 71), (qT 72)]) 64 false), (qG 74 (.not (qT 73)) 64 false), (qO 75 (.pick (qT 64) (.const (.bool true)) (qT 74)))]) (.cond (qT 75) (.seq (.ops [(qO 8 (.mov (.const (.bool false))))]) .ret) .skip))))))) (.ops [(qO 76 (.bin .add (qT 24) (qI 1))), (qM 24 76)]))))))) (.seq (.ops [(qO 8 (.mov (.const (.bool true))))]) .ret)))))⟩
theorem of176 : XF.of Try.prog Try.f176 = some ir176 := by kernel_rfl
def ir177 : XF := ⟨110, [(.tmp 4)], (.seq (.ops [(qO 2 (.box 105 (qT 0))), (qO 4 (.mov (.const (.slice none 0 0))))]) (.seq (.ops [(qM 8 1), (qO 9 (.len (qT 8))), (qM 5 9)]) (.seq (.seq (.ops [(qO 10 (.fld 0 (qT 2))), (qO 11 (.ld (qT 10))), (qO 12 (.bin .neq (qT 11) (qI 5))), (qM 13 12), (qG 14 (.fld 0 (qT 2)) 13 true), (qG 15 (.ld (qT 14)) 13 true), (qG 16 (.bin .neq (qT 15) (qI 6)) 13 true), (qO 17 (.pick (qT 13) (qT 16) (.const (.bool false))))]) (.cond (qT 17) (.ops [(qO 18 (.fld 3 (qT 2))), (qO 19 (.ldn 3 (qT 18))), (qM 20 1), (qO 21 (qC 199 [(qT 19), (qI 4), (qT 20)])), (qM 1 21)]) .skip)) (.seq (.seq (.ops [(qO 22 (.fld 0 (qT 2))), (qO 23 (.ld (qT 22)))]) (.block 0 (.seq (.ops [(qO 25 (.bin .eql (qT 23) (qI 1))), (qM 24 25)]) (.cond (qT 24) (.seq (.ops [(qM 26 1), (qO 27 (.fld 1 (qT 2))), (qO 28 (.ld (qT 27))), (qO 29 (.agg [(.int .i64 0), (.int .i64 0), (.int .i64 0), (.int .i64 0), (.int .i64 0)] [(0, (1, (qI 2))), (1, (1, (qT 28))), (2, (1, (qI 4)))])), (qO 30 (.lit [(.int .i64 0), (.int .i64 0), (.int .i64 0), (.int .i64 0), (.int .i64 0)] 111 1 [(0, (5, (qT 29)))])), (qO 31 (.app [(.int .i64 0), (.int .i64 0), (.int .i64 0), (.int .i64 0), (.int .i64 0)] 111 40 (qT 26) (qT 30))), (qM 4 31)]) .ret) (.seq (.ops [(qO 33 (.bin .eql (qT 23) (qI 4))), (qM 32 33)]) (.cond (qT 32) (.seq (.ops [(qM 34 1), (qO 35 (.fld 2 (qT 2))), (qO 36 (.ld (qT 35))), (qO 37 (.agg [(.int .i64 0), (.int .i64 0), (.int .i64 0), (.int .i64 0), (.int .i64 0)] [(0, (1, (qI 6))), (2, (1, (qI 4))), (4, (1, (qT 36)))])), (qO 38 (.lit [(.int .i64 0), (.int .i64 0), (.int .i64 0), (.int .i64 0), (.int .i64 0)] 111 1 [(0, (5, (qT 37)))])), (qO 39 (.app [(.int .i64 0), (.int .i64 0), (.int .i64 0), (.int .i64 0), (.int .i64 0)] 111 40 (qT 34) (qT 38))), (qM 4 39)]) .ret) (.seq (.ops [(qO 41 (.bin .eql (qT 23) (qI 5))), (qM 40 41)]) (.cond (qT 40) (.seq (.ops [(qM 42 1), (qO 43 (.fld 1 (qT 2))), (qO 44 (.ld (qT 43))), (qO 45 (.fld 2 (qT 2))), (qO 46 (.ld (qT 45))), (qO 47 (.agg [(.int .i64 0), (.int .i64 0), (.int .i64 0), (.int .i64 0), (.int .i64 0)] [(0, (1, (qI 7))), (1, (1, (qT 44))), (4, (1, (qT 46)))])), (qO 48 (.lit [(.int .i64 0), (.int .i64 0), (.int .i64 0), (.int .i64 0), (.int .i64 0)] 111 1 [(0, (5, (qT 47)))])), (qO 49 (.app [(.int .i64 0), (.int .i64 0), (.int .i64 0), (.int .i64 0), (.int .i64 0)] 111 40 (qT 42) (qT 48))), (qM 4 49)]) .ret) (.seq (.ops [(qO 51 (.bin .eql (qT 23) (qI 6))), (qM 50 51)]) (.cond (qT 50) (.seq (.ops [(qM 52 1), (qO 53 (.agg [(.int .i64 0), (.int .i64 0), (.int .i64 0), (.int .i64 0), (.int .i64 0)] [(0, (1, (qI 8)))])), (qO 54 (.lit [(.int .i64 0), (.int .i64 0), (.int .i64 0), (.int .i64 0), (.int .i64 0)] 111 1 [(0, (5, (qT 53)))])), (qO 55 (.app [(.int .i64 0), (.int .i64 0), (.int .i64 0), (.int .i64 0), (.int .i64 0)] 111 40 (qT 52) (qT 54))), (qM 4 55)]) .ret) (.seq (.ops [(qO 57 (.bin .eql (qT 23) (qI 7))), (qM 56 57)]) (.cond (qT 56) (.seq (.ops [(qM 58 1), (qO 59 (.agg [(.int .i64 0), (.int .i64 0), (.int .i64 0), (.int .i64 0), (.int .i64 0)] [(0, (1, (qI 9))), (2, (1, (qI 4)))])), (qO 60 (.lit [(.int .i64 0), (.int .i64 0), (.int .i64 0), (.int .i64 0), (.int .i64 0)] 111 1 [(0, (5, (qT 59)))])), (qO 61 (.app [(.int .i64 0), (.int .i64 0), (.int .i64 0), (.int .i64 0), (.int .i64 0)] 111 40 (qT 58) (qT 60))), (qM 4 61)]) .ret) .skip)))))))))))) (.seq (.ops [(qM 62 1), (qO 63 (.len (qT 62))), (qM 6 63)]) (.seq (.draw (.take (qO 64 (.fld 6 (qT 2))) (.take (qO 65 (.ld (qT 64))) (.take (qM 66 1) (.take (qO 67 (.agg [(.int .i64 0), (.int .i64 0), (.int .i64 0), (.int .i64 0), (.int .i64 0)] [(0, (1, (qI 5))), (2, (1, (qI 4)))])) (.alt (qO 68 (.lit [(.int .i64 0), (.int .i64 0), (.int .i64 0), (.int .i64 0), (.int .i64 0)] 111 1 [(0, (5, (qT 67)))])) (.alt (qO 69 (.app [(.int .i64 0), (.int .i64 0), (.int .i64 0), (.int .i64 0), (.int .i64 0)] 111 40 (qT 66) (qT 68))) (.alt (qO 70 (qC 135 [(qT 65), (qT 69)])) (.take (qM 1 70) .done) .none_) .none_) .none_)))))) (.seq (.seq (.ops [(qO 71 (.fld 0 (qT 2))), (qO 72 (.ld (qT 71))), (qO 73 (.bin .eql (qT 72) (qI 3)))]) (.cond (qT 73) (.ops [(qM 74 1), (qM 75 5), (qO 76 (.agg [(.int .i64 0), (.int .i64 0), (.int .i64 0), (.int .i64 0), (.int .i64 0)] [(0, (1, (qI 4))), (4, (1, (qT 75)))])), (qO 77 (.lit [(.int .i64 0), (.int .i64 0), (.int .i64 0), (.int .i64 0), (.int .i64 0)] 111 1 [(0, (5, (qT 76)))])), (qO 78 (.app [(.int .i64 0), (.int .i64 0), (.int .i64 0), (.int .i64 0), (.int .i64 0)] 111 40 (qT 74) (qT 77))), (qM 1 78)]) .skip)) (.seq (.ops [(qM 79 1), (qO 80 (.len (qT 79))), (qM 7 80)]) (.seq (.seq (.ops [(qO 81 (.fld 7 (qT 2))), (qO 82 (.ld (qT 81))), (qO 83 (.len (qT 82))), (qO 84 (.bin .gtr (qT 83) (qI 0)))]) (.cond (qT 84) (.ops [(qM 85 1), (qO 86 (.agg [(.int .i64 0), (.int .i64 0), (.int .i64 0), (.int .i64 0), (.int .i64 0)] [(0, (1, (qI 4)))])), (qO 87 (.lit [(.int .i64 0), (.int .i64 0), (.int .i64 0), (.int .i64 0), (.int .i64 0)] 111 1 [(0, (5, (qT 86)))])), (qO 88 (.app [(.int .i64 0), (.int .i64 0), (.int .i64 0), (.int .i64 0), (.int .i64 0)] 111 40 (qT 85) (qT 87))), (qM 1 88)]) .skip)) (.seq (.ops [(qM 89 1), (qM 90 6), (qM 91 1), (qO 92 (.len (qT 91))), (qO 93 (.idx 5 (qT 89) (qT 90))), (qO 94 (.fld 4 (qT 93))), ⟨none, (.st 1 (qT 94) (qT 92)), none⟩]) (.seq (.seq (.ops [(qO 95 (.fld 7 (qT 2))), (qO 96 (.ld (qT 95))), (qO 97 (.len (qT 96))), (qO 98 (.bin .gtr (qT 97) (qI 0)))]) (.cond (qT 98) (.seq (.ops [(qO 99 (.fld 7 (qT 2))), (qO 100 (.ld (qT 99))), (qM 101 1), (qO 102 (qC 135 [(qT 100), (qT 101)])), (qM 1 102)]) (.ops [(qM 103 1), (qM 104 7), (qM 105 1), (qO 106 (.len (qT 105))), (qO 107 (.idx 5 (qT 103) (qT 104))), (qO 108 (.fld 4 (qT 107))), ⟨none, (.st 1 (qT 108) (qT 106)), none⟩])) .skip)) (.seq (.ops [(qM 109 1), (qM 4 109)]) .ret))))))))))))⟩
theorem of177 : XF.of Try.prog Try.f177 = some ir177 := by kernel_rfl
def ir178 : XF := ⟨27, [(.tmp 4)], (.seq (.ops [(qO 4 (.mov (.const (.bool false))))]) (.seq (.seq (.ops [(qM 6 0), (qO 7 (.len (qT 6))), (qM 8 1), (qO 9 (.len (qT 8))), (qO 10 (.bin .neq (qT 7) (qT 9)))]) (.cond (qT 10) (.seq (.ops [(qO 4 (.mov (.const (.bool false))))]) .ret) .skip)) (.seq (.seq (.ops [(qO 5 (.mov (qI 0)))]) (.block 0 (.loop (.seq (.seq (.ops [(qM 11 5), (qM 12 0), (qO 13 (.len (qT 12))), (qO 14 (.bin .lss (qT 11) (qT 13)))]) (.cond (qT 14) .skip (.exit 0))) (.seq (.block 1 (.seq (.draw (.take (qM 17 0) (.take (qM 18 5) (.take (qO 19 (.idx 3 (qT 17) (qT 18))) (.take (qO 20 (.ldn 3 (qT 19))) (.take (qM 21 1) (.take (qM 22 5) (.take (qO 23 (.idx 3 (qT 21) (qT 22))) (.take (qO 24 (.ldn 3 (qT 23))) (.alt (qO 25 (qC 136 [(qT 20), (qT 24)])) (.take (qO 26 (.not (qT 25))) .done) .none_)))))))))) (.cond (qT 26) (.seq (.ops [(qO 4 (.mov (.const (.bool false))))]) .ret) .skip))) (.ops [(qM 15 5), (qO 16 (.bin .add (qT 15) (qI 1))), (qM 5 16)])))))) (.seq (.ops [(qO 4 (.mov (.const (.bool true))))]) .ret))))⟩
theorem of178 : XF.of Try.prog Try.f178 = some ir178 := by kernel_rfl
def ir179 : XF := ⟨46, [(.tmp 4)], (.seq (.ops [(qO 2 (.box 103 (qT 0))), (qO 4 (.mov (.const (.slice none 0 0))))]) (.seq (.seq (.ops [(qO 6 (.fld 0 (qT 2))), (qO 7 (.ld (qT 6))), (qO 8 (.bin .eql (qT 7) (qI 0)))]) (.cond (qT 8) (.seq (.ops [(qM 9 1), (qO 10 (.fld 1 (qT 2))), (qO 11 (.ld (qT 10))), (qO 12 (.agg [(.int .i64 0), (.int .i64 0), (.int .i64 0), (.int .i64 0), (.int .i64 0)] [(0, (1, (qI 1))), (1, (1, (qT 9))), (4, (1, (qT 11)))])), (qO 13 (.lit [(.int .i64 0), (.int .i64 0), (.int .i64 0), (.int .i64 0), (.int .i64 0)] 111 1 [(0, (5, (qT 12)))])), (qM 4 13)]) .ret) .skip)) (.seq (.seq (.ops [(qO 14 (.fld 0 (qT 2))), (qO 15 (.ld (qT 14))), (qO 16 (.bin .eql (qT 15) (qI 13)))]) (.cond (qT 16) (.seq (.ops [(qM 17 1), (qO 18 (.fld 1 (qT 2))), (qO 19 (.ld (qT 18))), (qO 20 (.agg [(.int .i64 0), (.int .i64 0), (.int .i64 0), (.int .i64 0), (.int .i64 0)] [(0, (1, (qI 2))), (1, (1, (qT 17))), (2, (1, (qT 19)))])), (qO 21 (.lit [(.int .i64 0), (.int .i64 0), (.int .i64 0), (.int .i64 0), (.int .i64 0)] 111 1 [(0, (5, (qT 20)))])), (qM 4 21)]) .ret) .skip)) (.seq (.draw (.take (qO 22 (.fld 2 (qT 2))) (.take (qO 23 (.ld (qT 22))) (.take (qO 24 (.idx 3 (qT 23) (qI 0))) (.take (qO 25 (.ldn 3 (qT 24))) (.take (qM 26 1) (.take (qO 28 (.fld 2 (qT 2))) (.take (qO 29 (.ld (qT 28))) (.take (qO 30 (.idx 3 (qT 29) (qI 1))) (.take (qO 31 (.ldn 3 (qT 30))) (.take (qM 32 1) (.take (qO 33 (.bin .add (qT 32) (qI 1))) (.alt (qO 27 (qC 179 [(qT 25), (qT 26)])) (.alt (qO 34 (qC 179 [(qT 31), (qT 33)])) (.alt (qO 35 (.app [(.int .i64 0), (.int .i64 0), (.int .i64 0), (.int .i64 0), (.int .i64 0)] 111 40 (qT 27) (qT 34))) (.take (qM 5 35) .done) .none_) .none_) .none_))))))))))))) (.seq (.ops [(qM 36 5), (qM 37 1), (qM 38 1), (qM 39 1), (qO 40 (.bin .add (qT 39) (qI 1))), (qO 41 (.fld 0 (qT 2))), (qO 42 (.ld (qT 41))), (qO 43 (.agg [(.int .i64 0), (.int .i64 0), (.int .i64 0), (.int .i64 0), (.int .i64 0)] [(0, (1, (qI 3))), (1, (1, (qT 37))), (2, (1, (qT 38))), (3, (1, (qT 40))), (4, (1, (qT 42)))])), (qO 44 (.lit [(.int .i64 0), (.int .i64 0), (.int .i64 0), (.int .i64 0), (.int .i64 0)] 111 1 [(0, (5, (qT 43)))])), (qO 45 (.app [(.int .i64 0), (.int .i64 0), (.int .i64 0), (.int .i64 0), (.int .i64 0)] 111 40 (qT 36) (qT 44))), (qM 4 45)]) .ret)))))⟩
theorem of179 : XF.of Try.prog Try.f179 = some ir179 := by kernel_rfl
def ir180 : XF := ⟨66, [(.tmp 4)], (.seq (.ops [(qO 2 (.box 105 (qT 0))), (qO 4 (.mov (.const (.slice none 0 0))))]) (.seq (.ops [(qO 9 (.fld 3 (qT 2))), (qO 10 (.ldn 3 (qT 9))), (qO 11 (qC 179 [(qT 10), (qI 4)])), (qM 5 11)]) (.seq (.ops [(qO 12 (.fld 6 (qT 2))), (qO 13 (.ld (qT 12))), (qM 14 1), (qM 15 5), (qO 16 (.len (qT 15))), (qO 17 (.bin .add (qT 14) (qT 16))), (qO 18 (.bin .add (qT 17) (qI 1))), (qO 19 (qC 72 [(qT 13), (qT 18)])), (qM 6 19)]) (.seq (.ops [(qM 20 1), (qM 21 5), (qO 22 (.len (qT 21))), (qO 23 (.bin .add (qT 20) (qT 22))), (qO 24 (.bin .add (qT 23) (qI 1))), (qM 25 6), (qO 26 (.len (qT 25))), (qO 27 (.bin .add (qT 24) (qT 26))), (qM 7 27)]) (.seq (.seq (.ops [(qO 28 (.fld 7 (qT 2))), (qO 29 (.ld (qT 28))), (qO 30 (.len (qT 29))), (qO 31 (.bin .eql (qT 30) (qI 0)))]) (.cond (qT 31) (.seq (.ops [(qM 32 5), (qM 33 7), (qO 34 (.agg [(.int .i64 0), (.int .i64 0), (.int .i64 0), (.int .i64 0), (.int .i64 0)] [(0, (1, (qI 5))), (2, (1, (qI 4))), (4, (1, (qT 33)))])), (qO 35 (.lit [(.int .i64 0), (.int .i64 0), (.int .i64 0), (.int .i64 0), (.int .i64 0)] 111 1 [(0, (5, (qT 34)))])), (qO 36 (.app [(.int .i64 0), (.int .i64 0), (.int .i64 0), (.int .i64 0), (.int .i64 0)] 111 40 (qT 32) (qT 35))), (qM 5 36)]) (.seq (.ops [(qM 37 5), (qM 38 6), (qO 39 (.app [(.int .i64 0), (.int .i64 0), (.int .i64 0), (.int .i64 0), (.int .i64 0)] 111 40 (qT 37) (qT 38))), (qM 4 39)]) .ret)) .skip)) (.seq (.ops [(qO 40 (.fld 7 (qT 2))), (qO 41 (.ld (qT 40))), (qM 42 7), (qO 43 (.bin .add (qT 42) (qI 1))), (qO 44 (qC 72 [(qT 41), (qT 43)])), (qM 8 44)]) (.seq (.ops [(qM 45 5), (qM 46 7), (qO 47 (.bin .add (qT 46) (qI 1))), (qO 48 (.agg [(.int .i64 0), (.int .i64 0), (.int .i64 0), (.int .i64 0), (.int .i64 0)] [(0, (1, (qI 5))), (2, (1, (qI 4))), (4, (1, (qT 47)))])), (qO 49 (.lit [(.int .i64 0), (.int .i64 0), (.int .i64 0), (.int .i64 0), (.int .i64 0)] 111 1 [(0, (5, (qT 48)))])), (qO 50 (.app [(.int .i64 0), (.int .i64 0), (.int .i64 0), (.int .i64 0), (.int .i64 0)] 111 40 (qT 45) (qT 49))), (qM 5 50)]) (.seq (.ops [(qM 51 5), (qM 52 6), (qO 53 (.app [(.int .i64 0), (.int .i64 0), (.int .i64 0), (.int .i64 0), (.int .i64 0)] 111 40 (qT 51) (qT 52))), (qM 5 53)]) (.seq (.ops [(qM 54 5), (qM 55 7), (qO 56 (.bin .add (qT 55) (qI 1))), (qM 57 8), (qO 58 (.len (qT 57))), (qO 59 (.bin .add (qT 56) (qT 58))), (qO 60 (.agg [(.int .i64 0), (.int .i64 0), (.int .i64 0), (.int .i64 0), (.int .i64 0)] [(0, (1, (qI 4))), (4, (1, (qT 59)))])), (qO 61 (.lit [(.int .i64 0), (.int .i64 0), (.int .i64 0), (.int .i64 0), (.int .i64 0)] 111 1 [(0, (5, (qT 60)))])), (qO 62 (.app [(.int .i64 0), (.int .i64 0), (.int .i64 0), (.int .i64 0), (.int .i64 0)] 111 40 (qT 54) (qT 61))), (qM 5 62)]) (.seq (.ops [(qM 63 5), (qM 64 8), (qO 65 (.app [(.int .i64 0), (.int .i64 0), (.int .i64 0), (.int .i64 0), (.int .i64 0)] 111 40 (qT 63) (qT 64))), (qM 4 65)]) .ret))))))))))⟩
theorem of180 : XF.of Try.prog Try.f180 = some ir180 := by kernel_rfl
def ir181 : XF := ⟨39, [(.tmp 4)], (.seq (.ops [(qO 2 (.box 105 (qT 0))), (qO 4 (.mov (.const (.slice none 0 0))))]) (.seq (.ops [(qO 7 (.fld 3 (qT 2))), (qO 8 (.ldn 3 (qT 7))), (qO 9 (qC 179 [(qT 8), (qI 4)])), (qM 5 9)]) (.seq (.ops [(qO 10 (.fld 6 (qT 2))), (qO 11 (.ld (qT 10))), (qM 12 1), (qM 13 5), (qO 14 (.len (qT 13))), (qO 15 (.bin .add (qT 12) (qT 14))), (qO 16 (.bin .add (qT 15) (qI 1))), (qO 17 (qC 72 [(qT 11), (qT 16)])), (qM 6 17)]) (.seq (.ops [(qM 18 5), (qM 19 1), (qM 20 5), (qO 21 (.len (qT 20))), (qO 22 (.bin .add (qT 19) (qT 21))), (qO 23 (.bin .add (qT 22) (qI 1))), (qM 24 6), (qO 25 (.len (qT 24))), (qO 26 (.bin .add (qT 23) (qT 25))), (qO 27 (.bin .add (qT 26) (qI 1))), (qO 28 (.agg [(.int .i64 0), (.int .i64 0), (.int .i64 0), (.int .i64 0), (.int .i64 0)] [(0, (1, (qI 5))), (2, (1, (qI 4))), (4, (1, (qT 27)))])), (qO 29 (.lit [(.int .i64 0), (.int .i64 0), (.int .i64 0), (.int .i64 0), (.int .i64 0)] 111 1 [(0, (5, (qT 28)))])), (qO 30 (.app [(.int .i64 0), (.int .i64 0), (.int .i64 0), (.int .i64 0), (.int .i64 0)] 111 40 (qT 18) (qT 29))), (qM 5 30)]) (.seq (.ops [(qM 31 5), (qM 32 6), (qO 33 (.app [(.int .i64 0), (.int .i64 0), (.int .i64 0), (.int .i64 0), (.int .i64 0)] 111 40 (qT 31) (qT 32))), (qM 5 33)]) (.seq (.ops [(qM 34 5), (qM 35 1), (qO 36 (.agg [(.int .i64 0), (.int .i64 0), (.int .i64 0), (.int .i64 0), (.int .i64 0)] [(0, (1, (qI 4))), (4, (1, (qT 35)))])), (qO 37 (.lit [(.int .i64 0), (.int .i64 0), (.int .i64 0), (.int .i64 0), (.int .i64 0)] 111 1 [(0, (5, (qT 36)))])), (qO 38 (.app [(.int .i64 0), (.int .i64 0), (.int .i64 0), (.int .i64 0), (.int .i64 0)] 111 40 (qT 34) (qT 37))), (qM 4 38)]) .ret))))))⟩
theorem of181 : XF.of Try.prog Try.f181 = some ir181 := by kernel_rfl
def ir184 : XF := ⟨5, [(.tmp 2)], (.seq (.ops [(qO 2 (.mov (.const (.bool false))))]) (.seq (.ops [(qM 3 0), (qO 4 (qC 84 [(qT 3), (qI 1), (qI 12)])), (qM 2 4)]) .ret))⟩
theorem of184 : XF.of Try.prog Try.f184 = some ir184 := by kernel_rfl
def ir188 : XF := ⟨9, [(.tmp 2)], (.seq (.ops [(qO 2 (.mov (.const (.bool false))))]) (.seq (.ops [(qM 3 0), (qO 4 (.bin .geq (qT 3) (qI 1))), (qM 5 4), (qG 6 (.mov (qT 0)) 5 true), (qG 7 (.bin .leq (qT 6) (qI 12)) 5 true), (qO 8 (.pick (qT 5) (qT 7) (.const (.bool false)))), (qM 2 8)]) .ret))⟩
theorem of188 : XF.of Try.prog Try.f188 = some ir188 := by kernel_rfl
def ir194 : XF := ⟨80, [(.tmp 2)], (.seq (.ops [(qO 1 (.box 105 (qT 0))), (qO 2 (.mov (.const (.bool false))))]) (.seq (.seq (.ops [(qO 3 (.fld 6 (qT 1))), (qO 4 (.ld (qT 3))), (qO 5 (.len (qT 4))), (qO 6 (.bin .gtr (qT 5) (qI 0))), (qM 7 6), (qG 8 (.fld 7 (qT 1)) 7 false), (qG 9 (.ld (qT 8)) 7 false), (qG 10 (.len (qT 9)) 7 false), (qG 11 (.bin .gtr (qT 10) (qI 0)) 7 false), (qO 12 (.pick (qT 7) (.const (.bool true)) (qT 11)))]) (.cond (qT 12) (.seq (.ops [(qO 2 (.mov (.const (.bool false))))]) .ret) .skip)) (.seq (.seq (.ops [(qO 13 (.fld 0 (qT 1))), (qO 14 (.ld (qT 13)))]) (.block 0 (.seq (.ops [(qO 16 (.bin .eql (qT 14) (qI 1))), (qM 15 16)]) (.cond (qT 15) (.seq (.ops [(qO 17 (.ldn 8 (qT 1))), (qO 18 (qC 195 [(qT 17), (.const (.bool true))])), (qM 19 18), (qG 20 (.ldn 8 (qT 1)) 19 true), (qG 21 (qC 196 [(qT 20), (.const (.bool false))]) 19 true), (qO 22 (.pick (qT 19) (qT 21) (.const (.bool false)))), (qM 23 22), (qG 24 (.fld 3 (qT 1)) 23 true), (qG 25 (.ldn 3 (qT 24)) 23 true), (qG 26 (qC 197 [(qT 25)]) 23 true), (qO 27 (.pick (qT 23) (qT 26) (.const (.bool false)))), (qM 2 27)]) .ret) (.seq (.ops [(qO 29 (.bin .eql (qT 14) (qI 4))), (qM 28 29)]) (.cond (qT 28) (.seq (.ops [(qO 30 (.ldn 8 (qT 1))), (qO 31 (qC 195 [(qT 30), (.const (.bool false))])), (qM 32 31), (qG 33 (.ldn 8 (qT 1)) 32 true), (qG 34 (qC 196 [(qT 33), (.const (.bool true))]) 32 true), (qO 35 (.pick (qT 32) (qT 34) (.const (.bool false)))), (qM 36 35), (qG 37 (.fld 3 (qT 1)) 36 true), (qG 38 (.ldn 3 (qT 37)) 36 true), (qG 39 (qC 197 [(qT 38)]) 36 true), (qO 40 (.pick (qT 36) (qT 39) (.const (.bool false)))), (qM 2 40)]) .ret) (.seq (.ops [(qO 42 (.bin .eql (qT 14) (qI 5))), (qM 41 42)]) (.cond (qT 41) (.seq (.ops [(qO 43 (.ldn 8 (qT 1))), (qO 44 (qC 195 [(qT 43), (.const (.bool true))])), (qM 45 44), (qG 46 (.ldn 8 (qT 1)) 45 true), (qG 47 (qC 196 [(qT 46), (.const (.bool true))]) 45 true), (qO 48 (.pick (qT 45) (qT 47) (.const (.bool false)))), (qM 49 48), (qG 50 (.fld 3 (qT 1)) 49 true), (qG 51 (.ldn 3 (qT 50)) 49 true), (qG 52 (qC 205 [(qT 51)]) 49 true), (qO 53 (.pick (qT 49) (qT 52) (.const (.bool false)))), (qM 2 53)]) .ret) (.seq (.ops [(qO 55 (.bin .eql (qT 14) (qI 6))), (qM 54 55)]) (.cond (qT 54) (.seq (.ops [(qO 56 (.ldn 8 (qT 1))), (qO 57 (qC 195 [(qT 56), (.const (.bool false))])), (qM 58 57), (qG 59 (.ldn 8 (qT 1)) 58 true), (qG 60 (qC 196 [(qT 59), (.const (.bool false))]) 58 true), (qO 61 (.pick (qT 58) (qT 60) (.const (.bool false)))), (qM 62 61), (qG 63 (.fld 3 (qT 1)) 62 true), (qG 64 (.ldn 3 (qT 63)) 62 true), (qG 65 (qC 205 [(qT 64)]) 62 true), (qO 66 (.pick (qT 62) (qT 65) (.const (.bool false)))), (qM 2 66)]) .ret) (.seq (.ops [(qO 68 (.bin .eql (qT 14) (qI 7))), (qM 67 68)]) (.cond (qT 67) (.seq (.ops [(qO 69 (.ldn 8 (qT 1))), (qO 70 (qC 195 [(qT 69), (.const (.bool false))])), (qM 71 70), (qG 72 (.ldn 8 (qT 1)) 71 true), (qG 73 (qC 196 [(qT 72), (.const (.bool false))]) 71 true), (qO 74 (.pick (qT 71) (qT 73) (.const (.bool false)))), (qM 75 74), (qG 76 (.fld 3 (qT 1)) 75 true), (qG 77 (.ldn 3 (qT 76)) 75 true), (qG 78 (qC 197 [(qT 77)]) 75 true), (qO 79 (.pick (qT 75) (qT 78) (.const (.bool false)))), (qM 2 79)]) .ret) .skip)))))))))))) (.seq (.ops [(qO 2 (.mov (.const (.bool false))))]) .ret))))⟩
theorem of194 : XF.of Try.prog Try.f194 = some ir194 := by kernel_rfl
def ir195 : XF := ⟨12, [(.tmp 4)], (.seq (.ops [(qO 2 (.box 105 (qT 0))), (qO 4 (.mov (.const (.bool false))))]) (.seq (.seq (.ops [(qM 5 1)]) (.cond (qT 5) (.seq (.ops [(qO 6 (.fld 1 (qT 2))), (qO 7 (.ld (qT 6))), (qO 8 (qC 84 [(qT 7), (qI 0), (qI 3)])), (qM 4 8)]) .ret) .skip)) (.seq (.ops [(qO 9 (.fld 1 (qT 2))), (qO 10 (.ld (qT 9))), (qO 11 (.bin .eql (qT 10) (qI 0))), (qM 4 11)]) .ret)))⟩
theorem of195 : XF.of Try.prog Try.f195 = some ir195 := by kernel_rfl
def ir196 : XF := ⟨12, [(.tmp 4)], (.seq (.ops [(qO 2 (.box 105 (qT 0))), (qO 4 (.mov (.const (.bool false))))]) (.seq (.seq (.ops [(qM 5 1)]) (.cond (qT 5) (.seq (.ops [(qO 6 (.fld 2 (qT 2))), (qO 7 (.ld (qT 6))), (qO 8 (qC 84 [(qT 7), (qI 0), (qI 2)])), (qM 4 8)]) .ret) .skip)) (.seq (.ops [(qO 9 (.fld 2 (qT 2))), (qO 10 (.ld (qT 9))), (qO 11 (.bin .eql (qT 10) (qI 0))), (qM 4 11)]) .ret)))⟩
theorem of196 : XF.of Try.prog Try.f196 = some ir196 := by kernel_rfl
def ir197 : XF := ⟨5, [(.tmp 2)], (.seq (.ops [(qO 1 (.box 103 (qT 0))), (qO 2 (.mov (.const (.bool false))))]) (.seq (.ops [(qO 3 (.ldn 3 (qT 1))), (qO 4 (qC 206 [(qT 3), (qI 5)])), (qM 2 4)]) .ret))⟩
theorem of197 : XF.of Try.prog Try.f197 = some ir197 := by kernel_rfl
def ir198 : XF := ⟨132, [(.tmp 4)], (.seq (.ops [(qO 4 (.mov (.const (.bool false))))]) (.seq (.ops [(qO 5 (.new [(.bool false), (.bool false), (.bool false), (.bool false), (.bool false)] 230))]) (.seq (.seq (.ops [(qM 7 0), (qO 8 (.nilc (qT 7))), (qO 9 (.fld 0 (qT 8))), (qO 10 (.ld (qT 9)))]) (.block 0 (.seq (.ops [(qO 12 (.bin .eql (qT 10) (qI 1))), (qM 11 12)]) (.cond (qT 11) (.ops [(qO 13 (.fld 0 (qT 5))), ⟨none, (.st 1 (qT 13) (.const (.bool true))), none⟩, (qO 14 (.fld 2 (qT 5))), ⟨none, (.st 1 (qT 14) (.const (.bool true))), none⟩]) (.seq (.ops [(qO 16 (.bin .eql (qT 10) (qI 2))), (qM 15 16)]) (.cond (qT 15) (.ops [(qO 17 (.fld 2 (qT 5))), ⟨none, (.st 1 (qT 17) (.const (.bool true))), none⟩, (qO 18 (.fld 3 (qT 5))), ⟨none, (.st 1 (qT 18) (.const (.bool true))), none⟩, (qO 19 (.fld 4 (qT 5))), ⟨none, (.st 1 (qT 19) (.const (.bool true))), none⟩]) (.seq (.ops [(qO 21 (.bin .eql (qT 10) (qI 3))), (qM 20 21)]) (.cond (qT 20) (.ops [(qO 22 (.fld 2 (qT 5))), ⟨none, (.st 1 (qT 22) (.const (.bool true))), none⟩, (qO 23 (.fld 3 (qT 5))), ⟨none, (.st 1 (qT 23) (.const (.bool true))), none⟩]) (.seq (.ops [(qO 25 (.bin .eql (qT 10) (qI 4))), (qM 24 25)]) (.cond (qT 24) (.ops [(qO 26 (.fld 1 (qT 5))), ⟨none, (.st 1 (qT 26) (.const (.bool true))), none⟩, (qO 27 (.fld 2 (qT 5))), ⟨none, (.st 1 (qT 27) (.const (.bool true))), none⟩]) (.seq (.ops [(qO 29 (.bin .eql (qT 10) (qI 5))), (qM 28 29)]) (.cond (qT 28) (.ops [(qO 30 (.fld 1 (qT 5))), ⟨none, (.st 1 (qT 30) (.const (.bool true))), none⟩, (qO 31 (.fld 0 (qT 5))), ⟨none, (.st 1 (qT 31) (.const (.bool true))), none⟩]) (.seq (.ops [(qO 33 (.bin .eql (qT 10) (qI 7))), (qM 32 33)]) (.cond (qT 32) (.ops [(qO 34 (.fld 2 (qT 5))), ⟨none, (.st 1 (qT 34) (.const (.bool true))), none⟩]) (.seq (.ops [(qO 36 (.bin .eql (qT 10) (qI 6))), (qM 35 36)]) (.cond (qT 35) .skip (.seq (.ops [(qO 4 (.mov (.const (.bool false))))]) .ret))))))))))))))))) (.seq (.ops [(qO 6 (.mov (.func 207)))]) (.seq (.seq (.draw (.take (qM 37 6) (.take (qM 38 0) (.take (qO 39 (.nilc (qT 38))) (.take (qO 40 (.fld 1 (qT 39))) (.take (qO 41 (.ld (qT 40))) (.take (qO 42 (.fld 0 (qT 5))) (.take (qO 43 (.ld (qT 42))) (.alt (qO 44 (.call (qT 37) [(qT 41), (qI 4), (qT 43)])) (.take (qO 45 (.not (qT 44))) (.take (qM 46 45) (.take (qG 47 (.mov (qT 6)) 46 false) (.take (qG 48 (.mov (qT 0)) 46 false) (.take (qG 49 (.nilc (qT 48)) 46 false) (.take (qG 50 (.fld 2 (qT 49)) 46 false) (.take (qG 51 (.ld (qT 50)) 46 false) (.take (qG 52 (.mov (qT 1)) 46 false) (.take (qG 53 (.fld 1 (qT 5)) 46 false) (.take (qG 54 (.ld (qT 53)) 46 false) (.alt (qG 55 (.call (qT 47) [(qT 51), (qT 52), (qT 54)]) 46 false) (.take (qG 56 (.not (qT 55)) 46 false) (.take (qO 57 (.pick (qT 46) (.const (.bool true)) (qT 56))) (.take (qM 58 57) (.take (qG 59 (.fld 1 (qT 5)) 58 false) (.take (qG 60 (.ld (qT 59)) 58 false) (.take (qG 61 (.mov (qT 60)) 58 false) (.take (qG 62 (.mov (qT 0)) 61 true) (.take (qG 63 (.nilc (qT 62)) 61 true) (.take (qG 64 (.fld 2 (qT 63)) 61 true) (.take (qG 65 (.ld (qT 64)) 61 true) (.take (qG 66 (.mov (qT 1)) 61 true) (.take (qG 67 (.bin .geq (qT 65) (qT 66)) 61 true) (.take (qG 68 (.pick (qT 61) (qT 67) (.const (.bool false))) 58 false) (.take (qO 69 (.pick (qT 58) (.const (.bool true)) (qT 68))) .done)))))))))))))) .none_))))))))))) .none_))))))))) (.cond (qT 69) (.seq (.ops [(qO 4 (.mov (.const (.bool false))))]) .ret) .skip)) (.seq (.seq (.ops [(qO 70 (.fld 2 (qT 5))), (qO 71 (.ld (qT 70))), (qM 72 71), (qG 73 (.mov (qT 0)) 72 true), (qG 74 (.nilc (qT 73)) 72 true), (qG 75 (.fld 3 (qT 74)) 72 true), (qG 76 (.ldn 3 (qT 75)) 72 true), (qG 77 (qC 208 [(qT 76)]) 72 true), (qG 78 (.not (qT 77)) 72 true), (qO 79 (.pick (qT 72) (qT 78) (.const (.bool false)))), (qM 80 79), (qG 81 (.fld 2 (qT 5)) 80 false), (qG 82 (.ld (qT 81)) 80 false), (qG 83 (.not (qT 82)) 80 false), (qG 84 (.mov (qT 83)) 80 false), (qG 85 (.mov (qT 0)) 84 true), (qG 86 (.nilc (qT 85)) 84 true), (qG 87 (.fld 3 (qT 86)) 84 true), (qG 88 (.fld 0 (qT 87)) 84 true), (qG 89 (.ld (qT 88)) 84 true), (qG 90 (.bin .neq (qT 89) (qI 0)) 84 true), (qG 91 (.mov (qT 90)) 84 true), (qG 92 (.mov (qT 0)) 91 false), (qG 93 (.nilc (qT 92)) 91 false), (qG 94 (.fld 3 (qT 93)) 91 false), (qG 95 (.fld 1 (qT 94)) 91 false), (qG 96 (.ld (qT 95)) 91 false), (qG 97 (.bin .neq (qT 96) (qI 0)) 91 false), (qG 98 (.pick (qT 91) (.const (.bool true)) (qT 97)) 84 true), (qG 99 (.mov (qT 98)) 84 true), (qG 100 (.mov (qT 0)) 99 false), (qG 101 (.nilc (qT 100)) 99 false), (qG 102 (.fld 3 (qT 101)) 99 false), (qG 103 (.fld 2 (qT 102)) 99 false), (qG 104 (.ld (qT 103)) 99 false), (qG 105 (.len (qT 104)) 99 false), (qG 106 (.bin .gtr (qT 105) (qI 0)) 99 false), (qG 107 (.pick (qT 99) (.const (.bool true)) (qT 106)) 84 true), (qG 108 (.pick (qT 84) (qT 107) (.const (.bool false))) 80 false), (qO 109 (.pick (qT 80) (.const (.bool true)) (qT 108)))]) (.cond (qT 109) (.seq (.ops [(qO 4 (.mov (.const (.bool false))))]) .ret) .skip)) (.seq (.ops [(qO 110 (.fld 3 (qT 5))), (qO 111 (.ld (qT 110))), (qM 112 111), (qG 113 (.mov (qT 0)) 112 false), (qG 114 (.nilc (qT 113)) 112 false), (qG 115 (.fld 6 (qT 114)) 112 false), (qG 116 (.ld (qT 115)) 112 false), (qG 117 (.len (qT 116)) 112 false), (qG 118 (.bin .eql (qT 117) (qI 0)) 112 false), (qO 119 (.pick (qT 112) (.const (.bool true)) (qT 118))), (qM 120 119), (qG 121 (.fld 4 (qT 5)) 120 true), (qG 122 (.ld (qT 121)) 120 true), (qG 123 (.mov (qT 122)) 120 true), (qG 124 (.mov (qT 0)) 123 false), (qG 125 (.nilc (qT 124)) 123 false), (qG 126 (.fld 7 (qT 125)) 123 false), (qG 127 (.ld (qT 126)) 123 false), (qG 128 (.len (qT 127)) 123 false), (qG 129 (.bin .eql (qT 128) (qI 0)) 123 false), (qG 130 (.pick (qT 123) (.const (.bool true)) (qT 129)) 120 true), (qO 131 (.pick (qT 120) (qT 130) (.const (.bool false)))), (qM 4 131)]) .ret)))))))⟩
theorem of198 : XF.of Try.prog Try.f198 = some ir198 := by kernel_rfl
def ir199 : XF := ⟨52, [(.tmp 6)], (.seq (.ops [(qO 3 (.box 103 (qT 0))), (qO 6 (.mov (.const (.slice none 0 0))))]) (.seq (.seq (.ops [(qO 7 (.fld 0 (qT 3))), (qO 8 (.ld (qT 7)))]) (.block 0 (.seq (.ops [(qO 10 (.bin .eql (qT 8) (qI 0))), (qM 9 10)]) (.cond (qT 9) (.seq (.ops [(qM 11 2), (qM 12 1), (qO 13 (.fld 1 (qT 3))), (qO 14 (.ld (qT 13))), (qO 15 (.agg [(.int .i64 0), (.int .i64 0), (.int .i64 0), (.int .i64 0), (.int .i64 0)] [(0, (1, (qI 1))), (1, (1, (qT 12))), (4, (1, (qT 14)))])), (qO 16 (.lit [(.int .i64 0), (.int .i64 0), (.int .i64 0), (.int .i64 0), (.int .i64 0)] 111 1 [(0, (5, (qT 15)))])), (qO 17 (.app [(.int .i64 0), (.int .i64 0), (.int .i64 0), (.int .i64 0), (.int .i64 0)] 111 40 (qT 11) (qT 16))), (qM 6 17)]) .ret) (.seq (.ops [(qO 19 (.bin .eql (qT 8) (qI 13))), (qM 18 19)]) (.cond (qT 18) (.seq (.ops [(qM 20 2), (qM 21 1), (qO 22 (.fld 1 (qT 3))), (qO 23 (.ld (qT 22))), (qO 24 (.agg [(.int .i64 0), (.int .i64 0), (.int .i64 0), (.int .i64 0), (.int .i64 0)] [(0, (1, (qI 2))), (1, (1, (qT 21))), (2, (1, (qT 23)))])), (qO 25 (.lit [(.int .i64 0), (.int .i64 0), (.int .i64 0), (.int .i64 0), (.int .i64 0)] 111 1 [(0, (5, (qT 24)))])), (qO 26 (.app [(.int .i64 0), (.int .i64 0), (.int .i64 0), (.int .i64 0), (.int .i64 0)] 111 40 (qT 20) (qT 25))), (qM 6 26)]) .ret) .skip)))))) (.seq (.ops [(qO 27 (.fld 2 (qT 3))), (qO 28 (.ld (qT 27))), (qO 29 (.idx 3 (qT 28) (qI 0))), (qO 30 (.ldn 3 (qT 29))), (qM 31 1), (qM 32 2), (qO 33 (qC 199 [(qT 30), (qT 31), (qT 32)])), (qM 2 33)]) (.seq (.ops [(qO 34 (.fld 2 (qT 3))), (qO 35 (.ld (qT 34))), (qO 36 (.idx 3 (qT 35) (qI 1))), (qO 37 (.ldn 3 (qT 36))), (qM 38 1), (qO 39 (.bin .add (qT 38) (qI 1))), (qM 40 2), (qO 41 (qC 199 [(qT 37), (qT 39), (qT 40)])), (qM 2 41)]) (.seq (.ops [(qM 42 2), (qM 43 1), (qM 44 1), (qM 45 1), (qO 46 (.bin .add (qT 45) (qI 1))), (qO 47 (.fld 0 (qT 3))), (qO 48 (.ld (qT 47))), (qO 49 (.agg [(.int .i64 0), (.int .i64 0), (.int .i64 0), (.int .i64 0), (.int .i64 0)] [(0, (1, (qI 3))), (1, (1, (qT 43))), (2, (1, (qT 44))), (3, (1, (qT 46))), (4, (1, (qT 48)))])), (qO 50 (.lit [(.int .i64 0), (.int .i64 0), (.int .i64 0), (.int .i64 0), (.int .i64 0)] 111 1 [(0, (5, (qT 49)))])), (qO 51 (.app [(.int .i64 0), (.int .i64 0), (.int .i64 0), (.int .i64 0), (.int .i64 0)] 111 40 (qT 42) (qT 50))), (qM 6 51)]) .ret)))))⟩
theorem of199 : XF.of Try.prog Try.f199 = some ir199 := by kernel_rfl
def ir205 : XF := ⟨17, [(.tmp 2)], (.seq (.ops [(qO 1 (.box 103 (qT 0))), (qO 2 (.mov (.const (.bool false))))]) (.seq (.ops [(qO 3 (.fld 0 (qT 1))), (qO 4 (.ld (qT 3))), (qO 5 (.bin .eql (qT 4) (qI 0))), (qM 6 5), (qG 7 (.fld 1 (qT 1)) 6 true), (qG 8 (.ld (qT 7)) 6 true), (qG 9 (.bin .eql (qT 8) (qI 0)) 6 true), (qO 10 (.pick (qT 6) (qT 9) (.const (.bool false)))), (qM 11 10), (qG 12 (.fld 2 (qT 1)) 11 true), (qG 13 (.ld (qT 12)) 11 true), (qG 14 (.len (qT 13)) 11 true), (qG 15 (.bin .eql (qT 14) (qI 0)) 11 true), (qO 16 (.pick (qT 11) (qT 15) (.const (.bool false)))), (qM 2 16)]) .ret))⟩
theorem of205 : XF.of Try.prog Try.f205 = some ir205 := by kernel_rfl
def ir206 : XF := ⟨63, [(.tmp 4)], (.seq (.ops [(qO 2 (.box 103 (qT 0))), (qO 4 (.mov (.const (.bool false))))]) (.seq (.seq (.ops [(qM 5 1), (qO 6 (.bin .lss (qT 5) (qI 1)))]) (.cond (qT 6) (.seq (.ops [(qO 4 (.mov (.const (.bool false))))]) .ret) .skip)) (.seq (.seq (.ops [(qO 7 (.fld 0 (qT 2))), (qO 8 (.ld (qT 7))), (qO 9 (.bin .eql (qT 8) (qI 0)))]) (.cond (qT 9) (.seq (.ops [(qO 10 (.fld 1 (qT 2))), (qO 11 (.ld (qT 10))), (qO 12 (qC 84 [(qT 11), (qI 0), (qI 99999)])), (qM 13 12), (qG 14 (.fld 2 (qT 2)) 13 true), (qG 15 (.ld (qT 14)) 13 true), (qG 16 (.len (qT 15)) 13 true), (qG 17 (.bin .eql (qT 16) (qI 0)) 13 true), (qO 18 (.pick (qT 13) (qT 17) (.const (.bool false)))), (qM 4 18)]) .ret) .skip)) (.seq (.seq (.ops [(qO 19 (.fld 0 (qT 2))), (qO 20 (.ld (qT 19))), (qO 21 (.bin .eql (qT 20) (qI 13)))]) (.cond (qT 21) (.seq (.ops [(qO 22 (.fld 1 (qT 2))), (qO 23 (.ld (qT 22))), (qO 24 (qC 84 [(qT 23), (qI 0), (qI 3)])), (qM 25 24), (qG 26 (.fld 2 (qT 2)) 25 true), (qG 27 (.ld (qT 26)) 25 true), (qG 28 (.len (qT 27)) 25 true), (qG 29 (.bin .eql (qT 28) (qI 0)) 25 true), (qO 30 (.pick (qT 25) (qT 29) (.const (.bool false)))), (qM 4 30)]) .ret) .skip)) (.seq (.ops [(qO 31 (.fld 0 (qT 2))), (qO 32 (.ld (qT 31))), (qO 33 (qC 184 [(qT 32)])), (qM 34 33), (qG 35 (.fld 1 (qT 2)) 34 true), (qG 36 (.ld (qT 35)) 34 true), (qG 37 (.bin .eql (qT 36) (qI 0)) 34 true), (qO 38 (.pick (qT 34) (qT 37) (.const (.bool false)))), (qM 39 38), (qG 40 (.fld 2 (qT 2)) 39 true), (qG 41 (.ld (qT 40)) 39 true), (qG 42 (.len (qT 41)) 39 true), (qG 43 (.bin .eql (qT 42) (qI 2)) 39 true), (qO 44 (.pick (qT 39) (qT 43) (.const (.bool false)))), (qM 45 44), (qG 46 (.fld 2 (qT 2)) 45 true), (qG 47 (.ld (qT 46)) 45 true), (qG 48 (.idx 3 (qT 47) (qI 0)) 45 true), (qG 49 (.ldn 3 (qT 48)) 45 true), (qG 50 (.mov (qT 1)) 45 true), (qG 51 (.bin .sub (qT 50) (qI 1)) 45 true), (qG 52 (qC 206 [(qT 49), (qT 51)]) 45 true), (qO 53 (.pick (qT 45) (qT 52) (.const (.bool false)))), (qM 54 53), (qG 55 (.fld 2 (qT 2)) 54 true), (qG 56 (.ld (qT 55)) 54 true), (qG 57 (.idx 3 (qT 56) (qI 1)) 54 true), (qG 58 (.ldn 3 (qT 57)) 54 true), (qG 59 (.mov (qT 1)) 54 true), (qG 60 (.bin .sub (qT 59) (qI 1)) 54 true), (qG 61 (qC 206 [(qT 58), (qT 60)]) 54 true), (qO 62 (.pick (qT 54) (qT 61) (.const (.bool false)))), (qM 4 62)]) .ret)))))⟩
theorem of206 : XF.of Try.prog Try.f206 = some ir206 := by kernel_rfl
def ir207 : XF := ⟨21, [(.tmp 6)], (.seq (.ops [(qO 6 (.mov (.const (.bool false))))]) (.seq (.ops [(qM 7 0), (qO 8 (.bin .eql (qT 7) (qI 0))), (qM 9 8), (qG 10 (.mov (qT 2)) 9 false), (qG 11 (.mov (qT 10)) 9 false), (qG 12 (.mov (qT 0)) 11 true), (qG 13 (.bin .gtr (qT 12) (qI 0)) 11 true), (qG 14 (.pick (qT 11) (qT 13) (.const (.bool false))) 9 false), (qG 15 (.mov (qT 14)) 9 false), (qG 16 (.mov (qT 0)) 15 true), (qG 17 (.mov (qT 1)) 15 true), (qG 18 (.bin .lss (qT 16) (qT 17)) 15 true), (qG 19 (.pick (qT 15) (qT 18) (.const (.bool false))) 9 false), (qO 20 (.pick (qT 9) (.const (.bool true)) (qT 19))), (qM 6 20)]) .ret))⟩
theorem of207 : XF.of Try.prog Try.f207 = some ir207 := by kernel_rfl
def ir208 : XF := ⟨5, [(.tmp 2)], (.seq (.ops [(qO 1 (.box 103 (qT 0))), (qO 2 (.mov (.const (.bool false))))]) (.seq (.ops [(qO 3 (.ldn 3 (qT 1))), (qO 4 (qC 214 [(qT 3), (qI 5)])), (qM 2 4)]) .ret))⟩
theorem of208 : XF.of Try.prog Try.f208 = some ir208 := by kernel_rfl
def ir214 : XF := ⟨85, [(.tmp 4)], (.seq (.ops [(qO 2 (.box 103 (qT 0))), (qO 4 (.mov (.const (.bool false))))]) (.seq (.block 0 (.seq (.ops [(qO 6 (.fld 0 (qT 2))), (qO 7 (.ld (qT 6))), (qO 8 (.bin .eql (qT 7) (qI 0))), (qM 5 8)]) (.cond (qT 5) (.seq (.ops [(qO 9 (.fld 1 (qT 2))), (qO 10 (.ld (qT 9))), (qO 11 (.bin .geq (qT 10) (qI 0))), (qM 12 11), (qG 13 (.fld 1 (qT 2)) 12 true), (qG 14 (.ld (qT 13)) 12 true), (qG 15 (.bin .leq (qT 14) (qI 99999)) 12 true), (qO 16 (.pick (qT 12) (qT 15) (.const (.bool false)))), (qM 17 16), (qG 18 (.fld 2 (qT 2)) 17 true), (qG 19 (.ld (qT 18)) 17 true), (qG 20 (.len (qT 19)) 17 true), (qG 21 (.bin .eql (qT 20) (qI 0)) 17 true), (qO 22 (.pick (qT 17) (qT 21) (.const (.bool false)))), (qM 23 22), (qG 24 (.mov (qT 1)) 23 true), (qG 25 (.bin .gtr (qT 24) (qI 0)) 23 true), (qO 26 (.pick (qT 23) (qT 25) (.const (.bool false)))), (qM 4 26)]) .ret) (.seq (.ops [(qO 28 (.fld 0 (qT 2))), (qO 29 (.ld (qT 28))), (qO 30 (.bin .eql (qT 29) (qI 13))), (qM 27 30)]) (.cond (qT 27) (.seq (.ops [(qO 31 (.fld 1 (qT 2))), (qO 32 (.ld (qT 31))), (qO 33 (.bin .geq (qT 32) (qI 0))), (qM 34 33), (qG 35 (.fld 1 (qT 2)) 34 true), (qG 36 (.ld (qT 35)) 34 true), (qG 37 (.bin .lss (qT 36) (qI 4)) 34 true), (qO 38 (.pick (qT 34) (qT 37) (.const (.bool false)))), (qM 39 38), (qG 40 (.fld 2 (qT 2)) 39 true), (qG 41 (.ld (qT 40)) 39 true), (qG 42 (.len (qT 41)) 39 true), (qG 43 (.bin .eql (qT 42) (qI 0)) 39 true), (qO 44 (.pick (qT 39) (qT 43) (.const (.bool false)))), (qM 45 44), (qG 46 (.mov (qT 1)) 45 true), (qG 47 (.bin .gtr (qT 46) (qI 0)) 45 true), (qO 48 (.pick (qT 45) (qT 47) (.const (.bool false)))), (qM 4 48)]) .ret) .skip))))) (.seq (.ops [(qO 49 (.fld 0 (qT 2))), (qO 50 (.ld (qT 49))), (qO 51 (qC 188 [(qT 50)])), (qM 52 51), (qG 53 (.fld 1 (qT 2)) 52 true), (qG 54 (.ld (qT 53)) 52 true), (qG 55 (.bin .eql (qT 54) (qI 0)) 52 true), (qO 56 (.pick (qT 52) (qT 55) (.const (.bool false)))), (qM 57 56), (qG 58 (.fld 2 (qT 2)) 57 true), (qG 59 (.ld (qT 58)) 57 true), (qG 60 (.len (qT 59)) 57 true), (qG 61 (.bin .eql (qT 60) (qI 2)) 57 true), (qO 62 (.pick (qT 57) (qT 61) (.const (.bool false)))), (qM 63 62), (qG 64 (.mov (qT 1)) 63 true), (qG 65 (.bin .gtr (qT 64) (qI 1)) 63 true), (qO 66 (.pick (qT 63) (qT 65) (.const (.bool false)))), (qM 67 66), (qG 68 (.fld 2 (qT 2)) 67 true), (qG 69 (.ld (qT 68)) 67 true), (qG 70 (.idx 3 (qT 69) (qI 0)) 67 true), (qG 71 (.ldn 3 (qT 70)) 67 true), (qG 72 (.mov (qT 1)) 67 true), (qG 73 (.bin .sub (qT 72) (qI 1)) 67 true), (qG 74 (qC 214 [(qT 71), (qT 73)]) 67 true), (qO 75 (.pick (qT 67) (qT 74) (.const (.bool false)))), (qM 76 75), (qG 77 (.fld 2 (qT 2)) 76 true), (qG 78 (.ld (qT 77)) 76 true), (qG 79 (.idx 3 (qT 78) (qI 1)) 76 true), (qG 80 (.ldn 3 (qT 79)) 76 true), (qG 81 (.mov (qT 1)) 76 true), (qG 82 (.bin .sub (qT 81) (qI 1)) 76 true), (qG 83 (qC 214 [(qT 80), (qT 82)]) 76 true), (qO 84 (.pick (qT 76) (qT 83) (.const (.bool false)))), (qM 4 84)]) .ret)))⟩
theorem of214 : XF.of Try.prog Try.f214 = some ir214 := by kernel_rfl
end Go.Proofs.Ytfjhjfddgdokgaa
namespace Go.Proofs.Ytfjhjfddgdokgaa
set_option linter.all false
open Go Go.RowKit
theorem mix : Try.prog.follows .mixedOrders = true := Checked.mixed Try.checked
set_option maxRecDepth 100000
variable (w0 : World) (H : AHeap) (K : Value → AHeap → Prop)
def isReg (r : Int) : Bool := decide (0 ≤ r) && decide (r < 12)
def wordValid (r : Int) : Bool := decide (-2147483648 ≤ r) && decide (r ≤ 2147483647)
def opValid (r : Int) : Bool := decide (1 ≤ r) && decide (r ≤ 12)
def quadValid (q : Qd) (m : Int) : Bool :=
  if q.op = 1 then isReg q.dst && q.a == 0 && q.b == 0 && wordValid q.n
  else if q.op = 2 then isReg q.dst && isReg q.a && q.b == 0 && q.n == 0
  else if q.op = 3 then isReg q.dst && isReg q.a && isReg q.b && opValid q.n
  else if q.op = 4 then q.dst == 0 && q.a == 0 && q.b == 0 && decide (0 ≤ q.n) && decide (q.n < m)
  else if q.op = 5 then q.dst == 0 && isReg q.a && q.b == 0 && decide (0 ≤ q.n) && decide (q.n < m)
  else if q.op = 6 then q.dst == 0 && isReg q.a && q.b == 0 && decide (0 ≤ q.n) && decide (q.n < 3)
  else if q.op = 7 then isReg q.dst && q.a == 0 && q.b == 0 && decide (0 ≤ q.n) && decide (q.n < 3)
  else if q.op = 9 then q.dst == 0 && isReg q.a && q.b == 0 && q.n == 0
  else if q.op = 8 ∨ q.op = 10 then q.dst == 0 && q.a == 0 && q.b == 0 && q.n == 0
  else false
theorem opValid_ok (r : Int) (h : K (.bool (opValid r)) H) : ACalls Try.prog w0 188 [.int .i64 r] H K := by
  refine acalls_of_sx mix Try.func188 of188 (by simp [ir188]) ?_; rw [ir188]; (try delta qT qI qC qO qM qG)
  repeat' (first | simp -implicitDefEqProofs only [zG1,zG2,zG3,zG4,zG5,zG6,zG7,eq_self,resV,rval,X.val,binv,fillL,setR,↓reduceIte,Nat.reduceEqDiff,Nat.reduceAdd,Nat.reduceMul,Nat.reduceLeDiff,Nat.reduceLT,Nat.reduceSub,reduceCtorEq,zGr] | ((with_reducible refine rows_intro (fun _ hb => ?_)); try simp only [set_none, ne_eq] at hb) | ((with_reducible refine new_intro (fun _ hb => ?_)); try simp only [set_none, ne_eq] at hb) | (with_reducible refine draw_same ?_) | ((with_reducible refine gd_split ?_ (fun _ => ?_) (fun _ => ?_)); exact rfl) | ((with_reducible refine td_split ?_ (fun _ => ?_) (fun _ => ?_)); exact rfl) | (with_reducible refine c_split (fun _ => ?_) (fun _ => ?_)))
  all_goals (refine ret_same ?_; simpa [opValid, *] using h)
theorem l6In_ok (n lo hi : Int) (h : K (.bool (decide (lo ≤ n) && decide (n ≤ hi))) H) : ACalls Try.prog w0 84 [.int .i64 n, .int .i64 lo, .int .i64 hi] H K := by
  refine acalls_of_sx mix Try.func84 of84 (by simp [ir84]) ?_; rw [ir84]; (try delta qT qI qC qO qM qG)
  repeat' (first | simp -implicitDefEqProofs only [zG1,zG2,zG3,zG4,zG5,zG6,zG7,eq_self,resV,rval,X.val,binv,fillL,setR,↓reduceIte,Nat.reduceEqDiff,Nat.reduceAdd,Nat.reduceMul,Nat.reduceLeDiff,Nat.reduceLT,Nat.reduceSub,reduceCtorEq,zGr] | ((with_reducible refine rows_intro (fun _ hb => ?_)); try simp only [set_none, ne_eq] at hb) | ((with_reducible refine new_intro (fun _ hb => ?_)); try simp only [set_none, ne_eq] at hb) | (with_reducible refine draw_same ?_) | ((with_reducible refine gd_split ?_ (fun _ => ?_) (fun _ => ?_)); exact rfl) | ((with_reducible refine td_split ?_ (fun _ => ?_) (fun _ => ?_)); exact rfl) | (with_reducible refine c_split (fun _ => ?_) (fun _ => ?_)))
  all_goals (refine ret_same ?_; simpa [*] using h)
theorem opValidS_ok (r : Int) (h : K (.bool (opValid r)) H) : ACalls Try.prog w0 184 [.int .i64 r] H K := by
  refine acalls_of_sx mix Try.func184 of184 (by simp [ir184]) ?_; rw [ir184]; (try delta qT qI qC qO qM qG)
  repeat' (first | simp -implicitDefEqProofs only [zG1,zG2,zG3,zG4,zG5,zG6,zG7,eq_self,resV,rval,X.val,binv,fillL,setR,↓reduceIte,Nat.reduceEqDiff,Nat.reduceAdd,Nat.reduceMul,Nat.reduceLeDiff,Nat.reduceLT,Nat.reduceSub,reduceCtorEq,zGr] | ((with_reducible refine rows_intro (fun _ hb => ?_)); try simp only [set_none, ne_eq] at hb) | ((with_reducible refine new_intro (fun _ hb => ?_)); try simp only [set_none, ne_eq] at hb) | (with_reducible refine draw_same ?_) | ((with_reducible refine gd_split ?_ (fun _ => ?_) (fun _ => ?_)); exact rfl) | ((with_reducible refine td_split ?_ (fun _ => ?_) (fun _ => ?_)); exact rfl) | (with_reducible refine c_split (fun _ => ?_) (fun _ => ?_)) | (with_reducible refine l6In_ok _ _ _ _ _ _ ?_))
  all_goals (refine ret_same ?_; simpa [opValid, *] using h)
end Go.Proofs.Ytfjhjfddgdokgaa
namespace Go.Proofs.Ytfjhjfddgdokgaa
set_option linter.all false
open Go Go.RowKit
/-- A slice's place reads as these cells. -/
def Fl (H : AHeap) (A : Option Addr) (vs : List Value) : Prop := ∀ (j : Nat) (v : Value), vs[j]? = some v → H.cell (adr A j) = some v
section
variable {H H' : AHeap} {A : Option Addr} {vs : List Value}
theorem Fl.le (h : Fl H A vs) (hl : AHeap.le H H') : Fl H' A vs := fun i x hx => hl.cell (h i x hx)
theorem Fl.fresh (h : Fl H A vs) {b : Nat} (hb : H b = none) (k : Blk) : Fl (H.set b k) A vs := h.le ((AHeap.le.refl H).fresh hb k)
theorem Fl.is (h : Fl H A vs) {i : Nat} (hi : i < vs.length) : A.isSome = true := by
  have := h i _ (List.getElem?_eq_getElem hi)
  cases A with
  | none => cases this
  | some a => rfl
theorem Fl.nil (H : AHeap) (A : Option Addr) : Fl H A [] := fun j v h => by cases h
theorem Fl.blk (H : AHeap) (b : Nat) (k : Blk) (vs : List Value) (h : ∀ (j : Nat) (v : Value), vs[j]? = some v → k.cells[j]? = some v) : Fl (H.set b k) (some ⟨b, 0, none⟩) vs := fun j v hj => by
  rw [adr_lit, Nat.zero_add, cell_same]; exact h j v hj
theorem Own.fl {H1 : AHeap} {e : TypeId} {size : Nat} {v : Value} {n : Nat} (h : Own H1 e size v n vs H) : ∃ A c, v = .slice A n c ∧ Fl H A vs := by
  rcases h with ⟨rfl, rfl, rfl, rfl⟩ | ⟨b, cap, rfl, hb, hn, hc, hl, rfl⟩
  · exact ⟨_, _, rfl, Fl.nil _ _⟩
  · exact ⟨_, _, rfl, Fl.blk _ _ _ _ fun _ _ h => h⟩
theorem Own.le {H1 : AHeap} {e : TypeId} {size : Nat} {v : Value} {n : Nat} (h : Own H1 e size v n vs H) : AHeap.le H1 H := by
  rcases h with ⟨rfl, rfl, rfl, rfl⟩ | ⟨b, cap, rfl, hb, hn, hc, hl, rfl⟩
  · exact .refl _
  · exact (AHeap.le.refl _).fresh hb _
end
theorem up1 {k n : Nat} (h : k < n) (hn : n ≤ 4611686018427387904) : IntKind.i64.wrap ((k : Int) + 1) = ((k + 1 : Nat) : Int) := by rw [wrap_i64 (by omega) (by omega)]; omega
theorem lt_dec {k n : Nat} (h : k < n) : decide ((k : Int) < (n : Int)) = true := by simp; omega
theorem ge_dec {k n : Nat} (h : ¬ k < n) : decide ((k : Int) < (n : Int)) = false := by simp; omega
theorem rng {k n : Nat} (h : k < n) : (0 ≤ (k : Int) ∧ (k : Int) < (n : Int)) = True := by simp; omega
def ints (xs : List Int) : List Value := xs.map (Value.int .i64 ·)
def bools (xs : List Bool) : List Value := xs.map (Value.bool ·)
def qcells (qs : List Qd) : List Value := qs.flatMap (·.cells)
theorem ints_len (xs : List Int) : (ints xs).length = xs.length := by simp [ints]
theorem qcells_len (qs : List Qd) : (qcells qs).length = qs.length * 5 := by
  induction qs with
  | nil => rfl
  | cons q qs ih => simp only [qcells, List.flatMap_cons, List.length_append, List.length_cons, List.length_nil] at *; omega
theorem ints_at {xs : List Int} {i : Nat} (h : i < xs.length) : (ints xs)[i]? = some (.int .i64 xs[i]) := by simp [ints, h]
theorem bools_at {xs : List Bool} {i : Nat} (h : i < xs.length) : (bools xs)[i]? = some (.bool xs[i]) := by simp [bools, h]
theorem qcells_at {qs : List Qd} : ∀ {k : Nat} (h : k < qs.length) (j : Nat), j < 5 → (qcells qs)[k * 5 + j]? = qs[k].cells[j]? := by
  induction qs with
  | nil => intro k h; cases h
  | cons q qs ih =>
    intro k h j hj
    have e : qcells (q :: qs) = q.cells ++ qcells qs := rfl
    rw [e, List.getElem?_append]
    have hl : q.cells.length = 5 := rfl
    cases k with
    | zero => simp only [Nat.zero_mul, Nat.zero_add, hl, hj, if_true]; rfl
    | succ k =>
      have hk : k < qs.length := by simpa using h
      rw [if_neg (by rw [hl]; omega), hl, show (k + 1) * 5 + j - 5 = k * 5 + j by omega, ih hk j hj]
      rfl
section
variable {H : AHeap} {A : Option Addr}
theorem Fl.int {xs : List Int} (h : Fl H A (ints xs)) {i : Nat} (hi : i < xs.length) : H.cell (adr A i) = some (.int .i64 xs[i]) := h _ _ (ints_at hi)
theorem Fl.bool {xs : List Bool} (h : Fl H A (bools xs)) {i : Nat} (hi : i < xs.length) : H.cell (adr A i) = some (.bool xs[i]) := h _ _ (bools_at hi)
theorem Fl.ints_is {xs : List Int} (h : Fl H A (ints xs)) {i : Nat} (hi : i < xs.length) : A.isSome = true := h.is (by rw [ints_len]; exact hi)
theorem Fl.qd_is {qs : List Qd} (h : Fl H A (qcells qs)) {i : Nat} (hi : i < qs.length) : A.isSome = true := h.is (i := i * 5) (by rw [qcells_len]; omega)
theorem Fl.q0 {qs : List Qd} (h : Fl H A (qcells qs)) {i : Nat} (hi : i < qs.length) : H.cell (adr A (i * 5)) = some (.int .i64 qs[i].op) := h _ _ (by rw [← Nat.add_zero (i * 5), qcells_at hi 0 (by omega)]; rfl)
theorem Fl.q1 {qs : List Qd} (h : Fl H A (qcells qs)) {i : Nat} (hi : i < qs.length) : H.cell (adr A (i * 5 + 1)) = some (.int .i64 qs[i].dst) := h _ _ (by rw [qcells_at hi 1 (by omega)]; rfl)
theorem Fl.q2 {qs : List Qd} (h : Fl H A (qcells qs)) {i : Nat} (hi : i < qs.length) : H.cell (adr A (i * 5 + 2)) = some (.int .i64 qs[i].a) := h _ _ (by rw [qcells_at hi 2 (by omega)]; rfl)
theorem Fl.q3 {qs : List Qd} (h : Fl H A (qcells qs)) {i : Nat} (hi : i < qs.length) : H.cell (adr A (i * 5 + 3)) = some (.int .i64 qs[i].b) := h _ _ (by rw [qcells_at hi 3 (by omega)]; rfl)
theorem Fl.q4 {qs : List Qd} (h : Fl H A (qcells qs)) {i : Nat} (hi : i < qs.length) : H.cell (adr A (i * 5 + 4)) = some (.int .i64 qs[i].n) := h _ _ (by rw [qcells_at hi 4 (by omega)]; rfl)
end
theorem Fl.quad {H : AHeap} {A : Option Addr} {qs : List Qd} (h : Fl H A (qcells qs)) {i : Nat} (hi : i < qs.length) : A.isSome = true ∧ H.cell (adr A (i * 5)) = some (.int .i64 qs[i].op) ∧
    H.cell (adr A (i * 5 + 1)) = some (.int .i64 qs[i].dst) ∧ H.cell (adr A (i * 5 + 2)) = some (.int .i64 qs[i].a) ∧ H.cell (adr A (i * 5 + 3)) = some (.int .i64 qs[i].b) ∧ H.cell (adr A (i * 5 + 4)) = some (.int .i64 qs[i].n) :=
  ⟨h.qd_is hi, h.q0 hi, h.q1 hi, h.q2 hi, h.q3 hi, h.q4 hi⟩
/-- The marks from k on. -/
def marks (k : Int) : Nat → List Int
  | 0 => []
  | n + 1 => k :: marks (k + 1) n
theorem marks_len (k : Int) (n : Nat) : (marks k n).length = n := by
  induction n generalizing k with
  | zero => rfl
  | succ n ih => simp [marks, ih]
theorem marks_at (k : Int) (n i : Nat) (h : i < n) : (marks k n)[i]? = some (k + i) := by
  induction n generalizing k i with
  | zero => cases h
  | succ n ih =>
    cases i with
    | zero => simp [marks]
    | succ i => simp only [marks, List.getElem?_cons_succ]; rw [ih _ _ (by omega)]; congr 1; omega
end Go.Proofs.Ytfjhjfddgdokgaa
namespace Go.Proofs.Ytfjhjfddgdokgaa
set_option linter.all false
open Go Go.RowKit Go.Joins Go.ChangeShapes Go.WideShapes Go.ChangeAt Go.Deep
set_option linter.unusedVariables false
set_option maxRecDepth 100000
theorem own : ownKnob Try.prog.godebug = none := by kernel_rfl
theorem laidOut : laidOutB Try.prog = true := by kernel_rfl
theorem calls_true {P : Program} {w0 : World} {H : AHeap} {f : Nat} {args : List Value} (h : ACalls P w0 f args H fun v _ => v = .bool true) (hs : Sat w0 H w0) :
    Calls P f args.toArray w0 fun e w' => e = .returned (.bool true) ∧ Below w0.heap.size w0 w' :=
  (h.2 w0 hs).mono fun e w' ⟨v, H', he, hs', hv⟩ => ⟨by rw [he, hv], hs'.below⟩
/-- The heap that is there: for reading alone. -/
def heapOf (w : World) : AHeap := fun b => match w.heap[b]? with
  | some (.cells c t _) => some ⟨c.toList, false, t, c.size⟩
  | _ => none
theorem sat_heap (w : World) : Sat w (heapOf w) w := ⟨Below.refl _ _, fun b k hk => by
  unfold heapOf at hk
  split at hk
  · rename_i c t fz hw
    obtain rfl := Option.some.inj hk
    exact ⟨c, fz, hw, rfl, fun j v hv => by simpa using hv, fun h => by cases h⟩
  · cases hk⟩
theorem heap_cell {w : World} {a : Addr} {v : Value} (h : w.cell? a = some v) : (heapOf w).cell (some a) = some v := by
  simp only [World.cell?] at h
  simp only [AHeap.cell, heapOf]
  split at h
  · rename_i c t fz hw
    rw [hw]
    split at h
    · cases h
    · rename_i hs
      rw [if_neg hs]
      simpa using h
  · cases h
section
variable {H : Type} {enc : TypeId × Value → H} {P : Program} {w : World} {base : Nat} {spare : Nat → Bool} {held : Bool}
end
end Go.Proofs.Ytfjhjfddgdokgaa
namespace Go.Proofs.Ytfjhjfddgdokgaa
set_option linter.all false
open Go Go.RowKit Go.Joins Go.ChangeShapes Go.WideShapes Go.ChangeAt Go.Deep
set_option linter.unusedVariables false
set_option maxRecDepth 100000
section
variable {H : Type} {enc : TypeId × Value → H} {P : Program} {w : World} {base : Nat} {spare : Nat → Bool} {held : Bool}
theorem open_row {α : Type} {t s : TypeId} {n : Nat} (hs : P.underlying s = some (.slice t)) (hC : P.cellsOf t = n) (R : α → List Value → Prop) (op : ∀ (fuel : Nat) (cs : List Value) (x : DataW H × List MemPlace), DataW.trod enc P w base spare held fuel t cs = some x → ∃ e : α, R e cs)
    {fuel : Nat} {cs : List Value} {x : DataW H × List MemPlace} (h : DataW.trod enc P w base spare held fuel s cs = some x) : ∃ (es : List α) (A : Option Addr) (c : Nat), cs = [.slice A es.length c] ∧ es.length ≤ maxLen ∧ ∀ i (hi : i < es.length), A.isSome = true ∧ ∃ vs, R es[i] vs ∧ vs.length = n ∧ ∀ j (hj : j < vs.length), (heapOf w).cell (adr A (i * n + j)) = some vs[j] := by
  rcases DataW.trod_slice hs h with ⟨hc, _⟩ | ⟨a, len, cap, elems, rest, m, hfm, hc, _, hb, hl, hm, hel, hat, _, _⟩
  · subst hc
    exact ⟨[], none, 0, rfl, Nat.zero_le _, fun i hi => absurd hi (Nat.not_lt_zero _)⟩
  · subst hc
    have hx : ∀ k : Fin len, ∃ e : α, ∃ vs, R e vs ∧ vs.length = n ∧ ∀ j (hj : j < vs.length), (heapOf w).cell (adr (some a) (k.1 * n + j)) = some vs[j] := by
      intro k
      have hk' := hat k.1 (by have := k.2; omega)
      rw [hC, List.getElem?_eq_getElem (by have := k.2; omega)] at hk'
      obtain ⟨cs', hcs', ht'⟩ := Option.bind_eq_some_iff.1 hk'
      obtain ⟨e, he⟩ := op m cs' _ ht'
      obtain ⟨_, hcl, hcat⟩ := World.cells?_some hcs'
      refine ⟨e, cs', he, hcl, fun j hj => ?_⟩
      have g0 := hcat j (by omega)
      rw [Go.Deep.add_add] at g0
      rw [List.getElem?_eq_getElem hj] at g0
      exact heap_cell g0
    refine ⟨List.ofFn fun k => Classical.choose (hx k), some a, cap, by rw [List.length_ofFn], by rw [List.length_ofFn]; omega, fun i hi => ⟨rfl, ?_⟩⟩
    rw [List.getElem_ofFn]
    exact Classical.choose_spec (hx ⟨i, by simpa using hi⟩)
theorem open_int {u : TypeId} (hu : P.underlying u = some (.int .i64)) (fuel : Nat) (cs : List Value) (x : DataW H × List MemPlace) (h : DataW.trod enc P w base spare held fuel u cs = some x) : ∃ n : Int, cs = [.int .i64 n] := by
  obtain ⟨n, e, _, _⟩ := DataW.trod_int hu h
  exact ⟨n, e⟩
theorem open_irow {s u : TypeId} (hs : P.underlying s = some (.slice u)) (hu : P.underlying u = some (.int .i64)) (hC : P.cellsOf u = 1) (fuel : Nat) (cs : List Value) (x : DataW H × List MemPlace) (h : DataW.trod enc P w base spare held fuel s cs = some x) : ∃ zs : List Int, ∃ A c, cs = [.slice A zs.length c] ∧ zs.length ≤ maxLen ∧ Fl (heapOf w) A (ints zs) := by
  obtain ⟨zs, A, c, e, hm, hr⟩ := open_row hs hC (fun (z : Int) vs => vs = [.int .i64 z]) (open_int hu) h
  refine ⟨zs, A, c, e, hm, fun j v hj => ?_⟩
  have hjl := (List.getElem?_eq_some_iff.1 hj).1
  rw [ints_len] at hjl
  obtain ⟨_, vs, rfl, hl, hc⟩ := hr j hjl
  have := hc 0 (by simp)
  rw [Nat.mul_one, Nat.add_zero] at this
  rw [ints_at hjl] at hj
  cases hj
  exact this
end
end Go.Proofs.Ytfjhjfddgdokgaa
namespace Go.Proofs.Ytfjhjfddgdokgaa
set_option linter.all false
open Go Go.RowKit
section
variable {P : Program} {w0 : World} {K : Value → AHeap → Prop} {z : List Value} {t e : TypeId} {bytes n m xc size : Nat} {v : Value} {xs news : List Value} {H H1 A B : AHeap}
theorem Own.len (h : Own H1 e size v n xs H) : xs.length = n * size := by
  rcases h with ⟨rfl, rfl, rfl, rfl⟩ | ⟨b, cap, rfl, hb, hn, hc, hl, rfl⟩
  · simp
  · exact hl
theorem Own.weaken (h : Own B e size v n xs H) (hl : AHeap.le A B) : ∃ H', AHeap.le H' H ∧ Own A e size v n xs H' := by
  rcases h with ⟨rfl, rfl, rfl, rfl⟩ | ⟨b, cap, rfl, hb, hn, hc, hl', rfl⟩
  · exact ⟨_, hl, .inl ⟨rfl, rfl, rfl, rfl⟩⟩
  · exact ⟨_, hl.set b _, .inr ⟨b, cap, rfl, hl.none hb, hn, hc, hl', rfl⟩⟩
theorem Own.drop {b : Nat} {k : Blk} (h : Own (H1.set b k) e size v n xs H) (hb : H1 b = none) : ∃ H', AHeap.le H' H ∧ Own H1 e size v n xs H' := h.weaken ((AHeap.le.refl H1).fresh hb k)
theorem Own.none' (h : Own H1 e size v n xs H) {b : Nat} (hb : H b = none) : H1 b = none := h.le.none hb
theorem has_fresh (h : Own H1 e size v n xs H) {b : Nat} (hb : H b = none) (k : Blk) : Has (H.set b k) e size v n xs (H1.set b k) := by
  rcases h with ⟨rfl, rfl, rfl, rfl⟩ | ⟨b', cap, rfl, hb', hn, hc, hl', rfl⟩
  · exact .inl ⟨rfl, rfl, rfl, rfl⟩
  · have hne : ¬ b' = b := by rintro rfl; simp [AHeap.set] at hb
    refine .inr ⟨b', cap, _, rfl, by rw [set_ne hne, set_same], rfl, rfl, rfl, hn, hc, by simp [hl'], by rw [← hl']; simp, ?_⟩
    funext i
    by_cases hi : i = b'
    · subst hi; simp [AHeap.del, AHeap.set, hne, hb']
    · simp [AHeap.del, AHeap.set, hi]
theorem mk_intro {k k' : IntKind} {n : Nat} {D : Value → AHeap → Prop} (hb : bytes * n ≤ 281474976710656) (hn : n ≤ 9223372036854775807) (h : ∀ b, H b = none → D (.slice (some ⟨b, 0, none⟩) n n) (H.set b ⟨repl z n, true, t, n * z.length⟩)) : mkK z t bytes (.int k n) (.int k' n) D H := by
  refine ⟨by omega, by omega, ?_, by omega, ?_⟩
  · have : ((bytes * n : Nat) : Int) ≤ 281474976710656 := by omega
    simpa using this
  · rw [Int.toNat_natCast]; exact h
theorem Own.fresh (h : Own H1 e size v n xs H) {b : Nat} (hb : H b = none) (k : Blk) : Own (H1.set b k) e size v n xs (H.set b k) := by
  rcases h with ⟨rfl, rfl, rfl, rfl⟩ | ⟨b', cap, rfl, hb', hn, hc, hl', rfl⟩
  · exact .inl ⟨rfl, rfl, rfl, rfl⟩
  · have hne : ¬ b' = b := by rintro rfl; simp [AHeap.set] at hb
    exact .inr ⟨b', cap, rfl, by rw [set_ne hne]; exact hb', hn, hc, hl', (set_comm (fun e => hne e.symm)).symm ▸ rfl⟩
theorem fl_three {b : Nat} {x0 x1 x2 : Value} {o : Bool} {c : Nat} (hl : AHeap.le (A.set b ⟨[x0, x1, x2], o, t, c⟩) B) :
    B.cell (some ⟨b, 0, none⟩) = some x0 ∧ B.cell (some ⟨b, 1, none⟩) = some x1 ∧ B.cell (some ⟨b, 2, none⟩) = some x2 :=
  ⟨hl.cell (by rw [cell_same]; rfl), hl.cell (by rw [cell_same]; rfl), hl.cell (by rw [cell_same]; rfl)⟩
theorem ret_own {c cp x : Nat} {vs : List Value} (h : ∀ v H', Own H e size v n xs H' → K v H') {H0 : AHeap} (hl : AHeap.le H H0) (hx : H x = none) {n' : Nat} (he : n' = n) (hv : vs = xs) (hn : vs.length = n * size) (hnc : n ≤ c) (hc : c ≤ maxLen) (hcp : cp = c * size) :
    ∃ H', AHeap.le H' (H0.set x ⟨vs, true, e, cp⟩) ∧ K (.slice (some ⟨x, 0, none⟩) n' c) H' := by
  subst hv hcp he
  exact ⟨_, hl.set x _, h _ _ (.inr ⟨x, c, rfl, hx, hnc, hc, hn, rfl⟩)⟩
theorem app_lit (ho : Own H1 t z.length v n xs H) {b : Nat} (hb : H b = none) {o : Bool} {t' : TypeId} {c : Nat} (hl : news.length = m * z.length)
    (h1 : ∀ v ∈ news, v.oneCell' = true) (hn : n + m ≤ maxLen) (hB : (n + m) * bytes ≤ 140737488355328)
    (h : ∀ v' H', Own (H1.set b ⟨news, o, t', c⟩) t z.length v' (n + m) (xs ++ news) H' → K v' H') : appK P w0 z t bytes v (.slice (some ⟨b, 0, none⟩) m xc) K (H.set b ⟨news, o, t', c⟩) := by
  have hh := has_fresh ho hb ⟨news, o, t', c⟩
  have hs : ∃ a n' c', v = .slice a n' c' ∧ n' = n := by
    rcases ho with ⟨rfl, rfl, rfl, rfl⟩ | ⟨b', cap, rfl, hb', hn, hc, hl', rfl⟩
    · exact ⟨_, _, _, rfl, rfl⟩
    · exact ⟨_, _, _, rfl, rfl⟩
  obtain ⟨a, n', c', rfl, rfl⟩ := hs
  refine .inr ⟨xs, _, news, .inl hh, hl, fun j v hv => ?_, h1, hn, hB, h⟩
  exact Fl.blk _ _ _ _ (fun _ _ h => h) j v hv
theorem app_read {H0 : AHeap} (ho : Own H1 t z.length v n xs H0) (hl : AHeap.le H0 H) {xa : Option Addr} (hr : Fl H xa news) (hlen : news.length = m * z.length) (h1 : ∀ v ∈ news, v.oneCell' = true) (hn : n + m ≤ maxLen) (hB : (n + m) * bytes ≤ 140737488355328)
    (h : ∀ v' B' H', AHeap.le H1 B' → Own B' t z.length v' (n + m) (xs ++ news) H' → K v' H') : appK P w0 z t bytes v (.slice xa m xc) K H := by
  rcases ho with ⟨rfl, rfl, rfl, rfl⟩ | ⟨b, cap, rfl, hb, hnc, hc, hl', rfl⟩
  · exact .inr ⟨[], H, news, .inl (.inl ⟨rfl, rfl, rfl, rfl⟩), hlen, hr, h1, hn, hB, fun v' H' ho' => h v' H H' hl ho'⟩
  · obtain ⟨k, hk, hko, hkt, hkc, hkr⟩ := hl b _ (set_same _ _ _)
    have hlen' : n * z.length ≤ k.cells.length := by
      rcases Nat.eq_zero_or_pos (n * z.length) with h0 | h0
      · omega
      · have := hkr (n * z.length - 1) _ (List.getElem?_eq_getElem (by simp only; omega))
        have := (List.getElem?_eq_some_iff.1 this).1
        omega
    refine .inr ⟨xs, H.del b, news, .inl (.inr ⟨b, cap, k, rfl, hk, hko, hkt, hkc, hnc, hc, hlen', ?_, rfl⟩), hlen, hr, h1, hn, hB, fun v' H' ho' => h v' _ H' (AHeap.le.del (((AHeap.le.refl H1).fresh hb _).trans hl) hb) ho'⟩
    apply List.ext_getElem?
    intro j
    rw [List.getElem?_take]
    split
    · rename_i hj
      rw [List.getElem?_eq_getElem (by omega)]
      exact (hkr j _ (List.getElem?_eq_getElem (by simp only; omega))).symm
    · rw [List.getElem?_eq_none (by omega)]
end
end Go.Proofs.Ytfjhjfddgdokgaa
namespace Go.Proofs.Ytfjhjfddgdokgaa
set_option linter.all false
open Go Go.RowKit
inductive Ex where
  | mk (op n : Int) (args : List Ex)
def Ex.op : Ex → Int | .mk o _ _ => o
def Ex.n : Ex → Int | .mk _ n _ => n
def Ex.args : Ex → List Ex | .mk _ _ a => a
mutual
/-- The cells of an expression, and what its slice leads to. -/
def ExV (H : AHeap) : Ex → List Value → Prop
  | .mk op n args, cs => ∃ A c, cs = [.int .i64 op, .int .i64 n, .slice A args.length c] ∧ args.length ≤ maxLen ∧ ExR H args A 0
def ExR (H : AHeap) : List Ex → Option Addr → Nat → Prop
  | [], _, _ => True
  | e :: es, A, i => (∃ v0 v1 v2, H.cell (adr A (i * 3)) = some v0 ∧ H.cell (adr A (i * 3 + 1)) = some v1 ∧ H.cell (adr A (i * 3 + 2)) = some v2 ∧ ExV H e [v0, v1, v2]) ∧ ExR H es A (i + 1)
end
/-- How many expressions lie below. -/
def Ex.cnt : Ex → Nat
  | .mk _ _ args => cntL args
where cntL : List Ex → Nat
  | [] => 0
  | e :: es => 1 + e.cnt + cntL es
mutual
theorem ExV.le {H H' : AHeap} (hl : AHeap.le H H') : ∀ {e : Ex} {cs : List Value}, ExV H e cs → ExV H' e cs
  | .mk op n args, cs, h => by
    simp only [ExV] at h ⊢
    obtain ⟨A, c, h1, h2, h3⟩ := h
    exact ⟨A, c, h1, h2, ExR.le hl h3⟩
theorem ExR.le {H H' : AHeap} (hl : AHeap.le H H') : ∀ {es : List Ex} {A : Option Addr} {i : Nat}, ExR H es A i → ExR H' es A i
  | [], _, _, _ => by simp only [ExR]
  | e :: es, A, i, h => by
    simp only [ExR] at h ⊢
    obtain ⟨⟨v0, v1, v2, h0, h1, h2, h3⟩, h4⟩ := h
    exact ⟨⟨v0, v1, v2, hl.cell h0, hl.cell h1, hl.cell h2, ExV.le hl h3⟩, ExR.le hl h4⟩
end
theorem ExR.at_ {H : AHeap} : ∀ {es : List Ex} {A : Option Addr} {i k : Nat}, ExR H es A i → (hk : k < es.length) → ∃ v0 v1 v2, H.cell (adr A ((i + k) * 3)) = some v0 ∧ H.cell (adr A ((i + k) * 3 + 1)) = some v1 ∧ H.cell (adr A ((i + k) * 3 + 2)) = some v2 ∧ ExV H es[k] [v0, v1, v2]
  | e :: es, A, i, 0, h, _ => by simp only [ExR] at h; exact h.1
  | e :: es, A, i, k + 1, h, hk => by
    simp only [ExR] at h
    have := ExR.at_ (k := k) h.2 (by simpa using hk)
    rw [show i + 1 + k = i + (k + 1) by omega] at this
    exact this
/-- The k-th argument's cells. -/
theorem ExR.arg {H : AHeap} {es : List Ex} {A : Option Addr} {k : Nat} (h : ExR H es A 0) (hk : k < es.length) :
    A.isSome = true ∧ ∃ a c, (H.cell (adr A (k * 3)) = some (.int .i64 es[k].op) ∧ H.cell (adr A (k * 3 + 1)) = some (.int .i64 es[k].n) ∧ H.cell (adr A (k * 3 + 2)) = some (.slice a es[k].args.length c)) ∧
      ExV H es[k] [.int .i64 es[k].op, .int .i64 es[k].n, .slice a es[k].args.length c] := by
  obtain ⟨v0, v1, v2, h0, h1, h2, h3⟩ := h.at_ hk
  rw [Nat.zero_add] at h0 h1 h2
  have hA : A.isSome = true := by
    cases A with
    | none => cases h0
    | some a => rfl
  generalize es[k] = e at h3 ⊢
  cases e with
  | mk op n args =>
    have h3' := h3
    simp only [ExV] at h3
    obtain ⟨a, c, h4, _, _⟩ := h3
    simp only [List.cons.injEq, and_true] at h4
    obtain ⟨rfl, rfl, rfl⟩ := h4
    exact ⟨hA, a, c, ⟨h0, h1, h2⟩, h3'⟩
theorem ExV.open_ {H : AHeap} {e : Ex} {cs : List Value} (h : ExV H e cs) : ∃ a c, cs = [.int .i64 e.op, .int .i64 e.n, .slice a e.args.length c] ∧ e.args.length ≤ maxLen ∧ ExR H e.args a 0 := by
  cases e with
  | mk op n args => simpa only [ExV, Ex.op, Ex.n, Ex.args] using h
/-- The two arguments of an operation. -/
theorem ExR.two {H : AHeap} {x y : Ex} {A : Option Addr} (h : ExR H [x, y] A 0) : ∃ a c b d, (A.isSome = true ∧ H.cell A = some (.int .i64 x.op) ∧ H.cell (adr A 1) = some (.int .i64 x.n) ∧ H.cell (adr A 2) = some (.slice a x.args.length c) ∧
    H.cell (adr A 3) = some (.int .i64 y.op) ∧ H.cell (adr A 4) = some (.int .i64 y.n) ∧ H.cell (adr A 5) = some (.slice b y.args.length d)) ∧
    ExV H x [.int .i64 x.op, .int .i64 x.n, .slice a x.args.length c] ∧ ExV H y [.int .i64 y.op, .int .i64 y.n, .slice b y.args.length d] := by
  obtain ⟨hA, a, c, ⟨h0, h1, h2⟩, h3⟩ := h.arg (k := 0) (by simp)
  obtain ⟨_, b, d, ⟨g0, g1, g2⟩, g3⟩ := h.arg (k := 1) (by simp)
  simp only [Nat.zero_mul, Nat.zero_add, adr_zero, List.getElem_cons_zero, List.getElem_cons_succ, Nat.one_mul] at h0 h1 h2 h3 g0 g1 g2 g3
  exact ⟨a, c, b, d, ⟨hA, h0, h1, h2, g0, g1, g2⟩, h3, g3⟩
theorem two_le {H H' : AHeap} (hl : AHeap.le H H') {A : Option Addr} {x0 x1 x2 x3 x4 x5 : Value} (h : A.isSome = true ∧ H.cell A = some x0 ∧ H.cell (adr A 1) = some x1 ∧ H.cell (adr A 2) = some x2 ∧ H.cell (adr A 3) = some x3 ∧ H.cell (adr A 4) = some x4 ∧ H.cell (adr A 5) = some x5) :
    A.isSome = true ∧ H'.cell A = some x0 ∧ H'.cell (adr A 1) = some x1 ∧ H'.cell (adr A 2) = some x2 ∧ H'.cell (adr A 3) = some x3 ∧ H'.cell (adr A 4) = some x4 ∧ H'.cell (adr A 5) = some x5 :=
  ⟨h.1, hl.cell h.2.1, hl.cell h.2.2.1, hl.cell h.2.2.2.1, hl.cell h.2.2.2.2.1, hl.cell h.2.2.2.2.2.1, hl.cell h.2.2.2.2.2.2⟩
def exprOk : Nat → Ex → Bool
  | 0, _ => false
  | d + 1, .mk op n args =>
    if op = 0 then decide (0 ≤ n) && decide (n ≤ 99999) && args.isEmpty
    else if op = 13 then decide (0 ≤ n) && decide (n ≤ 3) && args.isEmpty
    else decide (1 ≤ op) && decide (op ≤ 12) && n == 0 && (match args with | [x, y] => exprOk d x && exprOk d y | _ => false)
/-- The depth, and the code, of an expression of two arguments at most. -/
def Ex.depth : Ex → Nat
  | .mk _ _ args => depthL args + 1
where depthL : List Ex → Nat
  | [] => 0
  | e :: es => max e.depth (depthL es)
end Go.Proofs.Ytfjhjfddgdokgaa
namespace Go.Proofs.Ytfjhjfddgdokgaa
set_option linter.all false
open Go Go.RowKit Go.Joins Go.ChangeShapes Go.WideShapes Go.ChangeAt Go.Deep
set_option linter.unusedVariables false
section
variable {H : Type} {enc : TypeId × Value → H} {P : Program} {w : World} {base : Nat} {spare : Nat → Bool} {held : Bool}
theorem open_expr {t s u : TypeId} {f0 f1 f2 : Field} (ht : P.underlying t = some (.struct #[f0, f1, f2])) (hs : P.underlying s = some (.slice t)) (hu : P.underlying u = some (.int .i64)) (hf : f0.type = u ∧ f1.type = u ∧ f2.type = s) (ho : f0.offset = 0 ∧ f1.offset = 1 ∧ f2.offset = 2)
    (hC : P.cellsOf t = 3) (hcu : P.cellsOf u = 1) (hcs : P.cellsOf s = 1) : ∀ (fuel : Nat) (cs : List Value) (x : DataW H × List MemPlace), DataW.trod enc P w base spare held fuel t cs = some x → ∃ e : Ex, ExV (heapOf w) e cs := by
  intro fuel
  induction fuel using Nat.strongRecOn with
  | ind fuel ih =>
    intro cs x h
    obtain ⟨xs, n, rfl, _, hlen, hxl, hg⟩ := DataW.trod_struct ht h
    rw [hC] at hlen
    match cs, hlen with
    | [c0, c1, c2], _ =>
      match xs, hxl with
      | [y0, y1, y2], _ =>
        have h0 := hg 0 f0 rfl
        have h1 := hg 1 f1 rfl
        have h2 := hg 2 f2 rfl
        rw [hf.1, ho.1, hcu] at h0
        rw [hf.2.1, ho.2.1, hcu] at h1
        rw [hf.2.2, ho.2.2, hcs] at h2
        simp only [List.drop_zero, List.drop_succ_cons, List.take_succ_cons, List.take_zero, List.getElem?_cons_zero, List.getElem?_cons_succ] at h0 h1 h2
        obtain ⟨n0, e0, _, _⟩ := DataW.trod_int hu h0
        obtain ⟨n1, e1, _, _⟩ := DataW.trod_int hu h1
        simp only [List.cons.injEq, and_true] at e0 e1
        subst e0 e1
        rcases DataW.trod_slice hs h2 with ⟨hc, _⟩ | ⟨a, len, cap, elems, rest, m, hfm, hc, _, hb, hl, hm, hel, hat, _, _⟩
        · simp only [List.cons.injEq, and_true] at hc
          subst hc
          refine ⟨.mk n0 n1 [], ?_⟩
          simp only [ExV]
          exact ⟨none, 0, rfl, Nat.zero_le _, by simp only [ExR]⟩
        · simp only [List.cons.injEq, and_true] at hc
          subst hc
          have hq : ∀ d k, k + d = len → ∃ es : List Ex, es.length = d ∧ ExR (heapOf w) es (some a) k := by
            intro d
            induction d with
            | zero => intro k hk; exact ⟨[], rfl, by simp only [ExR]⟩
            | succ d ihd =>
              intro k hk
              obtain ⟨es, hes, hR⟩ := ihd (k + 1) (by omega)
              have hk' := hat k (by omega)
              rw [hC, List.getElem?_eq_getElem (by omega)] at hk'
              obtain ⟨cs', hcs', ht'⟩ := Option.bind_eq_some_iff.1 hk'
              obtain ⟨e, he⟩ := ih m (by omega) cs' _ ht'
              obtain ⟨_, hcl, hcat⟩ := World.cells?_some hcs'
              match cs', hcl with
              | [v0, v1, v2], _ =>
                refine ⟨e :: es, by simp [hes], ?_⟩
                simp only [ExR]
                have g0 := hcat 0 (by omega)
                have g1 := hcat 1 (by omega)
                have g2 := hcat 2 (by omega)
                rw [Go.Deep.add_add] at g0 g1 g2
                simp only [List.getElem?_cons_zero, List.getElem?_cons_succ, Nat.add_zero] at g0 g1 g2
                exact ⟨⟨v0, v1, v2, heap_cell g0, heap_cell g1, heap_cell g2, he⟩, hR⟩
          obtain ⟨es, hes, hR⟩ := hq len 0 (by omega)
          refine ⟨.mk n0 n1 es, ?_⟩
          simp only [ExV]
          exact ⟨some a, cap, by rw [hes], by rw [hes]; omega, hR⟩
end
end Go.Proofs.Ytfjhjfddgdokgaa
namespace Go.Proofs.Ytfjhjfddgdokgaa
set_option linter.all false
open Go Go.RowKit
inductive St where
  | mk (kind var box : Int) (e : Ex) (body els : List St)
def St.kind : St → Int | .mk k _ _ _ _ _ => k
def St.var : St → Int | .mk _ v _ _ _ _ => v
def St.box : St → Int | .mk _ _ b _ _ _ => b
def St.e : St → Ex | .mk _ _ _ e _ _ => e
def St.body : St → List St | .mk _ _ _ _ b _ => b
def St.els : St → List St | .mk _ _ _ _ _ l => l
/-- The eight cells of a statement. -/
abbrev stc (k v b : Int) (e : Ex) (n1 n2 : Nat) (A0 : Option Addr) (c0 : Nat) (A1 : Option Addr) (c1 : Nat) (A2 : Option Addr) (c2 : Nat) : List Value :=
  [.int .i64 k, .int .i64 v, .int .i64 b, .int .i64 e.op, .int .i64 e.n, .slice A0 e.args.length c0, .slice A1 n1 c1, .slice A2 n2 c2]
mutual
/-- The cells of a statement, and what its slices lead to. -/
def StV (H : AHeap) : St → List Value → Prop
  | .mk k v b e body els, cs => ∃ A0 c0 A1 c1 A2 c2, cs = stc k v b e body.length els.length A0 c0 A1 c1 A2 c2 ∧
      e.args.length ≤ maxLen ∧ ExR H e.args A0 0 ∧ (body.length ≤ maxLen ∧ StR H body A1 0) ∧ (els.length ≤ maxLen ∧ StR H els A2 0)
def StR (H : AHeap) : List St → Option Addr → Nat → Prop
  | [], _, _ => True
  | s :: ss, A, i => (∃ cs, (∀ j, j < 8 → H.cell (adr A (i * 8 + j)) = cs[j]?) ∧ StV H s cs) ∧ StR H ss A (i + 1)
end
mutual
theorem StV.le {H H' : AHeap} (hl : AHeap.le H H') : ∀ {s : St} {cs : List Value}, StV H s cs → StV H' s cs
  | .mk k v b e body els, cs, h => by
    simp only [StV] at h ⊢
    obtain ⟨A0, c0, A1, c1, A2, c2, h1, h2, h3, ⟨h4, h5⟩, h6, h7⟩ := h
    exact ⟨A0, c0, A1, c1, A2, c2, h1, h2, h3.le hl, ⟨h4, StR.le hl h5⟩, h6, StR.le hl h7⟩
theorem StR.le {H H' : AHeap} (hl : AHeap.le H H') : ∀ {ss : List St} {A : Option Addr} {i : Nat}, StR H ss A i → StR H' ss A i
  | [], _, _, _ => by simp only [StR]
  | s :: ss, A, i, h => by
    simp only [StR] at h ⊢
    obtain ⟨⟨cs, h0, h1⟩, h2⟩ := h
    refine ⟨⟨cs, fun j hj => ?_, StV.le hl h1⟩, StR.le hl h2⟩
    have h3 := h0 j hj
    have h8 : cs.length = 8 := by
      cases s with
      | mk k v b e body els =>
        simp only [StV] at h1
        obtain ⟨A0, c0, A1, c1, A2, c2, rfl, _⟩ := h1
        rfl
    rw [List.getElem?_eq_getElem (by omega)] at h3 ⊢
    exact hl.cell h3
end
theorem StV.open_ {H : AHeap} {s : St} {cs : List Value} (h : StV H s cs) : ∃ A0 c0 A1 c1 A2 c2, cs = stc s.kind s.var s.box s.e s.body.length s.els.length A0 c0 A1 c1 A2 c2 ∧
    s.e.args.length ≤ maxLen ∧ ExR H s.e.args A0 0 ∧ (s.body.length ≤ maxLen ∧ StR H s.body A1 0) ∧ (s.els.length ≤ maxLen ∧ StR H s.els A2 0) := by
  cases s with
  | mk k v b e body els => simpa only [StV, St.kind, St.var, St.box, St.e, St.body, St.els] using h
theorem StV.len {H : AHeap} {s : St} {cs : List Value} (h : StV H s cs) : cs.length = 8 := by
  obtain ⟨_, _, _, _, _, _, rfl, _⟩ := h.open_
  rfl
theorem StV.ex {H : AHeap} {e : Ex} {A : Option Addr} (c : Nat) (hl : e.args.length ≤ maxLen) (h : ExR H e.args A 0) : ExV H e [.int .i64 e.op, .int .i64 e.n, .slice A e.args.length c] := by
  cases e with
  | mk op n args => simp only [ExV, Ex.op, Ex.n, Ex.args] at *; exact ⟨A, c, rfl, hl, h⟩
theorem StR.at_ {H : AHeap} : ∀ {ss : List St} {A : Option Addr} {i k : Nat}, StR H ss A i → (hk : k < ss.length) → ∃ cs, (∀ j, j < 8 → H.cell (adr A ((i + k) * 8 + j)) = cs[j]?) ∧ StV H ss[k] cs
  | s :: ss, A, i, 0, h, _ => by simp only [StR] at h; exact h.1
  | s :: ss, A, i, k + 1, h, hk => by
    simp only [StR] at h
    have := StR.at_ (k := k) h.2 (by simpa using hk)
    rw [show i + 1 + k = i + (k + 1) by omega] at this
    exact this
/-- The eight cells that stand at a place. -/
abbrev Pl8 (H : AHeap) (A : Option Addr) (o : Nat) (k v b : Int) (e : Ex) (n1 n2 : Nat) (A0 : Option Addr) (c0 : Nat) (A1 : Option Addr) (c1 : Nat) (A2 : Option Addr) (c2 : Nat) : Prop :=
  H.cell (adr A o) = some (.int .i64 k) ∧ H.cell (adr A (o + 1)) = some (.int .i64 v) ∧ H.cell (adr A (o + 2)) = some (.int .i64 b) ∧ H.cell (adr A (o + 3)) = some (.int .i64 e.op) ∧ H.cell (adr A (o + 4)) = some (.int .i64 e.n) ∧
  H.cell (adr A (o + 5)) = some (.slice A0 e.args.length c0) ∧ H.cell (adr A (o + 6)) = some (.slice A1 n1 c1) ∧ H.cell (adr A (o + 7)) = some (.slice A2 n2 c2)
theorem Pl8.le {H H' : AHeap} (hl : AHeap.le H H') {A : Option Addr} {o : Nat} {k v b : Int} {e : Ex} {n1 n2 : Nat} {A0 : Option Addr} {c0 : Nat} {A1 : Option Addr} {c1 : Nat} {A2 : Option Addr} {c2 : Nat}
    (h : Pl8 H A o k v b e n1 n2 A0 c0 A1 c1 A2 c2) : Pl8 H' A o k v b e n1 n2 A0 c0 A1 c1 A2 c2 := by
  obtain ⟨h0, h1, h2, h3, h4, h5, h6, h7⟩ := h
  exact ⟨hl.cell h0, hl.cell h1, hl.cell h2, hl.cell h3, hl.cell h4, hl.cell h5, hl.cell h6, hl.cell h7⟩
/-- The k-th statement. -/
theorem StR.arg {H : AHeap} {ss : List St} {A : Option Addr} {k : Nat} (h : StR H ss A 0) (hk : k < ss.length) : A.isSome = true ∧ ∃ A0 c0 A1 c1 A2 c2,
    Pl8 H A (k * 8) ss[k].kind ss[k].var ss[k].box ss[k].e ss[k].body.length ss[k].els.length A0 c0 A1 c1 A2 c2 ∧
    StV H ss[k] (stc ss[k].kind ss[k].var ss[k].box ss[k].e ss[k].body.length ss[k].els.length A0 c0 A1 c1 A2 c2) := by
  obtain ⟨cs, h0, h1⟩ := h.at_ hk
  obtain ⟨A0, c0, A1, c1, A2, c2, rfl, _⟩ := h1.open_
  rw [Nat.zero_add] at h0
  have q := h0 0 (by omega)
  refine ⟨?_, A0, c0, A1, c1, A2, c2, ⟨q, h0 1 (by omega), h0 2 (by omega), h0 3 (by omega), h0 4 (by omega), h0 5 (by omega), h0 6 (by omega), h0 7 (by omega)⟩, h1⟩
  cases A with
  | none => cases q
  | some a => rfl
/-- A statement's cells, as the call has them. -/
theorem StV.parts {H : AHeap} {s : St} {A0 : Option Addr} {c0 : Nat} {A1 : Option Addr} {c1 : Nat} {A2 : Option Addr} {c2 : Nat} (h : StV H s (stc s.kind s.var s.box s.e s.body.length s.els.length A0 c0 A1 c1 A2 c2)) :
    ExV H s.e [.int .i64 s.e.op, .int .i64 s.e.n, .slice A0 s.e.args.length c0] ∧ (s.body.length ≤ maxLen ∧ StR H s.body A1 0) ∧ (s.els.length ≤ maxLen ∧ StR H s.els A2 0) := by
  obtain ⟨B0, d0, B1, d1, B2, d2, he, h1, h2, h3, h4⟩ := h.open_
  simp only [stc, List.cons.injEq, Value.slice.injEq, true_and, and_true] at he
  obtain ⟨⟨rfl, rfl⟩, ⟨rfl, rfl⟩, rfl, rfl⟩ := he
  exact ⟨StV.ex _ h1 h2, h3, h4⟩
/-- Cells in a row that read as statements. -/
def StL (H : AHeap) : List St → List Value → Prop
  | [], xs => xs = []
  | s :: ss, xs => ∃ cs ys, xs = cs ++ ys ∧ StV H s cs ∧ StL H ss ys
theorem StL.le {H H' : AHeap} (hl : AHeap.le H H') : ∀ {ss : List St} {xs : List Value}, StL H ss xs → StL H' ss xs
  | [], _, h => h
  | s :: ss, xs, h => by
    obtain ⟨cs, ys, h1, h2, h3⟩ := h
    exact ⟨cs, ys, h1, h2.le hl, h3.le hl⟩
theorem StL.len {H : AHeap} : ∀ {ss : List St} {xs : List Value}, StL H ss xs → xs.length = ss.length * 8
  | [], _, h => by simp only [StL] at h; subst h; rfl
  | s :: ss, xs, h => by
    obtain ⟨cs, ys, rfl, h2, h3⟩ := h
    have := h2.len
    have := h3.len
    simp only [List.length_append, List.length_cons]; omega
theorem StL.app {H : AHeap} : ∀ {ss ts : List St} {xs ys : List Value}, StL H ss xs → StL H ts ys → StL H (ss ++ ts) (xs ++ ys)
  | [], ts, xs, ys, h, h' => by simp only [StL] at h; subst h; exact h'
  | s :: ss, ts, xs, ys, h, h' => by
    obtain ⟨cs, zs, rfl, h2, h3⟩ := h
    exact ⟨cs, zs ++ ys, by rw [List.append_assoc], h2, h3.app h'⟩
theorem StL.one {H : AHeap} {s : St} {cs : List Value} (h : StV H s cs) : StL H [s] cs := ⟨cs, [], by simp, h, rfl⟩
theorem StL.take {H : AHeap} : ∀ {ss : List St} {xs : List Value} (k : Nat), StL H ss xs → StL H (ss.take k) (xs.take (k * 8))
  | [], _, k, h => by simp only [StL] at h; subst h; simp [StL]
  | s :: ss, xs, 0, h => by simp [StL]
  | s :: ss, xs, k + 1, h => by
    obtain ⟨cs, ys, rfl, h2, h3⟩ := h
    refine ⟨cs, ys.take (k * 8), ?_, h2, h3.take k⟩
    have := h2.len
    rw [List.take_append, List.take_of_length_le (by omega), show (k + 1) * 8 - cs.length = k * 8 by omega]
theorem StL.r {H : AHeap} {A : Option Addr} : ∀ {ss : List St} {xs : List Value} {i : Nat}, StL H ss xs → (∀ j v, xs[j]? = some v → H.cell (adr A (i * 8 + j)) = some v) → StR H ss A i
  | [], _, _, _, _ => by simp only [StR]
  | s :: ss, xs, i, h, hf => by
    obtain ⟨cs, ys, rfl, h2, h3⟩ := h
    have h8 := h2.len
    simp only [StR]
    refine ⟨⟨cs, fun j hj => ?_, h2⟩, StL.r h3 fun j v hv => ?_⟩
    · rw [List.getElem?_eq_getElem (by omega)]
      exact hf j _ (by rw [List.getElem?_append_left (by omega), List.getElem?_eq_getElem (by omega)])
    · have := hf (8 + j) v (by rw [List.getElem?_append_right (by omega), show 8 + j - cs.length = j by omega]; exact hv)
      rw [show (i + 1) * 8 + j = i * 8 + (8 + j) by omega]
      exact this
theorem StL.str {H : AHeap} {A : Option Addr} {ss : List St} {xs : List Value} (h : StL H ss xs) (hf : Fl H A xs) : StR H ss A 0 := h.r fun j v hv => by
  rw [Nat.zero_mul, Nat.zero_add]; exact hf j v hv
/-- The cells of statements in the heap, as a row. -/
theorem StR.fl {H : AHeap} {A : Option Addr} : ∀ {ss : List St} {i : Nat}, StR H ss A i → ∃ xs, StL H ss xs ∧ ∀ j v, xs[j]? = some v → H.cell (adr A (i * 8 + j)) = some v
  | [], i, _ => ⟨[], rfl, fun j v h => by cases h⟩
  | s :: ss, i, h => by
    simp only [StR] at h
    obtain ⟨⟨cs, h0, h1⟩, h2⟩ := h
    obtain ⟨ys, g1, g2⟩ := h2.fl
    have h8 := h1.len
    refine ⟨cs ++ ys, ⟨cs, ys, rfl, h1, g1⟩, fun j v hv => ?_⟩
    rw [List.getElem?_append] at hv
    split at hv
    · rw [h0 j (by omega)]; exact hv
    · have := g2 _ _ hv
      rw [show i * 8 + j = (i + 1) * 8 + (j - cs.length) by omega]
      exact this
def plainE (e : Ex) : Bool := e.op == 0 && e.n == 0 && e.args.isEmpty
/-- A statement without blocks is as its kind needs. -/
def stSimple (s : St) : Bool :=
  s.body.isEmpty && s.els.isEmpty &&
  if s.kind = 1 then decide (0 ≤ s.var) && decide (s.var ≤ 3) && s.box == 0 && exprOk 5 s.e
  else if s.kind = 4 then s.var == 0 && decide (0 ≤ s.box) && decide (s.box ≤ 2) && exprOk 5 s.e
  else if s.kind = 5 then decide (0 ≤ s.var) && decide (s.var ≤ 3) && decide (0 ≤ s.box) && decide (s.box ≤ 2) && plainE s.e
  else if s.kind = 6 then s.var == 0 && s.box == 0 && plainE s.e
  else if s.kind = 7 then s.var == 0 && s.box == 0 && exprOk 5 s.e
  else false
def stBlock (s : St) : Bool := s.var == 0 && s.box == 0 && exprOk 5 s.e && (s.kind == 2 || s.els.isEmpty)
def stOk : Nat → St → Bool
  | 0, s => if s.kind = 2 ∨ s.kind = 3 then false else stSimple s
  | d + 1, s => if s.kind = 2 ∨ s.kind = 3 then stBlock s && s.body.all (stOk d) && s.els.all (stOk d) else stSimple s
mutual
/-- How many statements there are, those in blocks too. -/
def St.cnt : St → Nat
  | .mk _ _ _ _ body els => 1 + cntL body + cntL els
def cntL : List St → Nat
  | [] => 0
  | s :: ss => s.cnt + cntL ss
end
theorem St.cnt_eq (s : St) : s.cnt = 1 + cntL s.body + cntL s.els := by cases s; simp only [St.cnt, St.body, St.els]
theorem cntL_len : ∀ ss : List St, ss.length ≤ cntL ss
  | [] => by simp
  | s :: ss => by simp only [cntL, List.length_cons, St.cnt_eq]; have := cntL_len ss; omega
theorem cntL_app : ∀ ss ts : List St, cntL (ss ++ ts) = cntL ss + cntL ts
  | [], ts => by simp [cntL]
  | s :: ss, ts => by simp only [List.cons_append, cntL, cntL_app ss ts]; omega
theorem cntL_take {ss : List St} : ∀ {k : Nat} (h : k < ss.length), cntL (ss.take (k + 1)) = cntL (ss.take k) + ss[k].cnt := by
  induction ss with
  | nil => intro k h; cases h
  | cons e es ih =>
    intro k h
    cases k with
    | zero => simp [cntL]
    | succ k =>
      have := ih (k := k) (by simpa using h)
      simp only [List.take_succ_cons, cntL, List.getElem_cons_succ, this]
      omega
theorem cntL_le {ss : List St} (k : Nat) : cntL (ss.take k) ≤ cntL ss := by
  induction ss generalizing k with
  | nil => simp [cntL]
  | cons e es ih =>
    cases k with
    | zero => simp [cntL]
    | succ k => simp only [List.take_succ_cons, cntL]; have := ih k; omega
theorem cntL_at {ss : List St} {k : Nat} (h : k < ss.length) : ss[k].cnt ≤ cntL ss := by
  have h1 := cntL_take h
  have h2 := cntL_le (ss := ss) (k + 1)
  omega
def stsOk (ss : List St) : Bool := ss.all (stOk 3) && decide (cntL ss ≤ 16)
end Go.Proofs.Ytfjhjfddgdokgaa
namespace Go.Proofs.Ytfjhjfddgdokgaa
set_option linter.all false
open Go Go.RowKit Go.Joins Go.ChangeShapes Go.WideShapes Go.ChangeAt Go.Deep
set_option linter.unusedVariables false
section
variable {H : Type} {enc : TypeId × Value → H} {P : Program} {w : World} {base : Nat} {spare : Nat → Bool} {held : Bool}
theorem open_sl {t s : TypeId} (hs : P.underlying s = some (.slice t)) (hC : P.cellsOf t = 8) {fuel : Nat} (ih : ∀ m, m < fuel → ∀ (cs : List Value) (x : DataW H × List MemPlace), DataW.trod enc P w base spare held m t cs = some x → ∃ e : St, StV (heapOf w) e cs)
    {v : Value} {x : DataW H × List MemPlace} (h : DataW.trod enc P w base spare held fuel s [v] = some x) : ∃ (ss : List St) (A : Option Addr) (c : Nat), v = .slice A ss.length c ∧ ss.length ≤ maxLen ∧ StR (heapOf w) ss A 0 := by
  rcases DataW.trod_slice hs h with ⟨hc, _⟩ | ⟨a, len, cap, elems, rest, m, hfm, hc, _, hb, hl, hm, hel, hat, _, _⟩
  · simp only [List.cons.injEq, and_true] at hc
    subst hc
    exact ⟨[], none, 0, rfl, Nat.zero_le _, by simp only [StR]⟩
  · simp only [List.cons.injEq, and_true] at hc
    subst hc
    have hq : ∀ d k, k + d = len → ∃ es : List St, es.length = d ∧ StR (heapOf w) es (some a) k := by
      intro d
      induction d with
      | zero => intro k hk; exact ⟨[], rfl, by simp only [StR]⟩
      | succ d ihd =>
        intro k hk
        obtain ⟨es, hes, hR⟩ := ihd (k + 1) (by omega)
        have hk' := hat k (by omega)
        rw [hC, List.getElem?_eq_getElem (by omega)] at hk'
        obtain ⟨cs', hcs', ht'⟩ := Option.bind_eq_some_iff.1 hk'
        obtain ⟨e, he⟩ := ih m (by omega) cs' _ ht'
        obtain ⟨_, hcl, hcat⟩ := World.cells?_some hcs'
        refine ⟨e :: es, by simp [hes], ?_⟩
        simp only [StR]
        refine ⟨⟨cs', fun j hj => ?_, he⟩, hR⟩
        have g0 := hcat j (by omega)
        rw [Go.Deep.add_add] at g0
        rw [List.getElem?_eq_getElem (by omega)] at g0 ⊢
        have := heap_cell g0
        exact this
    obtain ⟨es, hes, hR⟩ := hq len 0 (by omega)
    exact ⟨es, some a, cap, by rw [hes], by rw [hes]; omega, hR⟩
theorem open_stmt {t s u te : TypeId} {f0 f1 f2 f3 f4 f5 : Field} (ht : P.underlying t = some (.struct #[f0, f1, f2, f3, f4, f5])) (hs : P.underlying s = some (.slice t)) (hu : P.underlying u = some (.int .i64))
    (hf : f0.type = u ∧ f1.type = u ∧ f2.type = u ∧ f3.type = te ∧ f4.type = s ∧ f5.type = s) (ho : f0.offset = 0 ∧ f1.offset = 1 ∧ f2.offset = 2 ∧ f3.offset = 3 ∧ f4.offset = 6 ∧ f5.offset = 7)
    (hC : P.cellsOf t = 8) (hcu : P.cellsOf u = 1) (hcs : P.cellsOf s = 1) (hce : P.cellsOf te = 3)
    (ex : ∀ (fuel : Nat) (cs : List Value) (x : DataW H × List MemPlace), DataW.trod enc P w base spare held fuel te cs = some x → ∃ e : Ex, ExV (heapOf w) e cs) :
    ∀ (fuel : Nat) (cs : List Value) (x : DataW H × List MemPlace), DataW.trod enc P w base spare held fuel t cs = some x → ∃ e : St, StV (heapOf w) e cs := by
  intro fuel
  induction fuel using Nat.strongRecOn with
  | ind fuel ih =>
    intro cs x h
    obtain ⟨xs, n, hfn, _, hlen, hxl, hg⟩ := DataW.trod_struct ht h
    rw [hC] at hlen
    match cs, hlen with
    | [c0, c1, c2, c3, c4, c5, c6, c7], _ =>
      match xs, hxl with
      | [y0, y1, y2, y3, y4, y5], _ =>
        have h0 := hg 0 f0 rfl
        have h1 := hg 1 f1 rfl
        have h2 := hg 2 f2 rfl
        have h3 := hg 3 f3 rfl
        have h4 := hg 4 f4 rfl
        have h5 := hg 5 f5 rfl
        rw [hf.1, ho.1, hcu] at h0
        rw [hf.2.1, ho.2.1, hcu] at h1
        rw [hf.2.2.1, ho.2.2.1, hcu] at h2
        rw [hf.2.2.2.1, ho.2.2.2.1, hce] at h3
        rw [hf.2.2.2.2.1, ho.2.2.2.2.1, hcs] at h4
        rw [hf.2.2.2.2.2, ho.2.2.2.2.2, hcs] at h5
        simp only [List.drop_zero, List.drop_succ_cons, List.take_succ_cons, List.take_zero, List.getElem?_cons_zero, List.getElem?_cons_succ] at h0 h1 h2 h3 h4 h5
        obtain ⟨n0, e0, _, _⟩ := DataW.trod_int hu h0
        obtain ⟨n1, e1, _, _⟩ := DataW.trod_int hu h1
        obtain ⟨n2, e2, _, _⟩ := DataW.trod_int hu h2
        simp only [List.cons.injEq, and_true] at e0 e1 e2
        subst e0 e1 e2
        obtain ⟨e, he⟩ := ex _ _ _ h3
        obtain ⟨A0, d0, hec, hel, heR⟩ := he.open_
        simp only [List.cons.injEq, and_true] at hec
        obtain ⟨rfl, rfl, rfl⟩ := hec
        subst hfn
        obtain ⟨b1, A1, d1, rfl, m1, R1⟩ := open_sl hs hC (fun m hm => ih m (by omega)) h4
        obtain ⟨b2, A2, d2, rfl, m2, R2⟩ := open_sl hs hC (fun m hm => ih m (by omega)) h5
        refine ⟨.mk n0 n1 n2 e b1 b2, ?_⟩
        simp only [StV]
        exact ⟨A0, d0, A1, d1, A2, d2, rfl, hel, heR, ⟨m1, R1⟩, m2, R2⟩
theorem open_stmts {t s : TypeId} (hs : P.underlying s = some (.slice t)) (hC : P.cellsOf t = 8) (op : ∀ (fuel : Nat) (cs : List Value) (x : DataW H × List MemPlace), DataW.trod enc P w base spare held fuel t cs = some x → ∃ e : St, StV (heapOf w) e cs)
    {fuel : Nat} {v : Value} {x : DataW H × List MemPlace} (h : DataW.trod enc P w base spare held fuel s [v] = some x) : ∃ (ss : List St) (A : Option Addr) (c : Nat), v = .slice A ss.length c ∧ ss.length ≤ maxLen ∧ StR (heapOf w) ss A 0 :=
  open_sl hs hC (fun m _ => op m) h
end
end Go.Proofs.Ytfjhjfddgdokgaa
namespace Go.Proofs.Ytfjhjfddgdokgaa
set_option linter.all false
open Go Go.RowKit
set_option maxRecDepth 100000
variable (w0 : World)
theorem z20 : (0 ≤ (0 : Int) ∧ (0 : Int) < ((2 : Nat) : Int)) = True := by decide
theorem z21 : (0 ≤ (1 : Int) ∧ (1 : Int) < ((2 : Nat) : Int)) = True := by decide
theorem z2e : (((2 : Nat) : Int) == 2) = true := by decide
theorem ok_two {d : Nat} {op n : Int} {x y : Ex} : exprOk (d + 1) (.mk op n [x, y]) = (!(op == 0) && !(op == 13) && opValid op && n == 0 && exprOk d x && exprOk d y) := by
  simp only [exprOk, opValid, List.isEmpty_cons, Bool.and_false]
  by_cases h0 : op = 0
  · simp [h0]
  · by_cases h1 : op = 13
    · simp [h1]
    · have e0 : (op == 0) = false := by simp [h0]
      have e1 : (op == 13) = false := by simp [h1]
      simp [h0, h1, e0, e1, Bool.and_assoc]
theorem ok_more {d : Nat} {op n : Int} {args : List Ex} (h : args.length ≠ 2) : exprOk (d + 1) (.mk op n args) = ((op == 0 && decide (0 ≤ n) && decide (n ≤ 99999) || op == 13 && decide (0 ≤ n) && decide (n < 4)) && args.length == 0) := by
  have e2 : args.isEmpty = (args.length == 0) := by cases args <;> simp
  match args, h with
  | [], _ | [_], _ | _ :: _ :: _ :: _, _ =>
    simp only [exprOk]
    by_cases h0 : op = 0
    · simp [h0]
    · by_cases h1 : op = 13
      · have e3 : decide (n ≤ 3) = decide (n < 4) := decide_eq_decide.2 (by omega)
        simp only [h1, e3]; simp
      · have e0 : (op == 0) = false := by simp [h0]
        have e1 : (op == 13) = false := by simp [h1]
        simp [h0, h1, e0, e1]
theorem ok_zero (e : Ex) : exprOk 0 e = false := by cases e; rfl
theorem exprValid_ok (d : Nat) : ∀ (e : Ex) (a : Option Addr) (c : Nat) (H : AHeap) (K : Value → AHeap → Prop), d ≤ 1000 → ExV H e [.int .i64 e.op, .int .i64 e.n, .slice a e.args.length c] → K (.bool (exprOk d e)) H →
    ACalls Try.prog w0 214 [.agg #[.int .i64 e.op, .int .i64 e.n, .slice a e.args.length c], .int .i64 d] H K := by
  induction d with
  | zero =>
    intro ⟨op, n, args⟩ a c H K hd hv h
    simp only [Ex.op, Ex.n, Ex.args] at hv ⊢
    simp only [exprOk] at h
    have g2 : decide (((0 : Nat) : Int) > 1) = false := by decide
    have g3 : decide (((0 : Nat) : Int) > 0) = false := by decide
    refine acalls_of_sx mix Try.func214 of214 (by simp [ir214]) ?_; rw [ir214]; (try delta qT qI qC qO qM qG)
    repeat' (first | simp -implicitDefEqProofs only [zG1,zG2,zG3,zG4,zG5,zG6,zG7,eq_self,resV,rval,X.val,binv,fillL,setR,↓reduceIte,Nat.reduceEqDiff,Nat.reduceAdd,Nat.reduceMul,Nat.reduceLeDiff,Nat.reduceLT,Nat.reduceSub,reduceCtorEq,zGr, g2, g3] | ((with_reducible refine rows_intro (fun _ hb => ?_)); try simp only [set_none, ne_eq] at hb) | ((with_reducible refine new_intro (fun _ hb => ?_)); try simp only [set_none, ne_eq] at hb) | (with_reducible refine draw_same ?_) | ((with_reducible refine gd_split ?_ (fun _ => ?_) (fun _ => ?_)); exact rfl) | ((with_reducible refine td_split ?_ (fun _ => ?_) (fun _ => ?_)); exact rfl) | (with_reducible refine c_split (fun _ => ?_) (fun _ => ?_)) | (with_reducible refine opValid_ok _ _ _ _ ?_))
    all_goals exact ⟨H, (by simp -implicitDefEqProofs only [le_set_true, le_refl_true, eq_self, *]), h⟩
  | succ d ih =>
    intro ⟨op, n, args⟩ a c H K hd hv h
    obtain ⟨_, _, he, hm, hR⟩ := hv.open_
    simp only [List.cons.injEq, and_true, Value.slice.injEq, true_and] at he
    obtain ⟨rfl, rfl⟩ := he
    simp only [Ex.op, Ex.n, Ex.args] at hR hm hv ⊢
    have g2 : decide (((d + 1 : Nat) : Int) > 0) = true := by simp <;> omega
    by_cases h2 : args.length = 2
    · obtain ⟨x, y, rfl⟩ : ∃ x y, args = [x, y] := by
        match args, h2 with
        | [x, y], _ => exact ⟨x, y, rfl⟩
      rw [ok_two] at h
      obtain ⟨a', c', b', d', hc, hx, hy⟩ := hR.two
      have g1 : IntKind.i64.wrap (((d + 1 : Nat) : Int) - 1) = (d : Int) := by rw [wrap_i64 (by omega) (by omega)]; omega
      have g3 : (((2 : Nat) : Int) == 0) = false := by decide
      have hz : d = 0 → exprOk d x = false := by rintro rfl; exact ok_zero x
      refine acalls_of_sx mix Try.func214 of214 (by simp [ir214]) ?_; rw [ir214]; (try delta qT qI qC qO qM qG)
      repeat' (first | simp -implicitDefEqProofs only [zG1,zG2,zG3,zG4,zG5,zG6,zG7,eq_self,resV,rval,X.val,binv,fillL,setR,↓reduceIte,Nat.reduceEqDiff,Nat.reduceAdd,Nat.reduceMul,Nat.reduceLeDiff,Nat.reduceLT,Nat.reduceSub,reduceCtorEq,zGr, z20, z21, z2e, g1, g2, g3, Int.toNat_zero, Int.toNat_one, Nat.zero_mul, Nat.one_mul, cell_old, *] | ((with_reducible refine rows_intro (fun _ hb => ?_)); try simp only [set_none, ne_eq] at hb) | ((with_reducible refine new_intro (fun _ hb => ?_)); try simp only [set_none, ne_eq] at hb) | (with_reducible refine draw_same ?_) | ((with_reducible refine gd_split ?_ (fun _ => ?_) (fun _ => ?_)); exact rfl) | ((with_reducible refine td_split ?_ (fun _ => ?_) (fun _ => ?_)); exact rfl) | (with_reducible refine c_split (fun _ => ?_) (fun _ => ?_)) | (with_reducible refine opValid_ok _ _ _ _ ?_) | (with_reducible refine ih x a' c' _ _ (by omega) (hx.le ((AHeap.le.refl H).fresh ‹_› _)) ?_) | (with_reducible refine ih y b' d' _ _ (by omega) (hy.le ((AHeap.le.refl H).fresh ‹_› _)) ?_))
      all_goals refine ⟨H, (by simp -implicitDefEqProofs only [le_set_true, le_refl_true, eq_self, *]), kb h ?_⟩
      all_goals clear h hv hR hc hx hy ih
      all_goals (try simp only [beq_iff_eq, beq_eq_false_iff_ne, bne_iff_ne, bne_eq_false_iff_eq, decide_eq_true_eq, decide_eq_false_iff_not, ne_eq, Bool.not_eq_true, Bool.not_eq_false, Bool.not_eq_eq_eq_not, Bool.not_true, Bool.not_false, Int.not_lt, Int.not_le, ge_iff_le, gt_iff_lt] at *)
      all_goals grind
    · have g3 : (((args.length : Nat) : Int) == 2) = false := by simp; omega
      rw [ok_more h2] at h
      refine acalls_of_sx mix Try.func214 of214 (by simp [ir214]) ?_; rw [ir214]; (try delta qT qI qC qO qM qG)
      repeat' (first | simp -implicitDefEqProofs only [zG1,zG2,zG3,zG4,zG5,zG6,zG7,eq_self,resV,rval,X.val,binv,fillL,setR,↓reduceIte,Nat.reduceEqDiff,Nat.reduceAdd,Nat.reduceMul,Nat.reduceLeDiff,Nat.reduceLT,Nat.reduceSub,reduceCtorEq,zGr, g2, g3] | ((with_reducible refine rows_intro (fun _ hb => ?_)); try simp only [set_none, ne_eq] at hb) | ((with_reducible refine new_intro (fun _ hb => ?_)); try simp only [set_none, ne_eq] at hb) | (with_reducible refine draw_same ?_) | ((with_reducible refine gd_split ?_ (fun _ => ?_) (fun _ => ?_)); exact rfl) | ((with_reducible refine td_split ?_ (fun _ => ?_) (fun _ => ?_)); exact rfl) | (with_reducible refine c_split (fun _ => ?_) (fun _ => ?_)) | (with_reducible refine opValid_ok _ _ _ _ ?_))
      all_goals refine ⟨H, (by simp -implicitDefEqProofs only [le_set_true, le_refl_true, eq_self, *]), kb h ?_⟩
      all_goals clear h hv hR ih
      all_goals (try simp only [beq_iff_eq, beq_eq_false_iff_ne, bne_iff_ne, bne_eq_false_iff_eq, decide_eq_true_eq, decide_eq_false_iff_not, ne_eq, Bool.not_eq_true, Bool.not_eq_false, Bool.not_eq_eq_eq_not, Bool.not_true, Bool.not_false, Int.not_lt, Int.not_le, ge_iff_le, gt_iff_lt] at *)
      all_goals grind
variable (H : AHeap) (K : Value → AHeap → Prop)
theorem exprValid5_ok' (e : Ex) (a : Option Addr) (c : Nat) (hv : ExV H e [.int .i64 e.op, .int .i64 e.n, .slice a e.args.length c]) (h : K (.bool (exprOk 5 e)) H) :
    ACalls Try.prog w0 214 [.agg #[.int .i64 e.op, .int .i64 e.n, .slice a e.args.length c], .int .i64 5] H K := exprValid_ok w0 5 e a c H K (by decide) hv h
theorem exprValid5_ok (e : Ex) (a : Option Addr) (c : Nat) (hv : ExV H e [.int .i64 e.op, .int .i64 e.n, .slice a e.args.length c]) (h : K (.bool (exprOk 5 e)) H) :
    ACalls Try.prog w0 208 [.agg #[.int .i64 e.op, .int .i64 e.n, .slice a e.args.length c]] H K := by
  refine acalls_of_sx mix Try.func208 of208 (by simp [ir208]) ?_; rw [ir208]; (try delta qT qI qC qO qM qG)
  repeat' (first | simp -implicitDefEqProofs only [zG1,zG2,zG3,zG4,zG5,zG6,zG7,eq_self,resV,rval,X.val,binv,fillL,setR,↓reduceIte,Nat.reduceEqDiff,Nat.reduceAdd,Nat.reduceMul,Nat.reduceLeDiff,Nat.reduceLT,Nat.reduceSub,reduceCtorEq,zGr, *] | ((with_reducible refine rows_intro (fun _ hb => ?_)); try simp only [set_none, ne_eq] at hb) | ((with_reducible refine new_intro (fun _ hb => ?_)); try simp only [set_none, ne_eq] at hb) | (with_reducible refine draw_same ?_) | ((with_reducible refine gd_split ?_ (fun _ => ?_) (fun _ => ?_)); exact rfl) | ((with_reducible refine td_split ?_ (fun _ => ?_) (fun _ => ?_)); exact rfl) | (with_reducible refine c_split (fun _ => ?_) (fun _ => ?_)) | (with_reducible refine exprValid5_ok' _ _ _ e a c (hv.le ((AHeap.le.refl H).fresh ‹_› _)) ?_))
  exact ⟨H, (by simp -implicitDefEqProofs only [le_set_true, le_refl_true, eq_self, *]), h⟩
theorem l4Ok_ok (d : Nat) : ∀ (e : Ex) (a : Option Addr) (c : Nat) (H : AHeap) (K : Value → AHeap → Prop), d ≤ 1000 → ExV H e [.int .i64 e.op, .int .i64 e.n, .slice a e.args.length c] → K (.bool (exprOk d e)) H →
    ACalls Try.prog w0 206 [.agg #[.int .i64 e.op, .int .i64 e.n, .slice a e.args.length c], .int .i64 d] H K := by
  induction d with
  | zero =>
    intro ⟨op, n, args⟩ a c H K hd hv h
    simp only [Ex.op, Ex.n, Ex.args] at hv ⊢
    simp only [exprOk] at h
    have g2 : decide (((0 : Nat) : Int) < 1) = true := by decide
    refine acalls_of_sx mix Try.func206 of206 (by simp [ir206]) ?_; rw [ir206]; (try delta qT qI qC qO qM qG)
    repeat' (first | simp -implicitDefEqProofs only [zG1,zG2,zG3,zG4,zG5,zG6,zG7,eq_self,resV,rval,X.val,binv,fillL,setR,↓reduceIte,Nat.reduceEqDiff,Nat.reduceAdd,Nat.reduceMul,Nat.reduceLeDiff,Nat.reduceLT,Nat.reduceSub,reduceCtorEq,zGr, g2] | ((with_reducible refine rows_intro (fun _ hb => ?_)); try simp only [set_none, ne_eq] at hb) | ((with_reducible refine new_intro (fun _ hb => ?_)); try simp only [set_none, ne_eq] at hb) | (with_reducible refine draw_same ?_) | ((with_reducible refine gd_split ?_ (fun _ => ?_) (fun _ => ?_)); exact rfl) | ((with_reducible refine td_split ?_ (fun _ => ?_) (fun _ => ?_)); exact rfl) | (with_reducible refine c_split (fun _ => ?_) (fun _ => ?_)) | (with_reducible refine opValidS_ok _ _ _ _ ?_))
    all_goals exact ⟨H, (by simp -implicitDefEqProofs only [le_set_true, le_refl_true, eq_self, *]), h⟩
  | succ d ih =>
    intro ⟨op, n, args⟩ a c H K hd hv h
    obtain ⟨_, _, he, hm, hR⟩ := hv.open_
    simp only [List.cons.injEq, and_true, Value.slice.injEq, true_and] at he
    obtain ⟨rfl, rfl⟩ := he
    simp only [Ex.op, Ex.n, Ex.args] at hR hm hv ⊢
    have g2 : decide (((d + 1 : Nat) : Int) < 1) = false := by simp <;> omega
    by_cases h2 : args.length = 2
    · obtain ⟨x, y, rfl⟩ : ∃ x y, args = [x, y] := by
        match args, h2 with
        | [x, y], _ => exact ⟨x, y, rfl⟩
      rw [ok_two] at h
      obtain ⟨a', c', b', d', hc, hx, hy⟩ := hR.two
      have g1 : IntKind.i64.wrap (((d + 1 : Nat) : Int) - 1) = (d : Int) := by rw [wrap_i64 (by omega) (by omega)]; omega
      have g3 : (((2 : Nat) : Int) == 0) = false := by decide
      refine acalls_of_sx mix Try.func206 of206 (by simp [ir206]) ?_; rw [ir206]; (try delta qT qI qC qO qM qG)
      repeat' (first | simp -implicitDefEqProofs only [zG1,zG2,zG3,zG4,zG5,zG6,zG7,eq_self,resV,rval,X.val,binv,fillL,setR,↓reduceIte,Nat.reduceEqDiff,Nat.reduceAdd,Nat.reduceMul,Nat.reduceLeDiff,Nat.reduceLT,Nat.reduceSub,reduceCtorEq,zGr, z20, z21, z2e, g1, g2, g3, Int.toNat_zero, Int.toNat_one, Nat.zero_mul, Nat.one_mul, cell_old, *] | ((with_reducible refine rows_intro (fun _ hb => ?_)); try simp only [set_none, ne_eq] at hb) | ((with_reducible refine new_intro (fun _ hb => ?_)); try simp only [set_none, ne_eq] at hb) | (with_reducible refine draw_same ?_) | ((with_reducible refine gd_split ?_ (fun _ => ?_) (fun _ => ?_)); exact rfl) | ((with_reducible refine td_split ?_ (fun _ => ?_) (fun _ => ?_)); exact rfl) | (with_reducible refine c_split (fun _ => ?_) (fun _ => ?_)) | (with_reducible refine opValidS_ok _ _ _ _ ?_) | (with_reducible refine l6In_ok _ _ _ _ _ _ ?_) | (with_reducible refine ih x a' c' _ _ (by omega) (hx.le ((AHeap.le.refl H).fresh ‹_› _)) ?_) | (with_reducible refine ih y b' d' _ _ (by omega) (hy.le ((AHeap.le.refl H).fresh ‹_› _)) ?_))
      all_goals refine ⟨H, (by simp -implicitDefEqProofs only [le_set_true, le_refl_true, eq_self, *]), kb h ?_⟩
      all_goals clear h hv hR hc hx hy ih
      all_goals (try simp only [beq_iff_eq, beq_eq_false_iff_ne, bne_iff_ne, bne_eq_false_iff_eq, decide_eq_true_eq, decide_eq_false_iff_not, ne_eq, Bool.not_eq_true, Bool.not_eq_false, Bool.not_eq_eq_eq_not, Bool.not_true, Bool.not_false, Int.not_lt, Int.not_le, ge_iff_le, gt_iff_lt] at *)
      all_goals grind
    · have g3 : (((args.length : Nat) : Int) == 2) = false := by simp; omega
      rw [ok_more h2] at h
      refine acalls_of_sx mix Try.func206 of206 (by simp [ir206]) ?_; rw [ir206]; (try delta qT qI qC qO qM qG)
      repeat' (first | simp -implicitDefEqProofs only [zG1,zG2,zG3,zG4,zG5,zG6,zG7,eq_self,resV,rval,X.val,binv,fillL,setR,↓reduceIte,Nat.reduceEqDiff,Nat.reduceAdd,Nat.reduceMul,Nat.reduceLeDiff,Nat.reduceLT,Nat.reduceSub,reduceCtorEq,zGr, g2, g3] | ((with_reducible refine rows_intro (fun _ hb => ?_)); try simp only [set_none, ne_eq] at hb) | ((with_reducible refine new_intro (fun _ hb => ?_)); try simp only [set_none, ne_eq] at hb) | (with_reducible refine draw_same ?_) | ((with_reducible refine gd_split ?_ (fun _ => ?_) (fun _ => ?_)); exact rfl) | ((with_reducible refine td_split ?_ (fun _ => ?_) (fun _ => ?_)); exact rfl) | (with_reducible refine c_split (fun _ => ?_) (fun _ => ?_)) | (with_reducible refine opValidS_ok _ _ _ _ ?_) | (with_reducible refine l6In_ok _ _ _ _ _ _ ?_))
      all_goals refine ⟨H, (by simp -implicitDefEqProofs only [le_set_true, le_refl_true, eq_self, *]), kb h ?_⟩
      all_goals clear h hv hR ih
      all_goals (try simp only [beq_iff_eq, beq_eq_false_iff_ne, bne_iff_ne, bne_eq_false_iff_eq, decide_eq_true_eq, decide_eq_false_iff_not, ne_eq, Bool.not_eq_true, Bool.not_eq_false, Bool.not_eq_eq_eq_not, Bool.not_true, Bool.not_false, Int.not_lt, Int.not_le, ge_iff_le, gt_iff_lt] at *)
      all_goals grind
theorem exprValid5S_ok' (e : Ex) (a : Option Addr) (c : Nat) (hv : ExV H e [.int .i64 e.op, .int .i64 e.n, .slice a e.args.length c]) (h : K (.bool (exprOk 5 e)) H) :
    ACalls Try.prog w0 206 [.agg #[.int .i64 e.op, .int .i64 e.n, .slice a e.args.length c], .int .i64 5] H K := l4Ok_ok w0 5 e a c H K (by decide) hv h
theorem exprValid5S_ok (e : Ex) (a : Option Addr) (c : Nat) (hv : ExV H e [.int .i64 e.op, .int .i64 e.n, .slice a e.args.length c]) (h : K (.bool (exprOk 5 e)) H) :
    ACalls Try.prog w0 197 [.agg #[.int .i64 e.op, .int .i64 e.n, .slice a e.args.length c]] H K := by
  refine acalls_of_sx mix Try.func197 of197 (by simp [ir197]) ?_; rw [ir197]; (try delta qT qI qC qO qM qG)
  repeat' (first | simp -implicitDefEqProofs only [zG1,zG2,zG3,zG4,zG5,zG6,zG7,eq_self,resV,rval,X.val,binv,fillL,setR,↓reduceIte,Nat.reduceEqDiff,Nat.reduceAdd,Nat.reduceMul,Nat.reduceLeDiff,Nat.reduceLT,Nat.reduceSub,reduceCtorEq,zGr, *] | ((with_reducible refine rows_intro (fun _ hb => ?_)); try simp only [set_none, ne_eq] at hb) | ((with_reducible refine new_intro (fun _ hb => ?_)); try simp only [set_none, ne_eq] at hb) | (with_reducible refine draw_same ?_) | ((with_reducible refine gd_split ?_ (fun _ => ?_) (fun _ => ?_)); exact rfl) | ((with_reducible refine td_split ?_ (fun _ => ?_) (fun _ => ?_)); exact rfl) | (with_reducible refine c_split (fun _ => ?_) (fun _ => ?_)) | (with_reducible refine exprValid5S_ok' _ _ _ e a c (hv.le ((AHeap.le.refl H).fresh ‹_› _)) ?_))
  exact ⟨H, (by simp -implicitDefEqProofs only [le_set_true, le_refl_true, eq_self, *]), h⟩
theorem ok_args {d : Nat} {op n : Int} {args : List Ex} (h : exprOk (d + 1) (.mk op n args) = true) : (args = [] ∧ (op = 0 ∨ op = 13)) ∨ ∃ x y, args = [x, y] ∧ exprOk d x = true ∧ exprOk d y = true ∧ 1 ≤ op ∧ op ≤ 12 := by
  simp only [exprOk] at h
  split at h
  · simp at h; exact .inl ⟨h.2, .inl ‹_›⟩
  · split at h
    · simp at h; exact .inl ⟨h.2, .inr ‹_›⟩
    · simp only [Bool.and_eq_true, decide_eq_true_eq] at h
      obtain ⟨⟨⟨h1, h2⟩, _⟩, h3⟩ := h
      split at h3
      · simp only [Bool.and_eq_true] at h3
        exact .inr ⟨_, _, rfl, h3.1, h3.2, h1, h2⟩
      · cases h3
end Go.Proofs.Ytfjhjfddgdokgaa
namespace Go.Proofs.Ytfjhjfddgdokgaa
set_option linter.all false
open Go Go.RowKit
open Classical in
/-- The heap without some blocks. -/
noncomputable def AHeap.no (H : AHeap) (B : Nat → Prop) : AHeap := fun x => if B x then none else H x
theorem no_le (H : AHeap) (B : Nat → Prop) : AHeap.le (H.no B) H := fun x k hx => by
  simp only [AHeap.no] at hx
  split at hx
  · cases hx
  · exact ⟨k, hx, rfl, rfl, rfl, fun _ _ h => h⟩
theorem no_in {H : AHeap} {B : Nat → Prop} {x : Nat} (h : B x) : H.no B x = none := by simp [AHeap.no, h]
theorem no_out {H : AHeap} {B : Nat → Prop} {x : Nat} (h : ¬ B x) : H.no B x = H x := by simp [AHeap.no, h]
theorem le_no {A H : AHeap} {B : Nat → Prop} (hl : AHeap.le A H) (hB : ∀ x, B x → A x = none) : AHeap.le A (H.no B) := fun x k hx => by
  obtain ⟨k', hk', r⟩ := hl x k hx
  have : ¬ B x := fun h => by rw [hB x h] at hx; cases hx
  exact ⟨k', by rw [no_out this]; exact hk', r⟩
theorem Own.no {A H : AHeap} {t : TypeId} {s : Nat} {v : Value} {n : Nat} {xs : List Value} {B : Nat → Prop} (h : Own A t s v n xs H) (hB : ∀ x, B x → A x ≠ none) : Own (A.no B) t s v n xs (H.no B) := by
  rcases h with ⟨rfl, rfl, rfl, rfl⟩ | ⟨b, cap, rfl, hb, hn, hc, hl, rfl⟩
  · exact .inl ⟨rfl, rfl, rfl, rfl⟩
  · have hb' : ¬ B b := fun h => hB b h hb
    refine .inr ⟨b, cap, rfl, by rw [no_out hb']; exact hb, hn, hc, hl, ?_⟩
    funext x
    by_cases hx : x = b
    · subst hx; rw [no_out hb', set_same, set_same]
    · rw [set_ne hx]
      by_cases hBx : B x
      · rw [no_in hBx, no_in hBx]
      · rw [no_out hBx, no_out hBx, set_ne hx]
theorem Own.cut {A H H' : AHeap} {t : TypeId} {s : Nat} {v : Value} {n : Nat} {xs : List Value} (h : Own A t s v n xs H) (hl : AHeap.le H H') :
    ∃ (P : Nat → Prop) (H'' : AHeap), (∀ x, P x → A x = none ∧ H x ≠ none) ∧ AHeap.le H'' H' ∧ Own (H'.no P) t s v n xs H'' := by
  rcases h with ⟨rfl, rfl, rfl, rfl⟩ | ⟨b, cap, rfl, hb, hn, hc, hlen, rfl⟩
  · refine ⟨fun _ => False, H'.no fun _ => False, fun x h => h.elim, no_le _ _, .inl ⟨rfl, rfl, rfl, rfl⟩⟩
  · refine ⟨fun x => x = b, (H'.no fun x => x = b).set b ⟨xs, true, t, cap * s⟩, fun x hx => ⟨by rw [hx]; exact hb, by rw [hx, set_same]; simp⟩, fun x k hx => ?_, .inr ⟨b, cap, rfl, no_in rfl, hn, hc, hlen, rfl⟩⟩
    by_cases hxb : x = b
    · subst hxb
      rw [set_same] at hx
      obtain rfl := Option.some.inj hx
      exact hl x _ (set_same _ _ _)
    · rw [set_ne hxb, no_out (B := fun x => x = b) hxb] at hx
      exact ⟨k, hx, rfl, rfl, rfl, fun _ _ h => h⟩
theorem ACalls.mono {P : Program} {w0 : World} {f : Nat} {args : List Value} {H H' : AHeap} {K : Value → AHeap → Prop} (h : ACalls P w0 f args H' K) (hl : AHeap.le H' H) : ACalls P w0 f args H K :=
  ⟨h.1, fun w hs => h.2 w (hs.mono hl)⟩
end Go.Proofs.Ytfjhjfddgdokgaa
namespace Go.Proofs.Ytfjhjfddgdokgaa
set_option linter.all false
open Go Go.RowKit
/-- C knows at block b at least what k says. -/
def Kn (C : AHeap) (b : Nat) (k : Blk) : Prop := ∃ k' : Blk, C b = some k' ∧ k'.own = k.own ∧ k'.ty = k.ty ∧ k'.cap = k.cap ∧ ∀ (j : Nat) (v : Value), k.cells[j]? = some v → k'.cells[j]? = some v
/-- C' knows what C knew, but for the blocks bs. -/
def Chg (C C' : AHeap) (bs : List Nat) : Prop := ∀ (b : Nat) (k : Blk), ¬ b ∈ bs → C b = some k → Kn C' b k
/-- v is a slice of n elements of the call's own, in the blocks bs (one, or none). -/
def Rw (C : AHeap) (t : TypeId) (sz : Nat) (v : Value) (n : Nat) (xs : List Value) (bs : List Nat) : Prop :=
  (v = .slice none 0 0 ∧ n = 0 ∧ xs = [] ∧ bs = []) ∨
  ∃ b cap, v = .slice (some ⟨b, 0, none⟩) n cap ∧ bs = [b] ∧ n ≤ cap ∧ cap ≤ maxLen ∧ xs.length = n * sz ∧ Kn C b ⟨xs, true, t, cap * sz⟩
/-- None of these blocks is known. -/
def New (H : AHeap) (bs : List Nat) : Prop := ∀ b, b ∈ bs → H b = none
section
variable {C C' C'' H : AHeap} {b b' : Nat} {k k' : Blk} {bs bs' : List Nat}
theorem Kn.of (h : C b = some k) : Kn C b k := ⟨k, h, rfl, rfl, rfl, fun _ _ h => h⟩
theorem Kn.trans (h : Kn C b k) (hl : AHeap.le C C') : Kn C' b k := by
  obtain ⟨k1, h1, o1, t1, c1, r1⟩ := h
  obtain ⟨k2, h2, o2, t2, c2, r2⟩ := hl b k1 h1
  exact ⟨k2, h2, o2.trans o1, t2.trans t1, c2.trans c1, fun j v hv => r2 j v (r1 j v hv)⟩
theorem Kn.ne (h : Kn C b k) : C b ≠ none := by obtain ⟨k', h', _⟩ := h; rw [h']; simp
theorem Kn.ne_new (h : Kn C b k) (hb : C b' = none) : ¬ b = b' := by rintro rfl; exact h.ne hb
theorem Kn.chg (h : Kn C b k) (hc : Chg C C' bs) (hb : ¬ b ∈ bs) : Kn C' b k := by
  obtain ⟨k1, h1, o1, t1, c1, r1⟩ := h
  obtain ⟨k2, h2, o2, t2, c2, r2⟩ := hc b k1 hb h1
  exact ⟨k2, h2, o2.trans o1, t2.trans t1, c2.trans c1, fun j v hv => r2 j v (r1 j v hv)⟩
theorem Kn.same (C : AHeap) (b : Nat) (k : Blk) : Kn (C.set b k) b k := .of (set_same _ _ _)
theorem Kn.set (h : Kn C b k) (hb : ¬ b = b') (k' : Blk) : Kn (C.set b' k') b k := by
  obtain ⟨k1, h1, r⟩ := h
  exact ⟨k1, by rw [set_ne hb]; exact h1, r⟩
theorem Kn.fresh (h : Kn C b k) (hb : C b' = none) (k' : Blk) : Kn (C.set b' k') b k := h.set (h.ne_new hb) k'
theorem Kn.cell (h : Kn C b k) {j : Nat} {v : Value} (hv : k.cells[j]? = some v) : C.cell (some ⟨b, j, none⟩) = some v := by
  obtain ⟨k1, h1, _, _, _, r⟩ := h
  rw [cell_blk h1]; exact r j v hv
theorem Kn.fl (h : Kn C b k) {vs : List Value} (hv : ∀ (j : Nat) (v : Value), vs[j]? = some v → k.cells[j]? = some v) : Fl C (some ⟨b, 0, none⟩) vs := fun j v hj => by
  rw [adr_lit, Nat.zero_add]; exact h.cell (hv j v hj)
theorem Kn.weaken (h : Kn C b k) {xs : List Value} (hx : ∀ (j : Nat) (v : Value), xs[j]? = some v → k.cells[j]? = some v) : Kn C b ⟨xs, k.own, k.ty, k.cap⟩ := by
  obtain ⟨k1, h1, o1, t1, c1, r1⟩ := h
  exact ⟨k1, h1, o1, t1, c1, fun j v hv => r1 j v (hx j v hv)⟩
theorem Chg.of_le (h : AHeap.le C C') : Chg C C' bs := fun b k _ hk => h b k hk
theorem Chg.le (h : Chg C C' []) : AHeap.le C C' := fun b k hk => h b k (by simp) hk
theorem Chg.refl (C : AHeap) (bs : List Nat) : Chg C C bs := .of_le (.refl C)
theorem Chg.mono (h : Chg C C' bs) (hs : ∀ b, b ∈ bs → b ∈ bs') : Chg C C' bs' := fun b k hb hk => h b k (fun hm => hb (hs b hm)) hk
theorem Chg.trans (h : Chg C C' bs) (h' : Chg C' C'' bs) : Chg C C'' bs := fun b k hb hk => (h b k hb hk).chg h' hb
theorem Chg.after (h : AHeap.le C C') (h' : Chg C' C'' bs) : Chg C C'' bs := fun b k hb hk => Kn.chg (h b k hk) h' hb
/-- What stood before the blocks were made still stands. -/
theorem Chg.keep (hl : AHeap.le H C) (hc : Chg C C' bs) (hn : New H bs) : AHeap.le H C' := fun b k hk => Kn.chg (hl b k hk) hc fun hb => by rw [hn b hb] at hk; cases hk
theorem Chg.set (h : Chg C C' bs) (hb : b ∈ bs) (k : Blk) : Chg C (C'.set b k) bs := fun b' k' hb' hk' => (h b' k' hb' hk').set (fun e => hb' (e ▸ hb)) k
theorem Chg.fresh (h : Chg C C' bs) (hb : C' b = none) (k : Blk) : Chg C (C'.set b k) bs := fun b' k' hb' hk' => (h b' k' hb' hk').fresh hb k
theorem New.le (h : New C bs) (hl : AHeap.le H C) : New H bs := fun b hb => hl.none (h b hb)
theorem New.nil (H : AHeap) : New H [] := fun b hb => by cases hb
theorem New.one (h : H b = none) : New H [b] := fun x hx => by simp at hx; subst hx; exact h
theorem New.app (h : New H bs) (h' : New H bs') : New H (bs ++ bs') := fun b hb => (List.mem_append.1 hb).elim (h b) (h' b)
variable {t : TypeId} {sz n : Nat} {v : Value} {xs : List Value}
theorem Rw.trans (h : Rw C t sz v n xs bs) (hl : AHeap.le C C') : Rw C' t sz v n xs bs := by
  rcases h with h | ⟨b, cap, h1, h2, h3, h4, h5, h6⟩
  · exact .inl h
  · exact .inr ⟨b, cap, h1, h2, h3, h4, h5, h6.trans hl⟩
theorem Rw.chg (h : Rw C t sz v n xs bs) (hc : Chg C C' bs') (hd : ∀ b, b ∈ bs → ¬ b ∈ bs') : Rw C' t sz v n xs bs := by
  rcases h with h | ⟨b, cap, h1, rfl, h3, h4, h5, h6⟩
  · exact .inl h
  · exact .inr ⟨b, cap, h1, rfl, h3, h4, h5, h6.chg hc (hd b (by simp))⟩
theorem Rw.fl (h : Rw C t sz v n xs bs) : ∃ A c, v = .slice A n c ∧ Fl C A xs := by
  rcases h with ⟨rfl, rfl, rfl, rfl⟩ | ⟨b, cap, rfl, h2, h3, h4, h5, h6⟩
  · exact ⟨_, _, rfl, Fl.nil _ _⟩
  · exact ⟨_, _, rfl, h6.fl fun _ _ h => h⟩
theorem Rw.fl' {A : Option Addr} {n' c : Nat} (h : Rw C t sz (.slice A n' c) n xs bs) : Fl C A xs ∧ n' = n := by
  obtain ⟨A', c', e, hf⟩ := h.fl
  simp only [Value.slice.injEq] at e
  obtain ⟨rfl, rfl, rfl⟩ := e
  exact ⟨hf, rfl⟩
theorem Rw.len (h : Rw C t sz v n xs bs) : xs.length = n * sz := by
  rcases h with ⟨rfl, rfl, rfl, rfl⟩ | ⟨b, cap, rfl, h2, h3, h4, h5, h6⟩
  · simp
  · exact h5
theorem Rw.open_ (h : Rw C t sz v n xs bs) (hn : 0 < n) : ∃ b cap, v = .slice (some ⟨b, 0, none⟩) n cap ∧ bs = [b] ∧ n ≤ cap ∧ cap ≤ maxLen ∧ xs.length = n * sz ∧ Kn C b ⟨xs, true, t, cap * sz⟩ := by
  rcases h with ⟨rfl, rfl, rfl, rfl⟩ | h
  · cases hn
  · exact h
theorem Rw.mk {b cap : Nat} (h : Kn C b ⟨xs, true, t, cap * sz⟩) (hl : xs.length = n * sz) (hn : n ≤ cap) (hc : cap ≤ maxLen) : Rw C t sz (.slice (some ⟨b, 0, none⟩) n cap) n xs [b] := .inr ⟨b, cap, rfl, rfl, hn, hc, hl, h⟩
theorem Rw.nil_ (C : AHeap) (t : TypeId) (sz : Nat) : Rw C t sz (.slice none 0 0) 0 [] [] := .inl ⟨rfl, rfl, rfl, rfl⟩
theorem Own.rw_ {A : AHeap} (h : Own A t sz v n xs C) : AHeap.le A C ∧ ∃ bs, New A bs ∧ Rw C t sz v n xs bs := by
  refine ⟨h.le, ?_⟩
  rcases h with ⟨rfl, rfl, rfl, rfl⟩ | ⟨b, cap, rfl, hb, hn, hc, hl, rfl⟩
  · exact ⟨[], New.nil _, .inl ⟨rfl, rfl, rfl, rfl⟩⟩
  · exact ⟨[b], New.one hb, .inr ⟨b, cap, rfl, rfl, hn, hc, hl, Kn.same _ _ _⟩⟩
/-- The row, cut out of what the heap knows: for contracts that ask for a row alone. -/
theorem Rw.own_ (h : Rw C t sz v n xs bs) : ∃ A B, AHeap.le B C ∧ Own A t sz v n xs B ∧ ∀ b, b ∈ bs ∨ A b = C b := by
  rcases h with ⟨rfl, rfl, rfl, rfl⟩ | ⟨b, cap, rfl, rfl, hn, hc, hl, hk⟩
  · exact ⟨C, C, .refl _, .inl ⟨rfl, rfl, rfl, rfl⟩, fun _ => .inr rfl⟩
  · refine ⟨C.del b, (C.del b).set b ⟨xs, true, t, cap * sz⟩, fun x k' hx => ?_, .inr ⟨b, cap, rfl, by simp [AHeap.del], hn, hc, hl, rfl⟩, fun x => ?_⟩
    · by_cases hxb : x = b
      · subst hxb; rw [set_same] at hx; obtain rfl := Option.some.inj hx; exact hk
      · rw [set_ne hxb] at hx; simp only [AHeap.del, if_neg hxb] at hx; exact Kn.of hx
    · by_cases hxb : x = b
      · exact .inl (by simp [hxb])
      · exact .inr (by simp [AHeap.del, hxb])
/-- A contract that changes a row in place. -/
theorem Rw.put {A B : AHeap} {n' : Nat} {xs' : List Value} (ho : Own A t sz v n xs B) (hA : ∀ b, b ∈ bs ∨ A b = C b) (hr : Rw C t sz v n xs bs) (hn : n' = n) (h : Own A t sz v n' xs' C') : Chg C C' bs ∧ Rw C' t sz v n' xs' bs := by
  subst hn
  refine ⟨fun b k hb hk => ?_, ?_⟩
  · have : A b = some k := ((hA b).resolve_left hb).trans hk
    exact h.le b k this
  · rcases hr with ⟨rfl, rfl, rfl, rfl⟩ | ⟨b, cap, rfl, rfl, hn, hc, hl, hk⟩
    · rcases h with ⟨_, _, rfl, rfl⟩ | ⟨b', cap', e, _⟩
      · exact .inl ⟨rfl, rfl, rfl, rfl⟩
      · cases e
    · rcases h with ⟨e, _⟩ | ⟨b', cap', e, hb, hn', hc', hl', rfl⟩
      · cases e
      · simp only [Value.slice.injEq, Option.some.injEq, Addr.mk.injEq] at e
        obtain ⟨⟨rfl, _⟩, _, rfl⟩ := e
        exact .inr ⟨b, cap, rfl, rfl, hn', hc', hl', Kn.same _ _ _⟩
end
theorem New.off {C C' : AHeap} {t : TypeId} {sz : Nat} {v : Value} {n : Nat} {xs : List Value} {bs bs' : List Nat} (h : New C bs) (hr : Rw C t sz v n xs bs') : ∀ b, b ∈ bs' → ¬ b ∈ bs := fun b hb hm => by
  rcases hr with ⟨_, _, _, rfl⟩ | ⟨b', cap, _, rfl, _, _, _, hk⟩
  · cases hb
  · simp at hb; subst hb; exact hk.ne (h _ hm)
theorem rw_of {H : AHeap} {t : TypeId} {sz : Nat} {n : Nat} {xs : List Value} {K : Value → AHeap → Prop} (h : ∀ v C bs, AHeap.le H C → New H bs → Rw C t sz v n xs bs → K v C) : ∀ v H', Own H t sz v n xs H' → K v H' := fun v H' o => by
  obtain ⟨l, bs, hn, hr⟩ := o.rw_
  exact h v H' bs l hn hr
section
variable {P : Program} {w0 : World} {K : Value → AHeap → Prop} {C H : AHeap} {b o n m xc cap bytes : Nat} {k : Blk} {v x : Value} {xs news : List Value} {bs : List Nat} {t : TypeId} {z : List Value}
theorem getElem?_setR : ∀ (vs cs : List Value) (o j : Nat), o + vs.length ≤ cs.length → (setR cs o vs)[j]? = if o ≤ j ∧ j < o + vs.length then vs[j - o]? else cs[j]?
  | [], cs, o, j, _ => by simp only [setR, List.length_nil, Nat.add_zero]; rw [if_neg (by omega)]
  | v :: r, cs, o, j, h => by
    simp only [List.length_cons] at h
    simp only [setR]
    rw [getElem?_setR r _ _ _ (by simp; omega)]
    simp only [List.length_cons, List.getElem?_set]
    by_cases hj : j = o
    · subst hj
      rw [if_neg (by omega), if_pos rfl, if_pos (by omega), if_pos (by omega), Nat.sub_self]; rfl
    · by_cases hlt : o + 1 ≤ j ∧ j < o + 1 + r.length
      · rw [if_pos hlt, if_pos (by omega), show j - o = (j - (o + 1)) + 1 by omega, List.getElem?_cons_succ]
      · rw [if_neg hlt, if_neg (fun e => hj e.symm), if_neg (by omega)]
theorem set_mid {H : AHeap} {b b' : Nat} {k k' k2 : Blk} (h : ¬ b' = b) : ((H.set b k).set b' k2).set b k' = (H.set b k').set b' k2 := by
  rw [set_comm (H := H) (b := b) (b' := b') (fun e => h e.symm), set_set, set_comm h]
theorem Chg.no {C : AHeap} {bs : List Nat} : Chg C (C.no fun b => b ∈ bs) bs := fun b k hb hk => Kn.of (by rw [no_out hb]; exact hk)
/-- A store into a block of the call's own. -/
theorem st_kn (h : Kn C b k) (ho : k.own = true) (hs : v.cells.size = n) (hl : o + n ≤ k.cells.length) (h1 : ∀ u ∈ v.cells.toList, u.oneCell' = true)
    (hK : ∀ C', Chg C C' [b] → (∀ x, ¬ x = b → C' x = C x) → Kn C' b ⟨setR k.cells o v.cells.toList, true, k.ty, k.cap⟩ → K undef C') : stK n (.pointer (some ⟨b, o, none⟩)) v K C := by
  obtain ⟨k1, e1, o1, t1, c1, r1⟩ := h
  have hlen : k.cells.length ≤ k1.cells.length := by
    rcases Nat.lt_or_ge k1.cells.length k.cells.length with hlt | hge
    · have := r1 k1.cells.length _ (List.getElem?_eq_getElem hlt)
      rw [List.getElem?_eq_none (Nat.le_refl _)] at this; cases this
    · exact hge
  refine ⟨rfl, k1, e1, o1.trans ho, hs, Nat.le_trans hl hlen, h1, hK _ (fun x k' hx hk => ?_) (fun x hx => by rw [set_ne hx]) ⟨_, set_same _ _ _, o1.trans ho, t1, c1, fun j u hu => ?_⟩⟩
  · have : ¬ x = b := by simpa using hx
    exact Kn.of (by rw [set_ne this]; exact hk)
  · have hsz : v.cells.toList.length = n := by simpa using hs
    simp only at hu ⊢
    rw [getElem?_setR _ _ _ _ (by omega)] at hu ⊢
    split
    · rename_i hj; rw [if_pos hj] at hu; exact hu
    · rename_i hj; rw [if_neg hj] at hu; exact r1 j u hu
/-- A store into a block that is known in full. -/
theorem st_known {v : Value} {K : Value → AHeap → Prop} {H : AHeap} (h : (H b).isSome = true) : stK n (.pointer (some ⟨b, o, none⟩)) v K H = ∃ k, H b = some k ∧ k.own = true ∧ v.cells.size = n ∧ o + n ≤ k.cells.length ∧ (∀ u ∈ v.cells.toList, u.oneCell' = true) ∧
    K undef (H.set b ⟨setR k.cells o v.cells.toList, k.own, k.ty, k.cap⟩) := st_eq
/-- An append to a row of the call's own. -/
theorem app_rw (hr : Rw C t z.length v n xs bs) {xa : Option Addr} (hn : Fl C xa news) (hl : news.length = m * z.length) (h1 : ∀ u ∈ news, u.oneCell' = true) (hm : n + m ≤ maxLen) (hB : (n + m) * bytes ≤ 140737488355328)
    (hK : ∀ v' C' bs', Chg C C' bs → (∀ b, b ∈ bs' → b ∈ bs ∨ C b = none) → Rw C' t z.length v' (n + m) (xs ++ news) bs' → K v' C') : appK P w0 z t bytes v (.slice xa m xc) K C := by
  rcases hr with ⟨rfl, rfl, rfl, rfl⟩ | ⟨b, cap, rfl, rfl, hnc, hc, hlen, hk⟩
  · refine .inr ⟨[], C, news, .inl (.inl ⟨rfl, rfl, rfl, rfl⟩), hl, hn, h1, hm, hB, fun v' C' ho => ?_⟩
    obtain ⟨l, bs', hb, hr⟩ := ho.rw_
    exact hK v' C' bs' (.of_le l) (fun b hb' => .inr (hb b hb')) hr
  · obtain ⟨k1, e1, o1, t1, c1, r1⟩ := hk
    have hlen' : n * z.length ≤ k1.cells.length := by
      rcases Nat.eq_zero_or_pos (n * z.length) with h0 | h0
      · omega
      · have := r1 (n * z.length - 1) _ (List.getElem?_eq_getElem (by simp only; omega))
        have := (List.getElem?_eq_some_iff.1 this).1
        omega
    refine .inr ⟨xs, C.del b, news, .inl (.inr ⟨b, cap, k1, rfl, e1, o1, t1, c1, hnc, hc, hlen', ?_, rfl⟩), hl, hn, h1, hm, hB, fun v' C' ho => ?_⟩
    · apply List.ext_getElem?
      intro j
      rw [List.getElem?_take]
      split
      · rename_i hj
        rw [List.getElem?_eq_getElem (by omega)]
        exact (r1 j _ (List.getElem?_eq_getElem (by simp only; omega))).symm
      · rw [List.getElem?_eq_none (by omega)]
    · obtain ⟨l, bs', hb, hr⟩ := ho.rw_
      refine hK v' C' bs' (fun x k' hx hk' => ?_) (fun x hx => ?_) hr
      · have : ¬ x = b := by simpa using hx
        exact l x k' (by simp only [AHeap.del, if_neg this]; exact hk')
      · have h0 := hb x hx
        by_cases hxb : x = b
        · exact .inl (by simp [hxb])
        · simp only [AHeap.del, if_neg hxb] at h0; exact .inr h0
theorem for_rule {fr : Fr} {c : XC} {Q : Exit → Fr → AHeap → Prop} (n : Nat) (I : Nat → Fr → AHeap → Prop) (h0 : I 0 fr H)
    (step : ∀ k fr H, k < n → I k fr H → ∀ N : Fr → AHeap → Prop, (∀ fr' H' H'', AHeap.le H'' H' → I (k + 1) fr' H'' → N fr' H') → sx P w0 c (thenK N Q) fr H)
    (done : ∀ fr H, I n fr H → ∀ N : Fr → AHeap → Prop, sx P w0 c (thenK N Q) fr H) : sx P w0 (.loop c) Q fr H := by
  refine ⟨fun m fr H => ∃ k : Nat, m = n - k ∧ k ≤ n ∧ I k fr H, n, ⟨0, rfl, Nat.zero_le _, h0⟩, ?_⟩
  rintro m fr H ⟨k, rfl, hk, hI⟩
  by_cases hlt : k < n
  · exact step k fr H hlt hI _ fun fr' H' H'' hl hI' => ⟨_, H'', by omega, hl, k + 1, rfl, by omega, hI'⟩
  · obtain rfl : k = n := by omega
    exact done fr H hI _
end
theorem zGq : (type_of% @rdn_F) ∧ (type_of% @rdnF_zero) ∧ (type_of% @rdnF_succ) ∧ (type_of% @st_known) ∧ (type_of% @cell_old) ∧ (type_of% @set_mid) := ⟨@rdn_F, @rdnF_zero, @rdnF_succ, @st_known, @cell_old, @set_mid⟩
end Go.Proofs.Ytfjhjfddgdokgaa
namespace Go.Proofs.Ytfjhjfddgdokgaa
set_option linter.all false
open Go Go.RowKit
set_option maxRecDepth 100000
variable (w0 : World)
def comp : Nat → Ex → Int → List Qd
  | 0, _, _ => []
  | d + 1, .mk op n args, i =>
    if op = 0 then [⟨1, i, 0, 0, n⟩] else if op = 13 then [⟨2, i, n, 0, 0⟩]
    else match args with
      | [x, y] => comp d x i ++ comp d y (i + 1) ++ [⟨3, i, i, i + 1, op⟩]
      | _ => []
theorem comp_len : ∀ (d : Nat) (e : Ex) (i : Int), (comp d e i).length < 2 ^ d
  | 0, _, _ => by simp [comp]
  | d + 1, .mk op n args, i => by
    have hp : 0 < 2 ^ d := Nat.pow_pos (by omega)
    simp only [comp]
    split
    · simp <;> omega
    · split
      · simp <;> omega
      · split
        · rename_i x y
          have := comp_len d x i
          have := comp_len d y (i + 1)
          simp only [List.length_append, List.length_cons, List.length_nil]
          omega
        · simp <;> omega
theorem qcells_one (x0 x1 x2 x3 x4 : Int) : qcells [⟨x0, x1, x2, x3, x4⟩] = [.int .i64 x0, .int .i64 x1, .int .i64 x2, .int .i64 x3, .int .i64 x4] := rfl
theorem qcells_app (p q : List Qd) : qcells (p ++ q) = qcells p ++ qcells q := by simp [qcells]
theorem compileExpr_ok (d : Nat) : ∀ (e : Ex) (a : Option Addr) (c : Nat) (i : Int) (H0 H : AHeap) (K : Value → AHeap → Prop) (v : Value) (n : Nat) (xs : List Value), d ≤ 30 → exprOk d e = true → ExV H0 e [.int .i64 e.op, .int .i64 e.n, .slice a e.args.length c] →
    0 ≤ i → i + d ≤ 1000000 → Own H0 111 5 v n xs H → n + 2 ^ d ≤ 1099511627776 → (∀ v' H', Own H0 111 5 v' (n + (comp d e i).length) (xs ++ qcells (comp d e i)) H' → K v' H') →
    ACalls Try.prog w0 199 [.agg #[.int .i64 e.op, .int .i64 e.n, .slice a e.args.length c], .int .i64 i, v] H K := by
  induction d with
  | zero => intro e a c i H0 H K v n xs hd ho; rw [ok_zero] at ho; cases ho
  | succ d ih =>
    intro ⟨op, n, args⟩ a c i H0 H K v m xs hd ho hv hi0 hi1 hw hm h
    obtain ⟨_, _, he, _, hR⟩ := hv.open_
    simp only [List.cons.injEq, and_true, Value.slice.injEq, true_and] at he
    obtain ⟨rfl, rfl⟩ := he
    simp only [Ex.op, Ex.n, Ex.args] at hR hv ⊢
    have hp : 0 < 2 ^ d := Nat.pow_pos (by omega)
    rcases ok_args ho with ⟨rfl, hop⟩ | ⟨x, y, rfl, hox, hoy, hop⟩
    · have ecomp : comp (d + 1) (.mk op n []) i = if op = 0 then [⟨1, i, 0, 0, n⟩] else [⟨2, i, n, 0, 0⟩] := by
        rcases hop with rfl | rfl <;> simp [comp]
      rw [ecomp] at h
      rcases hop with rfl | rfl
      · have g1 : ((0 : Int) == 0) = true := by decide
        simp only [if_true, qcells_one, List.length_cons, List.length_nil] at h
        refine acalls_of_sx mix Try.func199 of199 (by simp [ir199]) ?_; rw [ir199]; (try delta qT qI qC qO qM qG)
        repeat' (first | simp -implicitDefEqProofs only [zG1,zG2,zG3,zG4,zG5,zG6,zG7,eq_self,resV,rval,X.val,binv,fillL,setR,↓reduceIte,Nat.reduceEqDiff,Nat.reduceAdd,Nat.reduceMul,Nat.reduceLeDiff,Nat.reduceLT,Nat.reduceSub,reduceCtorEq,zGr, g1] | ((with_reducible refine rows_intro (fun _ hb => ?_)); try simp only [set_none, ne_eq] at hb) | ((with_reducible refine new_intro (fun _ hb => ?_)); try simp only [set_none, ne_eq] at hb) | (with_reducible refine draw_same ?_) | ((with_reducible refine gd_split ?_ (fun _ => ?_) (fun _ => ?_)); exact rfl) | ((with_reducible refine td_split ?_ (fun _ => ?_) (fun _ => ?_)); exact rfl) | (with_reducible refine c_split (fun _ => ?_) (fun _ => ?_)) | (with_reducible refine app_lit (hw.fresh ‹H _ = none› _) (set_none.2 hb) rfl ?_ ?_ ?_ (fun _ _ ho' => ?_)))
        · simp only [maxLen]; omega
        · omega
        · obtain ⟨H1, l1, o1⟩ := ho'.weaken (((AHeap.le.refl H0).fresh (hw.none' ‹H _ = none›) _).trans ((AHeap.le.refl _).fresh ((hw.fresh ‹H _ = none› _).none' (set_none.2 hb)) _))
          exact ⟨H1, l1, h _ _ o1⟩
      · have g1 : ((13 : Int) == 0) = false := by decide
        have g2 : ((13 : Int) == 13) = true := by decide
        simp only [show ¬ (13 : Int) = 0 by decide, if_false, qcells_one, List.length_cons, List.length_nil] at h
        refine acalls_of_sx mix Try.func199 of199 (by simp [ir199]) ?_; rw [ir199]; (try delta qT qI qC qO qM qG)
        repeat' (first | simp -implicitDefEqProofs only [zG1,zG2,zG3,zG4,zG5,zG6,zG7,eq_self,resV,rval,X.val,binv,fillL,setR,↓reduceIte,Nat.reduceEqDiff,Nat.reduceAdd,Nat.reduceMul,Nat.reduceLeDiff,Nat.reduceLT,Nat.reduceSub,reduceCtorEq,zGr, g1, g2] | ((with_reducible refine rows_intro (fun _ hb => ?_)); try simp only [set_none, ne_eq] at hb) | ((with_reducible refine new_intro (fun _ hb => ?_)); try simp only [set_none, ne_eq] at hb) | (with_reducible refine draw_same ?_) | ((with_reducible refine gd_split ?_ (fun _ => ?_) (fun _ => ?_)); exact rfl) | ((with_reducible refine td_split ?_ (fun _ => ?_) (fun _ => ?_)); exact rfl) | (with_reducible refine c_split (fun _ => ?_) (fun _ => ?_)) | (with_reducible refine app_lit (hw.fresh ‹H _ = none› _) (set_none.2 hb) rfl ?_ ?_ ?_ (fun _ _ ho' => ?_)))
        · simp only [maxLen]; omega
        · omega
        · obtain ⟨H1, l1, o1⟩ := ho'.weaken (((AHeap.le.refl H0).fresh (hw.none' ‹H _ = none›) _).trans ((AHeap.le.refl _).fresh ((hw.fresh ‹H _ = none› _).none' (set_none.2 hb)) _))
          exact ⟨H1, l1, h _ _ o1⟩
    · have e0 : ¬ op = 0 := by omega
      have e13 : ¬ op = 13 := by omega
      have g0 : (op == 0) = false := by simp [e0]
      have g13 : (op == 13) = false := by simp [e13]
      have g1 : IntKind.i64.wrap (i + 1) = i + 1 := wrap_i64 (by omega) (by omega)
      have ecomp : comp (d + 1) (.mk op n [x, y]) i = comp d x i ++ comp d y (i + 1) ++ [⟨3, i, i, i + 1, op⟩] := by simp [comp, e0, e13]
      rw [ecomp, qcells_app, qcells_app, qcells_one] at h
      have lx := comp_len d x i
      have ly := comp_len d y (i + 1)
      rw [Nat.pow_succ] at hm
      refine acalls_of_sx mix Try.func199 of199 (by simp [ir199]) ?_; rw [ir199]; (try delta qT qI qC qO qM qG)
      repeat' (first | simp -implicitDefEqProofs only [zG1,zG2,zG3,zG4,zG5,zG6,zG7,eq_self,resV,rval,X.val,binv,fillL,setR,↓reduceIte,Nat.reduceEqDiff,Nat.reduceAdd,Nat.reduceMul,Nat.reduceLeDiff,Nat.reduceLT,Nat.reduceSub,reduceCtorEq,zGr, g0, g13] | ((with_reducible refine rows_intro (fun _ hb => ?_)); try simp only [set_none, ne_eq] at hb) | ((with_reducible refine new_intro (fun _ hb => ?_)); try simp only [set_none, ne_eq] at hb) | (with_reducible refine draw_same ?_) | ((with_reducible refine gd_split ?_ (fun _ => ?_) (fun _ => ?_)); exact rfl) | ((with_reducible refine td_split ?_ (fun _ => ?_) (fun _ => ?_)); exact rfl) | (with_reducible refine c_split (fun _ => ?_) (fun _ => ?_)))
      have hb0 := hw.none' hb
      have hb1 := hb
      have hl0 : AHeap.le H0 (H0.set _ ⟨[.int .i64 op, .int .i64 n, .slice a 2 c], true, 103, 3⟩) := (AHeap.le.refl H0).fresh hb0 _
      have hw1 : Own (H0.set _ ⟨[.int .i64 op, .int .i64 n, .slice a 2 c], true, 103, 3⟩) 111 5 v m xs _ := hw.fresh hb _
      obtain ⟨a', c', b', d', hc, hx, hy⟩ := hR.two
      have hc1 := two_le (hl0.trans hw1.le) hc
      repeat' (first | simp -implicitDefEqProofs only [zG1,zG2,zG3,zG4,zG5,zG6,zG7,eq_self,resV,rval,X.val,binv,fillL,setR,↓reduceIte,Nat.reduceEqDiff,Nat.reduceAdd,Nat.reduceMul,Nat.reduceLeDiff,Nat.reduceLT,Nat.reduceSub,reduceCtorEq,zGr, z20, z21, hc1, Int.toNat_zero, Int.toNat_one, Nat.zero_mul, Nat.one_mul] | ((with_reducible refine rows_intro (fun _ hb => ?_)); try simp only [set_none, ne_eq] at hb) | ((with_reducible refine new_intro (fun _ hb => ?_)); try simp only [set_none, ne_eq] at hb) | (with_reducible refine draw_same ?_) | ((with_reducible refine gd_split ?_ (fun _ => ?_) (fun _ => ?_)); exact rfl) | ((with_reducible refine td_split ?_ (fun _ => ?_) (fun _ => ?_)); exact rfl) | (with_reducible refine c_split (fun _ => ?_) (fun _ => ?_)) | (with_reducible refine ih x a' c' i _ _ _ v m xs (by omega) hox (hx.le hl0) hi0 (by omega) hw1 (by omega) (fun v1 H1 o1 => ?_)))
      have hc2 := two_le (hl0.trans o1.le) hc
      have hf2 := fl_three o1.le
      repeat' (first | simp -implicitDefEqProofs only [zG1,zG2,zG3,zG4,zG5,zG6,zG7,eq_self,resV,rval,X.val,binv,fillL,setR,↓reduceIte,Nat.reduceEqDiff,Nat.reduceAdd,Nat.reduceMul,Nat.reduceLeDiff,Nat.reduceLT,Nat.reduceSub,reduceCtorEq,zGr, z20, z21, g1, hc2, hf2, Int.toNat_zero, Int.toNat_one, Nat.zero_mul, Nat.one_mul] | ((with_reducible refine rows_intro (fun _ hb => ?_)); try simp only [set_none, ne_eq] at hb) | ((with_reducible refine new_intro (fun _ hb => ?_)); try simp only [set_none, ne_eq] at hb) | (with_reducible refine draw_same ?_) | ((with_reducible refine gd_split ?_ (fun _ => ?_) (fun _ => ?_)); exact rfl) | ((with_reducible refine td_split ?_ (fun _ => ?_) (fun _ => ?_)); exact rfl) | (with_reducible refine c_split (fun _ => ?_) (fun _ => ?_)) | (with_reducible refine ih y b' d' (i + 1) _ _ _ v1 _ _ (by omega) hoy (hy.le hl0) (by omega) (by omega) o1 (by omega) (fun v2 H2 o2 => ?_)))
      have hf3 := fl_three o2.le
      repeat' (first | simp -implicitDefEqProofs only [zG1,zG2,zG3,zG4,zG5,zG6,zG7,eq_self,resV,rval,X.val,binv,fillL,setR,↓reduceIte,Nat.reduceEqDiff,Nat.reduceAdd,Nat.reduceMul,Nat.reduceLeDiff,Nat.reduceLT,Nat.reduceSub,reduceCtorEq,zGr, g1, hf3] | ((with_reducible refine rows_intro (fun _ hb => ?_)); try simp only [set_none, ne_eq] at hb) | ((with_reducible refine new_intro (fun _ hb => ?_)); try simp only [set_none, ne_eq] at hb) | (with_reducible refine draw_same ?_) | ((with_reducible refine gd_split ?_ (fun _ => ?_) (fun _ => ?_)); exact rfl) | ((with_reducible refine td_split ?_ (fun _ => ?_) (fun _ => ?_)); exact rfl) | (with_reducible refine c_split (fun _ => ?_) (fun _ => ?_)) | (with_reducible refine app_lit o2 ‹_› rfl ?_ ?_ ?_ (fun _ _ ho' => ?_)))
      · simp only [maxLen]; omega
      · omega
      · obtain ⟨H3, l3, o3⟩ := ho'.weaken (hl0.trans ((AHeap.le.refl _).fresh (o2.none' ‹_›) _))
        refine ⟨H3, l3, h _ _ ?_⟩
        simpa only [List.append_assoc, List.length_append, List.length_cons, List.length_nil, Nat.add_assoc] using o3
theorem qcells_oc (qs : List Qd) : ∀ v ∈ qcells qs, v.oneCell' = true := by
  intro v hv
  simp only [qcells, List.mem_flatMap, Qd.cells, List.mem_cons, List.not_mem_nil, or_false] at hv
  obtain ⟨q, _, h | h | h | h | h⟩ := hv <;> subst h <;> rfl
theorem l22Expr_ok (d : Nat) : ∀ (e : Ex) (a : Option Addr) (c : Nat) (i : Int) (H : AHeap) (K : Value → AHeap → Prop), d ≤ 30 → exprOk d e = true → ExV H e [.int .i64 e.op, .int .i64 e.n, .slice a e.args.length c] →
    0 ≤ i → i + d ≤ 1000000 → (∀ v' H', Own H 111 5 v' (comp d e i).length (qcells (comp d e i)) H' → K v' H') →
    ACalls Try.prog w0 179 [.agg #[.int .i64 e.op, .int .i64 e.n, .slice a e.args.length c], .int .i64 i] H K := by
  induction d with
  | zero => intro e a c i H K hd ho; rw [ok_zero] at ho; cases ho
  | succ d ih =>
    intro ⟨op, n, args⟩ a c i H K hd ho hv hi0 hi1 h
    obtain ⟨_, _, he, _, hR⟩ := hv.open_
    simp only [List.cons.injEq, and_true, Value.slice.injEq, true_and] at he
    obtain ⟨rfl, rfl⟩ := he
    simp only [Ex.op, Ex.n, Ex.args] at hR hv ⊢
    have hp : 2 ^ d ≤ 2 ^ 30 := Nat.pow_le_pow_right (by omega) (by omega)
    rcases ok_args ho with ⟨rfl, hop⟩ | ⟨x, y, rfl, hox, hoy, hop⟩
    · have ecomp : comp (d + 1) (.mk op n []) i = if op = 0 then [⟨1, i, 0, 0, n⟩] else [⟨2, i, n, 0, 0⟩] := by
        rcases hop with rfl | rfl <;> simp [comp]
      rw [ecomp] at h
      rcases hop with rfl | rfl
      · have g1 : ((0 : Int) == 0) = true := by decide
        simp only [if_true, qcells_one, List.length_cons, List.length_nil] at h
        refine acalls_of_sx mix Try.func179 of179 (by simp [ir179]) ?_; rw [ir179]; (try delta qT qI qC qO qM qG)
        repeat' (first | simp -implicitDefEqProofs only [zG1,zG2,zG3,zG4,zG5,zG6,zG7,eq_self,resV,rval,X.val,binv,fillL,setR,↓reduceIte,Nat.reduceEqDiff,Nat.reduceAdd,Nat.reduceMul,Nat.reduceLeDiff,Nat.reduceLT,Nat.reduceSub,reduceCtorEq,zGr, g1] | ((with_reducible refine rows_intro (fun _ hb => ?_)); try simp only [set_none, ne_eq] at hb) | ((with_reducible refine new_intro (fun _ hb => ?_)); try simp only [set_none, ne_eq] at hb) | (with_reducible refine draw_same ?_) | ((with_reducible refine gd_split ?_ (fun _ => ?_) (fun _ => ?_)); exact rfl) | ((with_reducible refine td_split ?_ (fun _ => ?_) (fun _ => ?_)); exact rfl) | (with_reducible refine c_split (fun _ => ?_) (fun _ => ?_)))
        exact ret_own h ((AHeap.le.refl H).fresh ‹H _ = none› _) hb.2 rfl rfl rfl (by decide) (by decide) rfl
      · have g1 : ((13 : Int) == 0) = false := by decide
        have g2 : ((13 : Int) == 13) = true := by decide
        simp only [show ¬ (13 : Int) = 0 by decide, if_false, qcells_one, List.length_cons, List.length_nil] at h
        refine acalls_of_sx mix Try.func179 of179 (by simp [ir179]) ?_; rw [ir179]; (try delta qT qI qC qO qM qG)
        repeat' (first | simp -implicitDefEqProofs only [zG1,zG2,zG3,zG4,zG5,zG6,zG7,eq_self,resV,rval,X.val,binv,fillL,setR,↓reduceIte,Nat.reduceEqDiff,Nat.reduceAdd,Nat.reduceMul,Nat.reduceLeDiff,Nat.reduceLT,Nat.reduceSub,reduceCtorEq,zGr, g1, g2] | ((with_reducible refine rows_intro (fun _ hb => ?_)); try simp only [set_none, ne_eq] at hb) | ((with_reducible refine new_intro (fun _ hb => ?_)); try simp only [set_none, ne_eq] at hb) | (with_reducible refine draw_same ?_) | ((with_reducible refine gd_split ?_ (fun _ => ?_) (fun _ => ?_)); exact rfl) | ((with_reducible refine td_split ?_ (fun _ => ?_) (fun _ => ?_)); exact rfl) | (with_reducible refine c_split (fun _ => ?_) (fun _ => ?_)))
        exact ret_own h ((AHeap.le.refl H).fresh ‹H _ = none› _) hb.2 rfl rfl rfl (by decide) (by decide) rfl
    · have e0 : ¬ op = 0 := by omega
      have e13 : ¬ op = 13 := by omega
      have g0 : (op == 0) = false := by simp [e0]
      have g13 : (op == 13) = false := by simp [e13]
      have g1 : IntKind.i64.wrap (i + 1) = i + 1 := wrap_i64 (by omega) (by omega)
      have ecomp : comp (d + 1) (.mk op n [x, y]) i = comp d x i ++ comp d y (i + 1) ++ [⟨3, i, i, i + 1, op⟩] := by simp [comp, e0, e13]
      rw [ecomp, qcells_app, qcells_app, qcells_one] at h
      have lx := comp_len d x i
      have ly := comp_len d y (i + 1)
      refine acalls_of_sx mix Try.func179 of179 (by simp [ir179]) ?_; rw [ir179]; (try delta qT qI qC qO qM qG)
      repeat' (first | simp -implicitDefEqProofs only [zG1,zG2,zG3,zG4,zG5,zG6,zG7,eq_self,resV,rval,X.val,binv,fillL,setR,↓reduceIte,Nat.reduceEqDiff,Nat.reduceAdd,Nat.reduceMul,Nat.reduceLeDiff,Nat.reduceLT,Nat.reduceSub,reduceCtorEq,zGr, g0, g13] | ((with_reducible refine rows_intro (fun _ hb => ?_)); try simp only [set_none, ne_eq] at hb) | ((with_reducible refine new_intro (fun _ hb => ?_)); try simp only [set_none, ne_eq] at hb) | (with_reducible refine draw_same ?_) | ((with_reducible refine gd_split ?_ (fun _ => ?_) (fun _ => ?_)); exact rfl) | ((with_reducible refine td_split ?_ (fun _ => ?_) (fun _ => ?_)); exact rfl) | (with_reducible refine c_split (fun _ => ?_) (fun _ => ?_)))
      have hb1 := hb
      have hl0 : AHeap.le H (H.set _ ⟨[.int .i64 op, .int .i64 n, .slice a 2 c], true, 103, 3⟩) := (AHeap.le.refl H).fresh hb1 _
      obtain ⟨a', c', b', d', hc, hx, hy⟩ := hR.two
      have hc1 := two_le hl0 hc
      repeat' (first | simp -implicitDefEqProofs only [zG1,zG2,zG3,zG4,zG5,zG6,zG7,eq_self,resV,rval,X.val,binv,fillL,setR,↓reduceIte,Nat.reduceEqDiff,Nat.reduceAdd,Nat.reduceMul,Nat.reduceLeDiff,Nat.reduceLT,Nat.reduceSub,reduceCtorEq,zGr, z20, z21, g1, hc1, Int.toNat_zero, Int.toNat_one, Nat.zero_mul, Nat.one_mul] | ((with_reducible refine rows_intro (fun _ hb => ?_)); try simp only [set_none, ne_eq] at hb) | ((with_reducible refine new_intro (fun _ hb => ?_)); try simp only [set_none, ne_eq] at hb) | (with_reducible refine draw_same ?_) | ((with_reducible refine gd_split ?_ (fun _ => ?_) (fun _ => ?_)); exact rfl) | ((with_reducible refine td_split ?_ (fun _ => ?_) (fun _ => ?_)); exact rfl) | (with_reducible refine c_split (fun _ => ?_) (fun _ => ?_)) | (with_reducible refine ih x a' c' i _ _ (by omega) hox (hx.le hl0) hi0 (by omega) (fun v1 H1 o1 => ?_)))
      have l1 := o1.le
      have hc2 := two_le (hl0.trans l1) hc
      have hf2 := fl_three l1
      repeat' (first | simp -implicitDefEqProofs only [zG1,zG2,zG3,zG4,zG5,zG6,zG7,eq_self,resV,rval,X.val,binv,fillL,setR,↓reduceIte,Nat.reduceEqDiff,Nat.reduceAdd,Nat.reduceMul,Nat.reduceLeDiff,Nat.reduceLT,Nat.reduceSub,reduceCtorEq,zGr, z20, z21, g1, hc2, hf2, l1, Int.toNat_zero, Int.toNat_one, Nat.zero_mul, Nat.one_mul] | ((with_reducible refine rows_intro (fun _ hb => ?_)); try simp only [set_none, ne_eq] at hb) | ((with_reducible refine new_intro (fun _ hb => ?_)); try simp only [set_none, ne_eq] at hb) | (with_reducible refine draw_same ?_) | ((with_reducible refine gd_split ?_ (fun _ => ?_) (fun _ => ?_)); exact rfl) | ((with_reducible refine td_split ?_ (fun _ => ?_) (fun _ => ?_)); exact rfl) | (with_reducible refine c_split (fun _ => ?_) (fun _ => ?_)) | (with_reducible refine ih y b' d' (i + 1) _ _ (by omega) hoy (hy.le (hl0.trans l1)) (by omega) (by omega) (fun v2 H2 o2 => ?_)))
      have l2 := o2.le
      have l12 := l1.trans l2
      obtain ⟨A2, c2, rfl, f2⟩ := o2.fl
      repeat' (first | simp -implicitDefEqProofs only [zG1,zG2,zG3,zG4,zG5,zG6,zG7,eq_self,resV,rval,X.val,binv,fillL,setR,↓reduceIte,Nat.reduceEqDiff,Nat.reduceAdd,Nat.reduceMul,Nat.reduceLeDiff,Nat.reduceLT,Nat.reduceSub,reduceCtorEq,zGr, l12] | ((with_reducible refine rows_intro (fun _ hb => ?_)); try simp only [set_none, ne_eq] at hb) | ((with_reducible refine new_intro (fun _ hb => ?_)); try simp only [set_none, ne_eq] at hb) | (with_reducible refine draw_same ?_) | ((with_reducible refine gd_split ?_ (fun _ => ?_) (fun _ => ?_)); exact rfl) | ((with_reducible refine td_split ?_ (fun _ => ?_) (fun _ => ?_)); exact rfl) | (with_reducible refine c_split (fun _ => ?_) (fun _ => ?_)) | (with_reducible refine app_read o1 l2 f2 ?_ (qcells_oc _) ?_ ?_ (fun v3 B3 H3 lB o3 => ?_)))
      · exact qcells_len _
      · simp only [maxLen]; omega
      · omega
      have l3 := lB.trans o3.le
      have hf3 := fl_three l3
      repeat' (first | simp -implicitDefEqProofs only [zG1,zG2,zG3,zG4,zG5,zG6,zG7,eq_self,resV,rval,X.val,binv,fillL,setR,↓reduceIte,Nat.reduceEqDiff,Nat.reduceAdd,Nat.reduceMul,Nat.reduceLeDiff,Nat.reduceLT,Nat.reduceSub,reduceCtorEq,zGr, g1, hf3, l3] | ((with_reducible refine rows_intro (fun _ hb => ?_)); try simp only [set_none, ne_eq] at hb) | ((with_reducible refine new_intro (fun _ hb => ?_)); try simp only [set_none, ne_eq] at hb) | (with_reducible refine draw_same ?_) | ((with_reducible refine gd_split ?_ (fun _ => ?_) (fun _ => ?_)); exact rfl) | ((with_reducible refine td_split ?_ (fun _ => ?_) (fun _ => ?_)); exact rfl) | (with_reducible refine c_split (fun _ => ?_) (fun _ => ?_)) | (with_reducible refine app_lit o3 ‹_› rfl ?_ ?_ ?_ (fun _ _ ho' => ?_)))
      · simp only [maxLen]; omega
      · omega
      · obtain ⟨H4, l4, o4⟩ := ho'.weaken (hl0.trans (lB.trans ((AHeap.le.refl _).fresh (o3.none' ‹_›) _)))
        refine ⟨H4, l4, h _ _ ?_⟩
        simpa only [List.append_assoc, List.length_append, List.length_cons, List.length_nil, Nat.add_assoc] using o4
variable (H : AHeap) (K : Value → AHeap → Prop)
end Go.Proofs.Ytfjhjfddgdokgaa
namespace Go.Proofs.Ytfjhjfddgdokgaa
set_option linter.all false
open Go Go.RowKit
set_option maxRecDepth 100000
variable (w0 : World) (H : AHeap) (K : Value → AHeap → Prop)
theorem eqQuad_ok (p q : Qd) (h : K (.bool (decide (p = q))) H) : ACalls Try.prog w0 73 [p.val, q.val] H K := by
  refine acalls_of_sx mix Try.func73 of73 (by simp [ir73]) ?_; rw [ir73]; (try delta qT qI qC qO qM qG)
  repeat' (first | simp -implicitDefEqProofs only [zG1,zG2,zG3,zG4,zG5,zG6,zG7,eq_self,resV,rval,X.val,binv,fillL,setR,↓reduceIte,Nat.reduceEqDiff,Nat.reduceAdd,Nat.reduceMul,Nat.reduceLeDiff,Nat.reduceLT,Nat.reduceSub,reduceCtorEq,zGr, q_val, *] | ((with_reducible refine rows_intro (fun _ hb => ?_)); try simp only [set_none, ne_eq] at hb) | ((with_reducible refine new_intro (fun _ hb => ?_)); try simp only [set_none, ne_eq] at hb) | (with_reducible refine draw_same ?_) | ((with_reducible refine gd_split ?_ (fun _ => ?_) (fun _ => ?_)); exact rfl) | ((with_reducible refine td_split ?_ (fun _ => ?_) (fun _ => ?_)); exact rfl) | (with_reducible refine c_split (fun _ => ?_) (fun _ => ?_)))
  all_goals refine ⟨H, ((AHeap.le.refl H).fresh ‹H _ = none› _).trans (AHeap.le.fresh (.refl _) (set_none.2 (by assumption)) _), kb h ?_⟩
  all_goals (try simp only [beq_iff_eq, beq_eq_false_iff_ne, bne_iff_ne, bne_eq_false_iff_eq, decide_eq_true_eq, decide_eq_false_iff_not, ne_eq, Bool.not_eq_true, Bool.not_eq_false, Bool.not_eq_eq_eq_not, Bool.not_true, Bool.not_false, Int.not_lt, Int.not_le, ge_iff_le, gt_iff_lt] at *)
  all_goals (cases p; cases q; simp only [Qd.mk.injEq] at *; simp_all)
theorem eqQuadS_ok (A B : Option Addr) (ca cb : Nat) (xs ys : List Qd) (hx : Fl H A (qcells xs)) (hy : Fl H B (qcells ys)) (hn : xs.length ≤ 4611686018427387904) (h : K (.bool (decide (xs = ys))) H) :
    ACalls Try.prog w0 19 [.slice A xs.length ca, .slice B ys.length cb] H K := by
  refine acalls_of_sx mix Try.func19 of19 (by simp [ir19]) ?_; rw [ir19]; (try delta qT qI qC qO qM qG)
  repeat' (first | simp -implicitDefEqProofs only [zG1,zG2,zG3,zG4,zG5,zG6,zG7,eq_self,resV,rval,X.val,binv,fillL,setR,↓reduceIte,Nat.reduceEqDiff,Nat.reduceAdd,Nat.reduceMul,Nat.reduceLeDiff,Nat.reduceLT,Nat.reduceSub,reduceCtorEq,zGr] | ((with_reducible refine rows_intro (fun _ hb => ?_)); try simp only [set_none, ne_eq] at hb) | ((with_reducible refine new_intro (fun _ hb => ?_)); try simp only [set_none, ne_eq] at hb) | (with_reducible refine draw_same ?_) | ((with_reducible refine gd_split ?_ (fun _ => ?_) (fun _ => ?_)); exact rfl) | ((with_reducible refine td_split ?_ (fun _ => ?_) (fun _ => ?_)); exact rfl) | (with_reducible refine c_split (fun _ => ?_) (fun _ => ?_)))
  · refine ret_same (kb h ?_)
    (try simp only [beq_iff_eq, beq_eq_false_iff_ne, bne_iff_ne, bne_eq_false_iff_eq, decide_eq_true_eq, decide_eq_false_iff_not, ne_eq, Bool.not_eq_true, Bool.not_eq_false, Bool.not_eq_eq_eq_not, Bool.not_true, Bool.not_false, Int.not_lt, Int.not_le, ge_iff_le, gt_iff_lt] at *)
    simp only [false_eq_decide_iff]
    intro e; subst e; omega
  · refine loop_rule (fun n fr H' => ∃ k : Nat, n = xs.length - k ∧ k ≤ xs.length ∧ H' = H ∧ (∀ i, i < k → xs[i]? = ys[i]?) ∧ fr 0 = .slice A xs.length ca ∧ fr 1 = .slice B ys.length cb ∧ fr 5 = .int .i64 k) xs.length
      ⟨0, rfl, Nat.zero_le _, rfl, fun i hi => absurd hi (Nat.not_lt_zero _), rfl, rfl, rfl⟩ ?_
    rintro n fr _ ⟨k, rfl, hk, rfl, he, h0, h1, h5⟩
    have hl : xs.length = ys.length := by (try simp only [beq_iff_eq, beq_eq_false_iff_ne, bne_iff_ne, bne_eq_false_iff_eq, decide_eq_true_eq, decide_eq_false_iff_not, ne_eq, Bool.not_eq_true, Bool.not_eq_false, Bool.not_eq_eq_eq_not, Bool.not_true, Bool.not_false, Int.not_lt, Int.not_le, ge_iff_le, gt_iff_lt] at *); omega
    by_cases hlt : k < xs.length
    · have hlt' : k < ys.length := by omega
      have g0 := lt_dec hlt
      have g1 := rng hlt
      have g2 := rng hlt'
      have g3 := up1 hlt hn
      have p0 := hx.quad hlt
      have r0 := hy.quad hlt'
      repeat' (first | simp -implicitDefEqProofs only [zG1,zG2,zG3,zG4,zG5,zG6,zG7,eq_self,resV,rval,X.val,binv,fillL,setR,↓reduceIte,Nat.reduceEqDiff,Nat.reduceAdd,Nat.reduceMul,Nat.reduceLeDiff,Nat.reduceLT,Nat.reduceSub,reduceCtorEq,zGr, h0, h1, h5, g0, g1, g2, g3, p0, r0, Nat.add_zero] | ((with_reducible refine rows_intro (fun _ hb => ?_)); try simp only [set_none, ne_eq] at hb) | ((with_reducible refine new_intro (fun _ hb => ?_)); try simp only [set_none, ne_eq] at hb) | (with_reducible refine draw_same ?_) | ((with_reducible refine gd_split ?_ (fun _ => ?_) (fun _ => ?_)); exact rfl) | ((with_reducible refine td_split ?_ (fun _ => ?_) (fun _ => ?_)); exact rfl) | (with_reducible refine c_split (fun _ => ?_) (fun _ => ?_)) | (with_reducible refine eqQuad_ok _ _ _ xs[k] ys[k] ?_))
      · refine ret_same (kb h ?_)
        (try simp only [beq_iff_eq, beq_eq_false_iff_ne, bne_iff_ne, bne_eq_false_iff_eq, decide_eq_true_eq, decide_eq_false_iff_not, ne_eq, Bool.not_eq_true, Bool.not_eq_false, Bool.not_eq_eq_eq_not, Bool.not_true, Bool.not_false, Int.not_lt, Int.not_le, ge_iff_le, gt_iff_lt] at *)
        simp only [false_eq_decide_iff]
        rintro rfl
        exact absurd rfl ‹¬ xs[k] = _›
      · refine ⟨_, _, ?_, AHeap.le.refl _, k + 1, rfl, by omega, rfl, fun i hi => ?_, by simp [put_at, h0], by simp [put_at, h1], by simp [put_at]⟩
        · omega
        · rcases Nat.lt_succ_iff_lt_or_eq.1 hi with hi | rfl
          · exact he i hi
          · (try simp only [beq_iff_eq, beq_eq_false_iff_ne, bne_iff_ne, bne_eq_false_iff_eq, decide_eq_true_eq, decide_eq_false_iff_not, ne_eq, Bool.not_eq_true, Bool.not_eq_false, Bool.not_eq_eq_eq_not, Bool.not_true, Bool.not_false, Int.not_lt, Int.not_le, ge_iff_le, gt_iff_lt] at *)
            rw [List.getElem?_eq_getElem hlt, List.getElem?_eq_getElem hlt']
            exact congrArg some ‹_›
    · have g0 := ge_dec hlt
      repeat' (first | simp -implicitDefEqProofs only [zG1,zG2,zG3,zG4,zG5,zG6,zG7,eq_self,resV,rval,X.val,binv,fillL,setR,↓reduceIte,Nat.reduceEqDiff,Nat.reduceAdd,Nat.reduceMul,Nat.reduceLeDiff,Nat.reduceLT,Nat.reduceSub,reduceCtorEq,zGr, h0, h1, h5, g0] | ((with_reducible refine rows_intro (fun _ hb => ?_)); try simp only [set_none, ne_eq] at hb) | ((with_reducible refine new_intro (fun _ hb => ?_)); try simp only [set_none, ne_eq] at hb) | (with_reducible refine draw_same ?_) | ((with_reducible refine gd_split ?_ (fun _ => ?_) (fun _ => ?_)); exact rfl) | ((with_reducible refine td_split ?_ (fun _ => ?_) (fun _ => ?_)); exact rfl) | (with_reducible refine c_split (fun _ => ?_) (fun _ => ?_)))
      refine ret_same (kb h ?_)
      simp only [true_eq_decide_iff]
      apply List.ext_getElem?
      intro i
      by_cases hi : i < k
      · exact he i hi
      · rw [List.getElem?_eq_none (by omega), List.getElem?_eq_none (by omega)]
def opAt (qs : List Qd) (i : Nat) : Int := ((qs[i]?).map (·.op)).getD 0
def nAt (qs : List Qd) (i : Nat) : Int := ((qs[i]?).map (·.n)).getD 0
def codeValid (qs : List Qd) : Bool := decide (1 ≤ qs.length) && decide (qs.length ≤ 600) && (qs.all fun q => quadValid q qs.length) && (opAt qs (qs.length - 1) == 10 || opAt qs (qs.length - 1) == 4)
theorem code_at {qs : List Qd} (h : codeValid qs = true) : 1 ≤ qs.length ∧ qs.length ≤ 600 ∧ ∀ i (hi : i < qs.length), quadValid qs[i] qs.length = true := by
  simp only [codeValid, Bool.and_eq_true, decide_eq_true_eq, List.all_eq_true] at h
  exact ⟨h.1.1.1, h.1.1.2, fun i hi => h.1.2 _ (List.getElem_mem hi)⟩
theorem sub1 {n : Nat} (h : 1 ≤ n) (hn : n ≤ 4611686018427387904) : IntKind.i64.wrap ((n : Int) - 1) = ((n - 1 : Nat) : Int) := by rw [wrap_i64 (by omega) (by omega)]; omega
end Go.Proofs.Ytfjhjfddgdokgaa
namespace Go.Proofs.Ytfjhjfddgdokgaa
set_option linter.all false
open Go Go.RowKit
def compE (e : Ex) : List Qd := comp 5 e 4
def haltQ : Qd := ⟨10, 0, 0, 0, 0⟩
mutual
/-- How many quads a statement has. -/
def szS : St → Nat
  | .mk k _ _ e body els =>
    if k = 2 then (compE e).length + 1 + szL body + (if els.isEmpty then 0 else 1 + szL els)
    else if k = 3 then (compE e).length + 2 + szL body
    else if k = 5 ∨ k = 6 then 1
    else (compE e).length + 1
def szL : List St → Nat
  | [] => 0
  | s :: ss => szS s + szL ss
end
mutual
/-- The quads of a statement that begins at an index. -/
def compS : St → Nat → List Qd
  | .mk k v b e body els, i =>
    if k = 2 then
      (if els.isEmpty then compE e ++ ⟨5, 0, 4, 0, ((i + (compE e).length + 1 + szL body : Nat) : Int)⟩ :: compL body (i + (compE e).length + 1)
      else compE e ++ ⟨5, 0, 4, 0, ((i + (compE e).length + 1 + szL body + 1 : Nat) : Int)⟩ :: (compL body (i + (compE e).length + 1) ++
        ⟨4, 0, 0, 0, ((i + (compE e).length + 1 + szL body + 1 + szL els : Nat) : Int)⟩ :: compL els (i + (compE e).length + 1 + szL body + 1)))
    else if k = 3 then compE e ++ ⟨5, 0, 4, 0, ((i + (compE e).length + 1 + szL body + 1 : Nat) : Int)⟩ :: (compL body (i + (compE e).length + 1) ++ [⟨4, 0, 0, 0, (i : Int)⟩])
    else if k = 5 then [⟨7, v, 0, 0, b⟩]
    else if k = 6 then [⟨8, 0, 0, 0, 0⟩]
    else if k = 1 then compE e ++ [⟨2, v, 4, 0, 0⟩]
    else if k = 4 then compE e ++ [⟨6, 0, 4, 0, b⟩]
    else compE e ++ [⟨9, 0, 4, 0, 0⟩]
def compL : List St → Nat → List Qd
  | [], _ => []
  | s :: ss, i => compS s i ++ compL ss (i + szS s)
end
def compTask (ss : List St) : List Qd := compL ss 0 ++ [haltQ]
def compileTask (ss : List St) : List Qd := if stsOk ss then compTask ss else []
mutual
theorem compS_len : ∀ (s : St) (i : Nat), (compS s i).length = szS s
  | .mk k v b e body els, i => by
    have hb := fun j => compL_len body j
    have hl := fun j => compL_len els j
    by_cases h2 : k = 2
    · subst h2
      simp only [compS, szS, if_true]
      split
      · simp only [List.length_append, List.length_cons, hb]; omega
      · simp only [List.length_append, List.length_cons, hb, hl]; omega
    · by_cases h3 : k = 3
      · subst h3
        simp only [compS, szS, if_neg h2, if_true, List.length_append, List.length_cons, List.length_nil, hb]; omega
      · by_cases h5 : k = 5
        · subst h5; simp [compS, szS]
        · by_cases h6 : k = 6
          · subst h6; simp [compS, szS]
          · have h56 : ¬ (k = 5 ∨ k = 6) := by omega
            simp only [compS, szS, if_neg h2, if_neg h3, if_neg h5, if_neg h6, if_neg h56]
            split
            · simp
            · split <;> simp
theorem compL_len : ∀ (ss : List St) (i : Nat), (compL ss i).length = szL ss
  | [], _ => by simp only [compL, szL, List.length_nil]
  | s :: ss, i => by simp only [compL, szL, List.length_append, compS_len s, compL_len ss]
end
theorem compE_le (e : Ex) : (compE e).length ≤ 31 := by have := comp_len 5 e 4; simp only [compE]; omega
mutual
theorem szS_le : ∀ s : St, szS s ≤ 33 * s.cnt
  | .mk k v b e body els => by
    have h0 := compE_le e
    have h1 := szL_le body
    have h2 := szL_le els
    simp only [szS, St.cnt]
    repeat' split
    all_goals omega
theorem szL_le : ∀ ss : List St, szL ss ≤ 33 * cntL ss
  | [] => by simp [szL]
  | s :: ss => by
    have h1 := szS_le s
    have h2 := szL_le ss
    simp only [szL, cntL]; omega
end
theorem szL_app : ∀ ss ts : List St, szL (ss ++ ts) = szL ss + szL ts
  | [], ts => by simp [szL]
  | s :: ss, ts => by simp only [List.cons_append, szL, szL_app ss ts]; omega
theorem compL_app : ∀ (ss ts : List St) (i : Nat), compL (ss ++ ts) i = compL ss i ++ compL ts (i + szL ss)
  | [], ts, i => by simp [compL, szL]
  | s :: ss, ts, i => by simp only [List.cons_append, compL, szL, compL_app ss ts, List.append_assoc, Nat.add_assoc]
theorem szL_take {ss : List St} {k : Nat} (h : k < ss.length) : szL (ss.take (k + 1)) = szL (ss.take k) + szS ss[k] := by
  rw [List.take_add_one, List.getElem?_eq_getElem h, szL_app]; simp [szL]
theorem compL_take {ss : List St} {k : Nat} (h : k < ss.length) (i : Nat) : compL (ss.take (k + 1)) i = compL (ss.take k) i ++ compS ss[k] (i + szL (ss.take k)) := by
  rw [List.take_add_one, List.getElem?_eq_getElem h, compL_app]; simp [compL]
theorem plain_ok {e : Ex} (h : plainE e = true) : exprOk 5 e = true := by
  cases e with
  | mk op n args =>
    simp only [plainE, Ex.op, Ex.n, Ex.args, Bool.and_eq_true, beq_iff_eq] at h
    obtain ⟨⟨rfl, rfl⟩, h⟩ := h
    simp [exprOk, h]
/-- The expression of every valid statement can be compiled. -/
theorem stOk_e {d : Nat} {s : St} (h : stOk d s = true) : exprOk 5 s.e = true := by
  have simple : stSimple s = true → exprOk 5 s.e = true := by
    intro h
    simp only [stSimple, Bool.and_eq_true] at h
    replace h := h.2
    repeat' split at h
    all_goals first
      | (cases h; done)
      | (simp only [Bool.and_eq_true] at h; first | exact h.2 | exact plain_ok h.2)
  cases d with
  | zero =>
    simp only [stOk] at h
    split at h
    · cases h
    · exact simple h
  | succ d =>
    simp only [stOk] at h
    split at h
    · simp only [stBlock, Bool.and_eq_true] at h
      exact h.1.1.1.2
    · exact simple h
theorem stOk_simple {d : Nat} {s : St} (h : stOk d s = true) (h2 : s.kind ≠ 2) (h3 : s.kind ≠ 3) : stSimple s = true := by
  cases d with
  | zero =>
    simp only [stOk] at h
    rwa [if_neg (by omega)] at h
  | succ d =>
    simp only [stOk] at h
    rwa [if_neg (by omega)] at h
theorem stOk_block {d : Nat} {s : St} (h : stOk d s = true) (hk : s.kind = 2 ∨ s.kind = 3) : ∃ d', d = d' + 1 ∧ stBlock s = true ∧ s.body.all (stOk d') = true ∧ s.els.all (stOk d') = true := by
  cases d with
  | zero =>
    simp only [stOk] at h
    rw [if_pos hk] at h; cases h
  | succ d =>
    simp only [stOk] at h
    rw [if_pos hk] at h
    simp only [Bool.and_eq_true] at h
    exact ⟨d, rfl, h.1.1, h.1.2, h.2⟩
theorem simple_kind {s : St} (h : stSimple s = true) : s.kind = 1 ∨ s.kind = 4 ∨ s.kind = 5 ∨ s.kind = 6 ∨ s.kind = 7 := by
  simp only [stSimple, Bool.and_eq_true] at h
  replace h := h.2
  repeat' split at h
  all_goals first
    | (cases h; done)
    | omega
theorem simple_q {s : St} (h : stSimple s = true) (i : Nat) : ∃ q, compS s i = (if s.kind = 5 ∨ s.kind = 6 then [] else compE s.e) ++ [q] ∧ (∀ m, quadValid q m = true) ∧ q.op ≠ 10 ∧ q.op ≠ 4 ∧ q.op ≠ 5 ∧
    q = (if s.kind = 5 then ⟨7, s.var, 0, 0, s.box⟩ else if s.kind = 6 then ⟨8, 0, 0, 0, 0⟩ else if s.kind = 1 then ⟨2, s.var, 4, 0, 0⟩ else if s.kind = 4 then ⟨6, 0, 4, 0, s.box⟩ else ⟨9, 0, 4, 0, 0⟩) := by
  cases s with
  | mk k v b e body els =>
    have hk := simple_kind h
    have h : (body.isEmpty && els.isEmpty &&
      if k = 1 then decide (0 ≤ v) && decide (v ≤ 3) && b == 0 && exprOk 5 e
      else if k = 4 then v == 0 && decide (0 ≤ b) && decide (b ≤ 2) && exprOk 5 e
      else if k = 5 then decide (0 ≤ v) && decide (v ≤ 3) && decide (0 ≤ b) && decide (b ≤ 2) && plainE e
      else if k = 6 then v == 0 && b == 0 && plainE e
      else if k = 7 then v == 0 && b == 0 && exprOk 5 e
      else false) = true := h
    simp only [St.kind, St.var, St.box, St.e] at hk ⊢
    simp only [Bool.and_eq_true] at h
    replace h := h.2
    simp only [compS]
    rcases hk with rfl | rfl | rfl | rfl | rfl
    all_goals
      simp at h
      refine ⟨_, rfl, fun m => ?_, ?_, ?_, ?_, rfl⟩
      · simp [quadValid, isReg]; try omega
      · simp
      · simp
      · simp
theorem compTask_len (ss : List St) : (compTask ss).length = szL ss + 1 := by simp [compTask, compL_len]
theorem compileTask_le (ss : List St) : (compileTask ss).length ≤ 529 := by
  unfold compileTask
  split
  · rename_i h
    simp only [stsOk, Bool.and_eq_true, decide_eq_true_eq] at h
    rw [compTask_len]; have := szL_le ss; omega
  · simp
end Go.Proofs.Ytfjhjfddgdokgaa
namespace Go.Proofs.Ytfjhjfddgdokgaa
set_option linter.all false
open Go Go.RowKit
set_option maxRecDepth 100000
variable (w0 : World)
/-- The value of a statement. -/
abbrev stv (k v b : Int) (e : Ex) (n1 n2 : Nat) (A0 : Option Addr) (c0 : Nat) (A1 : Option Addr) (c1 : Nat) (A2 : Option Addr) (c2 : Nat) : Value :=
  .agg #[.int .i64 k, .int .i64 v, .int .i64 b, .int .i64 e.op, .int .i64 e.n, .slice A0 e.args.length c0, .slice A1 n1 c1, .slice A2 n2 c2]
section
variable (H : AHeap) (K : Value → AHeap → Prop) (s : St) (A0 : Option Addr) (c0 : Nat) (A1 : Option Addr) (c1 : Nat) (A2 : Option Addr) (c2 : Nat)
theorem l11Plain_ok (e : Ex) (h : K (.bool (plainE e)) H) : ACalls Try.prog w0 205 [.agg #[.int .i64 e.op, .int .i64 e.n, .slice A0 e.args.length c0]] H K := by
  have e1 : plainE e = ((e.op == 0) && (e.n == 0) && (((e.args.length : Nat) : Int) == 0)) := by
    have : e.args.isEmpty = (((e.args.length : Nat) : Int) == 0) := by
      cases e.args with
      | nil => rfl
      | cons x xs => simp <;> omega
    simp only [plainE, this]
  rw [e1] at h
  refine acalls_of_sx mix Try.func205 of205 (by simp [ir205]) ?_; rw [ir205]; (try delta qT qI qC qO qM qG)
  repeat' (first | simp -implicitDefEqProofs only [zG1,zG2,zG3,zG4,zG5,zG6,zG7,eq_self,resV,rval,X.val,binv,fillL,setR,↓reduceIte,Nat.reduceEqDiff,Nat.reduceAdd,Nat.reduceMul,Nat.reduceLeDiff,Nat.reduceLT,Nat.reduceSub,reduceCtorEq,zGr] | ((with_reducible refine rows_intro (fun _ hb => ?_)); try simp only [set_none, ne_eq] at hb) | ((with_reducible refine new_intro (fun _ hb => ?_)); try simp only [set_none, ne_eq] at hb) | (with_reducible refine draw_same ?_) | ((with_reducible refine gd_split ?_ (fun _ => ?_) (fun _ => ?_)); exact rfl) | ((with_reducible refine td_split ?_ (fun _ => ?_) (fun _ => ?_)); exact rfl) | (with_reducible refine c_split (fun _ => ?_) (fun _ => ?_)))
  all_goals exact ⟨H, (by simp -implicitDefEqProofs only [le_set_true, le_refl_true, eq_self, *]), by simp_all⟩
theorem l11Var_ok (n1 n2 : Nat) (k v b : Int) (e : Ex) (u : Bool) (h : K (.bool (if u then decide (0 ≤ v) && decide (v ≤ 3) else v == 0)) H) : ACalls Try.prog w0 195 [stv k v b e n1 n2 A0 c0 A1 c1 A2 c2, .bool u] H K := by
  cases u
  all_goals
    refine acalls_of_sx mix Try.func195 of195 (by simp [ir195]) ?_; rw [ir195]; (try delta qT qI qC qO qM qG)
    repeat' (first | simp -implicitDefEqProofs only [zG1,zG2,zG3,zG4,zG5,zG6,zG7,eq_self,resV,rval,X.val,binv,fillL,setR,↓reduceIte,Nat.reduceEqDiff,Nat.reduceAdd,Nat.reduceMul,Nat.reduceLeDiff,Nat.reduceLT,Nat.reduceSub,reduceCtorEq,zGr] | ((with_reducible refine rows_intro (fun _ hb => ?_)); try simp only [set_none, ne_eq] at hb) | ((with_reducible refine new_intro (fun _ hb => ?_)); try simp only [set_none, ne_eq] at hb) | (with_reducible refine draw_same ?_) | ((with_reducible refine gd_split ?_ (fun _ => ?_) (fun _ => ?_)); exact rfl) | ((with_reducible refine td_split ?_ (fun _ => ?_) (fun _ => ?_)); exact rfl) | (with_reducible refine c_split (fun _ => ?_) (fun _ => ?_)) | (with_reducible refine l6In_ok _ _ _ _ _ _ ?_))
    all_goals exact ⟨H, (by simp -implicitDefEqProofs only [le_set_true, le_refl_true, eq_self, *]), by simpa using h⟩
theorem l11Box_ok (n1 n2 : Nat) (k v b : Int) (e : Ex) (u : Bool) (h : K (.bool (if u then decide (0 ≤ b) && decide (b ≤ 2) else b == 0)) H) : ACalls Try.prog w0 196 [stv k v b e n1 n2 A0 c0 A1 c1 A2 c2, .bool u] H K := by
  cases u
  all_goals
    refine acalls_of_sx mix Try.func196 of196 (by simp [ir196]) ?_; rw [ir196]; (try delta qT qI qC qO qM qG)
    repeat' (first | simp -implicitDefEqProofs only [zG1,zG2,zG3,zG4,zG5,zG6,zG7,eq_self,resV,rval,X.val,binv,fillL,setR,↓reduceIte,Nat.reduceEqDiff,Nat.reduceAdd,Nat.reduceMul,Nat.reduceLeDiff,Nat.reduceLT,Nat.reduceSub,reduceCtorEq,zGr] | ((with_reducible refine rows_intro (fun _ hb => ?_)); try simp only [set_none, ne_eq] at hb) | ((with_reducible refine new_intro (fun _ hb => ?_)); try simp only [set_none, ne_eq] at hb) | (with_reducible refine draw_same ?_) | ((with_reducible refine gd_split ?_ (fun _ => ?_) (fun _ => ?_)); exact rfl) | ((with_reducible refine td_split ?_ (fun _ => ?_) (fun _ => ?_)); exact rfl) | (with_reducible refine c_split (fun _ => ?_) (fun _ => ?_)) | (with_reducible refine l6In_ok _ _ _ _ _ _ ?_))
    all_goals exact ⟨H, (by simp -implicitDefEqProofs only [le_set_true, le_refl_true, eq_self, *]), by simpa using h⟩
end
theorem emp (α : Type) (l : List α) : decide (((l.length : Nat) : Int) > 0) = !l.isEmpty := by
  cases l with
  | nil => rfl
  | cons x xs => simp <;> omega
theorem l11Simple_ok (s : St) (A0 : Option Addr) (c0 : Nat) (A1 : Option Addr) (c1 : Nat) (A2 : Option Addr) (c2 : Nat) (H : AHeap) (K : Value → AHeap → Prop) (hv : ExV H s.e [.int .i64 s.e.op, .int .i64 s.e.n, .slice A0 s.e.args.length c0]) (h : K (.bool (stSimple s)) H) :
    ACalls Try.prog w0 194 [stv s.kind s.var s.box s.e s.body.length s.els.length A0 c0 A1 c1 A2 c2] H K := by
  have e1 := emp St s.body
  have e2 := emp St s.els
  refine acalls_of_sx mix Try.func194 of194 (by simp [ir194]) ?_; rw [ir194]; (try delta qT qI qC qO qM qG)
  repeat' (first | simp -implicitDefEqProofs only [zG1,zG2,zG3,zG4,zG5,zG6,zG7,eq_self,resV,rval,X.val,binv,fillL,setR,↓reduceIte,Nat.reduceEqDiff,Nat.reduceAdd,Nat.reduceMul,Nat.reduceLeDiff,Nat.reduceLT,Nat.reduceSub,reduceCtorEq,zGr, e1, e2] | ((with_reducible refine rows_intro (fun _ hb => ?_)); try simp only [set_none, ne_eq] at hb) | ((with_reducible refine new_intro (fun _ hb => ?_)); try simp only [set_none, ne_eq] at hb) | (with_reducible refine draw_same ?_) | ((with_reducible refine gd_split ?_ (fun _ => ?_) (fun _ => ?_)); exact rfl) | ((with_reducible refine td_split ?_ (fun _ => ?_) (fun _ => ?_)); exact rfl) | (with_reducible refine c_split (fun _ => ?_) (fun _ => ?_)) | (with_reducible refine l11Var_ok _ _ _ _ _ _ _ _ _ _ _ _ _ _ _ _ ?_) | (with_reducible refine l11Box_ok _ _ _ _ _ _ _ _ _ _ _ _ _ _ _ _ ?_) | (with_reducible refine l11Plain_ok _ _ _ _ _ _ ?_) | (with_reducible refine exprValid5S_ok _ _ _ s.e A0 c0 (hv.le ((AHeap.le.refl H).fresh ‹_› _)) ?_))
  all_goals refine ⟨H, (by simp -implicitDefEqProofs only [le_set_true, le_refl_true, eq_self, *]), kb h ?_⟩
  all_goals clear h hv e1 e2
  all_goals (try simp only [beq_iff_eq, beq_eq_false_iff_ne, bne_iff_ne, bne_eq_false_iff_eq, decide_eq_true_eq, decide_eq_false_iff_not, ne_eq, Bool.not_eq_true, Bool.not_eq_false, Bool.not_eq_eq_eq_not, Bool.not_true, Bool.not_false, Int.not_lt, Int.not_le, ge_iff_le, gt_iff_lt] at *)
  all_goals (simp only [stSimple]; grind)
abbrev OkP (d : Nat) : Prop := ∀ (s : St) (A0 : Option Addr) (c0 : Nat) (A1 : Option Addr) (c1 : Nat) (A2 : Option Addr) (c2 : Nat) (H : AHeap) (K : Value → AHeap → Prop), s.cnt ≤ 1099511627776 →
  StV H s (stc s.kind s.var s.box s.e s.body.length s.els.length A0 c0 A1 c1 A2 c2) → K (.bool (stOk d s)) H → ACalls Try.prog w0 173 [stv s.kind s.var s.box s.e s.body.length s.els.length A0 c0 A1 c1 A2 c2, .int .i64 d] H K
abbrev BlP (d : Nat) : Prop := ∀ (ss : List St) (A : Option Addr) (c : Nat) (H : AHeap) (K : Value → AHeap → Prop), cntL ss ≤ 1099511627776 →
  StR H ss A 0 → K (.bool (ss.all (stOk d))) H → ACalls Try.prog w0 130 [.slice A ss.length c, .int .i64 d] H K
theorem blP_of (d : Nat) (ih : OkP w0 d) : BlP w0 d := by
  intro ss A c H K hc hR h
  have hl := cntL_len ss
  refine acalls_of_sx mix Try.func130 of130 (by simp [ir130]) ?_; rw [ir130]; (try delta qT qI qC qO qM qG)
  repeat' (first | simp -implicitDefEqProofs only [zG1,zG2,zG3,zG4,zG5,zG6,zG7,eq_self,resV,rval,X.val,binv,fillL,setR,↓reduceIte,Nat.reduceEqDiff,Nat.reduceAdd,Nat.reduceMul,Nat.reduceLeDiff,Nat.reduceLT,Nat.reduceSub,reduceCtorEq,zGr] | ((with_reducible refine rows_intro (fun _ hb => ?_)); try simp only [set_none, ne_eq] at hb) | ((with_reducible refine new_intro (fun _ hb => ?_)); try simp only [set_none, ne_eq] at hb) | (with_reducible refine draw_same ?_) | ((with_reducible refine gd_split ?_ (fun _ => ?_) (fun _ => ?_)); exact rfl) | ((with_reducible refine td_split ?_ (fun _ => ?_) (fun _ => ?_)); exact rfl) | (with_reducible refine c_split (fun _ => ?_) (fun _ => ?_)))
  refine for_rule ss.length (fun k fr C => C = H ∧ (∀ i (hi : i < ss.length), i < k → stOk d ss[i] = true) ∧ fr 0 = .slice A ss.length c ∧ fr 1 = .int .i64 d ∧ fr 5 = .int .i64 k)
    ⟨rfl, fun i hi hk => by omega, rfl, rfl, rfl⟩ ?_ ?_
  · rintro k fr _ hk ⟨rfl, he, f0, f1, f5⟩ N hN
    have g0 := lt_dec hk
    have g1 := rng hk
    have g2 := up1 hk (by omega)
    obtain ⟨gA, a0, d0, a1, d1, a2, d2, gp, hx⟩ := hR.arg hk
    have hct := cntL_at hk
    repeat' (first | simp -implicitDefEqProofs only [zG1,zG2,zG3,zG4,zG5,zG6,zG7,eq_self,resV,rval,X.val,binv,fillL,setR,↓reduceIte,Nat.reduceEqDiff,Nat.reduceAdd,Nat.reduceMul,Nat.reduceLeDiff,Nat.reduceLT,Nat.reduceSub,reduceCtorEq,zGr, f0, f1, f5, g0, g1, g2, gA, gp, Nat.add_zero] | ((with_reducible refine rows_intro (fun _ hb => ?_)); try simp only [set_none, ne_eq] at hb) | ((with_reducible refine new_intro (fun _ hb => ?_)); try simp only [set_none, ne_eq] at hb) | (with_reducible refine draw_same ?_) | ((with_reducible refine gd_split ?_ (fun _ => ?_) (fun _ => ?_)); exact rfl) | ((with_reducible refine td_split ?_ (fun _ => ?_) (fun _ => ?_)); exact rfl) | (with_reducible refine c_split (fun _ => ?_) (fun _ => ?_)) | (with_reducible refine ih ss[k] a0 d0 a1 d1 a2 d2 _ _ (by omega) hx ?_))
    · refine ret_same (kb h ?_)
      (try simp only [beq_iff_eq, beq_eq_false_iff_ne, bne_iff_ne, bne_eq_false_iff_eq, decide_eq_true_eq, decide_eq_false_iff_not, ne_eq, Bool.not_eq_true, Bool.not_eq_false, Bool.not_eq_eq_eq_not, Bool.not_true, Bool.not_false, Int.not_lt, Int.not_le, ge_iff_le, gt_iff_lt] at *)
      rw [eq_comm, List.all_eq_false]
      exact ⟨_, List.getElem_mem hk, by simp [*]⟩
    · (try simp only [beq_iff_eq, beq_eq_false_iff_ne, bne_iff_ne, bne_eq_false_iff_eq, decide_eq_true_eq, decide_eq_false_iff_not, ne_eq, Bool.not_eq_true, Bool.not_eq_false, Bool.not_eq_eq_eq_not, Bool.not_true, Bool.not_false, Int.not_lt, Int.not_le, ge_iff_le, gt_iff_lt] at *)
      refine hN _ _ _ (.refl _) ⟨rfl, fun i hi hik => ?_, (by first | rfl | (simp only [put_at, ↓reduceIte, Nat.reduceEqDiff]; first | done | rfl | assumption) | simp [put_at, *]), (by first | rfl | (simp only [put_at, ↓reduceIte, Nat.reduceEqDiff]; first | done | rfl | assumption) | simp [put_at, *]), (by first | rfl | (simp only [put_at, ↓reduceIte, Nat.reduceEqDiff]; first | done | rfl | assumption) | simp [put_at, *])⟩
      rcases Nat.lt_succ_iff_lt_or_eq.1 hik with hik | rfl
      · exact he i hi hik
      · assumption
  · rintro fr _ ⟨rfl, he, f0, f1, f5⟩ N
    have g0 : decide ((ss.length : Int) < (ss.length : Int)) = false := by simp
    repeat' (first | simp -implicitDefEqProofs only [zG1,zG2,zG3,zG4,zG5,zG6,zG7,eq_self,resV,rval,X.val,binv,fillL,setR,↓reduceIte,Nat.reduceEqDiff,Nat.reduceAdd,Nat.reduceMul,Nat.reduceLeDiff,Nat.reduceLT,Nat.reduceSub,reduceCtorEq,zGr, f0, f1, f5, g0] | ((with_reducible refine rows_intro (fun _ hb => ?_)); try simp only [set_none, ne_eq] at hb) | ((with_reducible refine new_intro (fun _ hb => ?_)); try simp only [set_none, ne_eq] at hb) | (with_reducible refine draw_same ?_) | ((with_reducible refine gd_split ?_ (fun _ => ?_) (fun _ => ?_)); exact rfl) | ((with_reducible refine td_split ?_ (fun _ => ?_) (fun _ => ?_)); exact rfl) | (with_reducible refine c_split (fun _ => ?_) (fun _ => ?_)))
    refine ret_same (kb h ?_)
    rw [eq_comm, List.all_eq_true]
    intro x hx
    obtain ⟨i, hi, rfl⟩ := List.getElem_of_mem hx
    exact he i hi hi
theorem okP_zero : OkP w0 0 := by
  intro s A0 c0 A1 c1 A2 c2 H K hc hv h
  obtain ⟨hE, ⟨hb1, hb2⟩, hl1, hl2⟩ := hv.parts
  have g1 : decide (((0 : Nat) : Int) < 1) = true := by decide
  refine acalls_of_sx mix Try.func173 of173 (by simp [ir173]) ?_; rw [ir173]; (try delta qT qI qC qO qM qG)
  repeat' (first | simp -implicitDefEqProofs only [zG1,zG2,zG3,zG4,zG5,zG6,zG7,eq_self,resV,rval,X.val,binv,fillL,setR,↓reduceIte,Nat.reduceEqDiff,Nat.reduceAdd,Nat.reduceMul,Nat.reduceLeDiff,Nat.reduceLT,Nat.reduceSub,reduceCtorEq,zGr, g1] | ((with_reducible refine rows_intro (fun _ hb => ?_)); try simp only [set_none, ne_eq] at hb) | ((with_reducible refine new_intro (fun _ hb => ?_)); try simp only [set_none, ne_eq] at hb) | (with_reducible refine draw_same ?_) | ((with_reducible refine gd_split ?_ (fun _ => ?_) (fun _ => ?_)); exact rfl) | ((with_reducible refine td_split ?_ (fun _ => ?_) (fun _ => ?_)); exact rfl) | (with_reducible refine c_split (fun _ => ?_) (fun _ => ?_)) | (with_reducible refine l11Simple_ok _ s A0 c0 A1 c1 A2 c2 _ _ (hE.le ((AHeap.le.refl H).fresh ‹_› _)) ?_))
  all_goals refine ⟨H, (by simp -implicitDefEqProofs only [le_set_true, le_refl_true, eq_self, *]), kb h ?_⟩
  all_goals (try simp only [beq_iff_eq, beq_eq_false_iff_ne, bne_iff_ne, bne_eq_false_iff_eq, decide_eq_true_eq, decide_eq_false_iff_not, ne_eq, Bool.not_eq_true, Bool.not_eq_false, Bool.not_eq_eq_eq_not, Bool.not_true, Bool.not_false, Int.not_lt, Int.not_le, ge_iff_le, gt_iff_lt] at *)
  all_goals (simp only [stOk]; grind)
theorem okP_succ (d : Nat) (hd : d ≤ 1000) (ih : BlP w0 d) : OkP w0 (d + 1) := by
  intro s A0 c0 A1 c1 A2 c2 H K hc hv h
  obtain ⟨hE, ⟨hb1, hb2⟩, hl1, hl2⟩ := hv.parts
  have hcs := s.cnt_eq
  have g1 : decide (((d + 1 : Nat) : Int) < 1) = false := by simp <;> omega
  have g2 : IntKind.i64.wrap (((d + 1 : Nat) : Int) - 1) = (d : Int) := by rw [wrap_i64 (by omega) (by omega)]; omega
  have e2 := emp St s.els
  refine acalls_of_sx mix Try.func173 of173 (by simp [ir173]) ?_; rw [ir173]; (try delta qT qI qC qO qM qG)
  repeat' (first | simp -implicitDefEqProofs only [zG1,zG2,zG3,zG4,zG5,zG6,zG7,eq_self,resV,rval,X.val,binv,fillL,setR,↓reduceIte,Nat.reduceEqDiff,Nat.reduceAdd,Nat.reduceMul,Nat.reduceLeDiff,Nat.reduceLT,Nat.reduceSub,reduceCtorEq,zGr, g1, g2, e2] | ((with_reducible refine rows_intro (fun _ hb => ?_)); try simp only [set_none, ne_eq] at hb) | ((with_reducible refine new_intro (fun _ hb => ?_)); try simp only [set_none, ne_eq] at hb) | (with_reducible refine draw_same ?_) | ((with_reducible refine gd_split ?_ (fun _ => ?_) (fun _ => ?_)); exact rfl) | ((with_reducible refine td_split ?_ (fun _ => ?_) (fun _ => ?_)); exact rfl) | (with_reducible refine c_split (fun _ => ?_) (fun _ => ?_)) | (with_reducible refine l11Simple_ok _ s A0 c0 A1 c1 A2 c2 _ _ (hE.le ((AHeap.le.refl H).fresh ‹_› _)) ?_) | (with_reducible refine l11Var_ok _ _ _ _ _ _ _ _ _ _ _ _ _ _ _ _ ?_) | (with_reducible refine l11Box_ok _ _ _ _ _ _ _ _ _ _ _ _ _ _ _ _ ?_) | (with_reducible refine exprValid5S_ok _ _ _ s.e A0 c0 (hE.le ((AHeap.le.refl H).fresh ‹_› _)) ?_) |
    (with_reducible refine ih s.body A1 c1 _ _ (by omega) (hb2.le ((AHeap.le.refl H).fresh ‹_› _)) ?_) | (with_reducible refine ih s.els A2 c2 _ _ (by omega) (hl2.le ((AHeap.le.refl H).fresh ‹_› _)) ?_))
  all_goals refine ⟨H, (by simp -implicitDefEqProofs only [le_set_true, le_refl_true, eq_self, *]), kb h ?_⟩
  all_goals clear h hv hE hb2 hl2 ih
  all_goals (try simp only [beq_iff_eq, beq_eq_false_iff_ne, bne_iff_ne, bne_eq_false_iff_eq, decide_eq_true_eq, decide_eq_false_iff_not, ne_eq, Bool.not_eq_true, Bool.not_eq_false, Bool.not_eq_eq_eq_not, Bool.not_true, Bool.not_false, Int.not_lt, Int.not_le, ge_iff_le, gt_iff_lt] at *)
  all_goals (simp only [stOk, stBlock]; grind)
theorem okP : ∀ d, d ≤ 1000 → OkP w0 d
  | 0, _ => okP_zero w0
  | d + 1, h => okP_succ w0 d (by omega) (blP_of w0 d (okP d (by omega)))
theorem l11Blocks_ok (d : Nat) (hd : d ≤ 1000) : BlP w0 d := blP_of w0 d (okP w0 d hd)
theorem l11Blocks3_ok (ss : List St) (A : Option Addr) (c : Nat) (H : AHeap) (K : Value → AHeap → Prop) (hc : cntL ss ≤ 1099511627776) (hR : StR H ss A 0) (h : K (.bool (ss.all (stOk 3))) H) :
    ACalls Try.prog w0 130 [.slice A ss.length c, .int .i64 3] H K := l11Blocks_ok w0 3 (by decide) ss A c H K hc hR h
abbrev CtP (ss : List St) : Prop := ∀ (A : Option Addr) (c : Nat) (H : AHeap) (K : Value → AHeap → Prop), cntL ss ≤ 1099511627776 →
  StR H ss A 0 → K (.int .i64 (cntL ss)) H → ACalls Try.prog w0 131 [.slice A ss.length c] H K
theorem ctP_of (ss : List St) (ih : ∀ s ∈ ss, CtP w0 s.body ∧ CtP w0 s.els) : CtP w0 ss := by
  intro A c H K hc hR h
  have hl := cntL_len ss
  refine acalls_of_sx mix Try.func131 of131 (by simp [ir131]) ?_; rw [ir131]; (try delta qT qI qC qO qM qG)
  repeat' (first | simp -implicitDefEqProofs only [zG1,zG2,zG3,zG4,zG5,zG6,zG7,eq_self,resV,rval,X.val,binv,fillL,setR,↓reduceIte,Nat.reduceEqDiff,Nat.reduceAdd,Nat.reduceMul,Nat.reduceLeDiff,Nat.reduceLT,Nat.reduceSub,reduceCtorEq,zGr] | ((with_reducible refine rows_intro (fun _ hb => ?_)); try simp only [set_none, ne_eq] at hb) | ((with_reducible refine new_intro (fun _ hb => ?_)); try simp only [set_none, ne_eq] at hb) | (with_reducible refine draw_same ?_) | ((with_reducible refine gd_split ?_ (fun _ => ?_) (fun _ => ?_)); exact rfl) | ((with_reducible refine td_split ?_ (fun _ => ?_) (fun _ => ?_)); exact rfl) | (with_reducible refine c_split (fun _ => ?_) (fun _ => ?_)))
  refine for_rule ss.length (fun k fr C => C = H ∧ fr 0 = .slice A ss.length c ∧ fr 3 = .int .i64 (cntL (ss.take k)) ∧ fr 4 = .int .i64 k)
    ⟨rfl, rfl, by simp [cntL, put_at], rfl⟩ ?_ ?_
  · rintro k fr _ hk ⟨rfl, f0, f3, f4⟩ N hN
    have g0 := lt_dec hk
    have g1 := rng hk
    have g2 := up1 hk (by omega)
    obtain ⟨gA, a0, d0, a1, d1, a2, d2, gp, hx⟩ := hR.arg hk
    obtain ⟨_, ⟨_, hb⟩, _, hl⟩ := hx.parts
    have hct := cntL_at hk
    have hcs := ss[k].cnt_eq
    have hst := cntL_take hk
    have hle := cntL_le (ss := ss) (k + 1)
    obtain ⟨ih1, ih2⟩ := ih ss[k] (List.getElem_mem hk)
    have w1 : IntKind.i64.wrap ((cntL (ss.take k) : Int) + 1) = (cntL (ss.take k) : Int) + 1 := wrap_i64 (by omega) (by omega)
    have w2 : IntKind.i64.wrap ((cntL (ss.take k) : Int) + 1 + (cntL ss[k].body : Int)) = (cntL (ss.take k) : Int) + 1 + (cntL ss[k].body : Int) := wrap_i64 (by omega) (by omega)
    have w3 : IntKind.i64.wrap ((cntL (ss.take k) : Int) + 1 + (cntL ss[k].body : Int) + (cntL ss[k].els : Int)) = (cntL (ss.take (k + 1)) : Int) := by rw [wrap_i64 (by omega) (by omega)]; omega
    repeat' (first | simp -implicitDefEqProofs only [zG1,zG2,zG3,zG4,zG5,zG6,zG7,eq_self,resV,rval,X.val,binv,fillL,setR,↓reduceIte,Nat.reduceEqDiff,Nat.reduceAdd,Nat.reduceMul,Nat.reduceLeDiff,Nat.reduceLT,Nat.reduceSub,reduceCtorEq,zGr, f0, f3, f4, g0, g1, g2, w1, w2, w3, gA, gp, Nat.add_zero] | ((with_reducible refine rows_intro (fun _ hb => ?_)); try simp only [set_none, ne_eq] at hb) | ((with_reducible refine new_intro (fun _ hb => ?_)); try simp only [set_none, ne_eq] at hb) | (with_reducible refine draw_same ?_) | ((with_reducible refine gd_split ?_ (fun _ => ?_) (fun _ => ?_)); exact rfl) | ((with_reducible refine td_split ?_ (fun _ => ?_) (fun _ => ?_)); exact rfl) | (with_reducible refine c_split (fun _ => ?_) (fun _ => ?_)) | (with_reducible refine ih1 a1 d1 _ _ (by omega) hb ?_) | (with_reducible refine ih2 a2 d2 _ _ (by omega) hl ?_))
    all_goals exact hN _ _ _ (.refl _) ⟨rfl, (by first | rfl | (simp only [put_at, ↓reduceIte, Nat.reduceEqDiff]; first | done | rfl | assumption) | simp [put_at, *]), (by first | rfl | (simp only [put_at, ↓reduceIte, Nat.reduceEqDiff]; first | done | rfl | assumption) | simp [put_at, *]), (by first | rfl | (simp only [put_at, ↓reduceIte, Nat.reduceEqDiff]; first | done | rfl | assumption) | simp [put_at, *])⟩
  · rintro fr _ ⟨rfl, f0, f3, f4⟩ N
    have g0 : decide ((ss.length : Int) < (ss.length : Int)) = false := by simp
    rw [List.take_length] at f3
    repeat' (first | simp -implicitDefEqProofs only [zG1,zG2,zG3,zG4,zG5,zG6,zG7,eq_self,resV,rval,X.val,binv,fillL,setR,↓reduceIte,Nat.reduceEqDiff,Nat.reduceAdd,Nat.reduceMul,Nat.reduceLeDiff,Nat.reduceLT,Nat.reduceSub,reduceCtorEq,zGr, f0, f3, f4, g0] | ((with_reducible refine rows_intro (fun _ hb => ?_)); try simp only [set_none, ne_eq] at hb) | ((with_reducible refine new_intro (fun _ hb => ?_)); try simp only [set_none, ne_eq] at hb) | (with_reducible refine draw_same ?_) | ((with_reducible refine gd_split ?_ (fun _ => ?_) (fun _ => ?_)); exact rfl) | ((with_reducible refine td_split ?_ (fun _ => ?_) (fun _ => ?_)); exact rfl) | (with_reducible refine c_split (fun _ => ?_) (fun _ => ?_)))
    exact ret_same h
mutual
theorem ctS_ok : ∀ s : St, CtP w0 s.body ∧ CtP w0 s.els
  | .mk k v b e body els => ⟨ctP_of w0 body (ctL_ok body), ctP_of w0 els (ctL_ok els)⟩
theorem ctL_ok : ∀ ss : List St, ∀ s ∈ ss, CtP w0 s.body ∧ CtP w0 s.els
  | [], s, h => by cases h
  | x :: xs, s, h => by
    rcases List.mem_cons.1 h with h | h
    · rw [h]; exact ctS_ok x
    · exact ctL_ok xs s h
end
theorem l11Count_ok (ss : List St) : CtP w0 ss := ctP_of w0 ss (ctL_ok w0 ss)
theorem stmtsValidS_ok (ss : List St) (A : Option Addr) (c : Nat) (H : AHeap) (K : Value → AHeap → Prop) (hc : cntL ss ≤ 1099511627776) (hR : StR H ss A 0) (h : K (.bool (stsOk ss)) H) :
    ACalls Try.prog w0 66 [.slice A ss.length c] H K := by
  refine acalls_of_sx mix Try.func66 of66 (by simp [ir66]) ?_; rw [ir66]; (try delta qT qI qC qO qM qG)
  repeat' (first | simp -implicitDefEqProofs only [zG1,zG2,zG3,zG4,zG5,zG6,zG7,eq_self,resV,rval,X.val,binv,fillL,setR,↓reduceIte,Nat.reduceEqDiff,Nat.reduceAdd,Nat.reduceMul,Nat.reduceLeDiff,Nat.reduceLT,Nat.reduceSub,reduceCtorEq,zGr] | ((with_reducible refine rows_intro (fun _ hb => ?_)); try simp only [set_none, ne_eq] at hb) | ((with_reducible refine new_intro (fun _ hb => ?_)); try simp only [set_none, ne_eq] at hb) | (with_reducible refine draw_same ?_) | ((with_reducible refine gd_split ?_ (fun _ => ?_) (fun _ => ?_)); exact rfl) | ((with_reducible refine td_split ?_ (fun _ => ?_) (fun _ => ?_)); exact rfl) | (with_reducible refine c_split (fun _ => ?_) (fun _ => ?_)) | (with_reducible refine l11Blocks3_ok _ ss A c _ _ hc hR ?_) | (with_reducible refine l11Count_ok _ ss A c _ _ hc hR ?_))
  all_goals refine ret_same (kb h ?_)
  all_goals (try simp only [beq_iff_eq, beq_eq_false_iff_ne, bne_iff_ne, bne_eq_false_iff_eq, decide_eq_true_eq, decide_eq_false_iff_not, ne_eq, Bool.not_eq_true, Bool.not_eq_false, Bool.not_eq_eq_eq_not, Bool.not_true, Bool.not_false, Int.not_lt, Int.not_le, ge_iff_le, gt_iff_lt] at *)
  all_goals (simp only [stsOk]; grind)
end Go.Proofs.Ytfjhjfddgdokgaa
namespace Go.Proofs.Ytfjhjfddgdokgaa
set_option linter.all false
open Go Go.RowKit
theorem nat_add {a b : Nat} (h : a + b ≤ 4611686018427387904) : IntKind.i64.wrap ((a : Int) + (b : Int)) = ((a + b : Nat) : Int) := by rw [wrap_i64 (by omega) (by omega)]; omega
theorem nat_up {a : Nat} (h : a ≤ 4611686018427387904) : IntKind.i64.wrap ((a : Int) + 1) = ((a + 1 : Nat) : Int) := by rw [wrap_i64 (by omega) (by omega)]; omega
/-- v is a row of the call's own, over H. -/
def Row (H C : AHeap) (t : TypeId) (sz : Nat) (v : Value) (n : Nat) (xs : List Value) : Prop := ∃ bs, AHeap.le H C ∧ New H bs ∧ Rw C t sz v n xs bs
section
variable {P : Program} {w0 : World} {K : Value → AHeap → Prop} {H H' B C C' C2 : AHeap} {t : TypeId} {sz n m b : Nat} {v : Value} {xs news : List Value}
theorem Row.hle (h : Row H C t sz v n xs) : AHeap.le H C := by obtain ⟨_, l, _⟩ := h; exact l
theorem Row.le (h : Row H C t sz v n xs) (l : AHeap.le C C') : Row H C' t sz v n xs := by
  obtain ⟨bs, l0, nb, w⟩ := h
  exact ⟨bs, l0.trans l, nb, w.trans l⟩
theorem Row.base (h : Row H C t sz v n xs) (l : AHeap.le H' H) : Row H' C t sz v n xs := by
  obtain ⟨bs, l0, nb, w⟩ := h
  exact ⟨bs, l.trans l0, nb.le l, w⟩
theorem Row.fl (h : Row H C t sz v n xs) : ∃ A c, v = .slice A n c ∧ Fl C A xs := by
  obtain ⟨bs, l0, nb, w⟩ := h
  exact w.fl
theorem Row.fl' {A : Option Addr} {n' c : Nat} (h : Row H C t sz (.slice A n' c) n xs) : Fl C A xs ∧ n' = n := by
  obtain ⟨bs, l0, nb, w⟩ := h
  exact w.fl'
theorem Row.len (h : Row H C t sz v n xs) : xs.length = n * sz := by
  obtain ⟨bs, l0, nb, w⟩ := h
  exact w.len
theorem Row.nil_ (H : AHeap) (t : TypeId) (sz : Nat) : Row H H t sz (.slice none 0 0) 0 [] := ⟨[], .refl _, New.nil _, Rw.nil_ _ _ _⟩
theorem Row.lit0 (hb : H b = none) : Row H (H.set b ⟨[], true, t, 0⟩) t sz (.slice (some ⟨b, 0, none⟩) 0 0) 0 [] :=
  ⟨[b], (AHeap.le.refl H).fresh hb _, New.one hb, Rw.mk (cap := 0) (by rw [Nat.zero_mul]; exact Kn.same _ _ _) (by simp) (Nat.le_refl _) (by decide)⟩
/-- A row made by a literal. -/
theorem Row.lit (hb : H b = none) {c : Nat} (hc : c = n * sz) (hl : xs.length = n * sz) (hm : n ≤ maxLen) : Row H (H.set b ⟨xs, true, t, c⟩) t sz (.slice (some ⟨b, 0, none⟩) n n) n xs := by
  subst hc
  exact ⟨[b], (AHeap.le.refl H).fresh hb _, New.one hb, Rw.mk (Kn.same _ _ _) hl (Nat.le_refl _) hm⟩
/-- Append what can be read. -/
theorem Row.app {z : List Value} {bytes : Nat} {xa : Option Addr} {xc : Nat} (h : Row H C t z.length v n xs) (hf : Fl C xa news) (hl : news.length = m * z.length) (h1 : ∀ u ∈ news, u.oneCell' = true) (hm : n + m ≤ maxLen) (hB : (n + m) * bytes ≤ 140737488355328)
    (hK : ∀ v' C', Row H C' t z.length v' (n + m) (xs ++ news) → K v' C') : appK P w0 z t bytes v (.slice xa m xc) K C := by
  obtain ⟨bs, l, nb, w⟩ := h
  refine app_rw w hf hl h1 hm hB fun v' C' bs' hc hn hr => hK v' C' ⟨bs', hc.keep l nb, fun x hx => ?_, hr⟩
  rcases hn x hx with h | h
  · exact nb x h
  · exact l.none h
/-- Append one literal element. -/
theorem Row.app1 {z : List Value} {bytes : Nat} {xc : Nat} (h : Row H C t z.length v n xs) (hb : C b = none) {o : Bool} {t' : TypeId} {c : Nat} (hl : news.length = m * z.length) (h1 : ∀ u ∈ news, u.oneCell' = true) (hm : n + m ≤ maxLen) (hB : (n + m) * bytes ≤ 140737488355328)
    (hK : ∀ v' C', Row H C' t z.length v' (n + m) (xs ++ news) → K v' C') : appK P w0 z t bytes v (.slice (some ⟨b, 0, none⟩) m xc) K (C.set b ⟨news, o, t', c⟩) :=
  (h.le ((AHeap.le.refl C).fresh hb _)).app (Fl.blk _ _ _ _ fun _ _ h => h) hl h1 hm hB hK
/-- The row, over all else that is known behind it. -/
theorem Row.cut (h : Row H C t sz v n xs) (l : AHeap.le C C2) : ∃ B, AHeap.le H B ∧ AHeap.le B C2 ∧ Row B C2 t sz v n xs ∧ ∀ (t2 : TypeId) (sz2 : Nat) (v2 : Value) (n2 : Nat) (xs2 : List Value), Row C C2 t2 sz2 v2 n2 xs2 → Row H B t2 sz2 v2 n2 xs2 := by
  obtain ⟨bs, l0, nb, w⟩ := h
  have hB := le_no (B := fun b => b ∈ bs) (l0.trans l) nb
  refine ⟨C2.no fun b => b ∈ bs, hB, no_le _ _, ⟨bs, no_le _ _, fun x hx => no_in hx, w.trans l⟩, fun t2 sz2 v2 n2 xs2 h2 => ?_⟩
  obtain ⟨bs2, l2, nb2, w2⟩ := h2
  refine ⟨bs2, hB, nb2.le l0, w2.chg Chg.no fun x hx hm => ?_⟩
  rcases w with ⟨_, _, _, rfl⟩ | ⟨b', cap, _, rfl, _, _, _, hk⟩
  · cases hm
  · simp only [List.mem_cons, List.not_mem_nil, or_false] at hm
    subst hm
    exact hk.ne (nb2 _ hx)
end
end Go.Proofs.Ytfjhjfddgdokgaa
namespace Go.Proofs.Ytfjhjfddgdokgaa
set_option linter.all false
open Go Go.RowKit
set_option maxRecDepth 100000
variable (w0 : World)
theorem inRange_ok (H : AHeap) (K : Value → AHeap → Prop) (n l : Int) (u : Bool) (h : K (.bool (n == 0 || (u && decide (0 < n) && decide (n < l)))) H) : ACalls Try.prog w0 207 [.int .i64 n, .int .i64 l, .bool u] H K := by
  cases u
  all_goals
    refine acalls_of_sx mix Try.func207 of207 (by simp [ir207]) ?_; rw [ir207]; (try delta qT qI qC qO qM qG)
    repeat' (first | simp -implicitDefEqProofs only [zG1,zG2,zG3,zG4,zG5,zG6,zG7,eq_self,resV,rval,X.val,binv,fillL,setR,↓reduceIte,Nat.reduceEqDiff,Nat.reduceAdd,Nat.reduceMul,Nat.reduceLeDiff,Nat.reduceLT,Nat.reduceSub,reduceCtorEq,zGr] | ((with_reducible refine rows_intro (fun _ hb => ?_)); try simp only [set_none, ne_eq] at hb) | ((with_reducible refine new_intro (fun _ hb => ?_)); try simp only [set_none, ne_eq] at hb) | (with_reducible refine draw_same ?_) | ((with_reducible refine gd_split ?_ (fun _ => ?_) (fun _ => ?_)); exact rfl) | ((with_reducible refine td_split ?_ (fun _ => ?_) (fun _ => ?_)); exact rfl) | (with_reducible refine c_split (fun _ => ?_) (fun _ => ?_)))
    all_goals (refine ret_same (kb h ?_))
    all_goals (try simp only [beq_iff_eq, beq_eq_false_iff_ne, bne_iff_ne, bne_eq_false_iff_eq, decide_eq_true_eq, decide_eq_false_iff_not, ne_eq, Bool.not_eq_true, Bool.not_eq_false, Bool.not_eq_eq_eq_not, Bool.not_true, Bool.not_false, Int.not_lt, Int.not_le, ge_iff_le, gt_iff_lt] at *)
    all_goals (rw [Bool.eq_iff_iff]; simp_all <;> omega)
def stmtV (s : St) : Bool := if s.kind = 2 ∨ s.kind = 3 then stBlock s else stSimple s
theorem emp_eq (α : Type) (l : List α) : l.isEmpty = (((l.length : Nat) : Int) == 0) := by
  cases l with
  | nil => rfl
  | cons x xs => simp <;> omega
end Go.Proofs.Ytfjhjfddgdokgaa
namespace Go.Proofs.Ytfjhjfddgdokgaa
set_option linter.all false
open Go Go.RowKit
set_option maxRecDepth 100000
variable (w0 : World)
/-- The count's block. -/
abbrev ck (q : Int) : Blk := ⟨[.int .i64 q], true, 3, 1⟩
theorem cntL_ge (ss : List St) (k : Nat) (hk : k ≤ ss.length) : cntL (ss.take k) + (ss.length - k) ≤ cntL ss := by
  have h1 := cntL_app (ss.take k) (ss.drop k)
  have h2 := cntL_len (ss.drop k)
  rw [List.take_append_drop] at h1
  rw [List.length_drop] at h2
  omega
theorem stmtV_of {d : Nat} {s : St} (h : stOk d s = true) : stmtV s = true := by
  unfold stmtV
  split
  · rename_i hk
    obtain ⟨_, _, h1, _⟩ := stOk_block h hk
    exact h1
  · rename_i hk
    exact stOk_simple h (fun e => hk (.inl e)) (fun e => hk (.inr e))
theorem simple_cnt {s : St} (h : stSimple s = true) : s.cnt = 1 := by
  simp only [stSimple, Bool.and_eq_true, List.isEmpty_iff] at h
  rw [s.cnt_eq, h.1.1, h.1.2]; simp [cntL]
theorem ok_of_simple {d : Nat} {s : St} (h2 : ¬ (s.kind = 2 ∨ s.kind = 3)) : stOk d s = stSimple s := by
  cases d <;> (simp only [stOk]; rw [if_neg h2])
theorem ok_of_block {d : Nat} {s : St} (h2 : s.kind = 2 ∨ s.kind = 3) : stOk (d + 1) s = (stBlock s && s.body.all (stOk d) && s.els.all (stOk d)) := by
  simp only [stOk]; rw [if_pos h2]
end Go.Proofs.Ytfjhjfddgdokgaa
namespace Go.Proofs.Ytfjhjfddgdokgaa
set_option linter.all false
open Go Go.RowKit
set_option maxRecDepth 100000
variable (w0 : World) (m : Nat) (hm : m ≤ 3)
/-- The statement's mailbox, if it has one, is there. -/
def bx1 (m : Nat) (s : St) : Bool := decide (s.kind ≠ 4 ∧ s.kind ≠ 5) || decide (s.box < (m : Int))
mutual
def bxS (m : Nat) : St → Bool
  | .mk k v b e body els => bx1 m (.mk k v b e body els) && bxL m body && bxL m els
def bxL (m : Nat) : List St → Bool
  | [] => true
  | s :: ss => bxS m s && bxL m ss
end
theorem bxL_all (m : Nat) : ∀ ss : List St, bxL m ss = ss.all (bxS m)
  | [] => rfl
  | s :: ss => by simp only [bxL, List.all_cons, bxL_all m ss]
theorem bxS_eq (m : Nat) (s : St) : bxS m s = (bx1 m s && s.body.all (bxS m) && s.els.all (bxS m)) := by cases s; simp only [bxS, bxL_all, St.body, St.els]
theorem all_and2 {α : Type} (p q : α → Bool) : ∀ l : List α, l.all (fun x => p x && q x) = (l.all p && l.all q)
  | [] => rfl
  | x :: l => by
    simp only [List.all_cons, all_and2 p q l]
    cases p x <;> cases q x <;> cases l.all p <;> cases l.all q <;> rfl
/-- A statement in blocks, its mailboxes there. -/
def okM (m d : Nat) (s : St) : Bool := stOk d s && bxS m s
theorem okM_all (m d : Nat) (ss : List St) : ss.all (okM m d) = (ss.all (stOk d) && bxL m ss) := by rw [bxL_all]; exact all_and2 _ _ ss
include hm in
theorem stmtM1 (H : AHeap) (K : Value → AHeap → Prop) (v b : Int) (e : Ex) (n1 n2 : Nat) (A : Option Addr) (o : Nat) (A0 : Option Addr) (c0 : Nat) (A1 : Option Addr) (c1 : Nat) (A2 : Option Addr) (c2 : Nat) (hA : A.isSome = true)
    (hp : Pl8 H A o 1 v b e n1 n2 A0 c0 A1 c1 A2 c2) (hE : ExV H e [.int .i64 e.op, .int .i64 e.n, .slice A0 e.args.length c0]) (h : K (.bool ((((n1 : Nat) : Int) == 0) && (((n2 : Nat) : Int) == 0) && (decide (0 ≤ v) && decide (v ≤ 3) && b == 0 && exprOk 5 e))) H) :
    ACalls Try.prog w0 198 [.pointer (adr A o), .int .i64 (m : Int)] H K := by
  refine acalls_of_sx mix Try.func198 of198 (by simp [ir198]) ?_; rw [ir198]; (try delta qT qI qC qO qM qG)
  repeat' (first | simp -implicitDefEqProofs only [zG1,zG2,zG3,zG4,zG5,zG6,zG7,eq_self,resV,rval,X.val,binv,fillL,setR,↓reduceIte,Nat.reduceEqDiff,Nat.reduceAdd,Nat.reduceMul,Nat.reduceLeDiff,Nat.reduceLT,Nat.reduceSub,reduceCtorEq,zGr, hp, hA, Int.reduceBEq, cell_old, *] | ((with_reducible refine rows_intro (fun _ hb => ?_)); try simp only [set_none, ne_eq] at hb) | ((with_reducible refine new_intro (fun _ hb => ?_)); try simp only [set_none, ne_eq] at hb) | (with_reducible refine draw_same ?_) | ((with_reducible refine gd_split ?_ (fun _ => ?_) (fun _ => ?_)); exact rfl) | ((with_reducible refine td_split ?_ (fun _ => ?_) (fun _ => ?_)); exact rfl) | (with_reducible refine c_split (fun _ => ?_) (fun _ => ?_)) | (with_reducible refine inRange_ok _ _ _ _ _ _ ?_) | (with_reducible refine exprValid5_ok _ _ _ e A0 c0 (hE.le ((AHeap.le.refl H).fresh ‹H _ = none› _)) ?_))
  all_goals refine ⟨H, (AHeap.le.refl H).fresh ‹H _ = none› _, kb h ?_⟩
  all_goals clear hp hE h
  all_goals (try simp only [beq_iff_eq, beq_eq_false_iff_ne, bne_iff_ne, bne_eq_false_iff_eq, decide_eq_true_eq, decide_eq_false_iff_not, ne_eq, Bool.not_eq_true, Bool.not_eq_false, Bool.not_eq_eq_eq_not, Bool.not_true, Bool.not_false, Int.not_lt, Int.not_le, ge_iff_le, gt_iff_lt] at *)
  all_goals grind
include hm in
theorem stmtM2 (H : AHeap) (K : Value → AHeap → Prop) (v b : Int) (e : Ex) (n1 n2 : Nat) (A : Option Addr) (o : Nat) (A0 : Option Addr) (c0 : Nat) (A1 : Option Addr) (c1 : Nat) (A2 : Option Addr) (c2 : Nat) (hA : A.isSome = true)
    (hp : Pl8 H A o 2 v b e n1 n2 A0 c0 A1 c1 A2 c2) (hE : ExV H e [.int .i64 e.op, .int .i64 e.n, .slice A0 e.args.length c0]) (h : K (.bool (v == 0 && b == 0 && exprOk 5 e)) H) :
    ACalls Try.prog w0 198 [.pointer (adr A o), .int .i64 (m : Int)] H K := by
  refine acalls_of_sx mix Try.func198 of198 (by simp [ir198]) ?_; rw [ir198]; (try delta qT qI qC qO qM qG)
  repeat' (first | simp -implicitDefEqProofs only [zG1,zG2,zG3,zG4,zG5,zG6,zG7,eq_self,resV,rval,X.val,binv,fillL,setR,↓reduceIte,Nat.reduceEqDiff,Nat.reduceAdd,Nat.reduceMul,Nat.reduceLeDiff,Nat.reduceLT,Nat.reduceSub,reduceCtorEq,zGr, hp, hA, Int.reduceBEq, cell_old, *] | ((with_reducible refine rows_intro (fun _ hb => ?_)); try simp only [set_none, ne_eq] at hb) | ((with_reducible refine new_intro (fun _ hb => ?_)); try simp only [set_none, ne_eq] at hb) | (with_reducible refine draw_same ?_) | ((with_reducible refine gd_split ?_ (fun _ => ?_) (fun _ => ?_)); exact rfl) | ((with_reducible refine td_split ?_ (fun _ => ?_) (fun _ => ?_)); exact rfl) | (with_reducible refine c_split (fun _ => ?_) (fun _ => ?_)) | (with_reducible refine inRange_ok _ _ _ _ _ _ ?_) | (with_reducible refine exprValid5_ok _ _ _ e A0 c0 (hE.le ((AHeap.le.refl H).fresh ‹H _ = none› _)) ?_))
  all_goals refine ⟨H, (AHeap.le.refl H).fresh ‹H _ = none› _, kb h ?_⟩
  all_goals clear hp hE h
  all_goals (try simp only [beq_iff_eq, beq_eq_false_iff_ne, bne_iff_ne, bne_eq_false_iff_eq, decide_eq_true_eq, decide_eq_false_iff_not, ne_eq, Bool.not_eq_true, Bool.not_eq_false, Bool.not_eq_eq_eq_not, Bool.not_true, Bool.not_false, Int.not_lt, Int.not_le, ge_iff_le, gt_iff_lt] at *)
  all_goals grind
include hm in
theorem stmtM3 (H : AHeap) (K : Value → AHeap → Prop) (v b : Int) (e : Ex) (n1 n2 : Nat) (A : Option Addr) (o : Nat) (A0 : Option Addr) (c0 : Nat) (A1 : Option Addr) (c1 : Nat) (A2 : Option Addr) (c2 : Nat) (hA : A.isSome = true)
    (hp : Pl8 H A o 3 v b e n1 n2 A0 c0 A1 c1 A2 c2) (hE : ExV H e [.int .i64 e.op, .int .i64 e.n, .slice A0 e.args.length c0]) (h : K (.bool (v == 0 && b == 0 && exprOk 5 e && (((n2 : Nat) : Int) == 0))) H) :
    ACalls Try.prog w0 198 [.pointer (adr A o), .int .i64 (m : Int)] H K := by
  refine acalls_of_sx mix Try.func198 of198 (by simp [ir198]) ?_; rw [ir198]; (try delta qT qI qC qO qM qG)
  repeat' (first | simp -implicitDefEqProofs only [zG1,zG2,zG3,zG4,zG5,zG6,zG7,eq_self,resV,rval,X.val,binv,fillL,setR,↓reduceIte,Nat.reduceEqDiff,Nat.reduceAdd,Nat.reduceMul,Nat.reduceLeDiff,Nat.reduceLT,Nat.reduceSub,reduceCtorEq,zGr, hp, hA, Int.reduceBEq, cell_old, *] | ((with_reducible refine rows_intro (fun _ hb => ?_)); try simp only [set_none, ne_eq] at hb) | ((with_reducible refine new_intro (fun _ hb => ?_)); try simp only [set_none, ne_eq] at hb) | (with_reducible refine draw_same ?_) | ((with_reducible refine gd_split ?_ (fun _ => ?_) (fun _ => ?_)); exact rfl) | ((with_reducible refine td_split ?_ (fun _ => ?_) (fun _ => ?_)); exact rfl) | (with_reducible refine c_split (fun _ => ?_) (fun _ => ?_)) | (with_reducible refine inRange_ok _ _ _ _ _ _ ?_) | (with_reducible refine exprValid5_ok _ _ _ e A0 c0 (hE.le ((AHeap.le.refl H).fresh ‹H _ = none› _)) ?_))
  all_goals refine ⟨H, (AHeap.le.refl H).fresh ‹H _ = none› _, kb h ?_⟩
  all_goals clear hp hE h
  all_goals (try simp only [beq_iff_eq, beq_eq_false_iff_ne, bne_iff_ne, bne_eq_false_iff_eq, decide_eq_true_eq, decide_eq_false_iff_not, ne_eq, Bool.not_eq_true, Bool.not_eq_false, Bool.not_eq_eq_eq_not, Bool.not_true, Bool.not_false, Int.not_lt, Int.not_le, ge_iff_le, gt_iff_lt] at *)
  all_goals grind
include hm in
theorem stmtM4 (H : AHeap) (K : Value → AHeap → Prop) (v b : Int) (e : Ex) (n1 n2 : Nat) (A : Option Addr) (o : Nat) (A0 : Option Addr) (c0 : Nat) (A1 : Option Addr) (c1 : Nat) (A2 : Option Addr) (c2 : Nat) (hA : A.isSome = true)
    (hp : Pl8 H A o 4 v b e n1 n2 A0 c0 A1 c1 A2 c2) (hE : ExV H e [.int .i64 e.op, .int .i64 e.n, .slice A0 e.args.length c0]) (h : K (.bool ((((n1 : Nat) : Int) == 0) && (((n2 : Nat) : Int) == 0) && (v == 0 && decide (0 ≤ b) && decide (b < (m : Int)) && exprOk 5 e))) H) :
    ACalls Try.prog w0 198 [.pointer (adr A o), .int .i64 (m : Int)] H K := by
  refine acalls_of_sx mix Try.func198 of198 (by simp [ir198]) ?_; rw [ir198]; (try delta qT qI qC qO qM qG)
  repeat' (first | simp -implicitDefEqProofs only [zG1,zG2,zG3,zG4,zG5,zG6,zG7,eq_self,resV,rval,X.val,binv,fillL,setR,↓reduceIte,Nat.reduceEqDiff,Nat.reduceAdd,Nat.reduceMul,Nat.reduceLeDiff,Nat.reduceLT,Nat.reduceSub,reduceCtorEq,zGr, hp, hA, Int.reduceBEq, cell_old, *] | ((with_reducible refine rows_intro (fun _ hb => ?_)); try simp only [set_none, ne_eq] at hb) | ((with_reducible refine new_intro (fun _ hb => ?_)); try simp only [set_none, ne_eq] at hb) | (with_reducible refine draw_same ?_) | ((with_reducible refine gd_split ?_ (fun _ => ?_) (fun _ => ?_)); exact rfl) | ((with_reducible refine td_split ?_ (fun _ => ?_) (fun _ => ?_)); exact rfl) | (with_reducible refine c_split (fun _ => ?_) (fun _ => ?_)) | (with_reducible refine inRange_ok _ _ _ _ _ _ ?_) | (with_reducible refine exprValid5_ok _ _ _ e A0 c0 (hE.le ((AHeap.le.refl H).fresh ‹H _ = none› _)) ?_))
  all_goals refine ⟨H, (AHeap.le.refl H).fresh ‹H _ = none› _, kb h ?_⟩
  all_goals clear hp hE h
  all_goals (try simp only [beq_iff_eq, beq_eq_false_iff_ne, bne_iff_ne, bne_eq_false_iff_eq, decide_eq_true_eq, decide_eq_false_iff_not, ne_eq, Bool.not_eq_true, Bool.not_eq_false, Bool.not_eq_eq_eq_not, Bool.not_true, Bool.not_false, Int.not_lt, Int.not_le, ge_iff_le, gt_iff_lt] at *)
  all_goals grind
include hm in
theorem stmtM5 (H : AHeap) (K : Value → AHeap → Prop) (v b : Int) (e : Ex) (n1 n2 : Nat) (A : Option Addr) (o : Nat) (A0 : Option Addr) (c0 : Nat) (A1 : Option Addr) (c1 : Nat) (A2 : Option Addr) (c2 : Nat) (hA : A.isSome = true)
    (hp : Pl8 H A o 5 v b e n1 n2 A0 c0 A1 c1 A2 c2) (hE : ExV H e [.int .i64 e.op, .int .i64 e.n, .slice A0 e.args.length c0]) (h : K (.bool ((((n1 : Nat) : Int) == 0) && (((n2 : Nat) : Int) == 0) && (decide (0 ≤ v) && decide (v ≤ 3) && decide (0 ≤ b) && decide (b < (m : Int)) && ((e.op == 0) && (e.n == 0) && (((e.args.length : Nat) : Int) == 0))))) H) :
    ACalls Try.prog w0 198 [.pointer (adr A o), .int .i64 (m : Int)] H K := by
  refine acalls_of_sx mix Try.func198 of198 (by simp [ir198]) ?_; rw [ir198]; (try delta qT qI qC qO qM qG)
  repeat' (first | simp -implicitDefEqProofs only [zG1,zG2,zG3,zG4,zG5,zG6,zG7,eq_self,resV,rval,X.val,binv,fillL,setR,↓reduceIte,Nat.reduceEqDiff,Nat.reduceAdd,Nat.reduceMul,Nat.reduceLeDiff,Nat.reduceLT,Nat.reduceSub,reduceCtorEq,zGr, hp, hA, Int.reduceBEq, cell_old, *] | ((with_reducible refine rows_intro (fun _ hb => ?_)); try simp only [set_none, ne_eq] at hb) | ((with_reducible refine new_intro (fun _ hb => ?_)); try simp only [set_none, ne_eq] at hb) | (with_reducible refine draw_same ?_) | ((with_reducible refine gd_split ?_ (fun _ => ?_) (fun _ => ?_)); exact rfl) | ((with_reducible refine td_split ?_ (fun _ => ?_) (fun _ => ?_)); exact rfl) | (with_reducible refine c_split (fun _ => ?_) (fun _ => ?_)) | (with_reducible refine inRange_ok _ _ _ _ _ _ ?_) | (with_reducible refine exprValid5_ok _ _ _ e A0 c0 (hE.le ((AHeap.le.refl H).fresh ‹H _ = none› _)) ?_))
  all_goals refine ⟨H, (AHeap.le.refl H).fresh ‹H _ = none› _, kb h ?_⟩
  all_goals clear hp hE h
  all_goals (try simp only [beq_iff_eq, beq_eq_false_iff_ne, bne_iff_ne, bne_eq_false_iff_eq, decide_eq_true_eq, decide_eq_false_iff_not, ne_eq, Bool.not_eq_true, Bool.not_eq_false, Bool.not_eq_eq_eq_not, Bool.not_true, Bool.not_false, Int.not_lt, Int.not_le, ge_iff_le, gt_iff_lt] at *)
  all_goals grind
include hm in
theorem stmtM6 (H : AHeap) (K : Value → AHeap → Prop) (v b : Int) (e : Ex) (n1 n2 : Nat) (A : Option Addr) (o : Nat) (A0 : Option Addr) (c0 : Nat) (A1 : Option Addr) (c1 : Nat) (A2 : Option Addr) (c2 : Nat) (hA : A.isSome = true)
    (hp : Pl8 H A o 6 v b e n1 n2 A0 c0 A1 c1 A2 c2) (hE : ExV H e [.int .i64 e.op, .int .i64 e.n, .slice A0 e.args.length c0]) (h : K (.bool ((((n1 : Nat) : Int) == 0) && (((n2 : Nat) : Int) == 0) && (v == 0 && b == 0 && ((e.op == 0) && (e.n == 0) && (((e.args.length : Nat) : Int) == 0))))) H) :
    ACalls Try.prog w0 198 [.pointer (adr A o), .int .i64 (m : Int)] H K := by
  refine acalls_of_sx mix Try.func198 of198 (by simp [ir198]) ?_; rw [ir198]; (try delta qT qI qC qO qM qG)
  repeat' (first | simp -implicitDefEqProofs only [zG1,zG2,zG3,zG4,zG5,zG6,zG7,eq_self,resV,rval,X.val,binv,fillL,setR,↓reduceIte,Nat.reduceEqDiff,Nat.reduceAdd,Nat.reduceMul,Nat.reduceLeDiff,Nat.reduceLT,Nat.reduceSub,reduceCtorEq,zGr, hp, hA, Int.reduceBEq, cell_old, *] | ((with_reducible refine rows_intro (fun _ hb => ?_)); try simp only [set_none, ne_eq] at hb) | ((with_reducible refine new_intro (fun _ hb => ?_)); try simp only [set_none, ne_eq] at hb) | (with_reducible refine draw_same ?_) | ((with_reducible refine gd_split ?_ (fun _ => ?_) (fun _ => ?_)); exact rfl) | ((with_reducible refine td_split ?_ (fun _ => ?_) (fun _ => ?_)); exact rfl) | (with_reducible refine c_split (fun _ => ?_) (fun _ => ?_)) | (with_reducible refine inRange_ok _ _ _ _ _ _ ?_) | (with_reducible refine exprValid5_ok _ _ _ e A0 c0 (hE.le ((AHeap.le.refl H).fresh ‹H _ = none› _)) ?_))
  all_goals refine ⟨H, (AHeap.le.refl H).fresh ‹H _ = none› _, kb h ?_⟩
  all_goals clear hp hE h
  all_goals (try simp only [beq_iff_eq, beq_eq_false_iff_ne, bne_iff_ne, bne_eq_false_iff_eq, decide_eq_true_eq, decide_eq_false_iff_not, ne_eq, Bool.not_eq_true, Bool.not_eq_false, Bool.not_eq_eq_eq_not, Bool.not_true, Bool.not_false, Int.not_lt, Int.not_le, ge_iff_le, gt_iff_lt] at *)
  all_goals grind
include hm in
theorem stmtM7 (H : AHeap) (K : Value → AHeap → Prop) (v b : Int) (e : Ex) (n1 n2 : Nat) (A : Option Addr) (o : Nat) (A0 : Option Addr) (c0 : Nat) (A1 : Option Addr) (c1 : Nat) (A2 : Option Addr) (c2 : Nat) (hA : A.isSome = true)
    (hp : Pl8 H A o 7 v b e n1 n2 A0 c0 A1 c1 A2 c2) (hE : ExV H e [.int .i64 e.op, .int .i64 e.n, .slice A0 e.args.length c0]) (h : K (.bool ((((n1 : Nat) : Int) == 0) && (((n2 : Nat) : Int) == 0) && (v == 0 && b == 0 && exprOk 5 e))) H) :
    ACalls Try.prog w0 198 [.pointer (adr A o), .int .i64 (m : Int)] H K := by
  refine acalls_of_sx mix Try.func198 of198 (by simp [ir198]) ?_; rw [ir198]; (try delta qT qI qC qO qM qG)
  repeat' (first | simp -implicitDefEqProofs only [zG1,zG2,zG3,zG4,zG5,zG6,zG7,eq_self,resV,rval,X.val,binv,fillL,setR,↓reduceIte,Nat.reduceEqDiff,Nat.reduceAdd,Nat.reduceMul,Nat.reduceLeDiff,Nat.reduceLT,Nat.reduceSub,reduceCtorEq,zGr, hp, hA, Int.reduceBEq, cell_old, *] | ((with_reducible refine rows_intro (fun _ hb => ?_)); try simp only [set_none, ne_eq] at hb) | ((with_reducible refine new_intro (fun _ hb => ?_)); try simp only [set_none, ne_eq] at hb) | (with_reducible refine draw_same ?_) | ((with_reducible refine gd_split ?_ (fun _ => ?_) (fun _ => ?_)); exact rfl) | ((with_reducible refine td_split ?_ (fun _ => ?_) (fun _ => ?_)); exact rfl) | (with_reducible refine c_split (fun _ => ?_) (fun _ => ?_)) | (with_reducible refine inRange_ok _ _ _ _ _ _ ?_) | (with_reducible refine exprValid5_ok _ _ _ e A0 c0 (hE.le ((AHeap.le.refl H).fresh ‹H _ = none› _)) ?_))
  all_goals refine ⟨H, (AHeap.le.refl H).fresh ‹H _ = none› _, kb h ?_⟩
  all_goals clear hp hE h
  all_goals (try simp only [beq_iff_eq, beq_eq_false_iff_ne, bne_iff_ne, bne_eq_false_iff_eq, decide_eq_true_eq, decide_eq_false_iff_not, ne_eq, Bool.not_eq_true, Bool.not_eq_false, Bool.not_eq_eq_eq_not, Bool.not_true, Bool.not_false, Int.not_lt, Int.not_le, ge_iff_le, gt_iff_lt] at *)
  all_goals grind
theorem stmtM0 (H : AHeap) (K : Value → AHeap → Prop) (k : Int) (v b : Int) (e : Ex) (n1 n2 : Nat) (A : Option Addr) (o : Nat) (A0 : Option Addr) (c0 : Nat) (A1 : Option Addr) (c1 : Nat) (A2 : Option Addr) (c2 : Nat) (hA : A.isSome = true)
    (hp : Pl8 H A o k v b e n1 n2 A0 c0 A1 c1 A2 c2) (hE : ExV H e [.int .i64 e.op, .int .i64 e.n, .slice A0 e.args.length c0]) (hk : ¬ k = 1 ∧ ¬ k = 2 ∧ ¬ k = 3 ∧ ¬ k = 4 ∧ ¬ k = 5 ∧ ¬ k = 6 ∧ ¬ k = 7) (h : K (.bool false) H) :
    ACalls Try.prog w0 198 [.pointer (adr A o), .int .i64 (m : Int)] H K := by
  obtain ⟨k1, k2, k3, k4, k5, k6, k7⟩ := hk
  have e1 : (k == 1) = false := by simp [k1]
  have e2 : (k == 2) = false := by simp [k2]
  have e3 : (k == 3) = false := by simp [k3]
  have e4 : (k == 4) = false := by simp [k4]
  have e5 : (k == 5) = false := by simp [k5]
  have e6 : (k == 6) = false := by simp [k6]
  have e7 : (k == 7) = false := by simp [k7]
  refine acalls_of_sx mix Try.func198 of198 (by simp [ir198]) ?_; rw [ir198]; (try delta qT qI qC qO qM qG)
  repeat' (first | simp -implicitDefEqProofs only [zG1,zG2,zG3,zG4,zG5,zG6,zG7,eq_self,resV,rval,X.val,binv,fillL,setR,↓reduceIte,Nat.reduceEqDiff,Nat.reduceAdd,Nat.reduceMul,Nat.reduceLeDiff,Nat.reduceLT,Nat.reduceSub,reduceCtorEq,zGr, hp, hA, e1, e2, e3, e4, e5, e6, e7, cell_old, *] | ((with_reducible refine rows_intro (fun _ hb => ?_)); try simp only [set_none, ne_eq] at hb) | ((with_reducible refine new_intro (fun _ hb => ?_)); try simp only [set_none, ne_eq] at hb) | (with_reducible refine draw_same ?_) | ((with_reducible refine gd_split ?_ (fun _ => ?_) (fun _ => ?_)); exact rfl) | ((with_reducible refine td_split ?_ (fun _ => ?_) (fun _ => ?_)); exact rfl) | (with_reducible refine c_split (fun _ => ?_) (fun _ => ?_)))
  exact ⟨H, (AHeap.le.refl H).fresh ‹H _ = none› _, h⟩
include hm in
theorem stmtValidM_ok (H : AHeap) (K : Value → AHeap → Prop) (s : St) (A : Option Addr) (o : Nat) (A0 : Option Addr) (c0 : Nat) (A1 : Option Addr) (c1 : Nat) (A2 : Option Addr) (c2 : Nat) (hA : A.isSome = true)
    (hp : Pl8 H A o s.kind s.var s.box s.e s.body.length s.els.length A0 c0 A1 c1 A2 c2) (hE : ExV H s.e [.int .i64 s.e.op, .int .i64 s.e.n, .slice A0 s.e.args.length c0]) (h : K (.bool (stmtV s && bx1 m s)) H) :
    ACalls Try.prog w0 198 [.pointer (adr A o), .int .i64 (m : Int)] H K := by
  have hk : s.kind = 1 ∨ s.kind = 2 ∨ s.kind = 3 ∨ s.kind = 4 ∨ s.kind = 5 ∨ s.kind = 6 ∨ s.kind = 7 ∨ (¬ s.kind = 1 ∧ ¬ s.kind = 2 ∧ ¬ s.kind = 3 ∧ ¬ s.kind = 4 ∧ ¬ s.kind = 5 ∧ ¬ s.kind = 6 ∧ ¬ s.kind = 7) := by omega
  have e1 := emp_eq St s.body
  have e2 := emp_eq St s.els
  have e3 := emp_eq Ex s.e.args
  rcases hk with hk | hk | hk | hk | hk | hk | hk | hk
  · rw [hk] at hp
    refine stmtM1 w0 m hm H K s.var s.box s.e _ _ A o A0 c0 A1 c1 A2 c2 hA hp hE (kb h ?_)
    simp only [stmtV, bx1, stBlock, stSimple, plainE, hk, e1, e2, e3]
    simp
  · rw [hk] at hp
    refine stmtM2 w0 m hm H K s.var s.box s.e _ _ A o A0 c0 A1 c1 A2 c2 hA hp hE (kb h ?_)
    simp only [stmtV, bx1, stBlock, stSimple, plainE, hk, e1, e2, e3]
    simp
  · rw [hk] at hp
    refine stmtM3 w0 m hm H K s.var s.box s.e _ _ A o A0 c0 A1 c1 A2 c2 hA hp hE (kb h ?_)
    simp only [stmtV, bx1, stBlock, stSimple, plainE, hk, e1, e2, e3]
    simp
  · rw [hk] at hp
    refine stmtM4 w0 m hm H K s.var s.box s.e _ _ A o A0 c0 A1 c1 A2 c2 hA hp hE (kb h ?_)
    have hb : (decide (s.box ≤ 2) && decide (s.box < (m : Int))) = decide (s.box < (m : Int)) := by
      by_cases h1 : s.box < (m : Int)
      · have : s.box ≤ 2 := by omega
        simp [h1, this]
      · simp [h1]
    rw [← hb]
    simp only [stmtV, bx1, stSimple, plainE, hk, e1, e2, e3]
    generalize decide (s.box ≤ 2) = u1, decide (s.box < (m : Int)) = u2
    simp
    try (cases u1 <;> cases u2 <;> simp)
  · rw [hk] at hp
    refine stmtM5 w0 m hm H K s.var s.box s.e _ _ A o A0 c0 A1 c1 A2 c2 hA hp hE (kb h ?_)
    have hb : (decide (s.box ≤ 2) && decide (s.box < (m : Int))) = decide (s.box < (m : Int)) := by
      by_cases h1 : s.box < (m : Int)
      · have : s.box ≤ 2 := by omega
        simp [h1, this]
      · simp [h1]
    rw [← hb]
    simp only [stmtV, bx1, stSimple, plainE, hk, e1, e2, e3]
    generalize decide (s.box ≤ 2) = u1, decide (s.box < (m : Int)) = u2
    simp
    try (cases u1 <;> cases u2 <;> simp)
  · rw [hk] at hp
    refine stmtM6 w0 m hm H K s.var s.box s.e _ _ A o A0 c0 A1 c1 A2 c2 hA hp hE (kb h ?_)
    simp only [stmtV, bx1, stBlock, stSimple, plainE, hk, e1, e2, e3]
    simp
  · rw [hk] at hp
    refine stmtM7 w0 m hm H K s.var s.box s.e _ _ A o A0 c0 A1 c1 A2 c2 hA hp hE (kb h ?_)
    simp only [stmtV, bx1, stBlock, stSimple, plainE, hk, e1, e2, e3]
    simp
  · refine stmtM0 w0 m H K s.kind s.var s.box s.e _ _ A o A0 c0 A1 c1 A2 c2 hA hp hE hk (kb h ?_)
    obtain ⟨k1, k2, k3, k4, k5, k6, k7⟩ := hk
    simp [stmtV, stSimple, k1, k2, k3, k4, k5, k6, k7]
end Go.Proofs.Ytfjhjfddgdokgaa
namespace Go.Proofs.Ytfjhjfddgdokgaa
set_option linter.all false
open Go Go.RowKit
set_option maxRecDepth 100000
variable (w0 : World) (m : Nat) (hm : m ≤ 3)
theorem okM_of {m d : Nat} {s : St} (h : okM m d s = true) : (stmtV s && bx1 m s) = true := by
  simp only [okM, bxS_eq, Bool.and_eq_true] at h ⊢
  exact ⟨stmtV_of h.1, h.2.1.1⟩
theorem okM_block {m d : Nat} {s : St} (h2 : s.kind = 2 ∨ s.kind = 3) : okM m (d + 1) s = (stBlock s && s.body.all (okM m d) && s.els.all (okM m d)) := by
  have e : bx1 m s = true := by
    have : s.kind ≠ 4 ∧ s.kind ≠ 5 := by omega
    simp [bx1, this]
  rw [okM, ok_of_block h2, bxS_eq, e, okM_all, okM_all, bxL_all, bxL_all]
  cases stBlock s <;> cases s.body.all (stOk d) <;> cases s.els.all (stOk d) <;> cases s.body.all (bxS m) <;> cases s.els.all (bxS m) <;> rfl
theorem okM_simple {m d : Nat} {s : St} (h2 : ¬ (s.kind = 2 ∨ s.kind = 3)) (h : stSimple s = true) (hb : bx1 m s = true) : okM m d s = true := by
  have h' := h
  simp only [stSimple, Bool.and_eq_true, List.isEmpty_iff] at h'
  rw [okM, ok_of_simple h2, h, bxS_eq, hb, h'.1.1, h'.1.2]; rfl
theorem all_falseM {m d : Nat} {ss : List St} {k : Nat} (hk : k < ss.length) (h : okM m d ss[k] = false) : ss.all (okM m d) = false := by
  rw [List.all_eq_false]
  exact ⟨_, List.getElem_mem hk, by simp [h]⟩
abbrev BmP (d bl : Nat) : Prop := ∀ (ss : List St) (A : Option Addr) (c y q : Nat) (D : AHeap) (K : Value → AHeap → Prop), D y = none → cntL ss ≤ 1048576 → q ≤ 16 → StR D ss A 0 →
  (∀ (r : Bool) (q' : Int), r = (ss.all (okM m d) && decide (q + cntL ss ≤ 16)) → (r = true → q' = ((q + cntL ss : Nat) : Int)) → K (.bool r) (D.set y (ck q'))) →
  ACalls Try.prog w0 176 [.slice A ss.length c, .int .i64 (m : Int), .int .i64 bl, .pointer (some ⟨y, 0, none⟩)] (D.set y (ck q)) K
include hm in
theorem bmP_of (d bl : Nat) (hb3 : bl + d = 3) (ih : ∀ d', d = d' + 1 → BmP w0 m d' (bl + 1)) : BmP w0 m d bl := by
  intro ss A c y q D K hy hc hq hR h
  have hl := cntL_len ss
  have w1 := nat_add (a := q) (b := ss.length) (by omega)
  refine acalls_of_sx mix Try.func176 of176 (by simp [ir176]) ?_; rw [ir176]; (try delta qT qI qC qO qM qG)
  by_cases hbig : 16 < q + ss.length
  · have g0 : decide (((q + ss.length : Nat) : Int) > 16) = true := by simp; omega
    repeat' (first | simp -implicitDefEqProofs only [zG1,zG2,zG3,zG4,zG5,zG6,zG7,eq_self,resV,rval,X.val,binv,fillL,setR,↓reduceIte,Nat.reduceEqDiff,Nat.reduceAdd,Nat.reduceMul,Nat.reduceLeDiff,Nat.reduceLT,Nat.reduceSub,reduceCtorEq,zGq, w1, g0] | ((with_reducible refine rows_intro (fun _ hb => ?_)); try simp only [set_none, ne_eq] at hb) | ((with_reducible refine new_intro (fun _ hb => ?_)); try simp only [set_none, ne_eq] at hb) | (with_reducible refine draw_same ?_) | ((with_reducible refine gd_split ?_ (fun _ => ?_) (fun _ => ?_)); exact rfl) | ((with_reducible refine td_split ?_ (fun _ => ?_) (fun _ => ?_)); exact rfl) | (with_reducible refine c_split (fun _ => ?_) (fun _ => ?_)))
    refine ret_same (h false _ ?_ (fun e => by cases e))
    have : ¬ q + cntL ss ≤ 16 := by omega
    simp [this]
  · have g0 : decide (((q + ss.length : Nat) : Int) > 16) = false := by simp; omega
    repeat' (first | simp -implicitDefEqProofs only [zG1,zG2,zG3,zG4,zG5,zG6,zG7,eq_self,resV,rval,X.val,binv,fillL,setR,↓reduceIte,Nat.reduceEqDiff,Nat.reduceAdd,Nat.reduceMul,Nat.reduceLeDiff,Nat.reduceLT,Nat.reduceSub,reduceCtorEq,zGq, w1, g0] | ((with_reducible refine rows_intro (fun _ hb => ?_)); try simp only [set_none, ne_eq] at hb) | ((with_reducible refine new_intro (fun _ hb => ?_)); try simp only [set_none, ne_eq] at hb) | (with_reducible refine draw_same ?_) | ((with_reducible refine gd_split ?_ (fun _ => ?_) (fun _ => ?_)); exact rfl) | ((with_reducible refine td_split ?_ (fun _ => ?_) (fun _ => ?_)); exact rfl) | (with_reducible refine c_split (fun _ => ?_) (fun _ => ?_)))
    refine for_rule ss.length (fun k fr C => C = D.set y (ck ((q + ss.length + (cntL (ss.take k) - k) : Nat) : Int)) ∧ q + ss.length + (cntL (ss.take k) - k) ≤ 16 ∧ (∀ i (hi : i < ss.length), i < k → okM m d ss[i] = true) ∧
        fr 0 = .slice A ss.length c ∧ fr 1 = .int .i64 (m : Int) ∧ fr 2 = .int .i64 bl ∧ fr 3 = .pointer (some ⟨y, 0, none⟩) ∧ fr 23 = .int .i64 ss.length ∧ fr 24 = .int .i64 k)
      ⟨by simp [cntL], by simp [cntL]; omega, fun i hi hk => by omega, (by first | rfl | (simp only [put_at, ↓reduceIte, Nat.reduceEqDiff]; first | done | rfl | assumption) | simp [put_at, *]), (by first | rfl | (simp only [put_at, ↓reduceIte, Nat.reduceEqDiff]; first | done | rfl | assumption) | simp [put_at, *]), (by first | rfl | (simp only [put_at, ↓reduceIte, Nat.reduceEqDiff]; first | done | rfl | assumption) | simp [put_at, *]), (by first | rfl | (simp only [put_at, ↓reduceIte, Nat.reduceEqDiff]; first | done | rfl | assumption) | simp [put_at, *]), (by first | rfl | (simp only [put_at, ↓reduceIte, Nat.reduceEqDiff]; first | done | rfl | assumption) | simp [put_at, *]), (by first | rfl | (simp only [put_at, ↓reduceIte, Nat.reduceEqDiff]; first | done | rfl | assumption) | simp [put_at, *])⟩ ?_ ?_
    · rintro k fr _ hk ⟨rfl, hq2, hok, f0, f1, f2, f3, f23, f24⟩ N hN
      have g3 := lt_dec hk
      have g1 := rng hk
      have g2 := up1 hk (by omega)
      have hge := cntL_ge ss (k + 1) (by omega)
      have htk := cntL_take hk
      have hlk : k ≤ cntL (ss.take k) := by
        have := cntL_len (ss.take k)
        rw [List.length_take] at this; omega
      have hcs := ss[k].cnt_eq
      have gbl : decide ((bl : Int) > 3) = false := by simp; omega
      generalize hqk : q + ss.length + (cntL (ss.take k) - k) = qk at *
      have ly := (AHeap.le.refl D).fresh hy (ck (qk : Int))
      obtain ⟨gA, a0, d0, a1, d1, a2, d2, gp0, hx⟩ := hR.arg hk
      have gp := gp0.le ly
      have hxC := hx.le ly
      obtain ⟨hE, ⟨hb1, hbR⟩, hl1, hlR⟩ := hx.parts
      obtain ⟨hEC, -, -⟩ := hxC.parts
      cases hv : (stmtV ss[k] && bx1 m ss[k]) with
      | false =>
        have hno : okM m d ss[k] = false := by
          cases hs : okM m d ss[k] with
          | false => rfl
          | true => rw [okM_of hs] at hv; cases hv
        repeat' (first | simp -implicitDefEqProofs only [zG1,zG2,zG3,zG4,zG5,zG6,zG7,eq_self,resV,rval,X.val,binv,fillL,setR,↓reduceIte,Nat.reduceEqDiff,Nat.reduceAdd,Nat.reduceMul,Nat.reduceLeDiff,Nat.reduceLT,Nat.reduceSub,reduceCtorEq,zGq, f0, f1, f2, f3, f23, f24, g3, g1, gA, hv] | ((with_reducible refine rows_intro (fun _ hb => ?_)); try simp only [set_none, ne_eq] at hb) | ((with_reducible refine new_intro (fun _ hb => ?_)); try simp only [set_none, ne_eq] at hb) | (with_reducible refine draw_same ?_) | ((with_reducible refine gd_split ?_ (fun _ => ?_) (fun _ => ?_)); exact rfl) | ((with_reducible refine td_split ?_ (fun _ => ?_) (fun _ => ?_)); exact rfl) | (with_reducible refine c_split (fun _ => ?_) (fun _ => ?_)) | (with_reducible refine stmtValidM_ok _ m hm _ _ ss[k] A (k * 8) a0 d0 a1 d1 a2 d2 gA gp hEC ?_))
        exact ret_same (h false _ (by rw [all_falseM hk hno]; rfl) (fun e => by cases e))
      | true =>
        by_cases hkd : ss[k].kind = 2 ∨ ss[k].kind = 3
        · cases d with
          | zero =>
            have hno : okM m 0 ss[k] = false := by simp only [okM, stOk]; rw [if_pos hkd]; rfl
            have gb3 : decide ((bl : Int) ≥ 3) = true := by simp; omega
            rcases hkd with e2 | e2
            all_goals
              have hk2 : (ss[k].kind == 2) = decide (ss[k].kind = 2) := rfl
              rw [e2] at gp
              repeat' (first | simp -implicitDefEqProofs only [zG1,zG2,zG3,zG4,zG5,zG6,zG7,eq_self,resV,rval,X.val,binv,fillL,setR,↓reduceIte,Nat.reduceEqDiff,Nat.reduceAdd,Nat.reduceMul,Nat.reduceLeDiff,Nat.reduceLT,Nat.reduceSub,reduceCtorEq,zGq, f0, f1, f2, f3, f23, f24, g3, g1, gA, gp, hv, gbl, gb3, Int.reduceBEq, Int.reduceBNe, bne_self_eq_false] | ((with_reducible refine rows_intro (fun _ hb => ?_)); try simp only [set_none, ne_eq] at hb) | ((with_reducible refine new_intro (fun _ hb => ?_)); try simp only [set_none, ne_eq] at hb) | (with_reducible refine draw_same ?_) | ((with_reducible refine gd_split ?_ (fun _ => ?_) (fun _ => ?_)); exact rfl) | ((with_reducible refine td_split ?_ (fun _ => ?_) (fun _ => ?_)); exact rfl) | (with_reducible refine c_split (fun _ => ?_) (fun _ => ?_)) | (with_reducible refine stmtValidM_ok _ m hm _ _ ss[k] A (k * 8) a0 d0 a1 d1 a2 d2 gA (gp0.le ly) hEC ?_))
              exact ret_same (h false _ (by rw [all_falseM hk hno]; rfl) (fun e => by cases e))
          | succ d' =>
            have ihd := ih d' rfl
            have gb3 : decide ((bl : Int) ≥ 3) = false := by simp; omega
            have gb1 := nat_up (a := bl) (by omega)
            have hokb := okM_block (m := m) (d := d') hkd
            have hsb : stBlock ss[k] = true := by
              simp only [stmtV, if_pos hkd, Bool.and_eq_true] at hv
              exact hv.1
            have hno : ∀ r1 : Bool, r1 = false → (r1 = (ss[k].body.all (okM m d') && decide (qk + cntL ss[k].body ≤ 16))) → (ss.all (okM m (d' + 1)) && decide (q + cntL ss ≤ 16)) = false := by
              intro r1 e1 e2
              subst e1
              cases hb : ss[k].body.all (okM m d') with
              | false => rw [all_falseM hk (by rw [hokb, hb]; simp)]; rfl
              | true =>
                have : ¬ q + cntL ss ≤ 16 := by
                  rw [hb] at e2
                  simp at e2
                  omega
                simp [this]
            have hno2 : ∀ r1 : Bool, r1 = false → (r1 = (ss[k].els.all (okM m d') && decide (qk + cntL ss[k].body + cntL ss[k].els ≤ 16))) → (ss.all (okM m (d' + 1)) && decide (q + cntL ss ≤ 16)) = false := by
              intro r1 e1 e2
              subst e1
              cases hb : ss[k].els.all (okM m d') with
              | false => rw [all_falseM hk (by rw [hokb, hb]; simp)]; rfl
              | true =>
                have : ¬ q + cntL ss ≤ 16 := by
                  rw [hb] at e2
                  simp at e2
                  omega
                simp [this]
            have fin : ∀ (fr' : Fr), (ss[k].body.all (okM m d')) = true → (ss[k].els.all (okM m d')) = true → qk + cntL ss[k].body + cntL ss[k].els ≤ 16 → fr' 0 = .slice A ss.length c → fr' 1 = .int .i64 (m : Int) → fr' 2 = .int .i64 bl → fr' 3 = .pointer (some ⟨y, 0, none⟩) → fr' 23 = .int .i64 ss.length → fr' 24 = .int .i64 ((k + 1 : Nat) : Int) →
                N fr' (D.set y (ck ((qk + cntL ss[k].body + cntL ss[k].els : Nat) : Int))) := by
              intro fr' hb1 hb2 hle h0 h1 h2 h3 h23 h24
              refine hN _ _ _ (.refl _) ⟨?_, by omega, fun i hi hik => ?_, h0, h1, h2, h3, h23, h24⟩
              · rw [show q + ss.length + (cntL (ss.take (k + 1)) - (k + 1)) = qk + cntL ss[k].body + cntL ss[k].els by omega]
              · rcases Nat.lt_succ_iff_lt_or_eq.1 hik with hik | rfl
                · exact hok i hi hik
                · rw [hokb, hsb, hb1, hb2]; rfl
            rcases hkd with e2 | e2
            all_goals
              rw [e2] at gp
              repeat' (first | simp -implicitDefEqProofs only [zG1,zG2,zG3,zG4,zG5,zG6,zG7,eq_self,resV,rval,X.val,binv,fillL,setR,↓reduceIte,Nat.reduceEqDiff,Nat.reduceAdd,Nat.reduceMul,Nat.reduceLeDiff,Nat.reduceLT,Nat.reduceSub,reduceCtorEq,zGq, f0, f1, f2, f3, f23, f24, g3, g1, gA, gp, hv, gbl, gb3, gb1, Int.reduceBEq, Int.reduceBNe, bne_self_eq_false] | ((with_reducible refine rows_intro (fun _ hb => ?_)); try simp only [set_none, ne_eq] at hb) | ((with_reducible refine new_intro (fun _ hb => ?_)); try simp only [set_none, ne_eq] at hb) | (with_reducible refine draw_same ?_) | ((with_reducible refine gd_split ?_ (fun _ => ?_) (fun _ => ?_)); exact rfl) | ((with_reducible refine td_split ?_ (fun _ => ?_) (fun _ => ?_)); exact rfl) | (with_reducible refine c_split (fun _ => ?_) (fun _ => ?_)) | (with_reducible refine stmtValidM_ok _ m hm _ _ ss[k] A (k * 8) a0 d0 a1 d1 a2 d2 gA (gp0.le ly) hEC ?_))
              refine ihd ss[k].body a1 d1 y qk D _ hy (by omega) hq2 hbR (fun r1 q1 hr1 hq1 => ?_)
              have gp1 := gp0.le ((AHeap.le.refl D).fresh hy (ck q1))
              rw [e2] at gp1
              cases r1 with
              | false =>
                repeat' (first | simp -implicitDefEqProofs only [zG1,zG2,zG3,zG4,zG5,zG6,zG7,eq_self,resV,rval,X.val,binv,fillL,setR,↓reduceIte,Nat.reduceEqDiff,Nat.reduceAdd,Nat.reduceMul,Nat.reduceLeDiff,Nat.reduceLT,Nat.reduceSub,reduceCtorEq,zGq, f0, f1, f2, f3, f23, f24, gp1] | ((with_reducible refine rows_intro (fun _ hb => ?_)); try simp only [set_none, ne_eq] at hb) | ((with_reducible refine new_intro (fun _ hb => ?_)); try simp only [set_none, ne_eq] at hb) | (with_reducible refine draw_same ?_) | ((with_reducible refine gd_split ?_ (fun _ => ?_) (fun _ => ?_)); exact rfl) | ((with_reducible refine td_split ?_ (fun _ => ?_) (fun _ => ?_)); exact rfl) | (with_reducible refine c_split (fun _ => ?_) (fun _ => ?_)))
                exact ret_same (h false _ (hno false rfl hr1).symm (fun e => by cases e))
              | true =>
                obtain rfl := hq1 rfl
                have hr1' := hr1.symm
                simp only [Bool.and_eq_true, decide_eq_true_eq] at hr1'
                repeat' (first | simp -implicitDefEqProofs only [zG1,zG2,zG3,zG4,zG5,zG6,zG7,eq_self,resV,rval,X.val,binv,fillL,setR,↓reduceIte,Nat.reduceEqDiff,Nat.reduceAdd,Nat.reduceMul,Nat.reduceLeDiff,Nat.reduceLT,Nat.reduceSub,reduceCtorEq,zGq, f0, f1, f2, f3, f23, f24, gA, gp1, gb1] | ((with_reducible refine rows_intro (fun _ hb => ?_)); try simp only [set_none, ne_eq] at hb) | ((with_reducible refine new_intro (fun _ hb => ?_)); try simp only [set_none, ne_eq] at hb) | (with_reducible refine draw_same ?_) | ((with_reducible refine gd_split ?_ (fun _ => ?_) (fun _ => ?_)); exact rfl) | ((with_reducible refine td_split ?_ (fun _ => ?_) (fun _ => ?_)); exact rfl) | (with_reducible refine c_split (fun _ => ?_) (fun _ => ?_)))
                refine ihd ss[k].els a2 d2 y (qk + cntL ss[k].body) D _ hy (by omega) hr1'.2 hlR (fun r2 q2 hr2 hq2 => ?_)
                cases r2 with
                | false =>
                  repeat' (first | simp -implicitDefEqProofs only [zG1,zG2,zG3,zG4,zG5,zG6,zG7,eq_self,resV,rval,X.val,binv,fillL,setR,↓reduceIte,Nat.reduceEqDiff,Nat.reduceAdd,Nat.reduceMul,Nat.reduceLeDiff,Nat.reduceLT,Nat.reduceSub,reduceCtorEq,zGq, f0, f1, f2, f3, f23, f24] | ((with_reducible refine rows_intro (fun _ hb => ?_)); try simp only [set_none, ne_eq] at hb) | ((with_reducible refine new_intro (fun _ hb => ?_)); try simp only [set_none, ne_eq] at hb) | (with_reducible refine draw_same ?_) | ((with_reducible refine gd_split ?_ (fun _ => ?_) (fun _ => ?_)); exact rfl) | ((with_reducible refine td_split ?_ (fun _ => ?_) (fun _ => ?_)); exact rfl) | (with_reducible refine c_split (fun _ => ?_) (fun _ => ?_)))
                  exact ret_same (h false _ (hno2 false rfl hr2).symm (fun e => by cases e))
                | true =>
                  obtain rfl := hq2 rfl
                  have hr2' := hr2.symm
                  simp only [Bool.and_eq_true, decide_eq_true_eq] at hr2'
                  repeat' (first | simp -implicitDefEqProofs only [zG1,zG2,zG3,zG4,zG5,zG6,zG7,eq_self,resV,rval,X.val,binv,fillL,setR,↓reduceIte,Nat.reduceEqDiff,Nat.reduceAdd,Nat.reduceMul,Nat.reduceLeDiff,Nat.reduceLT,Nat.reduceSub,reduceCtorEq,zGq, f0, f1, f2, f3, f23, f24, g2] | ((with_reducible refine rows_intro (fun _ hb => ?_)); try simp only [set_none, ne_eq] at hb) | ((with_reducible refine new_intro (fun _ hb => ?_)); try simp only [set_none, ne_eq] at hb) | (with_reducible refine draw_same ?_) | ((with_reducible refine gd_split ?_ (fun _ => ?_) (fun _ => ?_)); exact rfl) | ((with_reducible refine td_split ?_ (fun _ => ?_) (fun _ => ?_)); exact rfl) | (with_reducible refine c_split (fun _ => ?_) (fun _ => ?_)))
                  exact fin _ hr1'.1 hr2'.1 hr2'.2 (by first | rfl | (simp only [put_at, ↓reduceIte, Nat.reduceEqDiff]; first | done | rfl | assumption) | simp [put_at, *]) (by first | rfl | (simp only [put_at, ↓reduceIte, Nat.reduceEqDiff]; first | done | rfl | assumption) | simp [put_at, *]) (by first | rfl | (simp only [put_at, ↓reduceIte, Nat.reduceEqDiff]; first | done | rfl | assumption) | simp [put_at, *]) (by first | rfl | (simp only [put_at, ↓reduceIte, Nat.reduceEqDiff]; first | done | rfl | assumption) | simp [put_at, *]) (by first | rfl | (simp only [put_at, ↓reduceIte, Nat.reduceEqDiff]; first | done | rfl | assumption) | simp [put_at, *]) (by first | rfl | (simp only [put_at, ↓reduceIte, Nat.reduceEqDiff]; first | done | rfl | assumption) | simp [put_at, *])
        · have n2 : (ss[k].kind != 2) = true := by simp only [bne_iff_ne, ne_eq]; exact fun e => hkd (.inl e)
          have n3 : (ss[k].kind != 3) = true := by simp only [bne_iff_ne, ne_eq]; exact fun e => hkd (.inr e)
          have hs : stSimple ss[k] = true ∧ bx1 m ss[k] = true := by
            simp only [stmtV, if_neg hkd, Bool.and_eq_true] at hv
            exact hv
          have h1c := simple_cnt hs.1
          repeat' (first | simp -implicitDefEqProofs only [zG1,zG2,zG3,zG4,zG5,zG6,zG7,eq_self,resV,rval,X.val,binv,fillL,setR,↓reduceIte,Nat.reduceEqDiff,Nat.reduceAdd,Nat.reduceMul,Nat.reduceLeDiff,Nat.reduceLT,Nat.reduceSub,reduceCtorEq,zGq, f0, f1, f2, f3, f23, f24, g3, g1, g2, gA, gp, hv, gbl, n2, n3] | ((with_reducible refine rows_intro (fun _ hb => ?_)); try simp only [set_none, ne_eq] at hb) | ((with_reducible refine new_intro (fun _ hb => ?_)); try simp only [set_none, ne_eq] at hb) | (with_reducible refine draw_same ?_) | ((with_reducible refine gd_split ?_ (fun _ => ?_) (fun _ => ?_)); exact rfl) | ((with_reducible refine td_split ?_ (fun _ => ?_) (fun _ => ?_)); exact rfl) | (with_reducible refine c_split (fun _ => ?_) (fun _ => ?_)) | (with_reducible refine stmtValidM_ok _ m hm _ _ ss[k] A (k * 8) a0 d0 a1 d1 a2 d2 gA gp hEC ?_))
          refine hN _ _ _ (.refl _) ⟨?_, by omega, fun i hi hik => ?_, (by first | rfl | (simp only [put_at, ↓reduceIte, Nat.reduceEqDiff]; first | done | rfl | assumption) | simp [put_at, *]), (by first | rfl | (simp only [put_at, ↓reduceIte, Nat.reduceEqDiff]; first | done | rfl | assumption) | simp [put_at, *]), (by first | rfl | (simp only [put_at, ↓reduceIte, Nat.reduceEqDiff]; first | done | rfl | assumption) | simp [put_at, *]), (by first | rfl | (simp only [put_at, ↓reduceIte, Nat.reduceEqDiff]; first | done | rfl | assumption) | simp [put_at, *]), (by first | rfl | (simp only [put_at, ↓reduceIte, Nat.reduceEqDiff]; first | done | rfl | assumption) | simp [put_at, *]), (by first | rfl | (simp only [put_at, ↓reduceIte, Nat.reduceEqDiff]; first | done | rfl | assumption) | simp [put_at, *])⟩
          · rw [show q + ss.length + (cntL (ss.take (k + 1)) - (k + 1)) = qk by omega]
          · rcases Nat.lt_succ_iff_lt_or_eq.1 hik with hik | rfl
            · exact hok i hi hik
            · exact okM_simple hkd hs.1 hs.2
    · rintro fr _ ⟨rfl, hq2, hok, f0, f1, f2, f3, f23, f24⟩ N
      have g3 : decide ((ss.length : Int) < (ss.length : Int)) = false := by simp
      rw [List.take_length] at hq2 ⊢
      repeat' (first | simp -implicitDefEqProofs only [zG1,zG2,zG3,zG4,zG5,zG6,zG7,eq_self,resV,rval,X.val,binv,fillL,setR,↓reduceIte,Nat.reduceEqDiff,Nat.reduceAdd,Nat.reduceMul,Nat.reduceLeDiff,Nat.reduceLT,Nat.reduceSub,reduceCtorEq,zGq, f0, f1, f2, f3, f23, f24, g3] | ((with_reducible refine rows_intro (fun _ hb => ?_)); try simp only [set_none, ne_eq] at hb) | ((with_reducible refine new_intro (fun _ hb => ?_)); try simp only [set_none, ne_eq] at hb) | (with_reducible refine draw_same ?_) | ((with_reducible refine gd_split ?_ (fun _ => ?_) (fun _ => ?_)); exact rfl) | ((with_reducible refine td_split ?_ (fun _ => ?_) (fun _ => ?_)); exact rfl) | (with_reducible refine c_split (fun _ => ?_) (fun _ => ?_)))
      refine ret_same (h true _ ?_ (fun _ => by omega))
      have : q + cntL ss ≤ 16 := by omega
      rw [eq_comm, Bool.and_eq_true, List.all_eq_true]
      refine ⟨fun x hx => ?_, by simpa using this⟩
      obtain ⟨i, hi, rfl⟩ := List.getElem_of_mem hx
      exact hok i hi hi
include hm in
theorem bmP : ∀ d bl, bl + d = 3 → BmP w0 m d bl
  | 0, bl, h => bmP_of w0 m hm 0 bl h fun d' e => by omega
  | d + 1, bl, h => bmP_of w0 m hm (d + 1) bl h fun d' e => by
    obtain rfl : d' = d := (by omega)
    exact bmP d' (bl + 1) (by omega)
include hm in
theorem stmtsValidM_ok (ss : List St) (A : Option Addr) (c : Nat) (H : AHeap) (K : Value → AHeap → Prop) (hc : cntL ss ≤ 1048576) (hR : StR H ss A 0) (h : K (.bool (stsOk ss && bxL m ss)) H) :
    ACalls Try.prog w0 134 [.slice A ss.length c, .int .i64 (m : Int)] H K := by
  refine acalls_of_sx mix Try.func134 of134 (by simp [ir134]) ?_; rw [ir134]; (try delta qT qI qC qO qM qG)
  repeat' (first | simp -implicitDefEqProofs only [zG1,zG2,zG3,zG4,zG5,zG6,zG7,eq_self,resV,rval,X.val,binv,fillL,setR,↓reduceIte,Nat.reduceEqDiff,Nat.reduceAdd,Nat.reduceMul,Nat.reduceLeDiff,Nat.reduceLT,Nat.reduceSub,reduceCtorEq,zGq] | ((with_reducible refine rows_intro (fun _ hb => ?_)); try simp only [set_none, ne_eq] at hb) | ((with_reducible refine new_intro (fun _ hb => ?_)); try simp only [set_none, ne_eq] at hb) | (with_reducible refine draw_same ?_) | ((with_reducible refine gd_split ?_ (fun _ => ?_) (fun _ => ?_)); exact rfl) | ((with_reducible refine td_split ?_ (fun _ => ?_) (fun _ => ?_)); exact rfl) | (with_reducible refine c_split (fun _ => ?_) (fun _ => ?_)))
  rename_i y
  refine bmP w0 m hm 3 0 rfl ss A c y 0 H _ hb hc (by decide) hR (fun r q' hr _ => ?_)
  have e : r = (stsOk ss && bxL m ss) := by
    rw [hr, stsOk, Nat.zero_add, okM_all]
    cases ss.all (stOk 3) <;> cases bxL m ss <;> cases decide (cntL ss ≤ 16) <;> rfl
  subst e
  repeat' (first | simp -implicitDefEqProofs only [zG1,zG2,zG3,zG4,zG5,zG6,zG7,eq_self,resV,rval,X.val,binv,fillL,setR,↓reduceIte,Nat.reduceEqDiff,Nat.reduceAdd,Nat.reduceMul,Nat.reduceLeDiff,Nat.reduceLT,Nat.reduceSub,reduceCtorEq,zGq] | ((with_reducible refine rows_intro (fun _ hb => ?_)); try simp only [set_none, ne_eq] at hb) | ((with_reducible refine new_intro (fun _ hb => ?_)); try simp only [set_none, ne_eq] at hb) | (with_reducible refine draw_same ?_) | ((with_reducible refine gd_split ?_ (fun _ => ?_) (fun _ => ?_)); exact rfl) | ((with_reducible refine td_split ?_ (fun _ => ?_) (fun _ => ?_)); exact rfl) | (with_reducible refine c_split (fun _ => ?_) (fun _ => ?_)))
  exact ⟨H, (AHeap.le.refl H).fresh hb _, h⟩
end Go.Proofs.Ytfjhjfddgdokgaa
