/- The statement FnCompileProgram holds for all arguments; part 1 of the texts that show it. No further condition. -/
import Derived.Test.YtjhedgoafkabiaaFnCompileProgramP0
import Derived.Test.YtjhedgoafkabiaaProg
import Derived.KernelRfl
import Derived.Test.YtjhedgoafkabiaaChecked
import Derived.Laws.BitsAllLaws
namespace Go.Proofs.Ytjhedgoafkabiaa
open Go Go.RowKit
set_option maxRecDepth 100000
def ir78 : XF := ⟨46, [(.tmp 4)], (.seq (.ops [(qO 2 (.box 61 (qT 0))), (qO 4 (.mov (.const (.slice none 0 0))))]) (.seq (.seq (.ops [(qO 6 (.fld 0 (qT 2))), (qO 7 (.ld (qT 6))), (qO 8 (.bin .eql (qT 7) (qI 0)))]) (.cond (qT 8) (.seq (.ops [(qM 9 1), (qO 10 (.fld 1 (qT 2))), (qO 11 (.ld (qT 10))), (qO 12 (.agg [(.int .i64 0), (.int .i64 0), (.int .i64 0), (.int .i64 0), (.int .i64 0)] [(0, (1, (qI 1))), (1, (1, (qT 9))), (4, (1, (qT 11)))])), (qO 13 (.lit [(.int .i64 0), (.int .i64 0), (.int .i64 0), (.int .i64 0), (.int .i64 0)] 33 1 [(0, (5, (qT 12)))])), (qM 4 13)]) .ret) .skip)) (.seq (.seq (.ops [(qO 14 (.fld 0 (qT 2))), (qO 15 (.ld (qT 14))), (qO 16 (.bin .eql (qT 15) (qI 13)))]) (.cond (qT 16) (.seq (.ops [(qM 17 1), (qO 18 (.fld 1 (qT 2))), (qO 19 (.ld (qT 18))), (qO 20 (.agg [(.int .i64 0), (.int .i64 0), (.int .i64 0), (.int .i64 0), (.int .i64 0)] [(0, (1, (qI 2))), (1, (1, (qT 17))), (2, (1, (qT 19)))])), (qO 21 (.lit [(.int .i64 0), (.int .i64 0), (.int .i64 0), (.int .i64 0), (.int .i64 0)] 33 1 [(0, (5, (qT 20)))])), (qM 4 21)]) .ret) .skip)) (.seq (.draw (.take (qO 22 (.fld 2 (qT 2))) (.take (qO 23 (.ld (qT 22))) (.take (qO 24 (.idx 3 (qT 23) (qI 0))) (.take (qO 25 (.ldn 3 (qT 24))) (.take (qM 26 1) (.take (qO 28 (.fld 2 (qT 2))) (.take (qO 29 (.ld (qT 28))) (.take (qO 30 (.idx 3 (qT 29) (qI 1))) (.take (qO 31 (.ldn 3 (qT 30))) (.take (qM 32 1) (.take (qO 33 (.bin .add (qT 32) (qI 1))) (.alt (qO 27 (qC 78 [(qT 25), (qT 26)])) (.alt (qO 34 (qC 78 [(qT 31), (qT 33)])) (.alt (qO 35 (.app [(.int .i64 0), (.int .i64 0), (.int .i64 0), (.int .i64 0), (.int .i64 0)] 33 40 (qT 27) (qT 34))) (.take (qM 5 35) .done) .none_) .none_) .none_))))))))))))) (.seq (.ops [(qM 36 5), (qM 37 1), (qM 38 1), (qM 39 1), (qO 40 (.bin .add (qT 39) (qI 1))), (qO 41 (.fld 0 (qT 2))), (qO 42 (.ld (qT 41))), (qO 43 (.agg [(.int .i64 0), (.int .i64 0), (.int .i64 0), (.int .i64 0), (.int .i64 0)] [(0, (1, (qI 3))), (1, (1, (qT 37))), (2, (1, (qT 38))), (3, (1, (qT 40))), (4, (1, (qT 42)))])), (qO 44 (.lit [(.int .i64 0), (.int .i64 0), (.int .i64 0), (.int .i64 0), (.int .i64 0)] 33 1 [(0, (5, (qT 43)))])), (qO 45 (.app [(.int .i64 0), (.int .i64 0), (.int .i64 0), (.int .i64 0), (.int .i64 0)] 33 40 (qT 36) (qT 44))), (qM 4 45)]) .ret)))))⟩
theorem of78 : XF.of Try.prog Try.f78 = some ir78 := by kernel_rfl
def ir79 : XF := ⟨66, [(.tmp 4)], (.seq (.ops [(qO 2 (.box 63 (qT 0))), (qO 4 (.mov (.const (.slice none 0 0))))]) (.seq (.ops [(qO 9 (.fld 3 (qT 2))), (qO 10 (.ldn 3 (qT 9))), (qO 11 (qC 78 [(qT 10), (qI 4)])), (qM 5 11)]) (.seq (.ops [(qO 12 (.fld 6 (qT 2))), (qO 13 (.ld (qT 12))), (qM 14 1), (qM 15 5), (qO 16 (.len (qT 15))), (qO 17 (.bin .add (qT 14) (qT 16))), (qO 18 (.bin .add (qT 17) (qI 1))), (qO 19 (qC 38 [(qT 13), (qT 18)])), (qM 6 19)]) (.seq (.ops [(qM 20 1), (qM 21 5), (qO 22 (.len (qT 21))), (qO 23 (.bin .add (qT 20) (qT 22))), (qO 24 (.bin .add (qT 23) (qI 1))), (qM 25 6), (qO 26 (.len (qT 25))), (qO 27 (.bin .add (qT 24) (qT 26))), (qM 7 27)]) (.seq (.seq (.ops [(qO 28 (.fld 7 (qT 2))), (qO 29 (.ld (qT 28))), (qO 30 (.len (qT 29))), (qO 31 (.bin .eql (qT 30) (qI 0)))]) (.cond (qT 31) (.seq (.ops [(qM 32 5), (qM 33 7), (qO 34 (.agg [(.int .i64 0), (.int .i64 0), (.int .i64 0), (.int .i64 0), (.int .i64 0)] [(0, (1, (qI 5))), (2, (1, (qI 4))), (4, (1, (qT 33)))])), (qO 35 (.lit [(.int .i64 0), (.int .i64 0), (.int .i64 0), (.int .i64 0), (.int .i64 0)] 33 1 [(0, (5, (qT 34)))])), (qO 36 (.app [(.int .i64 0), (.int .i64 0), (.int .i64 0), (.int .i64 0), (.int .i64 0)] 33 40 (qT 32) (qT 35))), (qM 5 36)]) (.seq (.ops [(qM 37 5), (qM 38 6), (qO 39 (.app [(.int .i64 0), (.int .i64 0), (.int .i64 0), (.int .i64 0), (.int .i64 0)] 33 40 (qT 37) (qT 38))), (qM 4 39)]) .ret)) .skip)) (.seq (.ops [(qO 40 (.fld 7 (qT 2))), (qO 41 (.ld (qT 40))), (qM 42 7), (qO 43 (.bin .add (qT 42) (qI 1))), (qO 44 (qC 38 [(qT 41), (qT 43)])), (qM 8 44)]) (.seq (.ops [(qM 45 5), (qM 46 7), (qO 47 (.bin .add (qT 46) (qI 1))), (qO 48 (.agg [(.int .i64 0), (.int .i64 0), (.int .i64 0), (.int .i64 0), (.int .i64 0)] [(0, (1, (qI 5))), (2, (1, (qI 4))), (4, (1, (qT 47)))])), (qO 49 (.lit [(.int .i64 0), (.int .i64 0), (.int .i64 0), (.int .i64 0), (.int .i64 0)] 33 1 [(0, (5, (qT 48)))])), (qO 50 (.app [(.int .i64 0), (.int .i64 0), (.int .i64 0), (.int .i64 0), (.int .i64 0)] 33 40 (qT 45) (qT 49))), (qM 5 50)]) (.seq (.ops [(qM 51 5), (qM 52 6), (qO 53 (.app [(.int .i64 0), (.int .i64 0), (.int .i64 0), (.int .i64 0), (.int .i64 0)] 33 40 (qT 51) (qT 52))), (qM 5 53)]) (.seq (.ops [(qM 54 5), (qM 55 7), (qO 56 (.bin .add (qT 55) (qI 1))), (qM 57 8), (qO 58 (.len (qT 57))), (qO 59 (.bin .add (qT 56) (qT 58))), (qO 60 (.agg [(.int .i64 0), (.int .i64 0), (.int .i64 0), (.int .i64 0), (.int .i64 0)] [(0, (1, (qI 4))), (4, (1, (qT 59)))])), (qO 61 (.lit [(.int .i64 0), (.int .i64 0), (.int .i64 0), (.int .i64 0), (.int .i64 0)] 33 1 [(0, (5, (qT 60)))])), (qO 62 (.app [(.int .i64 0), (.int .i64 0), (.int .i64 0), (.int .i64 0), (.int .i64 0)] 33 40 (qT 54) (qT 61))), (qM 5 62)]) (.seq (.ops [(qM 63 5), (qM 64 8), (qO 65 (.app [(.int .i64 0), (.int .i64 0), (.int .i64 0), (.int .i64 0), (.int .i64 0)] 33 40 (qT 63) (qT 64))), (qM 4 65)]) .ret))))))))))⟩
theorem of79 : XF.of Try.prog Try.f79 = some ir79 := by kernel_rfl
def ir80 : XF := ⟨39, [(.tmp 4)], (.seq (.ops [(qO 2 (.box 63 (qT 0))), (qO 4 (.mov (.const (.slice none 0 0))))]) (.seq (.ops [(qO 7 (.fld 3 (qT 2))), (qO 8 (.ldn 3 (qT 7))), (qO 9 (qC 78 [(qT 8), (qI 4)])), (qM 5 9)]) (.seq (.ops [(qO 10 (.fld 6 (qT 2))), (qO 11 (.ld (qT 10))), (qM 12 1), (qM 13 5), (qO 14 (.len (qT 13))), (qO 15 (.bin .add (qT 12) (qT 14))), (qO 16 (.bin .add (qT 15) (qI 1))), (qO 17 (qC 38 [(qT 11), (qT 16)])), (qM 6 17)]) (.seq (.ops [(qM 18 5), (qM 19 1), (qM 20 5), (qO 21 (.len (qT 20))), (qO 22 (.bin .add (qT 19) (qT 21))), (qO 23 (.bin .add (qT 22) (qI 1))), (qM 24 6), (qO 25 (.len (qT 24))), (qO 26 (.bin .add (qT 23) (qT 25))), (qO 27 (.bin .add (qT 26) (qI 1))), (qO 28 (.agg [(.int .i64 0), (.int .i64 0), (.int .i64 0), (.int .i64 0), (.int .i64 0)] [(0, (1, (qI 5))), (2, (1, (qI 4))), (4, (1, (qT 27)))])), (qO 29 (.lit [(.int .i64 0), (.int .i64 0), (.int .i64 0), (.int .i64 0), (.int .i64 0)] 33 1 [(0, (5, (qT 28)))])), (qO 30 (.app [(.int .i64 0), (.int .i64 0), (.int .i64 0), (.int .i64 0), (.int .i64 0)] 33 40 (qT 18) (qT 29))), (qM 5 30)]) (.seq (.ops [(qM 31 5), (qM 32 6), (qO 33 (.app [(.int .i64 0), (.int .i64 0), (.int .i64 0), (.int .i64 0), (.int .i64 0)] 33 40 (qT 31) (qT 32))), (qM 5 33)]) (.seq (.ops [(qM 34 5), (qM 35 1), (qO 36 (.agg [(.int .i64 0), (.int .i64 0), (.int .i64 0), (.int .i64 0), (.int .i64 0)] [(0, (1, (qI 4))), (4, (1, (qT 35)))])), (qO 37 (.lit [(.int .i64 0), (.int .i64 0), (.int .i64 0), (.int .i64 0), (.int .i64 0)] 33 1 [(0, (5, (qT 36)))])), (qO 38 (.app [(.int .i64 0), (.int .i64 0), (.int .i64 0), (.int .i64 0), (.int .i64 0)] 33 40 (qT 34) (qT 37))), (qM 4 38)]) .ret))))))⟩
theorem of80 : XF.of Try.prog Try.f80 = some ir80 := by kernel_rfl
def ir82 : XF := ⟨26, [(.tmp 2)], (.seq (.ops [(qO 2 (.mov (.const (.slice none 0 0))))]) (.seq (.ops [(qO 6 (.lit [] 3 0 [])), (qM 3 6)]) (.seq (.ops [(qO 7 (.lit [(.int .i64 0), (.int .i64 0), (.int .i64 0), (.int .i64 0), (.int .i64 0), (.int .i64 0)] 3 6 [(0, (1, (qI 0))), (1, (1, (qI 1))), (2, (1, (qI 1))), (3, (1, (qI 2))), (4, (1, (qI 2))), (5, (1, (qI 3)))])), (qM 8 0), (qO 9 (qC 48 [(qT 8), (qI 6)])), (qO 10 (.idx 1 (qT 7) (qT 9))), (qO 11 (.ld (qT 10))), (qM 4 11)]) (.seq (.seq (.ops [(qO 5 (.mov (qI 0)))]) (.block 0 (.loop (.seq (.seq (.ops [(qM 12 5), (qM 13 4), (qO 14 (.bin .lss (qT 12) (qT 13)))]) (.cond (qT 14) .skip (.exit 0))) (.seq (.block 1 (.ops [(qM 17 3), (qO 18 (.lit [(.int .i64 0), (.int .i64 0), (.int .i64 0), (.int .i64 0), (.int .i64 0)] 3 5 [(0, (1, (qI 1))), (1, (1, (qI 1))), (2, (1, (qI 2))), (3, (1, (qI 3))), (4, (1, (qI 4)))])), (qM 19 0), (qO 20 (qC 48 [(qT 19), (qI 5)])), (qO 21 (.idx 1 (qT 18) (qT 20))), (qO 22 (.ld (qT 21))), (qO 23 (.lit [(.int .i64 0)] 3 1 [(0, (1, (qT 22)))])), (qO 24 (.app [(.int .i64 0)] 3 8 (qT 17) (qT 23))), (qM 3 24)])) (.ops [(qM 15 5), (qO 16 (.bin .add (qT 15) (qI 1))), (qM 5 16)])))))) (.seq (.ops [(qM 25 3), (qM 2 25)]) .ret)))))⟩
theorem of82 : XF.of Try.prog Try.f82 = some ir82 := by kernel_rfl
def ir83 : XF := ⟨57, [(.tmp 8)], (.seq (.ops [(qO 8 (.mov (.const (.slice none 0 0))))]) (.seq (.seq (.ops [(qM 9 0), (qO 10 (qC 48 [(qT 9), (qI 10)]))]) (.block 0 (.seq (.seq (.ops [(qO 12 (.bin .eql (qT 10) (qI 0))), (qM 11 12)]) (.cond (qT 11) .skip (.ops [(qO 13 (.bin .eql (qT 10) (qI 1))), (qM 11 13)]))) (.cond (qT 11) (.seq (.ops [(qM 14 0), (qO 15 (qC 94 [(qT 14)])), (qO 16 (.lit [(.int .i64 0), (.int .i64 0), (.int .i64 0), (.int .i64 0), (.int .i64 0), (.slice none 0 0), (.slice none 0 0), (.slice none 0 0)] 63 1 [(0, (8, (qT 15)))])), (qM 8 16)]) .ret) (.seq (.ops [(qO 18 (.bin .eql (qT 10) (qI 2))), (qM 17 18)]) (.cond (qT 17) (.seq (.ops [(qM 19 2), (qO 20 (.bin .gtr (qT 19) (qI 0)))]) (.cond (qT 20) (.seq (.ops [(qM 21 0), (qM 22 1), (qM 23 2), (qM 24 3), (qO 25 (qC 51 [(qT 21), (qT 22), (qT 23), (qT 24)])), (qO 26 (.lit [(.int .i64 0), (.int .i64 0), (.int .i64 0), (.int .i64 0), (.int .i64 0), (.slice none 0 0), (.slice none 0 0), (.slice none 0 0)] 63 1 [(0, (8, (qT 25)))])), (qM 8 26)]) .ret) .skip)) (.seq (.ops [(qO 28 (.bin .eql (qT 10) (qI 3))), (qM 27 28)]) (.cond (qT 27) (.seq (.ops [(qM 29 2), (qO 30 (.bin .gtr (qT 29) (qI 0))), (qM 31 30), (qG 32 (.mov (qT 3)) 31 true), (qO 33 (.pick (qT 31) (qT 32) (.const (.bool false))))]) (.cond (qT 33) (.seq (.ops [(qM 34 0), (qM 35 1), (qM 36 2), (qO 37 (qC 95 [(qT 34), (qT 35), (qT 36)])), (qM 8 37)]) .ret) .skip)) (.seq (.seq (.ops [(qO 39 (.bin .eql (qT 10) (qI 4))), (qM 38 39)]) (.cond (qT 38) .skip (.seq (.ops [(qO 40 (.bin .eql (qT 10) (qI 5))), (qM 38 40)]) (.cond (qT 38) .skip (.ops [(qO 41 (.bin .eql (qT 10) (qI 6))), (qM 38 41)]))))) (.cond (qT 38) (.seq (.ops [(qM 42 0), (qM 43 1), (qO 44 (qC 96 [(qT 42), (qT 43)])), (qO 45 (.lit [(.int .i64 0), (.int .i64 0), (.int .i64 0), (.int .i64 0), (.int .i64 0), (.slice none 0 0), (.slice none 0 0), (.slice none 0 0)] 63 1 [(0, (8, (qT 44)))])), (qM 8 45)]) .ret) (.seq (.ops [(qO 47 (.bin .eql (qT 10) (qI 7))), (qM 46 47)]) (.cond (qT 46) (.seq (.ops [(qO 48 (.agg [(.int .i64 0), (.int .i64 0), (.int .i64 0), (.int .i64 0), (.int .i64 0), (.slice none 0 0), (.slice none 0 0), (.slice none 0 0)] [(0, (1, (qI 6)))])), (qO 49 (.lit [(.int .i64 0), (.int .i64 0), (.int .i64 0), (.int .i64 0), (.int .i64 0), (.slice none 0 0), (.slice none 0 0), (.slice none 0 0)] 63 1 [(0, (8, (qT 48)))])), (qM 8 49)]) .ret) .skip)))))))))))) (.seq (.ops [(qM 50 0), (qM 51 0), (qO 52 (qC 48 [(qT 51), (qI 3)])), (qO 53 (.bin .add (qI 1) (qT 52))), (qO 54 (qC 73 [(qT 50), (qT 53)])), (qO 55 (.agg [(.int .i64 0), (.int .i64 0), (.int .i64 0), (.int .i64 0), (.int .i64 0), (.slice none 0 0), (.slice none 0 0), (.slice none 0 0)] [(0, (1, (qI 7))), (3, (3, (qT 54)))])), (qO 56 (.lit [(.int .i64 0), (.int .i64 0), (.int .i64 0), (.int .i64 0), (.int .i64 0), (.slice none 0 0), (.slice none 0 0), (.slice none 0 0)] 63 1 [(0, (8, (qT 55)))])), (qM 8 56)]) .ret)))⟩
theorem of83 : XF.of Try.prog Try.f83 = some ir83 := by kernel_rfl
def ir84 : XF := ⟨6, [(.tmp 2)], (.seq (.ops [(qO 2 (.mov (qI 0)))]) (.seq (.ops [(qM 3 0), (qO 4 (qC 48 [(qT 3), (qI 12)])), (qO 5 (.bin .add (qI 1) (qT 4))), (qM 2 5)]) .ret))⟩
theorem of84 : XF.of Try.prog Try.f84 = some ir84 := by kernel_rfl
def ir85 : XF := ⟨12, [(.cell 6 (some 3))], (.seq (.ops [(qO 4 (.box 61 (qT 1))), (qO 5 (.box 61 (qT 2))), (qO 6 (.new [(.int .i64 0), (.int .i64 0), (.slice none 0 0)] 61))]) (.seq (.ops [(qM 7 0), (qO 8 (.ldn 3 (qT 4))), (qO 9 (.ldn 3 (qT 5))), (qO 10 (.lit [(.int .i64 0), (.int .i64 0), (.slice none 0 0), (.int .i64 0), (.int .i64 0), (.slice none 0 0)] 61 2 [(0, (3, (qT 8))), (3, (3, (qT 9)))])), (qO 11 (.agg [(.int .i64 0), (.int .i64 0), (.slice none 0 0)] [(0, (1, (qT 7))), (2, (1, (qT 10)))])), ⟨none, (.st 3 (qT 6) (qT 11)), none⟩]) .ret))⟩
theorem of85 : XF.of Try.prog Try.f85 = some ir85 := by kernel_rfl
def ir86 : XF := ⟨132, [(.tmp 4)], (.seq (.ops [(qO 4 (.mov (.const (.bool false))))]) (.seq (.ops [(qO 5 (.new [(.bool false), (.bool false), (.bool false), (.bool false), (.bool false)] 115))]) (.seq (.seq (.ops [(qM 7 0), (qO 8 (.nilc (qT 7))), (qO 9 (.fld 0 (qT 8))), (qO 10 (.ld (qT 9)))]) (.block 0 (.seq (.ops [(qO 12 (.bin .eql (qT 10) (qI 1))), (qM 11 12)]) (.cond (qT 11) (.ops [(qO 13 (.fld 0 (qT 5))), ⟨none, (.st 1 (qT 13) (.const (.bool true))), none⟩, (qO 14 (.fld 2 (qT 5))), ⟨none, (.st 1 (qT 14) (.const (.bool true))), none⟩]) (.seq (.ops [(qO 16 (.bin .eql (qT 10) (qI 2))), (qM 15 16)]) (.cond (qT 15) (.ops [(qO 17 (.fld 2 (qT 5))), ⟨none, (.st 1 (qT 17) (.const (.bool true))), none⟩, (qO 18 (.fld 3 (qT 5))), ⟨none, (.st 1 (qT 18) (.const (.bool true))), none⟩, (qO 19 (.fld 4 (qT 5))), ⟨none, (.st 1 (qT 19) (.const (.bool true))), none⟩]) (.seq (.ops [(qO 21 (.bin .eql (qT 10) (qI 3))), (qM 20 21)]) (.cond (qT 20) (.ops [(qO 22 (.fld 2 (qT 5))), ⟨none, (.st 1 (qT 22) (.const (.bool true))), none⟩, (qO 23 (.fld 3 (qT 5))), ⟨none, (.st 1 (qT 23) (.const (.bool true))), none⟩]) (.seq (.ops [(qO 25 (.bin .eql (qT 10) (qI 4))), (qM 24 25)]) (.cond (qT 24) (.ops [(qO 26 (.fld 1 (qT 5))), ⟨none, (.st 1 (qT 26) (.const (.bool true))), none⟩, (qO 27 (.fld 2 (qT 5))), ⟨none, (.st 1 (qT 27) (.const (.bool true))), none⟩]) (.seq (.ops [(qO 29 (.bin .eql (qT 10) (qI 5))), (qM 28 29)]) (.cond (qT 28) (.ops [(qO 30 (.fld 1 (qT 5))), ⟨none, (.st 1 (qT 30) (.const (.bool true))), none⟩, (qO 31 (.fld 0 (qT 5))), ⟨none, (.st 1 (qT 31) (.const (.bool true))), none⟩]) (.seq (.ops [(qO 33 (.bin .eql (qT 10) (qI 7))), (qM 32 33)]) (.cond (qT 32) (.ops [(qO 34 (.fld 2 (qT 5))), ⟨none, (.st 1 (qT 34) (.const (.bool true))), none⟩]) (.seq (.ops [(qO 36 (.bin .eql (qT 10) (qI 6))), (qM 35 36)]) (.cond (qT 35) .skip (.seq (.ops [(qO 4 (.mov (.const (.bool false))))]) .ret))))))))))))))))) (.seq (.ops [(qO 6 (.mov (.func 97)))]) (.seq (.seq (.draw (.take (qM 37 6) (.take (qM 38 0) (.take (qO 39 (.nilc (qT 38))) (.take (qO 40 (.fld 1 (qT 39))) (.take (qO 41 (.ld (qT 40))) (.take (qO 42 (.fld 0 (qT 5))) (.take (qO 43 (.ld (qT 42))) (.alt (qO 44 (.call (qT 37) [(qT 41), (qI 4), (qT 43)])) (.take (qO 45 (.not (qT 44))) (.take (qM 46 45) (.take (qG 47 (.mov (qT 6)) 46 false) (.take (qG 48 (.mov (qT 0)) 46 false) (.take (qG 49 (.nilc (qT 48)) 46 false) (.take (qG 50 (.fld 2 (qT 49)) 46 false) (.take (qG 51 (.ld (qT 50)) 46 false) (.take (qG 52 (.mov (qT 1)) 46 false) (.take (qG 53 (.fld 1 (qT 5)) 46 false) (.take (qG 54 (.ld (qT 53)) 46 false) (.alt (qG 55 (.call (qT 47) [(qT 51), (qT 52), (qT 54)]) 46 false) (.take (qG 56 (.not (qT 55)) 46 false) (.take (qO 57 (.pick (qT 46) (.const (.bool true)) (qT 56))) (.take (qM 58 57) (.take (qG 59 (.fld 1 (qT 5)) 58 false) (.take (qG 60 (.ld (qT 59)) 58 false) (.take (qG 61 (.mov (qT 60)) 58 false) (.take (qG 62 (.mov (qT 0)) 61 true) (.take (qG 63 (.nilc (qT 62)) 61 true) (.take (qG 64 (.fld 2 (qT 63)) 61 true) (.take (qG 65 (.ld (qT 64)) 61 true) (.take (qG 66 (.mov (qT 1)) 61 true) (.take (qG 67 (.bin .geq (qT 65) (qT 66)) 61 true) (.take (qG 68 (.pick (qT 61) (qT 67) (.const (.bool false))) 58 false) (.take (qO 69 (.pick (qT 58) (.const (.bool true)) (qT 68))) .done)))))))))))))) .none_))))))))))) .none_))))))))) (.cond (qT 69) (.seq (.ops [(qO 4 (.mov (.const (.bool false))))]) .ret) .skip)) (.seq (.seq (.ops [(qO 70 (.fld 2 (qT 5))), (qO 71 (.ld (qT 70))), (qM 72 71), (qG 73 (.mov (qT 0)) 72 true), (qG 74 (.nilc (qT 73)) 72 true), (qG 75 (.fld 3 (qT 74)) 72 true), (qG 76 (.ldn 3 (qT 75)) 72 true), (qG 77 (qC 98 [(qT 76)]) 72 true), (qG 78 (.not (qT 77)) 72 true), (qO 79 (.pick (qT 72) (qT 78) (.const (.bool false)))), (qM 80 79), (qG 81 (.fld 2 (qT 5)) 80 false), (qG 82 (.ld (qT 81)) 80 false), (qG 83 (.not (qT 82)) 80 false), (qG 84 (.mov (qT 83)) 80 false), (qG 85 (.mov (qT 0)) 84 true), (qG 86 (.nilc (qT 85)) 84 true), (qG 87 (.fld 3 (qT 86)) 84 true), (qG 88 (.fld 0 (qT 87)) 84 true), (qG 89 (.ld (qT 88)) 84 true), (qG 90 (.bin .neq (qT 89) (qI 0)) 84 true), (qG 91 (.mov (qT 90)) 84 true), (qG 92 (.mov (qT 0)) 91 false), (qG 93 (.nilc (qT 92)) 91 false), (qG 94 (.fld 3 (qT 93)) 91 false), (qG 95 (.fld 1 (qT 94)) 91 false), (qG 96 (.ld (qT 95)) 91 false), (qG 97 (.bin .neq (qT 96) (qI 0)) 91 false), (qG 98 (.pick (qT 91) (.const (.bool true)) (qT 97)) 84 true), (qG 99 (.mov (qT 98)) 84 true), (qG 100 (.mov (qT 0)) 99 false), (qG 101 (.nilc (qT 100)) 99 false), (qG 102 (.fld 3 (qT 101)) 99 false), (qG 103 (.fld 2 (qT 102)) 99 false), (qG 104 (.ld (qT 103)) 99 false), (qG 105 (.len (qT 104)) 99 false), (qG 106 (.bin .gtr (qT 105) (qI 0)) 99 false), (qG 107 (.pick (qT 99) (.const (.bool true)) (qT 106)) 84 true), (qG 108 (.pick (qT 84) (qT 107) (.const (.bool false))) 80 false), (qO 109 (.pick (qT 80) (.const (.bool true)) (qT 108)))]) (.cond (qT 109) (.seq (.ops [(qO 4 (.mov (.const (.bool false))))]) .ret) .skip)) (.seq (.ops [(qO 110 (.fld 3 (qT 5))), (qO 111 (.ld (qT 110))), (qM 112 111), (qG 113 (.mov (qT 0)) 112 false), (qG 114 (.nilc (qT 113)) 112 false), (qG 115 (.fld 6 (qT 114)) 112 false), (qG 116 (.ld (qT 115)) 112 false), (qG 117 (.len (qT 116)) 112 false), (qG 118 (.bin .eql (qT 117) (qI 0)) 112 false), (qO 119 (.pick (qT 112) (.const (.bool true)) (qT 118))), (qM 120 119), (qG 121 (.fld 4 (qT 5)) 120 true), (qG 122 (.ld (qT 121)) 120 true), (qG 123 (.mov (qT 122)) 120 true), (qG 124 (.mov (qT 0)) 123 false), (qG 125 (.nilc (qT 124)) 123 false), (qG 126 (.fld 7 (qT 125)) 123 false), (qG 127 (.ld (qT 126)) 123 false), (qG 128 (.len (qT 127)) 123 false), (qG 129 (.bin .eql (qT 128) (qI 0)) 123 false), (qG 130 (.pick (qT 123) (.const (.bool true)) (qT 129)) 120 true), (qO 131 (.pick (qT 120) (qT 130) (.const (.bool false)))), (qM 4 131)]) .ret)))))))⟩
theorem of86 : XF.of Try.prog Try.f86 = some ir86 := by kernel_rfl
def ir87 : XF := ⟨52, [(.tmp 6)], (.seq (.ops [(qO 3 (.box 61 (qT 0))), (qO 6 (.mov (.const (.slice none 0 0))))]) (.seq (.seq (.ops [(qO 7 (.fld 0 (qT 3))), (qO 8 (.ld (qT 7)))]) (.block 0 (.seq (.ops [(qO 10 (.bin .eql (qT 8) (qI 0))), (qM 9 10)]) (.cond (qT 9) (.seq (.ops [(qM 11 2), (qM 12 1), (qO 13 (.fld 1 (qT 3))), (qO 14 (.ld (qT 13))), (qO 15 (.agg [(.int .i64 0), (.int .i64 0), (.int .i64 0), (.int .i64 0), (.int .i64 0)] [(0, (1, (qI 1))), (1, (1, (qT 12))), (4, (1, (qT 14)))])), (qO 16 (.lit [(.int .i64 0), (.int .i64 0), (.int .i64 0), (.int .i64 0), (.int .i64 0)] 33 1 [(0, (5, (qT 15)))])), (qO 17 (.app [(.int .i64 0), (.int .i64 0), (.int .i64 0), (.int .i64 0), (.int .i64 0)] 33 40 (qT 11) (qT 16))), (qM 6 17)]) .ret) (.seq (.ops [(qO 19 (.bin .eql (qT 8) (qI 13))), (qM 18 19)]) (.cond (qT 18) (.seq (.ops [(qM 20 2), (qM 21 1), (qO 22 (.fld 1 (qT 3))), (qO 23 (.ld (qT 22))), (qO 24 (.agg [(.int .i64 0), (.int .i64 0), (.int .i64 0), (.int .i64 0), (.int .i64 0)] [(0, (1, (qI 2))), (1, (1, (qT 21))), (2, (1, (qT 23)))])), (qO 25 (.lit [(.int .i64 0), (.int .i64 0), (.int .i64 0), (.int .i64 0), (.int .i64 0)] 33 1 [(0, (5, (qT 24)))])), (qO 26 (.app [(.int .i64 0), (.int .i64 0), (.int .i64 0), (.int .i64 0), (.int .i64 0)] 33 40 (qT 20) (qT 25))), (qM 6 26)]) .ret) .skip)))))) (.seq (.ops [(qO 27 (.fld 2 (qT 3))), (qO 28 (.ld (qT 27))), (qO 29 (.idx 3 (qT 28) (qI 0))), (qO 30 (.ldn 3 (qT 29))), (qM 31 1), (qM 32 2), (qO 33 (qC 87 [(qT 30), (qT 31), (qT 32)])), (qM 2 33)]) (.seq (.ops [(qO 34 (.fld 2 (qT 3))), (qO 35 (.ld (qT 34))), (qO 36 (.idx 3 (qT 35) (qI 1))), (qO 37 (.ldn 3 (qT 36))), (qM 38 1), (qO 39 (.bin .add (qT 38) (qI 1))), (qM 40 2), (qO 41 (qC 87 [(qT 37), (qT 39), (qT 40)])), (qM 2 41)]) (.seq (.ops [(qM 42 2), (qM 43 1), (qM 44 1), (qM 45 1), (qO 46 (.bin .add (qT 45) (qI 1))), (qO 47 (.fld 0 (qT 3))), (qO 48 (.ld (qT 47))), (qO 49 (.agg [(.int .i64 0), (.int .i64 0), (.int .i64 0), (.int .i64 0), (.int .i64 0)] [(0, (1, (qI 3))), (1, (1, (qT 43))), (2, (1, (qT 44))), (3, (1, (qT 46))), (4, (1, (qT 48)))])), (qO 50 (.lit [(.int .i64 0), (.int .i64 0), (.int .i64 0), (.int .i64 0), (.int .i64 0)] 33 1 [(0, (5, (qT 49)))])), (qO 51 (.app [(.int .i64 0), (.int .i64 0), (.int .i64 0), (.int .i64 0), (.int .i64 0)] 33 40 (qT 42) (qT 50))), (qM 6 51)]) .ret)))))⟩
theorem of87 : XF.of Try.prog Try.f87 = some ir87 := by kernel_rfl
def ir88 : XF := ⟨80, [(.tmp 2)], (.seq (.ops [(qO 1 (.box 63 (qT 0))), (qO 2 (.mov (.const (.bool false))))]) (.seq (.seq (.ops [(qO 3 (.fld 6 (qT 1))), (qO 4 (.ld (qT 3))), (qO 5 (.len (qT 4))), (qO 6 (.bin .gtr (qT 5) (qI 0))), (qM 7 6), (qG 8 (.fld 7 (qT 1)) 7 false), (qG 9 (.ld (qT 8)) 7 false), (qG 10 (.len (qT 9)) 7 false), (qG 11 (.bin .gtr (qT 10) (qI 0)) 7 false), (qO 12 (.pick (qT 7) (.const (.bool true)) (qT 11)))]) (.cond (qT 12) (.seq (.ops [(qO 2 (.mov (.const (.bool false))))]) .ret) .skip)) (.seq (.seq (.ops [(qO 13 (.fld 0 (qT 1))), (qO 14 (.ld (qT 13)))]) (.block 0 (.seq (.ops [(qO 16 (.bin .eql (qT 14) (qI 1))), (qM 15 16)]) (.cond (qT 15) (.seq (.ops [(qO 17 (.ldn 8 (qT 1))), (qO 18 (qC 89 [(qT 17), (.const (.bool true))])), (qM 19 18), (qG 20 (.ldn 8 (qT 1)) 19 true), (qG 21 (qC 90 [(qT 20), (.const (.bool false))]) 19 true), (qO 22 (.pick (qT 19) (qT 21) (.const (.bool false)))), (qM 23 22), (qG 24 (.fld 3 (qT 1)) 23 true), (qG 25 (.ldn 3 (qT 24)) 23 true), (qG 26 (qC 91 [(qT 25)]) 23 true), (qO 27 (.pick (qT 23) (qT 26) (.const (.bool false)))), (qM 2 27)]) .ret) (.seq (.ops [(qO 29 (.bin .eql (qT 14) (qI 4))), (qM 28 29)]) (.cond (qT 28) (.seq (.ops [(qO 30 (.ldn 8 (qT 1))), (qO 31 (qC 89 [(qT 30), (.const (.bool false))])), (qM 32 31), (qG 33 (.ldn 8 (qT 1)) 32 true), (qG 34 (qC 90 [(qT 33), (.const (.bool true))]) 32 true), (qO 35 (.pick (qT 32) (qT 34) (.const (.bool false)))), (qM 36 35), (qG 37 (.fld 3 (qT 1)) 36 true), (qG 38 (.ldn 3 (qT 37)) 36 true), (qG 39 (qC 91 [(qT 38)]) 36 true), (qO 40 (.pick (qT 36) (qT 39) (.const (.bool false)))), (qM 2 40)]) .ret) (.seq (.ops [(qO 42 (.bin .eql (qT 14) (qI 5))), (qM 41 42)]) (.cond (qT 41) (.seq (.ops [(qO 43 (.ldn 8 (qT 1))), (qO 44 (qC 89 [(qT 43), (.const (.bool true))])), (qM 45 44), (qG 46 (.ldn 8 (qT 1)) 45 true), (qG 47 (qC 90 [(qT 46), (.const (.bool true))]) 45 true), (qO 48 (.pick (qT 45) (qT 47) (.const (.bool false)))), (qM 49 48), (qG 50 (.fld 3 (qT 1)) 49 true), (qG 51 (.ldn 3 (qT 50)) 49 true), (qG 52 (qC 99 [(qT 51)]) 49 true), (qO 53 (.pick (qT 49) (qT 52) (.const (.bool false)))), (qM 2 53)]) .ret) (.seq (.ops [(qO 55 (.bin .eql (qT 14) (qI 6))), (qM 54 55)]) (.cond (qT 54) (.seq (.ops [(qO 56 (.ldn 8 (qT 1))), (qO 57 (qC 89 [(qT 56), (.const (.bool false))])), (qM 58 57), (qG 59 (.ldn 8 (qT 1)) 58 true), (qG 60 (qC 90 [(qT 59), (.const (.bool false))]) 58 true), (qO 61 (.pick (qT 58) (qT 60) (.const (.bool false)))), (qM 62 61), (qG 63 (.fld 3 (qT 1)) 62 true), (qG 64 (.ldn 3 (qT 63)) 62 true), (qG 65 (qC 99 [(qT 64)]) 62 true), (qO 66 (.pick (qT 62) (qT 65) (.const (.bool false)))), (qM 2 66)]) .ret) (.seq (.ops [(qO 68 (.bin .eql (qT 14) (qI 7))), (qM 67 68)]) (.cond (qT 67) (.seq (.ops [(qO 69 (.ldn 8 (qT 1))), (qO 70 (qC 89 [(qT 69), (.const (.bool false))])), (qM 71 70), (qG 72 (.ldn 8 (qT 1)) 71 true), (qG 73 (qC 90 [(qT 72), (.const (.bool false))]) 71 true), (qO 74 (.pick (qT 71) (qT 73) (.const (.bool false)))), (qM 75 74), (qG 76 (.fld 3 (qT 1)) 75 true), (qG 77 (.ldn 3 (qT 76)) 75 true), (qG 78 (qC 91 [(qT 77)]) 75 true), (qO 79 (.pick (qT 75) (qT 78) (.const (.bool false)))), (qM 2 79)]) .ret) .skip)))))))))))) (.seq (.ops [(qO 2 (.mov (.const (.bool false))))]) .ret))))⟩
theorem of88 : XF.of Try.prog Try.f88 = some ir88 := by kernel_rfl
def ir89 : XF := ⟨12, [(.tmp 4)], (.seq (.ops [(qO 2 (.box 63 (qT 0))), (qO 4 (.mov (.const (.bool false))))]) (.seq (.seq (.ops [(qM 5 1)]) (.cond (qT 5) (.seq (.ops [(qO 6 (.fld 1 (qT 2))), (qO 7 (.ld (qT 6))), (qO 8 (qC 65 [(qT 7), (qI 0), (qI 3)])), (qM 4 8)]) .ret) .skip)) (.seq (.ops [(qO 9 (.fld 1 (qT 2))), (qO 10 (.ld (qT 9))), (qO 11 (.bin .eql (qT 10) (qI 0))), (qM 4 11)]) .ret)))⟩
theorem of89 : XF.of Try.prog Try.f89 = some ir89 := by kernel_rfl
def ir90 : XF := ⟨12, [(.tmp 4)], (.seq (.ops [(qO 2 (.box 63 (qT 0))), (qO 4 (.mov (.const (.bool false))))]) (.seq (.seq (.ops [(qM 5 1)]) (.cond (qT 5) (.seq (.ops [(qO 6 (.fld 2 (qT 2))), (qO 7 (.ld (qT 6))), (qO 8 (qC 65 [(qT 7), (qI 0), (qI 2)])), (qM 4 8)]) .ret) .skip)) (.seq (.ops [(qO 9 (.fld 2 (qT 2))), (qO 10 (.ld (qT 9))), (qO 11 (.bin .eql (qT 10) (qI 0))), (qM 4 11)]) .ret)))⟩
theorem of90 : XF.of Try.prog Try.f90 = some ir90 := by kernel_rfl
def ir91 : XF := ⟨5, [(.tmp 2)], (.seq (.ops [(qO 1 (.box 61 (qT 0))), (qO 2 (.mov (.const (.bool false))))]) (.seq (.ops [(qO 3 (.ldn 3 (qT 1))), (qO 4 (qC 100 [(qT 3), (qI 5)])), (qM 2 4)]) .ret))⟩
theorem of91 : XF.of Try.prog Try.f91 = some ir91 := by kernel_rfl
def ir94 : XF := ⟨13, [(.cell 2 (some 8))], (.seq (.ops [(qO 2 (.new [(.int .i64 0), (.int .i64 0), (.int .i64 0), (.int .i64 0), (.int .i64 0), (.slice none 0 0), (.slice none 0 0), (.slice none 0 0)] 63))]) (.seq (.ops [(qM 4 0), (qO 5 (qC 48 [(qT 4), (qI 3)])), (qM 3 5)]) (.seq (.ops [(qM 6 3), (qM 7 0), (qM 8 0), (qO 9 (qC 48 [(qT 8), (qI 3)])), (qO 10 (.bin .add (qI 1) (qT 9))), (qO 11 (qC 73 [(qT 7), (qT 10)])), (qO 12 (.agg [(.int .i64 0), (.int .i64 0), (.int .i64 0), (.int .i64 0), (.int .i64 0), (.slice none 0 0), (.slice none 0 0), (.slice none 0 0)] [(0, (1, (qI 1))), (1, (1, (qT 6))), (3, (3, (qT 11)))])), ⟨none, (.st 8 (qT 2) (qT 12)), none⟩]) .ret)))⟩
theorem of94 : XF.of Try.prog Try.f94 = some ir94 := by kernel_rfl
def ir95 : XF := ⟨41, [(.tmp 6)], (.seq (.ops [(qO 6 (.mov (.const (.slice none 0 0))))]) (.seq (.ops [(qO 7 (.mov (qI 3)))]) (.seq (.ops [(qM 11 0), (qM 12 1), (qM 13 2), (qO 14 (.bin .sub (qT 13) (qI 1))), (qM 15 0), (qO 16 (qC 48 [(qT 15), (qI 3)])), (qO 17 (qC 71 [(qT 11), (qT 12), (qT 14), (qT 16), (.const (.bool false))])), (qM 8 17)]) (.seq (.ops [(qM 18 7), (qM 19 7), (qO 20 (qC 72 [(qI 13), (qT 19)])), (qO 21 (qC 72 [(qI 0), (qI 1)])), (qO 22 (qC 85 [(qI 8), (qT 20), (qT 21)])), (qO 23 (.agg [(.int .i64 0), (.int .i64 0), (.int .i64 0), (.int .i64 0), (.int .i64 0), (.slice none 0 0), (.slice none 0 0), (.slice none 0 0)] [(0, (1, (qI 1))), (1, (1, (qT 18))), (3, (3, (qT 22)))])), (qO 9 (.new [(.int .i64 0), (.int .i64 0), (.int .i64 0), (.int .i64 0), (.int .i64 0), (.slice none 0 0), (.slice none 0 0), (.slice none 0 0)] 63)), ⟨none, (.st 8 (qT 9) (qT 23)), none⟩]) (.seq (.draw (.take (qM 24 7) (.take (qM 26 0) (.take (qM 31 8) (.take (qO 32 (.ldn 8 (qT 9))) (.alt (qO 25 (qC 72 [(qI 13), (qT 24)])) (.alt (qO 27 (qC 48 [(qT 26), (qI 3)])) (.take (qO 28 (.bin .add (qI 1) (qT 27))) (.alt (qO 29 (qC 72 [(qI 0), (qT 28)])) (.alt (qO 30 (qC 85 [(qI 5), (qT 25), (qT 29)])) (.alt (qO 33 (.lit [(.int .i64 0), (.int .i64 0), (.int .i64 0), (.int .i64 0), (.int .i64 0), (.slice none 0 0), (.slice none 0 0), (.slice none 0 0)] 63 1 [(0, (8, (qT 32)))])) (.alt (qO 34 (.app [(.int .i64 0), (.int .i64 0), (.int .i64 0), (.int .i64 0), (.int .i64 0), (.slice none 0 0), (.slice none 0 0), (.slice none 0 0)] 63 112 (qT 31) (qT 33))) (.take (qO 35 (.agg [(.int .i64 0), (.int .i64 0), (.int .i64 0), (.int .i64 0), (.int .i64 0), (.slice none 0 0), (.slice none 0 0), (.slice none 0 0)] [(0, (1, (qI 3))), (3, (3, (qT 30))), (6, (1, (qT 34)))])) (.alt (qO 10 (.new [(.int .i64 0), (.int .i64 0), (.int .i64 0), (.int .i64 0), (.int .i64 0), (.slice none 0 0), (.slice none 0 0), (.slice none 0 0)] 63)) (.alt ⟨none, (.st 8 (qT 10) (qT 35)), none⟩ .done .none_) .none_)) (.alt (qO 10 (.new [(.int .i64 0), (.int .i64 0), (.int .i64 0), (.int .i64 0), (.int .i64 0), (.slice none 0 0), (.slice none 0 0), (.slice none 0 0)] 63)) (.alt (qO 34 (.app [(.int .i64 0), (.int .i64 0), (.int .i64 0), (.int .i64 0), (.int .i64 0), (.slice none 0 0), (.slice none 0 0), (.slice none 0 0)] 63 112 (qT 31) (qT 33))) (.take (qO 35 (.agg [(.int .i64 0), (.int .i64 0), (.int .i64 0), (.int .i64 0), (.int .i64 0), (.slice none 0 0), (.slice none 0 0), (.slice none 0 0)] [(0, (1, (qI 3))), (3, (3, (qT 30))), (6, (1, (qT 34)))])) (.alt ⟨none, (.st 8 (qT 10) (qT 35)), none⟩ .done .none_)) .none_) .none_)) (.alt (qO 10 (.new [(.int .i64 0), (.int .i64 0), (.int .i64 0), (.int .i64 0), (.int .i64 0), (.slice none 0 0), (.slice none 0 0), (.slice none 0 0)] 63)) (.alt (qO 33 (.lit [(.int .i64 0), (.int .i64 0), (.int .i64 0), (.int .i64 0), (.int .i64 0), (.slice none 0 0), (.slice none 0 0), (.slice none 0 0)] 63 1 [(0, (8, (qT 32)))])) (.alt (qO 34 (.app [(.int .i64 0), (.int .i64 0), (.int .i64 0), (.int .i64 0), (.int .i64 0), (.slice none 0 0), (.slice none 0 0), (.slice none 0 0)] 63 112 (qT 31) (qT 33))) (.take (qO 35 (.agg [(.int .i64 0), (.int .i64 0), (.int .i64 0), (.int .i64 0), (.int .i64 0), (.slice none 0 0), (.slice none 0 0), (.slice none 0 0)] [(0, (1, (qI 3))), (3, (3, (qT 30))), (6, (1, (qT 34)))])) (.alt ⟨none, (.st 8 (qT 10) (qT 35)), none⟩ .done .none_)) .none_) .none_) .none_)) (.alt (qO 33 (.lit [(.int .i64 0), (.int .i64 0), (.int .i64 0), (.int .i64 0), (.int .i64 0), (.slice none 0 0), (.slice none 0 0), (.slice none 0 0)] 63 1 [(0, (8, (qT 32)))])) (.alt (qO 30 (qC 85 [(qI 5), (qT 25), (qT 29)])) (.alt (qO 34 (.app [(.int .i64 0), (.int .i64 0), (.int .i64 0), (.int .i64 0), (.int .i64 0), (.slice none 0 0), (.slice none 0 0), (.slice none 0 0)] 63 112 (qT 31) (qT 33))) (.take (qO 35 (.agg [(.int .i64 0), (.int .i64 0), (.int .i64 0), (.int .i64 0), (.int .i64 0), (.slice none 0 0), (.slice none 0 0), (.slice none 0 0)] [(0, (1, (qI 3))), (3, (3, (qT 30))), (6, (1, (qT 34)))])) (.alt (qO 10 (.new [(.int .i64 0), (.int .i64 0), (.int .i64 0), (.int .i64 0), (.int .i64 0), (.slice none 0 0), (.slice none 0 0), (.slice none 0 0)] 63)) (.alt ⟨none, (.st 8 (qT 10) (qT 35)), none⟩ .done .none_) .none_)) (.alt (qO 10 (.new [(.int .i64 0), (.int .i64 0), (.int .i64 0), (.int .i64 0), (.int .i64 0), (.slice none 0 0), (.slice none 0 0), (.slice none 0 0)] 63)) (.alt (qO 34 (.app [(.int .i64 0), (.int .i64 0), (.int .i64 0), (.int .i64 0), (.int .i64 0), (.slice none 0 0), (.slice none 0 0), (.slice none 0 0)] 63 112 (qT 31) (qT 33))) (.take (qO 35 (.agg [(.int .i64 0), (.int .i64 0), (.int .i64 0), (.int .i64 0), (.int .i64 0), (.slice none 0 0), (.slice none 0 0), (.slice none 0 0)] [(0, (1, (qI 3))), (3, (3, (qT 30))), (6, (1, (qT 34)))])) (.alt ⟨none, (.st 8 (qT 10) (qT 35)), none⟩ .done .none_)) .none_) .none_)) (.alt (qO 10 (.new [(.int .i64 0), (.int .i64 0), (.int .i64 0), (.int .i64 0), (.int .i64 0), (.slice none 0 0), (.slice none 0 0), (.slice none 0 0)] 63)) (.alt (qO 30 (qC 85 [(qI 5), (qT 25), (qT 29)])) (.alt (qO 34 (.app [(.int .i64 0), (.int .i64 0), (.int .i64 0), (.int .i64 0), (.int .i64 0), (.slice none 0 0), (.slice none 0 0), (.slice none 0 0)] 63 112 (qT 31) (qT 33))) (.take (qO 35 (.agg [(.int .i64 0), (.int .i64 0), (.int .i64 0), (.int .i64 0), (.int .i64 0), (.slice none 0 0), (.slice none 0 0), (.slice none 0 0)] [(0, (1, (qI 3))), (3, (3, (qT 30))), (6, (1, (qT 34)))])) (.alt ⟨none, (.st 8 (qT 10) (qT 35)), none⟩ .done .none_)) .none_) .none_) .none_)) (.alt (qO 10 (.new [(.int .i64 0), (.int .i64 0), (.int .i64 0), (.int .i64 0), (.int .i64 0), (.slice none 0 0), (.slice none 0 0), (.slice none 0 0)] 63)) (.alt (qO 30 (qC 85 [(qI 5), (qT 25), (qT 29)])) (.alt (qO 33 (.lit [(.int .i64 0), (.int .i64 0), (.int .i64 0), (.int .i64 0), (.int .i64 0), (.slice none 0 0), (.slice none 0 0), (.slice none 0 0)] 63 1 [(0, (8, (qT 32)))])) (.alt (qO 34 (.app [(.int .i64 0), (.int .i64 0), (.int .i64 0), (.int .i64 0), (.int .i64 0), (.slice none 0 0), (.slice none 0 0), (.slice none 0 0)] 63 112 (qT 31) (qT 33))) (.take (qO 35 (.agg [(.int .i64 0), (.int .i64 0), (.int .i64 0), (.int .i64 0), (.int .i64 0), (.slice none 0 0), (.slice none 0 0), (.slice none 0 0)] [(0, (1, (qI 3))), (3, (3, (qT 30))), (6, (1, (qT 34)))])) (.alt ⟨none, (.st 8 (qT 10) (qT 35)), none⟩ .done .none_)) .none_) .none_) (.alt (qO 33 (.lit [(.int .i64 0), (.int .i64 0), (.int .i64 0), (.int .i64 0), (.int .i64 0), (.slice none 0 0), (.slice none 0 0), (.slice none 0 0)] 63 1 [(0, (8, (qT 32)))])) (.alt (qO 30 (qC 85 [(qI 5), (qT 25), (qT 29)])) (.alt (qO 34 (.app [(.int .i64 0), (.int .i64 0), (.int .i64 0), (.int .i64 0), (.int .i64 0), (.slice none 0 0), (.slice none 0 0), (.slice none 0 0)] 63 112 (qT 31) (qT 33))) (.take (qO 35 (.agg [(.int .i64 0), (.int .i64 0), (.int .i64 0), (.int .i64 0), (.int .i64 0), (.slice none 0 0), (.slice none 0 0), (.slice none 0 0)] [(0, (1, (qI 3))), (3, (3, (qT 30))), (6, (1, (qT 34)))])) (.alt ⟨none, (.st 8 (qT 10) (qT 35)), none⟩ .done .none_)) .none_) .none_) .none_)) .none_))) (.alt (qO 33 (.lit [(.int .i64 0), (.int .i64 0), (.int .i64 0), (.int .i64 0), (.int .i64 0), (.slice none 0 0), (.slice none 0 0), (.slice none 0 0)] 63 1 [(0, (8, (qT 32)))])) (.alt (qO 29 (qC 72 [(qI 0), (qT 28)])) (.alt (qO 30 (qC 85 [(qI 5), (qT 25), (qT 29)])) (.alt (qO 34 (.app [(.int .i64 0), (.int .i64 0), (.int .i64 0), (.int .i64 0), (.int .i64 0), (.slice none 0 0), (.slice none 0 0), (.slice none 0 0)] 63 112 (qT 31) (qT 33))) (.take (qO 35 (.agg [(.int .i64 0), (.int .i64 0), (.int .i64 0), (.int .i64 0), (.int .i64 0), (.slice none 0 0), (.slice none 0 0), (.slice none 0 0)] [(0, (1, (qI 3))), (3, (3, (qT 30))), (6, (1, (qT 34)))])) (.alt (qO 10 (.new [(.int .i64 0), (.int .i64 0), (.int .i64 0), (.int .i64 0), (.int .i64 0), (.slice none 0 0), (.slice none 0 0), (.slice none 0 0)] 63)) (.alt ⟨none, (.st 8 (qT 10) (qT 35)), none⟩ .done .none_) .none_)) (.alt (qO 10 (.new [(.int .i64 0), (.int .i64 0), (.int .i64 0), (.int .i64 0), (.int .i64 0), (.slice none 0 0), (.slice none 0 0), (.slice none 0 0)] 63)) (.alt (qO 34 (.app [(.int .i64 0), (.int .i64 0), (.int .i64 0), (.int .i64 0), (.int .i64 0), (.slice none 0 0), (.slice none 0 0), (.slice none 0 0)] 63 112 (qT 31) (qT 33))) (.take (qO 35 (.agg [(.int .i64 0), (.int .i64 0), (.int .i64 0), (.int .i64 0), (.int .i64 0), (.slice none 0 0), (.slice none 0 0), (.slice none 0 0)] [(0, (1, (qI 3))), (3, (3, (qT 30))), (6, (1, (qT 34)))])) (.alt ⟨none, (.st 8 (qT 10) (qT 35)), none⟩ .done .none_)) .none_) .none_)) (.alt (qO 10 (.new [(.int .i64 0), (.int .i64 0), (.int .i64 0), (.int .i64 0), (.int .i64 0), (.slice none 0 0), (.slice none 0 0), (.slice none 0 0)] 63)) (.alt (qO 30 (qC 85 [(qI 5), (qT 25), (qT 29)])) (.alt (qO 34 (.app [(.int .i64 0), (.int .i64 0), (.int .i64 0), (.int .i64 0), (.int .i64 0), (.slice none 0 0), (.slice none 0 0), (.slice none 0 0)] 63 112 (qT 31) (qT 33))) (.take (qO 35 (.agg [(.int .i64 0), (.int .i64 0), (.int .i64 0), (.int .i64 0), (.int .i64 0), (.slice none 0 0), (.slice none 0 0), (.slice none 0 0)] [(0, (1, (qI 3))), (3, (3, (qT 30))), (6, (1, (qT 34)))])) (.alt ⟨none, (.st 8 (qT 10) (qT 35)), none⟩ .done .none_)) .none_) .none_) .none_)) (.alt (qO 10 (.new [(.int .i64 0), (.int .i64 0), (.int .i64 0), (.int .i64 0), (.int .i64 0), (.slice none 0 0), (.slice none 0 0), (.slice none 0 0)] 63)) (.alt (qO 29 (qC 72 [(qI 0), (qT 28)])) (.alt (qO 30 (qC 85 [(qI 5), (qT 25), (qT 29)])) (.alt (qO 34 (.app [(.int .i64 0), (.int .i64 0), (.int .i64 0), (.int .i64 0), (.int .i64 0), (.slice none 0 0), (.slice none 0 0), (.slice none 0 0)] 63 112 (qT 31) (qT 33))) (.take (qO 35 (.agg [(.int .i64 0), (.int .i64 0), (.int .i64 0), (.int .i64 0), (.int .i64 0), (.slice none 0 0), (.slice none 0 0), (.slice none 0 0)] [(0, (1, (qI 3))), (3, (3, (qT 30))), (6, (1, (qT 34)))])) (.alt ⟨none, (.st 8 (qT 10) (qT 35)), none⟩ .done .none_)) .none_) .none_) .none_) .none_)) (.alt (qO 10 (.new [(.int .i64 0), (.int .i64 0), (.int .i64 0), (.int .i64 0), (.int .i64 0), (.slice none 0 0), (.slice none 0 0), (.slice none 0 0)] 63)) (.alt (qO 29 (qC 72 [(qI 0), (qT 28)])) (.alt (qO 30 (qC 85 [(qI 5), (qT 25), (qT 29)])) (.alt (qO 33 (.lit [(.int .i64 0), (.int .i64 0), (.int .i64 0), (.int .i64 0), (.int .i64 0), (.slice none 0 0), (.slice none 0 0), (.slice none 0 0)] 63 1 [(0, (8, (qT 32)))])) (.alt (qO 34 (.app [(.int .i64 0), (.int .i64 0), (.int .i64 0), (.int .i64 0), (.int .i64 0), (.slice none 0 0), (.slice none 0 0), (.slice none 0 0)] 63 112 (qT 31) (qT 33))) (.take (qO 35 (.agg [(.int .i64 0), (.int .i64 0), (.int .i64 0), (.int .i64 0), (.int .i64 0), (.slice none 0 0), (.slice none 0 0), (.slice none 0 0)] [(0, (1, (qI 3))), (3, (3, (qT 30))), (6, (1, (qT 34)))])) (.alt ⟨none, (.st 8 (qT 10) (qT 35)), none⟩ .done .none_)) .none_) .none_) (.alt (qO 33 (.lit [(.int .i64 0), (.int .i64 0), (.int .i64 0), (.int .i64 0), (.int .i64 0), (.slice none 0 0), (.slice none 0 0), (.slice none 0 0)] 63 1 [(0, (8, (qT 32)))])) (.alt (qO 30 (qC 85 [(qI 5), (qT 25), (qT 29)])) (.alt (qO 34 (.app [(.int .i64 0), (.int .i64 0), (.int .i64 0), (.int .i64 0), (.int .i64 0), (.slice none 0 0), (.slice none 0 0), (.slice none 0 0)] 63 112 (qT 31) (qT 33))) (.take (qO 35 (.agg [(.int .i64 0), (.int .i64 0), (.int .i64 0), (.int .i64 0), (.int .i64 0), (.slice none 0 0), (.slice none 0 0), (.slice none 0 0)] [(0, (1, (qI 3))), (3, (3, (qT 30))), (6, (1, (qT 34)))])) (.alt ⟨none, (.st 8 (qT 10) (qT 35)), none⟩ .done .none_)) .none_) .none_) .none_)) (.alt (qO 33 (.lit [(.int .i64 0), (.int .i64 0), (.int .i64 0), (.int .i64 0), (.int .i64 0), (.slice none 0 0), (.slice none 0 0), (.slice none 0 0)] 63 1 [(0, (8, (qT 32)))])) (.alt (qO 29 (qC 72 [(qI 0), (qT 28)])) (.alt (qO 30 (qC 85 [(qI 5), (qT 25), (qT 29)])) (.alt (qO 34 (.app [(.int .i64 0), (.int .i64 0), (.int .i64 0), (.int .i64 0), (.int .i64 0), (.slice none 0 0), (.slice none 0 0), (.slice none 0 0)] 63 112 (qT 31) (qT 33))) (.take (qO 35 (.agg [(.int .i64 0), (.int .i64 0), (.int .i64 0), (.int .i64 0), (.int .i64 0), (.slice none 0 0), (.slice none 0 0), (.slice none 0 0)] [(0, (1, (qI 3))), (3, (3, (qT 30))), (6, (1, (qT 34)))])) (.alt ⟨none, (.st 8 (qT 10) (qT 35)), none⟩ .done .none_)) .none_) .none_) .none_) .none_)) .none_)))) (.alt (qO 33 (.lit [(.int .i64 0), (.int .i64 0), (.int .i64 0), (.int .i64 0), (.int .i64 0), (.slice none 0 0), (.slice none 0 0), (.slice none 0 0)] 63 1 [(0, (8, (qT 32)))])) (.alt (qO 27 (qC 48 [(qT 26), (qI 3)])) (.take (qO 28 (.bin .add (qI 1) (qT 27))) (.alt (qO 29 (qC 72 [(qI 0), (qT 28)])) (.alt (qO 30 (qC 85 [(qI 5), (qT 25), (qT 29)])) (.alt (qO 34 (.app [(.int .i64 0), (.int .i64 0), (.int .i64 0), (.int .i64 0), (.int .i64 0), (.slice none 0 0), (.slice none 0 0), (.slice none 0 0)] 63 112 (qT 31) (qT 33))) (.take (qO 35 (.agg [(.int .i64 0), (.int .i64 0), (.int .i64 0), (.int .i64 0), (.int .i64 0), (.slice none 0 0), (.slice none 0 0), (.slice none 0 0)] [(0, (1, (qI 3))), (3, (3, (qT 30))), (6, (1, (qT 34)))])) (.alt (qO 10 (.new [(.int .i64 0), (.int .i64 0), (.int .i64 0), (.int .i64 0), (.int .i64 0), (.slice none 0 0), (.slice none 0 0), (.slice none 0 0)] 63)) (.alt ⟨none, (.st 8 (qT 10) (qT 35)), none⟩ .done .none_) .none_)) (.alt (qO 10 (.new [(.int .i64 0), (.int .i64 0), (.int .i64 0), (.int .i64 0), (.int .i64 0), (.slice none 0 0), (.slice none 0 0), (.slice none 0 0)] 63)) (.alt (qO 34 (.app [(.int .i64 0), (.int .i64 0), (.int .i64 0), (.int .i64 0), (.int .i64 0), (.slice none 0 0), (.slice none 0 0), (.slice none 0 0)] 63 112 (qT 31) (qT 33))) (.take (qO 35 (.agg [(.int .i64 0), (.int .i64 0), (.int .i64 0), (.int .i64 0), (.int .i64 0), (.slice none 0 0), (.slice none 0 0), (.slice none 0 0)] [(0, (1, (qI 3))), (3, (3, (qT 30))), (6, (1, (qT 34)))])) (.alt ⟨none, (.st 8 (qT 10) (qT 35)), none⟩ .done .none_)) .none_) .none_)) (.alt (qO 10 (.new [(.int .i64 0), (.int .i64 0), (.int .i64 0), (.int .i64 0), (.int .i64 0), (.slice none 0 0), (.slice none 0 0), (.slice none 0 0)] 63)) (.alt (qO 30 (qC 85 [(qI 5), (qT 25), (qT 29)])) (.alt (qO 34 (.app [(.int .i64 0), (.int .i64 0), (.int .i64 0), (.int .i64 0), (.int .i64 0), (.slice none 0 0), (.slice none 0 0), (.slice none 0 0)] 63 112 (qT 31) (qT 33))) (.take (qO 35 (.agg [(.int .i64 0), (.int .i64 0), (.int .i64 0), (.int .i64 0), (.int .i64 0), (.slice none 0 0), (.slice none 0 0), (.slice none 0 0)] [(0, (1, (qI 3))), (3, (3, (qT 30))), (6, (1, (qT 34)))])) (.alt ⟨none, (.st 8 (qT 10) (qT 35)), none⟩ .done .none_)) .none_) .none_) .none_)) (.alt (qO 10 (.new [(.int .i64 0), (.int .i64 0), (.int .i64 0), (.int .i64 0), (.int .i64 0), (.slice none 0 0), (.slice none 0 0), (.slice none 0 0)] 63)) (.alt (qO 29 (qC 72 [(qI 0), (qT 28)])) (.alt (qO 30 (qC 85 [(qI 5), (qT 25), (qT 29)])) (.alt (qO 34 (.app [(.int .i64 0), (.int .i64 0), (.int .i64 0), (.int .i64 0), (.int .i64 0), (.slice none 0 0), (.slice none 0 0), (.slice none 0 0)] 63 112 (qT 31) (qT 33))) (.take (qO 35 (.agg [(.int .i64 0), (.int .i64 0), (.int .i64 0), (.int .i64 0), (.int .i64 0), (.slice none 0 0), (.slice none 0 0), (.slice none 0 0)] [(0, (1, (qI 3))), (3, (3, (qT 30))), (6, (1, (qT 34)))])) (.alt ⟨none, (.st 8 (qT 10) (qT 35)), none⟩ .done .none_)) .none_) .none_) .none_) .none_))) (.alt (qO 10 (.new [(.int .i64 0), (.int .i64 0), (.int .i64 0), (.int .i64 0), (.int .i64 0), (.slice none 0 0), (.slice none 0 0), (.slice none 0 0)] 63)) (.alt (qO 27 (qC 48 [(qT 26), (qI 3)])) (.take (qO 28 (.bin .add (qI 1) (qT 27))) (.alt (qO 29 (qC 72 [(qI 0), (qT 28)])) (.alt (qO 30 (qC 85 [(qI 5), (qT 25), (qT 29)])) (.alt (qO 34 (.app [(.int .i64 0), (.int .i64 0), (.int .i64 0), (.int .i64 0), (.int .i64 0), (.slice none 0 0), (.slice none 0 0), (.slice none 0 0)] 63 112 (qT 31) (qT 33))) (.take (qO 35 (.agg [(.int .i64 0), (.int .i64 0), (.int .i64 0), (.int .i64 0), (.int .i64 0), (.slice none 0 0), (.slice none 0 0), (.slice none 0 0)] [(0, (1, (qI 3))), (3, (3, (qT 30))), (6, (1, (qT 34)))])) (.alt ⟨none, (.st 8 (qT 10) (qT 35)), none⟩ .done .none_)) .none_) .none_) .none_)) .none_) .none_)) (.alt (qO 10 (.new [(.int .i64 0), (.int .i64 0), (.int .i64 0), (.int .i64 0), (.int .i64 0), (.slice none 0 0), (.slice none 0 0), (.slice none 0 0)] 63)) (.alt (qO 27 (qC 48 [(qT 26), (qI 3)])) (.take (qO 28 (.bin .add (qI 1) (qT 27))) (.alt (qO 29 (qC 72 [(qI 0), (qT 28)])) (.alt (qO 30 (qC 85 [(qI 5), (qT 25), (qT 29)])) (.alt (qO 33 (.lit [(.int .i64 0), (.int .i64 0), (.int .i64 0), (.int .i64 0), (.int .i64 0), (.slice none 0 0), (.slice none 0 0), (.slice none 0 0)] 63 1 [(0, (8, (qT 32)))])) (.alt (qO 34 (.app [(.int .i64 0), (.int .i64 0), (.int .i64 0), (.int .i64 0), (.int .i64 0), (.slice none 0 0), (.slice none 0 0), (.slice none 0 0)] 63 112 (qT 31) (qT 33))) (.take (qO 35 (.agg [(.int .i64 0), (.int .i64 0), (.int .i64 0), (.int .i64 0), (.int .i64 0), (.slice none 0 0), (.slice none 0 0), (.slice none 0 0)] [(0, (1, (qI 3))), (3, (3, (qT 30))), (6, (1, (qT 34)))])) (.alt ⟨none, (.st 8 (qT 10) (qT 35)), none⟩ .done .none_)) .none_) .none_) (.alt (qO 33 (.lit [(.int .i64 0), (.int .i64 0), (.int .i64 0), (.int .i64 0), (.int .i64 0), (.slice none 0 0), (.slice none 0 0), (.slice none 0 0)] 63 1 [(0, (8, (qT 32)))])) (.alt (qO 30 (qC 85 [(qI 5), (qT 25), (qT 29)])) (.alt (qO 34 (.app [(.int .i64 0), (.int .i64 0), (.int .i64 0), (.int .i64 0), (.int .i64 0), (.slice none 0 0), (.slice none 0 0), (.slice none 0 0)] 63 112 (qT 31) (qT 33))) (.take (qO 35 (.agg [(.int .i64 0), (.int .i64 0), (.int .i64 0), (.int .i64 0), (.int .i64 0), (.slice none 0 0), (.slice none 0 0), (.slice none 0 0)] [(0, (1, (qI 3))), (3, (3, (qT 30))), (6, (1, (qT 34)))])) (.alt ⟨none, (.st 8 (qT 10) (qT 35)), none⟩ .done .none_)) .none_) .none_) .none_)) (.alt (qO 33 (.lit [(.int .i64 0), (.int .i64 0), (.int .i64 0), (.int .i64 0), (.int .i64 0), (.slice none 0 0), (.slice none 0 0), (.slice none 0 0)] 63 1 [(0, (8, (qT 32)))])) (.alt (qO 29 (qC 72 [(qI 0), (qT 28)])) (.alt (qO 30 (qC 85 [(qI 5), (qT 25), (qT 29)])) (.alt (qO 34 (.app [(.int .i64 0), (.int .i64 0), (.int .i64 0), (.int .i64 0), (.int .i64 0), (.slice none 0 0), (.slice none 0 0), (.slice none 0 0)] 63 112 (qT 31) (qT 33))) (.take (qO 35 (.agg [(.int .i64 0), (.int .i64 0), (.int .i64 0), (.int .i64 0), (.int .i64 0), (.slice none 0 0), (.slice none 0 0), (.slice none 0 0)] [(0, (1, (qI 3))), (3, (3, (qT 30))), (6, (1, (qT 34)))])) (.alt ⟨none, (.st 8 (qT 10) (qT 35)), none⟩ .done .none_)) .none_) .none_) .none_) .none_))) (.alt (qO 33 (.lit [(.int .i64 0), (.int .i64 0), (.int .i64 0), (.int .i64 0), (.int .i64 0), (.slice none 0 0), (.slice none 0 0), (.slice none 0 0)] 63 1 [(0, (8, (qT 32)))])) (.alt (qO 27 (qC 48 [(qT 26), (qI 3)])) (.take (qO 28 (.bin .add (qI 1) (qT 27))) (.alt (qO 29 (qC 72 [(qI 0), (qT 28)])) (.alt (qO 30 (qC 85 [(qI 5), (qT 25), (qT 29)])) (.alt (qO 34 (.app [(.int .i64 0), (.int .i64 0), (.int .i64 0), (.int .i64 0), (.int .i64 0), (.slice none 0 0), (.slice none 0 0), (.slice none 0 0)] 63 112 (qT 31) (qT 33))) (.take (qO 35 (.agg [(.int .i64 0), (.int .i64 0), (.int .i64 0), (.int .i64 0), (.int .i64 0), (.slice none 0 0), (.slice none 0 0), (.slice none 0 0)] [(0, (1, (qI 3))), (3, (3, (qT 30))), (6, (1, (qT 34)))])) (.alt ⟨none, (.st 8 (qT 10) (qT 35)), none⟩ .done .none_)) .none_) .none_) .none_)) .none_) .none_)) .none_))) (.alt (qO 33 (.lit [(.int .i64 0), (.int .i64 0), (.int .i64 0), (.int .i64 0), (.int .i64 0), (.slice none 0 0), (.slice none 0 0), (.slice none 0 0)] 63 1 [(0, (8, (qT 32)))])) (.alt (qO 25 (qC 72 [(qI 13), (qT 24)])) (.alt (qO 27 (qC 48 [(qT 26), (qI 3)])) (.take (qO 28 (.bin .add (qI 1) (qT 27))) (.alt (qO 29 (qC 72 [(qI 0), (qT 28)])) (.alt (qO 30 (qC 85 [(qI 5), (qT 25), (qT 29)])) (.alt (qO 34 (.app [(.int .i64 0), (.int .i64 0), (.int .i64 0), (.int .i64 0), (.int .i64 0), (.slice none 0 0), (.slice none 0 0), (.slice none 0 0)] 63 112 (qT 31) (qT 33))) (.take (qO 35 (.agg [(.int .i64 0), (.int .i64 0), (.int .i64 0), (.int .i64 0), (.int .i64 0), (.slice none 0 0), (.slice none 0 0), (.slice none 0 0)] [(0, (1, (qI 3))), (3, (3, (qT 30))), (6, (1, (qT 34)))])) (.alt (qO 10 (.new [(.int .i64 0), (.int .i64 0), (.int .i64 0), (.int .i64 0), (.int .i64 0), (.slice none 0 0), (.slice none 0 0), (.slice none 0 0)] 63)) (.alt ⟨none, (.st 8 (qT 10) (qT 35)), none⟩ .done .none_) .none_)) (.alt (qO 10 (.new [(.int .i64 0), (.int .i64 0), (.int .i64 0), (.int .i64 0), (.int .i64 0), (.slice none 0 0), (.slice none 0 0), (.slice none 0 0)] 63)) (.alt (qO 34 (.app [(.int .i64 0), (.int .i64 0), (.int .i64 0), (.int .i64 0), (.int .i64 0), (.slice none 0 0), (.slice none 0 0), (.slice none 0 0)] 63 112 (qT 31) (qT 33))) (.take (qO 35 (.agg [(.int .i64 0), (.int .i64 0), (.int .i64 0), (.int .i64 0), (.int .i64 0), (.slice none 0 0), (.slice none 0 0), (.slice none 0 0)] [(0, (1, (qI 3))), (3, (3, (qT 30))), (6, (1, (qT 34)))])) (.alt ⟨none, (.st 8 (qT 10) (qT 35)), none⟩ .done .none_)) .none_) .none_)) (.alt (qO 10 (.new [(.int .i64 0), (.int .i64 0), (.int .i64 0), (.int .i64 0), (.int .i64 0), (.slice none 0 0), (.slice none 0 0), (.slice none 0 0)] 63)) (.alt (qO 30 (qC 85 [(qI 5), (qT 25), (qT 29)])) (.alt (qO 34 (.app [(.int .i64 0), (.int .i64 0), (.int .i64 0), (.int .i64 0), (.int .i64 0), (.slice none 0 0), (.slice none 0 0), (.slice none 0 0)] 63 112 (qT 31) (qT 33))) (.take (qO 35 (.agg [(.int .i64 0), (.int .i64 0), (.int .i64 0), (.int .i64 0), (.int .i64 0), (.slice none 0 0), (.slice none 0 0), (.slice none 0 0)] [(0, (1, (qI 3))), (3, (3, (qT 30))), (6, (1, (qT 34)))])) (.alt ⟨none, (.st 8 (qT 10) (qT 35)), none⟩ .done .none_)) .none_) .none_) .none_)) (.alt (qO 10 (.new [(.int .i64 0), (.int .i64 0), (.int .i64 0), (.int .i64 0), (.int .i64 0), (.slice none 0 0), (.slice none 0 0), (.slice none 0 0)] 63)) (.alt (qO 29 (qC 72 [(qI 0), (qT 28)])) (.alt (qO 30 (qC 85 [(qI 5), (qT 25), (qT 29)])) (.alt (qO 34 (.app [(.int .i64 0), (.int .i64 0), (.int .i64 0), (.int .i64 0), (.int .i64 0), (.slice none 0 0), (.slice none 0 0), (.slice none 0 0)] 63 112 (qT 31) (qT 33))) (.take (qO 35 (.agg [(.int .i64 0), (.int .i64 0), (.int .i64 0), (.int .i64 0), (.int .i64 0), (.slice none 0 0), (.slice none 0 0), (.slice none 0 0)] [(0, (1, (qI 3))), (3, (3, (qT 30))), (6, (1, (qT 34)))])) (.alt ⟨none, (.st 8 (qT 10) (qT 35)), none⟩ .done .none_)) .none_) .none_) .none_) .none_))) (.alt (qO 10 (.new [(.int .i64 0), (.int .i64 0), (.int .i64 0), (.int .i64 0), (.int .i64 0), (.slice none 0 0), (.slice none 0 0), (.slice none 0 0)] 63)) (.alt (qO 27 (qC 48 [(qT 26), (qI 3)])) (.take (qO 28 (.bin .add (qI 1) (qT 27))) (.alt (qO 29 (qC 72 [(qI 0), (qT 28)])) (.alt (qO 30 (qC 85 [(qI 5), (qT 25), (qT 29)])) (.alt (qO 34 (.app [(.int .i64 0), (.int .i64 0), (.int .i64 0), (.int .i64 0), (.int .i64 0), (.slice none 0 0), (.slice none 0 0), (.slice none 0 0)] 63 112 (qT 31) (qT 33))) (.take (qO 35 (.agg [(.int .i64 0), (.int .i64 0), (.int .i64 0), (.int .i64 0), (.int .i64 0), (.slice none 0 0), (.slice none 0 0), (.slice none 0 0)] [(0, (1, (qI 3))), (3, (3, (qT 30))), (6, (1, (qT 34)))])) (.alt ⟨none, (.st 8 (qT 10) (qT 35)), none⟩ .done .none_)) .none_) .none_) .none_)) .none_) .none_)) (.alt (qO 10 (.new [(.int .i64 0), (.int .i64 0), (.int .i64 0), (.int .i64 0), (.int .i64 0), (.slice none 0 0), (.slice none 0 0), (.slice none 0 0)] 63)) (.alt (qO 25 (qC 72 [(qI 13), (qT 24)])) (.alt (qO 27 (qC 48 [(qT 26), (qI 3)])) (.take (qO 28 (.bin .add (qI 1) (qT 27))) (.alt (qO 29 (qC 72 [(qI 0), (qT 28)])) (.alt (qO 30 (qC 85 [(qI 5), (qT 25), (qT 29)])) (.alt (qO 34 (.app [(.int .i64 0), (.int .i64 0), (.int .i64 0), (.int .i64 0), (.int .i64 0), (.slice none 0 0), (.slice none 0 0), (.slice none 0 0)] 63 112 (qT 31) (qT 33))) (.take (qO 35 (.agg [(.int .i64 0), (.int .i64 0), (.int .i64 0), (.int .i64 0), (.int .i64 0), (.slice none 0 0), (.slice none 0 0), (.slice none 0 0)] [(0, (1, (qI 3))), (3, (3, (qT 30))), (6, (1, (qT 34)))])) (.alt ⟨none, (.st 8 (qT 10) (qT 35)), none⟩ .done .none_)) .none_) .none_) .none_)) .none_) .none_) .none_)) (.alt (qO 10 (.new [(.int .i64 0), (.int .i64 0), (.int .i64 0), (.int .i64 0), (.int .i64 0), (.slice none 0 0), (.slice none 0 0), (.slice none 0 0)] 63)) (.alt (qO 25 (qC 72 [(qI 13), (qT 24)])) (.alt (qO 27 (qC 48 [(qT 26), (qI 3)])) (.take (qO 28 (.bin .add (qI 1) (qT 27))) (.alt (qO 29 (qC 72 [(qI 0), (qT 28)])) (.alt (qO 30 (qC 85 [(qI 5), (qT 25), (qT 29)])) (.alt (qO 33 (.lit [(.int .i64 0), (.int .i64 0), (.int .i64 0), (.int .i64 0), (.int .i64 0), (.slice none 0 0), (.slice none 0 0), (.slice none 0 0)] 63 1 [(0, (8, (qT 32)))])) (.alt (qO 34 (.app [(.int .i64 0), (.int .i64 0), (.int .i64 0), (.int .i64 0), (.int .i64 0), (.slice none 0 0), (.slice none 0 0), (.slice none 0 0)] 63 112 (qT 31) (qT 33))) (.take (qO 35 (.agg [(.int .i64 0), (.int .i64 0), (.int .i64 0), (.int .i64 0), (.int .i64 0), (.slice none 0 0), (.slice none 0 0), (.slice none 0 0)] [(0, (1, (qI 3))), (3, (3, (qT 30))), (6, (1, (qT 34)))])) (.alt ⟨none, (.st 8 (qT 10) (qT 35)), none⟩ .done .none_)) .none_) .none_) (.alt (qO 33 (.lit [(.int .i64 0), (.int .i64 0), (.int .i64 0), (.int .i64 0), (.int .i64 0), (.slice none 0 0), (.slice none 0 0), (.slice none 0 0)] 63 1 [(0, (8, (qT 32)))])) (.alt (qO 30 (qC 85 [(qI 5), (qT 25), (qT 29)])) (.alt (qO 34 (.app [(.int .i64 0), (.int .i64 0), (.int .i64 0), (.int .i64 0), (.int .i64 0), (.slice none 0 0), (.slice none 0 0), (.slice none 0 0)] 63 112 (qT 31) (qT 33))) (.take (qO 35 (.agg [(.int .i64 0), (.int .i64 0), (.int .i64 0), (.int .i64 0), (.int .i64 0), (.slice none 0 0), (.slice none 0 0), (.slice none 0 0)] [(0, (1, (qI 3))), (3, (3, (qT 30))), (6, (1, (qT 34)))])) (.alt ⟨none, (.st 8 (qT 10) (qT 35)), none⟩ .done .none_)) .none_) .none_) .none_)) (.alt (qO 33 (.lit [(.int .i64 0), (.int .i64 0), (.int .i64 0), (.int .i64 0), (.int .i64 0), (.slice none 0 0), (.slice none 0 0), (.slice none 0 0)] 63 1 [(0, (8, (qT 32)))])) (.alt (qO 29 (qC 72 [(qI 0), (qT 28)])) (.alt (qO 30 (qC 85 [(qI 5), (qT 25), (qT 29)])) (.alt (qO 34 (.app [(.int .i64 0), (.int .i64 0), (.int .i64 0), (.int .i64 0), (.int .i64 0), (.slice none 0 0), (.slice none 0 0), (.slice none 0 0)] 63 112 (qT 31) (qT 33))) (.take (qO 35 (.agg [(.int .i64 0), (.int .i64 0), (.int .i64 0), (.int .i64 0), (.int .i64 0), (.slice none 0 0), (.slice none 0 0), (.slice none 0 0)] [(0, (1, (qI 3))), (3, (3, (qT 30))), (6, (1, (qT 34)))])) (.alt ⟨none, (.st 8 (qT 10) (qT 35)), none⟩ .done .none_)) .none_) .none_) .none_) .none_))) (.alt (qO 33 (.lit [(.int .i64 0), (.int .i64 0), (.int .i64 0), (.int .i64 0), (.int .i64 0), (.slice none 0 0), (.slice none 0 0), (.slice none 0 0)] 63 1 [(0, (8, (qT 32)))])) (.alt (qO 27 (qC 48 [(qT 26), (qI 3)])) (.take (qO 28 (.bin .add (qI 1) (qT 27))) (.alt (qO 29 (qC 72 [(qI 0), (qT 28)])) (.alt (qO 30 (qC 85 [(qI 5), (qT 25), (qT 29)])) (.alt (qO 34 (.app [(.int .i64 0), (.int .i64 0), (.int .i64 0), (.int .i64 0), (.int .i64 0), (.slice none 0 0), (.slice none 0 0), (.slice none 0 0)] 63 112 (qT 31) (qT 33))) (.take (qO 35 (.agg [(.int .i64 0), (.int .i64 0), (.int .i64 0), (.int .i64 0), (.int .i64 0), (.slice none 0 0), (.slice none 0 0), (.slice none 0 0)] [(0, (1, (qI 3))), (3, (3, (qT 30))), (6, (1, (qT 34)))])) (.alt ⟨none, (.st 8 (qT 10) (qT 35)), none⟩ .done .none_)) .none_) .none_) .none_)) .none_) .none_)) (.alt (qO 33 (.lit [(.int .i64 0), (.int .i64 0), (.int .i64 0), (.int .i64 0), (.int .i64 0), (.slice none 0 0), (.slice none 0 0), (.slice none 0 0)] 63 1 [(0, (8, (qT 32)))])) (.alt (qO 25 (qC 72 [(qI 13), (qT 24)])) (.alt (qO 27 (qC 48 [(qT 26), (qI 3)])) (.take (qO 28 (.bin .add (qI 1) (qT 27))) (.alt (qO 29 (qC 72 [(qI 0), (qT 28)])) (.alt (qO 30 (qC 85 [(qI 5), (qT 25), (qT 29)])) (.alt (qO 34 (.app [(.int .i64 0), (.int .i64 0), (.int .i64 0), (.int .i64 0), (.int .i64 0), (.slice none 0 0), (.slice none 0 0), (.slice none 0 0)] 63 112 (qT 31) (qT 33))) (.take (qO 35 (.agg [(.int .i64 0), (.int .i64 0), (.int .i64 0), (.int .i64 0), (.int .i64 0), (.slice none 0 0), (.slice none 0 0), (.slice none 0 0)] [(0, (1, (qI 3))), (3, (3, (qT 30))), (6, (1, (qT 34)))])) (.alt ⟨none, (.st 8 (qT 10) (qT 35)), none⟩ .done .none_)) .none_) .none_) .none_)) .none_) .none_) .none_)) .none_)))))))) (.seq (.draw (.take (qM 36 7) (.take (qO 39 (.ldn 8 (qT 10))) (.alt (qO 37 (qC 72 [(qI 0), (qI 0)])) (.take (qO 38 (.agg [(.int .i64 0), (.int .i64 0), (.int .i64 0), (.int .i64 0), (.int .i64 0), (.slice none 0 0), (.slice none 0 0), (.slice none 0 0)] [(0, (1, (qI 1))), (1, (1, (qT 36))), (3, (3, (qT 37)))])) (.alt (qO 40 (.lit [(.int .i64 0), (.int .i64 0), (.int .i64 0), (.int .i64 0), (.int .i64 0), (.slice none 0 0), (.slice none 0 0), (.slice none 0 0), (.int .i64 0), (.int .i64 0), (.int .i64 0), (.int .i64 0), (.int .i64 0), (.slice none 0 0), (.slice none 0 0), (.slice none 0 0)] 63 2 [(0, (8, (qT 38))), (8, (8, (qT 39)))])) (.take (qM 6 40) .done) .none_)) .none_)))) .ret))))))⟩
theorem of95 : XF.of Try.prog Try.f95 = some ir95 := by kernel_rfl
def ir96 : XF := ⟨27, [(.cell 4 (some 8))], (.seq (.ops [(qO 4 (.new [(.int .i64 0), (.int .i64 0), (.int .i64 0), (.int .i64 0), (.int .i64 0), (.slice none 0 0), (.slice none 0 0), (.slice none 0 0)] 63))]) (.seq (.seq (.ops [(qM 6 1), (qO 7 (.bin .lss (qT 6) (qI 1)))]) (.cond (qT 7) (.seq (.ops [(qM 8 0), (qO 9 (qC 94 [(qT 8)])), ⟨none, (.st 8 (qT 4) (qT 9)), none⟩]) .ret) .skip)) (.seq (.ops [(qM 10 0), (qM 11 1), (qO 12 (qC 48 [(qT 10), (qT 11)])), (qM 5 12)]) (.seq (.seq (.ops [(qM 13 0), (qO 14 (qC 48 [(qT 13), (qI 2)])), (qO 15 (.bin .eql (qT 14) (qI 0)))]) (.cond (qT 15) (.seq (.ops [(qM 16 5), (qM 17 0), (qM 18 0), (qO 19 (qC 48 [(qT 18), (qI 3)])), (qO 20 (.bin .add (qI 1) (qT 19))), (qO 21 (qC 73 [(qT 17), (qT 20)])), (qO 22 (.agg [(.int .i64 0), (.int .i64 0), (.int .i64 0), (.int .i64 0), (.int .i64 0), (.slice none 0 0), (.slice none 0 0), (.slice none 0 0)] [(0, (1, (qI 4))), (2, (1, (qT 16))), (3, (3, (qT 21)))])), ⟨none, (.st 8 (qT 4) (qT 22)), none⟩]) .ret) .skip)) (.seq (.ops [(qM 23 5), (qM 24 0), (qO 25 (qC 48 [(qT 24), (qI 3)])), (qO 26 (.agg [(.int .i64 0), (.int .i64 0), (.int .i64 0), (.int .i64 0), (.int .i64 0), (.slice none 0 0), (.slice none 0 0), (.slice none 0 0)] [(0, (1, (qI 5))), (2, (1, (qT 23))), (1, (1, (qT 25)))])), ⟨none, (.st 8 (qT 4) (qT 26)), none⟩]) .ret)))))⟩
theorem of96 : XF.of Try.prog Try.f96 = some ir96 := by kernel_rfl
def ir97 : XF := ⟨21, [(.tmp 6)], (.seq (.ops [(qO 6 (.mov (.const (.bool false))))]) (.seq (.ops [(qM 7 0), (qO 8 (.bin .eql (qT 7) (qI 0))), (qM 9 8), (qG 10 (.mov (qT 2)) 9 false), (qG 11 (.mov (qT 10)) 9 false), (qG 12 (.mov (qT 0)) 11 true), (qG 13 (.bin .gtr (qT 12) (qI 0)) 11 true), (qG 14 (.pick (qT 11) (qT 13) (.const (.bool false))) 9 false), (qG 15 (.mov (qT 14)) 9 false), (qG 16 (.mov (qT 0)) 15 true), (qG 17 (.mov (qT 1)) 15 true), (qG 18 (.bin .lss (qT 16) (qT 17)) 15 true), (qG 19 (.pick (qT 15) (qT 18) (.const (.bool false))) 9 false), (qO 20 (.pick (qT 9) (.const (.bool true)) (qT 19))), (qM 6 20)]) .ret))⟩
theorem of97 : XF.of Try.prog Try.f97 = some ir97 := by kernel_rfl
def ir98 : XF := ⟨5, [(.tmp 2)], (.seq (.ops [(qO 1 (.box 61 (qT 0))), (qO 2 (.mov (.const (.bool false))))]) (.seq (.ops [(qO 3 (.ldn 3 (qT 1))), (qO 4 (qC 101 [(qT 3), (qI 5)])), (qM 2 4)]) .ret))⟩
theorem of98 : XF.of Try.prog Try.f98 = some ir98 := by kernel_rfl
def ir99 : XF := ⟨17, [(.tmp 2)], (.seq (.ops [(qO 1 (.box 61 (qT 0))), (qO 2 (.mov (.const (.bool false))))]) (.seq (.ops [(qO 3 (.fld 0 (qT 1))), (qO 4 (.ld (qT 3))), (qO 5 (.bin .eql (qT 4) (qI 0))), (qM 6 5), (qG 7 (.fld 1 (qT 1)) 6 true), (qG 8 (.ld (qT 7)) 6 true), (qG 9 (.bin .eql (qT 8) (qI 0)) 6 true), (qO 10 (.pick (qT 6) (qT 9) (.const (.bool false)))), (qM 11 10), (qG 12 (.fld 2 (qT 1)) 11 true), (qG 13 (.ld (qT 12)) 11 true), (qG 14 (.len (qT 13)) 11 true), (qG 15 (.bin .eql (qT 14) (qI 0)) 11 true), (qO 16 (.pick (qT 11) (qT 15) (.const (.bool false)))), (qM 2 16)]) .ret))⟩
theorem of99 : XF.of Try.prog Try.f99 = some ir99 := by kernel_rfl
def ir100 : XF := ⟨63, [(.tmp 4)], (.seq (.ops [(qO 2 (.box 61 (qT 0))), (qO 4 (.mov (.const (.bool false))))]) (.seq (.seq (.ops [(qM 5 1), (qO 6 (.bin .lss (qT 5) (qI 1)))]) (.cond (qT 6) (.seq (.ops [(qO 4 (.mov (.const (.bool false))))]) .ret) .skip)) (.seq (.seq (.ops [(qO 7 (.fld 0 (qT 2))), (qO 8 (.ld (qT 7))), (qO 9 (.bin .eql (qT 8) (qI 0)))]) (.cond (qT 9) (.seq (.ops [(qO 10 (.fld 1 (qT 2))), (qO 11 (.ld (qT 10))), (qO 12 (qC 65 [(qT 11), (qI 0), (qI 99999)])), (qM 13 12), (qG 14 (.fld 2 (qT 2)) 13 true), (qG 15 (.ld (qT 14)) 13 true), (qG 16 (.len (qT 15)) 13 true), (qG 17 (.bin .eql (qT 16) (qI 0)) 13 true), (qO 18 (.pick (qT 13) (qT 17) (.const (.bool false)))), (qM 4 18)]) .ret) .skip)) (.seq (.seq (.ops [(qO 19 (.fld 0 (qT 2))), (qO 20 (.ld (qT 19))), (qO 21 (.bin .eql (qT 20) (qI 13)))]) (.cond (qT 21) (.seq (.ops [(qO 22 (.fld 1 (qT 2))), (qO 23 (.ld (qT 22))), (qO 24 (qC 65 [(qT 23), (qI 0), (qI 3)])), (qM 25 24), (qG 26 (.fld 2 (qT 2)) 25 true), (qG 27 (.ld (qT 26)) 25 true), (qG 28 (.len (qT 27)) 25 true), (qG 29 (.bin .eql (qT 28) (qI 0)) 25 true), (qO 30 (.pick (qT 25) (qT 29) (.const (.bool false)))), (qM 4 30)]) .ret) .skip)) (.seq (.ops [(qO 31 (.fld 0 (qT 2))), (qO 32 (.ld (qT 31))), (qO 33 (qC 102 [(qT 32)])), (qM 34 33), (qG 35 (.fld 1 (qT 2)) 34 true), (qG 36 (.ld (qT 35)) 34 true), (qG 37 (.bin .eql (qT 36) (qI 0)) 34 true), (qO 38 (.pick (qT 34) (qT 37) (.const (.bool false)))), (qM 39 38), (qG 40 (.fld 2 (qT 2)) 39 true), (qG 41 (.ld (qT 40)) 39 true), (qG 42 (.len (qT 41)) 39 true), (qG 43 (.bin .eql (qT 42) (qI 2)) 39 true), (qO 44 (.pick (qT 39) (qT 43) (.const (.bool false)))), (qM 45 44), (qG 46 (.fld 2 (qT 2)) 45 true), (qG 47 (.ld (qT 46)) 45 true), (qG 48 (.idx 3 (qT 47) (qI 0)) 45 true), (qG 49 (.ldn 3 (qT 48)) 45 true), (qG 50 (.mov (qT 1)) 45 true), (qG 51 (.bin .sub (qT 50) (qI 1)) 45 true), (qG 52 (qC 100 [(qT 49), (qT 51)]) 45 true), (qO 53 (.pick (qT 45) (qT 52) (.const (.bool false)))), (qM 54 53), (qG 55 (.fld 2 (qT 2)) 54 true), (qG 56 (.ld (qT 55)) 54 true), (qG 57 (.idx 3 (qT 56) (qI 1)) 54 true), (qG 58 (.ldn 3 (qT 57)) 54 true), (qG 59 (.mov (qT 1)) 54 true), (qG 60 (.bin .sub (qT 59) (qI 1)) 54 true), (qG 61 (qC 100 [(qT 58), (qT 60)]) 54 true), (qO 62 (.pick (qT 54) (qT 61) (.const (.bool false)))), (qM 4 62)]) .ret)))))⟩
theorem of100 : XF.of Try.prog Try.f100 = some ir100 := by kernel_rfl
def ir101 : XF := ⟨85, [(.tmp 4)], (.seq (.ops [(qO 2 (.box 61 (qT 0))), (qO 4 (.mov (.const (.bool false))))]) (.seq (.block 0 (.seq (.ops [(qO 6 (.fld 0 (qT 2))), (qO 7 (.ld (qT 6))), (qO 8 (.bin .eql (qT 7) (qI 0))), (qM 5 8)]) (.cond (qT 5) (.seq (.ops [(qO 9 (.fld 1 (qT 2))), (qO 10 (.ld (qT 9))), (qO 11 (.bin .geq (qT 10) (qI 0))), (qM 12 11), (qG 13 (.fld 1 (qT 2)) 12 true), (qG 14 (.ld (qT 13)) 12 true), (qG 15 (.bin .leq (qT 14) (qI 99999)) 12 true), (qO 16 (.pick (qT 12) (qT 15) (.const (.bool false)))), (qM 17 16), (qG 18 (.fld 2 (qT 2)) 17 true), (qG 19 (.ld (qT 18)) 17 true), (qG 20 (.len (qT 19)) 17 true), (qG 21 (.bin .eql (qT 20) (qI 0)) 17 true), (qO 22 (.pick (qT 17) (qT 21) (.const (.bool false)))), (qM 23 22), (qG 24 (.mov (qT 1)) 23 true), (qG 25 (.bin .gtr (qT 24) (qI 0)) 23 true), (qO 26 (.pick (qT 23) (qT 25) (.const (.bool false)))), (qM 4 26)]) .ret) (.seq (.ops [(qO 28 (.fld 0 (qT 2))), (qO 29 (.ld (qT 28))), (qO 30 (.bin .eql (qT 29) (qI 13))), (qM 27 30)]) (.cond (qT 27) (.seq (.ops [(qO 31 (.fld 1 (qT 2))), (qO 32 (.ld (qT 31))), (qO 33 (.bin .geq (qT 32) (qI 0))), (qM 34 33), (qG 35 (.fld 1 (qT 2)) 34 true), (qG 36 (.ld (qT 35)) 34 true), (qG 37 (.bin .lss (qT 36) (qI 4)) 34 true), (qO 38 (.pick (qT 34) (qT 37) (.const (.bool false)))), (qM 39 38), (qG 40 (.fld 2 (qT 2)) 39 true), (qG 41 (.ld (qT 40)) 39 true), (qG 42 (.len (qT 41)) 39 true), (qG 43 (.bin .eql (qT 42) (qI 0)) 39 true), (qO 44 (.pick (qT 39) (qT 43) (.const (.bool false)))), (qM 45 44), (qG 46 (.mov (qT 1)) 45 true), (qG 47 (.bin .gtr (qT 46) (qI 0)) 45 true), (qO 48 (.pick (qT 45) (qT 47) (.const (.bool false)))), (qM 4 48)]) .ret) .skip))))) (.seq (.ops [(qO 49 (.fld 0 (qT 2))), (qO 50 (.ld (qT 49))), (qO 51 (qC 60 [(qT 50)])), (qM 52 51), (qG 53 (.fld 1 (qT 2)) 52 true), (qG 54 (.ld (qT 53)) 52 true), (qG 55 (.bin .eql (qT 54) (qI 0)) 52 true), (qO 56 (.pick (qT 52) (qT 55) (.const (.bool false)))), (qM 57 56), (qG 58 (.fld 2 (qT 2)) 57 true), (qG 59 (.ld (qT 58)) 57 true), (qG 60 (.len (qT 59)) 57 true), (qG 61 (.bin .eql (qT 60) (qI 2)) 57 true), (qO 62 (.pick (qT 57) (qT 61) (.const (.bool false)))), (qM 63 62), (qG 64 (.mov (qT 1)) 63 true), (qG 65 (.bin .gtr (qT 64) (qI 1)) 63 true), (qO 66 (.pick (qT 63) (qT 65) (.const (.bool false)))), (qM 67 66), (qG 68 (.fld 2 (qT 2)) 67 true), (qG 69 (.ld (qT 68)) 67 true), (qG 70 (.idx 3 (qT 69) (qI 0)) 67 true), (qG 71 (.ldn 3 (qT 70)) 67 true), (qG 72 (.mov (qT 1)) 67 true), (qG 73 (.bin .sub (qT 72) (qI 1)) 67 true), (qG 74 (qC 101 [(qT 71), (qT 73)]) 67 true), (qO 75 (.pick (qT 67) (qT 74) (.const (.bool false)))), (qM 76 75), (qG 77 (.fld 2 (qT 2)) 76 true), (qG 78 (.ld (qT 77)) 76 true), (qG 79 (.idx 3 (qT 78) (qI 1)) 76 true), (qG 80 (.ldn 3 (qT 79)) 76 true), (qG 81 (.mov (qT 1)) 76 true), (qG 82 (.bin .sub (qT 81) (qI 1)) 76 true), (qG 83 (qC 101 [(qT 80), (qT 82)]) 76 true), (qO 84 (.pick (qT 76) (qT 83) (.const (.bool false)))), (qM 4 84)]) .ret)))⟩
theorem of101 : XF.of Try.prog Try.f101 = some ir101 := by kernel_rfl
def ir102 : XF := ⟨5, [(.tmp 2)], (.seq (.ops [(qO 2 (.mov (.const (.bool false))))]) (.seq (.ops [(qM 3 0), (qO 4 (qC 65 [(qT 3), (qI 1), (qI 12)])), (qM 2 4)]) .ret))⟩
theorem of102 : XF.of Try.prog Try.f102 = some ir102 := by kernel_rfl
end Go.Proofs.Ytjhedgoafkabiaa
namespace Go.Proofs.Ytjhedgoafkabiaa
set_option linter.all false
open Go Go.RowKit
theorem mix : Try.prog.follows .mixedOrders = true := Checked.mixed Try.checked
set_option maxRecDepth 100000
variable (w0 : World) (H : AHeap) (K : Value → AHeap → Prop)
def isReg (r : Int) : Bool := decide (0 ≤ r) && decide (r < 12)
def wordValid (r : Int) : Bool := decide (-2147483648 ≤ r) && decide (r ≤ 2147483647)
def opValid (r : Int) : Bool := decide (1 ≤ r) && decide (r ≤ 12)
def quadValid (q : Qd) (m : Int) : Bool :=
  if q.op = 1 then isReg q.dst && q.a == 0 && q.b == 0 && wordValid q.n
  else if q.op = 2 then isReg q.dst && isReg q.a && q.b == 0 && q.n == 0
  else if q.op = 3 then isReg q.dst && isReg q.a && isReg q.b && opValid q.n
  else if q.op = 4 then q.dst == 0 && q.a == 0 && q.b == 0 && decide (0 ≤ q.n) && decide (q.n < m)
  else if q.op = 5 then q.dst == 0 && isReg q.a && q.b == 0 && decide (0 ≤ q.n) && decide (q.n < m)
  else if q.op = 6 then q.dst == 0 && isReg q.a && q.b == 0 && decide (0 ≤ q.n) && decide (q.n < 3)
  else if q.op = 7 then isReg q.dst && q.a == 0 && q.b == 0 && decide (0 ≤ q.n) && decide (q.n < 3)
  else if q.op = 9 then q.dst == 0 && isReg q.a && q.b == 0 && q.n == 0
  else if q.op = 8 ∨ q.op = 10 then q.dst == 0 && q.a == 0 && q.b == 0 && q.n == 0
  else false
theorem opValid_ok (r : Int) (h : K (.bool (opValid r)) H) : ACalls Try.prog w0 60 [.int .i64 r] H K := by
  refine acalls_of_sx mix Try.func60 of60 (by simp [ir60]) ?_; rw [ir60]; (try delta qT qI qC qO qM qG)
  repeat' (first | simp -implicitDefEqProofs only [zG1,zG2,zG3,zG4,zG5,zG6,zG7,eq_self,resV,rval,X.val,binv,fillL,setR,↓reduceIte,Nat.reduceEqDiff,Nat.reduceAdd,Nat.reduceMul,Nat.reduceLeDiff,Nat.reduceLT,Nat.reduceSub,reduceCtorEq,zGr] | ((with_reducible refine rows_intro (fun _ hb => ?_)); try simp only [set_none, ne_eq] at hb) | ((with_reducible refine new_intro (fun _ hb => ?_)); try simp only [set_none, ne_eq] at hb) | (with_reducible refine draw_same ?_) | ((with_reducible refine gd_split ?_ (fun _ => ?_) (fun _ => ?_)); exact rfl) | ((with_reducible refine td_split ?_ (fun _ => ?_) (fun _ => ?_)); exact rfl) | (with_reducible refine c_split (fun _ => ?_) (fun _ => ?_)))
  all_goals (refine ret_same ?_; simpa [opValid, *] using h)
theorem flatQuad : flatInts Try.prog 33 5 = true := by kernel_rfl
theorem l6In_ok (n lo hi : Int) (h : K (.bool (decide (lo ≤ n) && decide (n ≤ hi))) H) : ACalls Try.prog w0 65 [.int .i64 n, .int .i64 lo, .int .i64 hi] H K := by
  refine acalls_of_sx mix Try.func65 of65 (by simp [ir65]) ?_; rw [ir65]; (try delta qT qI qC qO qM qG)
  repeat' (first | simp -implicitDefEqProofs only [zG1,zG2,zG3,zG4,zG5,zG6,zG7,eq_self,resV,rval,X.val,binv,fillL,setR,↓reduceIte,Nat.reduceEqDiff,Nat.reduceAdd,Nat.reduceMul,Nat.reduceLeDiff,Nat.reduceLT,Nat.reduceSub,reduceCtorEq,zGr] | ((with_reducible refine rows_intro (fun _ hb => ?_)); try simp only [set_none, ne_eq] at hb) | ((with_reducible refine new_intro (fun _ hb => ?_)); try simp only [set_none, ne_eq] at hb) | (with_reducible refine draw_same ?_) | ((with_reducible refine gd_split ?_ (fun _ => ?_) (fun _ => ?_)); exact rfl) | ((with_reducible refine td_split ?_ (fun _ => ?_) (fun _ => ?_)); exact rfl) | (with_reducible refine c_split (fun _ => ?_) (fun _ => ?_)))
  all_goals (refine ret_same ?_; simpa [*] using h)
theorem opValidS_ok (r : Int) (h : K (.bool (opValid r)) H) : ACalls Try.prog w0 102 [.int .i64 r] H K := by
  refine acalls_of_sx mix Try.func102 of102 (by simp [ir102]) ?_; rw [ir102]; (try delta qT qI qC qO qM qG)
  repeat' (first | simp -implicitDefEqProofs only [zG1,zG2,zG3,zG4,zG5,zG6,zG7,eq_self,resV,rval,X.val,binv,fillL,setR,↓reduceIte,Nat.reduceEqDiff,Nat.reduceAdd,Nat.reduceMul,Nat.reduceLeDiff,Nat.reduceLT,Nat.reduceSub,reduceCtorEq,zGr] | ((with_reducible refine rows_intro (fun _ hb => ?_)); try simp only [set_none, ne_eq] at hb) | ((with_reducible refine new_intro (fun _ hb => ?_)); try simp only [set_none, ne_eq] at hb) | (with_reducible refine draw_same ?_) | ((with_reducible refine gd_split ?_ (fun _ => ?_) (fun _ => ?_)); exact rfl) | ((with_reducible refine td_split ?_ (fun _ => ?_) (fun _ => ?_)); exact rfl) | (with_reducible refine c_split (fun _ => ?_) (fun _ => ?_)) | (with_reducible refine l6In_ok _ _ _ _ _ _ ?_))
  all_goals (refine ret_same ?_; simpa [opValid, *] using h)
end Go.Proofs.Ytjhedgoafkabiaa
namespace Go.Proofs.Ytjhedgoafkabiaa
set_option linter.all false
open Go Go.RowKit
/-- A slice's place reads as these cells. -/
def Fl (H : AHeap) (A : Option Addr) (vs : List Value) : Prop := ∀ (j : Nat) (v : Value), vs[j]? = some v → H.cell (adr A j) = some v
section
variable {H H' : AHeap} {A : Option Addr} {vs : List Value}
theorem Fl.le (h : Fl H A vs) (hl : AHeap.le H H') : Fl H' A vs := fun i x hx => hl.cell (h i x hx)
theorem Fl.fresh (h : Fl H A vs) {b : Nat} (hb : H b = none) (k : Blk) : Fl (H.set b k) A vs := h.le ((AHeap.le.refl H).fresh hb k)
theorem Fl.is (h : Fl H A vs) {i : Nat} (hi : i < vs.length) : A.isSome = true := by
  have := h i _ (List.getElem?_eq_getElem hi)
  cases A with
  | none => cases this
  | some a => rfl
theorem Fl.nil (H : AHeap) (A : Option Addr) : Fl H A [] := fun j v h => by cases h
theorem Fl.blk (H : AHeap) (b : Nat) (k : Blk) (vs : List Value) (h : ∀ (j : Nat) (v : Value), vs[j]? = some v → k.cells[j]? = some v) : Fl (H.set b k) (some ⟨b, 0, none⟩) vs := fun j v hj => by
  rw [adr_lit, Nat.zero_add, cell_same]; exact h j v hj
theorem Own.fl {H1 : AHeap} {e : TypeId} {size : Nat} {v : Value} {n : Nat} (h : Own H1 e size v n vs H) : ∃ A c, v = .slice A n c ∧ Fl H A vs := by
  rcases h with ⟨rfl, rfl, rfl, rfl⟩ | ⟨b, cap, rfl, hb, hn, hc, hl, rfl⟩
  · exact ⟨_, _, rfl, Fl.nil _ _⟩
  · exact ⟨_, _, rfl, Fl.blk _ _ _ _ fun _ _ h => h⟩
theorem Own.le {H1 : AHeap} {e : TypeId} {size : Nat} {v : Value} {n : Nat} (h : Own H1 e size v n vs H) : AHeap.le H1 H := by
  rcases h with ⟨rfl, rfl, rfl, rfl⟩ | ⟨b, cap, rfl, hb, hn, hc, hl, rfl⟩
  · exact .refl _
  · exact (AHeap.le.refl _).fresh hb _
end
theorem up1 {k n : Nat} (h : k < n) (hn : n ≤ 4611686018427387904) : IntKind.i64.wrap ((k : Int) + 1) = ((k + 1 : Nat) : Int) := by rw [wrap_i64 (by omega) (by omega)]; omega
theorem lt_dec {k n : Nat} (h : k < n) : decide ((k : Int) < (n : Int)) = true := by simp; omega
theorem ge_dec {k n : Nat} (h : ¬ k < n) : decide ((k : Int) < (n : Int)) = false := by simp; omega
theorem rng {k n : Nat} (h : k < n) : (0 ≤ (k : Int) ∧ (k : Int) < (n : Int)) = True := by simp; omega
def ints (xs : List Int) : List Value := xs.map (Value.int .i64 ·)
def bools (xs : List Bool) : List Value := xs.map (Value.bool ·)
def qcells (qs : List Qd) : List Value := qs.flatMap (·.cells)
theorem ints_len (xs : List Int) : (ints xs).length = xs.length := by simp [ints]
theorem qcells_len (qs : List Qd) : (qcells qs).length = qs.length * 5 := by
  induction qs with
  | nil => rfl
  | cons q qs ih => simp only [qcells, List.flatMap_cons, List.length_append, List.length_cons, List.length_nil] at *; omega
theorem ints_at {xs : List Int} {i : Nat} (h : i < xs.length) : (ints xs)[i]? = some (.int .i64 xs[i]) := by simp [ints, h]
theorem bools_at {xs : List Bool} {i : Nat} (h : i < xs.length) : (bools xs)[i]? = some (.bool xs[i]) := by simp [bools, h]
theorem qcells_at {qs : List Qd} : ∀ {k : Nat} (h : k < qs.length) (j : Nat), j < 5 → (qcells qs)[k * 5 + j]? = qs[k].cells[j]? := by
  induction qs with
  | nil => intro k h; cases h
  | cons q qs ih =>
    intro k h j hj
    have e : qcells (q :: qs) = q.cells ++ qcells qs := rfl
    rw [e, List.getElem?_append]
    have hl : q.cells.length = 5 := rfl
    cases k with
    | zero => simp only [Nat.zero_mul, Nat.zero_add, hl, hj, if_true]; rfl
    | succ k =>
      have hk : k < qs.length := by simpa using h
      rw [if_neg (by rw [hl]; omega), hl, show (k + 1) * 5 + j - 5 = k * 5 + j by omega, ih hk j hj]
      rfl
section
variable {H : AHeap} {A : Option Addr}
theorem Fl.int {xs : List Int} (h : Fl H A (ints xs)) {i : Nat} (hi : i < xs.length) : H.cell (adr A i) = some (.int .i64 xs[i]) := h _ _ (ints_at hi)
theorem Fl.bool {xs : List Bool} (h : Fl H A (bools xs)) {i : Nat} (hi : i < xs.length) : H.cell (adr A i) = some (.bool xs[i]) := h _ _ (bools_at hi)
theorem Fl.ints_is {xs : List Int} (h : Fl H A (ints xs)) {i : Nat} (hi : i < xs.length) : A.isSome = true := h.is (by rw [ints_len]; exact hi)
theorem Fl.qd_is {qs : List Qd} (h : Fl H A (qcells qs)) {i : Nat} (hi : i < qs.length) : A.isSome = true := h.is (i := i * 5) (by rw [qcells_len]; omega)
theorem Fl.q0 {qs : List Qd} (h : Fl H A (qcells qs)) {i : Nat} (hi : i < qs.length) : H.cell (adr A (i * 5)) = some (.int .i64 qs[i].op) := h _ _ (by rw [← Nat.add_zero (i * 5), qcells_at hi 0 (by omega)]; rfl)
theorem Fl.q1 {qs : List Qd} (h : Fl H A (qcells qs)) {i : Nat} (hi : i < qs.length) : H.cell (adr A (i * 5 + 1)) = some (.int .i64 qs[i].dst) := h _ _ (by rw [qcells_at hi 1 (by omega)]; rfl)
theorem Fl.q2 {qs : List Qd} (h : Fl H A (qcells qs)) {i : Nat} (hi : i < qs.length) : H.cell (adr A (i * 5 + 2)) = some (.int .i64 qs[i].a) := h _ _ (by rw [qcells_at hi 2 (by omega)]; rfl)
theorem Fl.q3 {qs : List Qd} (h : Fl H A (qcells qs)) {i : Nat} (hi : i < qs.length) : H.cell (adr A (i * 5 + 3)) = some (.int .i64 qs[i].b) := h _ _ (by rw [qcells_at hi 3 (by omega)]; rfl)
theorem Fl.q4 {qs : List Qd} (h : Fl H A (qcells qs)) {i : Nat} (hi : i < qs.length) : H.cell (adr A (i * 5 + 4)) = some (.int .i64 qs[i].n) := h _ _ (by rw [qcells_at hi 4 (by omega)]; rfl)
end
theorem Fl.quad {H : AHeap} {A : Option Addr} {qs : List Qd} (h : Fl H A (qcells qs)) {i : Nat} (hi : i < qs.length) : A.isSome = true ∧ H.cell (adr A (i * 5)) = some (.int .i64 qs[i].op) ∧
    H.cell (adr A (i * 5 + 1)) = some (.int .i64 qs[i].dst) ∧ H.cell (adr A (i * 5 + 2)) = some (.int .i64 qs[i].a) ∧ H.cell (adr A (i * 5 + 3)) = some (.int .i64 qs[i].b) ∧ H.cell (adr A (i * 5 + 4)) = some (.int .i64 qs[i].n) :=
  ⟨h.qd_is hi, h.q0 hi, h.q1 hi, h.q2 hi, h.q3 hi, h.q4 hi⟩
end Go.Proofs.Ytjhedgoafkabiaa
namespace Go.Proofs.Ytjhedgoafkabiaa
set_option linter.all false
open Go Go.RowKit
section
variable {P : Program} {w0 : World} {K : Value → AHeap → Prop} {z : List Value} {t e : TypeId} {bytes n m xc size : Nat} {v : Value} {xs news : List Value} {H H1 A B : AHeap}
theorem Own.bound (h : Own H1 e size v n xs H) : n ≤ maxLen := by
  rcases h with ⟨rfl, rfl, rfl, rfl⟩ | ⟨b, cap, rfl, hb, hn, hc, hl, rfl⟩
  · exact Nat.zero_le _
  · omega
theorem Own.len (h : Own H1 e size v n xs H) : xs.length = n * size := by
  rcases h with ⟨rfl, rfl, rfl, rfl⟩ | ⟨b, cap, rfl, hb, hn, hc, hl, rfl⟩
  · simp
  · exact hl
theorem Own.weaken (h : Own B e size v n xs H) (hl : AHeap.le A B) : ∃ H', AHeap.le H' H ∧ Own A e size v n xs H' := by
  rcases h with ⟨rfl, rfl, rfl, rfl⟩ | ⟨b, cap, rfl, hb, hn, hc, hl', rfl⟩
  · exact ⟨_, hl, .inl ⟨rfl, rfl, rfl, rfl⟩⟩
  · exact ⟨_, hl.set b _, .inr ⟨b, cap, rfl, hl.none hb, hn, hc, hl', rfl⟩⟩
theorem Own.drop {b : Nat} {k : Blk} (h : Own (H1.set b k) e size v n xs H) (hb : H1 b = none) : ∃ H', AHeap.le H' H ∧ Own H1 e size v n xs H' := h.weaken ((AHeap.le.refl H1).fresh hb k)
theorem Own.none' (h : Own H1 e size v n xs H) {b : Nat} (hb : H b = none) : H1 b = none := h.le.none hb
theorem has_fresh (h : Own H1 e size v n xs H) {b : Nat} (hb : H b = none) (k : Blk) : Has (H.set b k) e size v n xs (H1.set b k) := by
  rcases h with ⟨rfl, rfl, rfl, rfl⟩ | ⟨b', cap, rfl, hb', hn, hc, hl', rfl⟩
  · exact .inl ⟨rfl, rfl, rfl, rfl⟩
  · have hne : ¬ b' = b := by rintro rfl; simp [AHeap.set] at hb
    refine .inr ⟨b', cap, _, rfl, by rw [set_ne hne, set_same], rfl, rfl, rfl, hn, hc, by simp [hl'], by rw [← hl']; simp, ?_⟩
    funext i
    by_cases hi : i = b'
    · subst hi; simp [AHeap.del, AHeap.set, hne, hb']
    · simp [AHeap.del, AHeap.set, hi]
theorem Own.fresh (h : Own H1 e size v n xs H) {b : Nat} (hb : H b = none) (k : Blk) : Own (H1.set b k) e size v n xs (H.set b k) := by
  rcases h with ⟨rfl, rfl, rfl, rfl⟩ | ⟨b', cap, rfl, hb', hn, hc, hl', rfl⟩
  · exact .inl ⟨rfl, rfl, rfl, rfl⟩
  · have hne : ¬ b' = b := by rintro rfl; simp [AHeap.set] at hb
    exact .inr ⟨b', cap, rfl, by rw [set_ne hne]; exact hb', hn, hc, hl', (set_comm (fun e => hne e.symm)).symm ▸ rfl⟩
theorem fl_three {b : Nat} {x0 x1 x2 : Value} {o : Bool} {c : Nat} (hl : AHeap.le (A.set b ⟨[x0, x1, x2], o, t, c⟩) B) :
    B.cell (some ⟨b, 0, none⟩) = some x0 ∧ B.cell (some ⟨b, 1, none⟩) = some x1 ∧ B.cell (some ⟨b, 2, none⟩) = some x2 :=
  ⟨hl.cell (by rw [cell_same]; rfl), hl.cell (by rw [cell_same]; rfl), hl.cell (by rw [cell_same]; rfl)⟩
theorem ret_own {c cp x : Nat} {vs : List Value} (h : ∀ v H', Own H e size v n xs H' → K v H') {H0 : AHeap} (hl : AHeap.le H H0) (hx : H x = none) {n' : Nat} (he : n' = n) (hv : vs = xs) (hn : vs.length = n * size) (hnc : n ≤ c) (hc : c ≤ maxLen) (hcp : cp = c * size) :
    ∃ H', AHeap.le H' (H0.set x ⟨vs, true, e, cp⟩) ∧ K (.slice (some ⟨x, 0, none⟩) n' c) H' := by
  subst hv hcp he
  exact ⟨_, hl.set x _, h _ _ (.inr ⟨x, c, rfl, hx, hnc, hc, hn, rfl⟩)⟩
theorem app_lit (ho : Own H1 t z.length v n xs H) {b : Nat} (hb : H b = none) {o : Bool} {t' : TypeId} {c : Nat} (hl : news.length = m * z.length)
    (h1 : ∀ v ∈ news, v.oneCell' = true) (hn : n + m ≤ maxLen) (hB : (n + m) * bytes ≤ 140737488355328)
    (h : ∀ v' H', Own (H1.set b ⟨news, o, t', c⟩) t z.length v' (n + m) (xs ++ news) H' → K v' H') : appK P w0 z t bytes v (.slice (some ⟨b, 0, none⟩) m xc) K (H.set b ⟨news, o, t', c⟩) := by
  have hh := has_fresh ho hb ⟨news, o, t', c⟩
  have hs : ∃ a n' c', v = .slice a n' c' ∧ n' = n := by
    rcases ho with ⟨rfl, rfl, rfl, rfl⟩ | ⟨b', cap, rfl, hb', hn, hc, hl', rfl⟩
    · exact ⟨_, _, _, rfl, rfl⟩
    · exact ⟨_, _, _, rfl, rfl⟩
  obtain ⟨a, n', c', rfl, rfl⟩ := hs
  refine .inr ⟨xs, _, news, .inl hh, hl, fun j v hv => ?_, h1, hn, hB, h⟩
  exact Fl.blk _ _ _ _ (fun _ _ h => h) j v hv
theorem app_read {H0 : AHeap} (ho : Own H1 t z.length v n xs H0) (hl : AHeap.le H0 H) {xa : Option Addr} (hr : Fl H xa news) (hlen : news.length = m * z.length) (h1 : ∀ v ∈ news, v.oneCell' = true) (hn : n + m ≤ maxLen) (hB : (n + m) * bytes ≤ 140737488355328)
    (h : ∀ v' B' H', AHeap.le H1 B' → Own B' t z.length v' (n + m) (xs ++ news) H' → K v' H') : appK P w0 z t bytes v (.slice xa m xc) K H := by
  rcases ho with ⟨rfl, rfl, rfl, rfl⟩ | ⟨b, cap, rfl, hb, hnc, hc, hl', rfl⟩
  · exact .inr ⟨[], H, news, .inl (.inl ⟨rfl, rfl, rfl, rfl⟩), hlen, hr, h1, hn, hB, fun v' H' ho' => h v' H H' hl ho'⟩
  · obtain ⟨k, hk, hko, hkt, hkc, hkr⟩ := hl b _ (set_same _ _ _)
    have hlen' : n * z.length ≤ k.cells.length := by
      rcases Nat.eq_zero_or_pos (n * z.length) with h0 | h0
      · omega
      · have := hkr (n * z.length - 1) _ (List.getElem?_eq_getElem (by simp only; omega))
        have := (List.getElem?_eq_some_iff.1 this).1
        omega
    refine .inr ⟨xs, H.del b, news, .inl (.inr ⟨b, cap, k, rfl, hk, hko, hkt, hkc, hnc, hc, hlen', ?_, rfl⟩), hlen, hr, h1, hn, hB, fun v' H' ho' => h v' _ H' (AHeap.le.del (((AHeap.le.refl H1).fresh hb _).trans hl) hb) ho'⟩
    apply List.ext_getElem?
    intro j
    rw [List.getElem?_take]
    split
    · rename_i hj
      rw [List.getElem?_eq_getElem (by omega)]
      exact (hkr j _ (List.getElem?_eq_getElem (by simp only; omega))).symm
    · rw [List.getElem?_eq_none (by omega)]
end
end Go.Proofs.Ytjhedgoafkabiaa
namespace Go.Proofs.Ytjhedgoafkabiaa
set_option linter.all false
open Go Go.RowKit
set_option maxRecDepth 100000
def u8s (zs : List Int) : List Value := zs.map (Value.int .u8 ·)
theorem u8s_len (zs : List Int) : (u8s zs).length = zs.length := by simp [u8s]
/-- The reader's block. -/
def rk (A : Option Addr) (n c : Nat) (p : Int) : Blk := ⟨[.slice A n c, .int .i64 p], true, 80, 2⟩
theorem rk_cells (A : Option Addr) (n c : Nat) (p : Int) : (rk A n c p).cells = [.slice A n c, .int .i64 p] := by exact id rfl
theorem rk_own (A : Option Addr) (n c : Nat) (p : Int) : (rk A n c p).own = true := by exact id rfl
theorem rk_mk (A : Option Addr) (n c : Nat) (p q : Int) : (⟨[.slice A n c, .int .i64 q], true, (rk A n c p).ty, (rk A n c p).cap⟩ : Blk) = rk A n c q := by exact id rfl
theorem rk_mk' (A : Option Addr) (n c : Nat) (q : Int) : (⟨[.slice A n c, .int .i64 q], true, 80, 2⟩ : Blk) = rk A n c q := by exact id rfl
structure Rdr (H : AHeap) (A : Option Addr) (n : Nat) (zs : List Int) (b : Nat) : Prop where
  fl : Fl H A (u8s zs)
  rng : ∀ z ∈ zs, 0 ≤ z ∧ z < 256
  len : zs.length = n
  max : n ≤ 2000
  new : H b = none
theorem Rdr.fresh {H : AHeap} {A : Option Addr} {n : Nat} {zs : List Int} {b x : Nat} {k : Blk} (h : Rdr H A n zs b) (hx : H x = none) (hn : ¬ x = b) : Rdr (H.set x k) A n zs b :=
  ⟨h.fl.fresh hx k, h.rng, h.len, h.max, by rw [set_ne fun e => hn e.symm]; exact h.new⟩
theorem Rdr.le {H H' : AHeap} {A : Option Addr} {n : Nat} {zs : List Int} {b : Nat} (h : Rdr H A n zs b) (hl : AHeap.le H H') (hb : H' b = none) : Rdr H' A n zs b := ⟨h.fl.le hl, h.rng, h.len, h.max, hb⟩
theorem xor_nonneg {a b : Int} (h1 : 0 ≤ a) (h2 : a < 9223372036854775808) (h3 : 0 ≤ b) (h4 : b < 9223372036854775808) : 0 ≤ bits .xor .i64 a b := by
  obtain ⟨x, rfl⟩ := Int.eq_ofNat_of_zero_le h1
  obtain ⟨y, rfl⟩ := Int.eq_ofNat_of_zero_le h3
  have hx : x ^^^ y < 2 ^ 63 := Nat.xor_lt_two_pow (by omega) (by omega)
  show 0 ≤ IntKind.i64.wrap ((BitVec.ofInt 64 (x : Int) ^^^ BitVec.ofInt 64 (y : Int)).toNat : Int)
  have e1 : (BitVec.ofInt 64 (x : Int)).toNat = x := by rw [BitVec.ofInt_natCast, BitVec.toNat_ofNat]; exact Nat.mod_eq_of_lt (by omega)
  have e2 : (BitVec.ofInt 64 (y : Int)).toNat = y := by rw [BitVec.ofInt_natCast, BitVec.toNat_ofNat]; exact Nat.mod_eq_of_lt (by omega)
  rw [BitVec.toNat_xor, e1, e2, wrap_i64 (by omega) (by omega)]
  omega
theorem tmod_in {a k : Int} (h : 0 ≤ a) (hk : 1 ≤ k) : 0 ≤ a.tmod k ∧ a.tmod k < k := ⟨Int.tmod_nonneg k h, Int.tmod_lt_of_pos a (by omega)⟩
variable (w0 : World) (H : AHeap) (K : Value → AHeap → Prop)
theorem l6Open_ok (A : Option Addr) (n c : Nat) (zs : List Int) (hF : Fl H A (u8s zs)) (hr : ∀ z ∈ zs, 0 ≤ z ∧ z < 256) (hl : zs.length = n) (hc : n ≤ c)
    (h : ∀ b n' c' zs', H b = none → Rdr H A n' zs' b → K (.pointer (some ⟨b, 0, none⟩)) (H.set b (rk A n' c' 0))) : ACalls Try.prog w0 33 [.slice A n c] H K := by
  by_cases hbig : 2000 < n
  · have g0 : decide ((n : Int) > 2000) = true := by simp; omega
    have g1 : bnds n c none (some (.int .i64 2000)) none = some (0, 2000, c) := by
      have : (2000 : Int) ≤ c := by omega
      simp [bnds, bndv, this]
    refine acalls_of_sx mix Try.func33 of33 (by simp [ir33]) ?_; rw [ir33]; (try delta qT qI qC qO qM qG)
    repeat' (first | simp -implicitDefEqProofs only [zG1,zG2,zG3,zG4,zG5,zG6,zG7,eq_self,resV,rval,X.val,binv,fillL,setR,↓reduceIte,Nat.reduceEqDiff,Nat.reduceAdd,Nat.reduceMul,Nat.reduceLeDiff,Nat.reduceLT,Nat.reduceSub,reduceCtorEq,zGr, g0, g1, Option.map_none, Nat.zero_mul, ite_self, Nat.sub_zero, rk_mk'] | ((with_reducible refine rows_intro (fun _ hb => ?_)); try simp only [set_none, ne_eq] at hb) | ((with_reducible refine new_intro (fun _ hb => ?_)); try simp only [set_none, ne_eq] at hb) | (with_reducible refine draw_same ?_) | ((with_reducible refine gd_split ?_ (fun _ => ?_) (fun _ => ?_)); exact rfl) | ((with_reducible refine td_split ?_ (fun _ => ?_) (fun _ => ?_)); exact rfl) | (with_reducible refine c_split (fun _ => ?_) (fun _ => ?_)))
    refine ret_same (h _ _ _ (zs.take 2000) ‹_› ⟨fun j v hj => ?_, fun z hz => hr z (List.mem_of_mem_take hz), by simp; omega, Nat.le_refl _, ‹_›⟩)
    refine hF j v ?_
    simp only [u8s, List.map_take, List.getElem?_take] at hj
    split at hj
    · exact hj
    · cases hj
  · have g0 : decide ((n : Int) > 2000) = false := by simp; omega
    refine acalls_of_sx mix Try.func33 of33 (by simp [ir33]) ?_; rw [ir33]; (try delta qT qI qC qO qM qG)
    repeat' (first | simp -implicitDefEqProofs only [zG1,zG2,zG3,zG4,zG5,zG6,zG7,eq_self,resV,rval,X.val,binv,fillL,setR,↓reduceIte,Nat.reduceEqDiff,Nat.reduceAdd,Nat.reduceMul,Nat.reduceLeDiff,Nat.reduceLT,Nat.reduceSub,reduceCtorEq,zGr, g0, rk_mk'] | ((with_reducible refine rows_intro (fun _ hb => ?_)); try simp only [set_none, ne_eq] at hb) | ((with_reducible refine new_intro (fun _ hb => ?_)); try simp only [set_none, ne_eq] at hb) | (with_reducible refine draw_same ?_) | ((with_reducible refine gd_split ?_ (fun _ => ?_) (fun _ => ?_)); exact rfl) | ((with_reducible refine td_split ?_ (fun _ => ?_) (fun _ => ?_)); exact rfl) | (with_reducible refine c_split (fun _ => ?_) (fun _ => ?_)))
    exact ret_same (h _ _ _ zs ‹_› ⟨hF, hr, hl, by omega, ‹_›⟩)
theorem pick_ok (A : Option Addr) (n c : Nat) (zs : List Int) (b : Nat) (p k : Int) (hr : Rdr H A n zs b) (h0 : 0 ≤ p) (h1 : p ≤ 1099511627776) (hk : 1 ≤ k)
    (h : ∀ v, 0 ≤ v → v < k → K (.int .i64 v) (H.set b (rk A n c (p + 1)))) : ACalls Try.prog w0 48 [.pointer (some ⟨b, 0, none⟩), .int .i64 k] (H.set b (rk A n c p)) K := by
  have e1 : IntKind.i64.wrap (p + 1) = p + 1 := wrap_i64 (by omega) (by omega)
  have e2 : IntKind.i64.wrap (p + 1 - 1) = p := by rw [wrap_i64 (by omega) (by omega)]; omega
  have e3 : decide (k < 1) = false := by simp; omega
  cases hz : zs with
  | nil =>
    have hn : n = 0 := by rw [← hr.len, hz]; rfl
    subst hn
    have g0 : (((0 : Nat) : Int) == 0) = true := by decide
    refine acalls_of_sx mix Try.func48 of48 (by simp [ir48]) ?_; rw [ir48]; (try delta qT qI qC qO qM qG)
    repeat' (first | simp -implicitDefEqProofs only [zG1,zG2,zG3,zG4,zG5,zG6,zG7,eq_self,resV,rval,X.val,binv,fillL,setR,↓reduceIte,Nat.reduceEqDiff,Nat.reduceAdd,Nat.reduceMul,Nat.reduceLeDiff,Nat.reduceLT,Nat.reduceSub,reduceCtorEq,zGr, rk_cells, rk_own, rk_mk, e1, e2, e3, g0] | ((with_reducible refine rows_intro (fun _ hb => ?_)); try simp only [set_none, ne_eq] at hb) | ((with_reducible refine new_intro (fun _ hb => ?_)); try simp only [set_none, ne_eq] at hb) | (with_reducible refine draw_same ?_) | ((with_reducible refine gd_split ?_ (fun _ => ?_) (fun _ => ?_)); exact rfl) | ((with_reducible refine td_split ?_ (fun _ => ?_) (fun _ => ?_)); exact rfl) | (with_reducible refine c_split (fun _ => ?_) (fun _ => ?_)))
    exact ret_same (h 0 (by omega) (by omega))
  | cons z0 zt =>
    have hn0 : 0 < n := by rw [← hr.len, hz]; simp
    have hmx := hr.max
    have hget : ∀ i : Nat, i < n → ∃ x : Int, (0 ≤ x ∧ x < 256) ∧ (H.set b (rk A n c (p + 1))).cell (adr A i) = some (.int .u8 x) := by
      intro i hi
      have hi' : i < zs.length := by rw [hr.len]; exact hi
      exact ⟨zs[i], hr.rng _ (List.getElem_mem hi'), (hr.fl.fresh hr.new _) i _ (by simp [u8s, hi'])⟩
    have hA : A.isSome = true := (hr.fl.is (i := 0) (by rw [u8s_len, hr.len]; exact hn0))
    have g0 : (((n : Nat) : Int) == 0) = false := by simp; omega
    by_cases hp : p < n
    · have g1 : decide (p < (n : Int)) = true := by simp; omega
      obtain ⟨q, rfl⟩ : ∃ q : Nat, p = q := ⟨p.toNat, by omega⟩
      obtain ⟨x, ⟨hx0, hx1⟩, hx⟩ := hget q (by omega)
      have g2 := rng (k := q) (n := n) (by omega)
      have g3 : ¬ k = 0 := by omega
      refine acalls_of_sx mix Try.func48 of48 (by simp [ir48]) ?_; rw [ir48]; (try delta qT qI qC qO qM qG)
      repeat' (first | simp -implicitDefEqProofs only [zG1,zG2,zG3,zG4,zG5,zG6,zG7,eq_self,resV,rval,X.val,binv,fillL,setR,↓reduceIte,Nat.reduceEqDiff,Nat.reduceAdd,Nat.reduceMul,Nat.reduceLeDiff,Nat.reduceLT,Nat.reduceSub,reduceCtorEq,zGr, rk_cells, rk_own, rk_mk, e1, e2, e3, g0, g1, g2, g3, hA, hx, Nat.mul_one] | ((with_reducible refine rows_intro (fun _ hb => ?_)); try simp only [set_none, ne_eq] at hb) | ((with_reducible refine new_intro (fun _ hb => ?_)); try simp only [set_none, ne_eq] at hb) | (with_reducible refine draw_same ?_) | ((with_reducible refine gd_split ?_ (fun _ => ?_) (fun _ => ?_)); exact rfl) | ((with_reducible refine td_split ?_ (fun _ => ?_) (fun _ => ?_)); exact rfl) | (with_reducible refine c_split (fun _ => ?_) (fun _ => ?_)))
      obtain ⟨t0, t1⟩ := tmod_in (a := IntKind.i64.wrap x) (k := k) (by rw [wrap_i64 (by omega) (by omega)]; exact hx0) hk
      exact ret_same (h _ t0 t1)
    · have g1 : decide (p < (n : Int)) = false := by simp; omega
      have e4 : IntKind.i64.wrap (p * 7) = p * 7 := wrap_i64 (by omega) (by omega)
      have e5 : IntKind.i64.wrap (p * 7 + 3) = p * 7 + 3 := wrap_i64 (by omega) (by omega)
      obtain ⟨i1, i1'⟩ := tmod_in (a := p) (k := (n : Int)) h0 (by omega)
      obtain ⟨i2, i2'⟩ := tmod_in (a := p * 7 + 3) (k := (n : Int)) (by omega) (by omega)
      obtain ⟨j1, hj1⟩ : ∃ j : Nat, p.tmod n = j := ⟨(p.tmod n).toNat, by omega⟩
      obtain ⟨j2, hj2⟩ : ∃ j : Nat, (p * 7 + 3).tmod n = j := ⟨((p * 7 + 3).tmod n).toNat, by omega⟩
      obtain ⟨x, ⟨hx0, hx1⟩, hx⟩ := hget j1 (by omega)
      obtain ⟨y, ⟨hy0, hy1⟩, hy⟩ := hget j2 (by omega)
      have g2 := rng (k := j1) (n := n) (by omega)
      have g3 := rng (k := j2) (n := n) (by omega)
      have g4 : ¬ k = 0 := by omega
      have g5 : ¬ ((n : Nat) : Int) = 0 := by omega
      have g6 : ¬ (64 : Int) = 0 := by decide
      obtain ⟨d0, d1⟩ : 0 ≤ p.tdiv n ∧ p.tdiv n ≤ p := ⟨Int.tdiv_nonneg h0 (by omega), by rw [Int.tdiv_eq_ediv_of_nonneg h0]; exact Int.ediv_le_self _ h0⟩
      have r1 : IntKind.i64.wrap x = x := wrap_i64 (by omega) (by omega)
      have r2 : IntKind.i64.wrap y = y := wrap_i64 (by omega) (by omega)
      have r3 : IntKind.i64.wrap (p.tdiv n) = p.tdiv n := wrap_i64 (by omega) (by omega)
      have r4 : IntKind.i64.wrap (x * 131) = x * 131 := wrap_i64 (by omega) (by omega)
      have r5 : IntKind.i64.wrap (y * 1117) = y * 1117 := wrap_i64 (by omega) (by omega)
      have r6 : IntKind.i64.wrap (x * 131 + y * 1117) = x * 131 + y * 1117 := wrap_i64 (by omega) (by omega)
      have r7 : IntKind.i64.wrap (p * 29) = p * 29 := wrap_i64 (by omega) (by omega)
      have r8 : IntKind.i64.wrap (x * 131 + y * 1117 + p * 29) = x * 131 + y * 1117 + p * 29 := wrap_i64 (by omega) (by omega)
      have r9 : IntKind.i64.wrap (p.tdiv n * 53) = p.tdiv n * 53 := wrap_i64 (by omega) (by omega)
      have r10 : IntKind.i64.wrap (x * 131 + y * 1117 + p * 29 + p.tdiv n * 53) = x * 131 + y * 1117 + p * 29 + p.tdiv n * 53 := wrap_i64 (by omega) (by omega)
      refine acalls_of_sx mix Try.func48 of48 (by simp [ir48]) ?_; rw [ir48]; (try delta qT qI qC qO qM qG)
      repeat' (first | simp -implicitDefEqProofs only [zG1,zG2,zG3,zG4,zG5,zG6,zG7,eq_self,resV,rval,X.val,binv,fillL,setR,↓reduceIte,Nat.reduceEqDiff,Nat.reduceAdd,Nat.reduceMul,Nat.reduceLeDiff,Nat.reduceLT,Nat.reduceSub,reduceCtorEq,zGr, rk_cells, rk_own, rk_mk, e1, e2, e3, e4, e5, g0, g1, g2, g3, g4, g5, g6, hj1, hj2, hA, hx, hy, Nat.mul_one, r1, r2, r3, r4, r5, r6, r7, r8, r9, r10] | ((with_reducible refine rows_intro (fun _ hb => ?_)); try simp only [set_none, ne_eq] at hb) | ((with_reducible refine new_intro (fun _ hb => ?_)); try simp only [set_none, ne_eq] at hb) | (with_reducible refine draw_same ?_) | ((with_reducible refine gd_split ?_ (fun _ => ?_) (fun _ => ?_)); exact rfl) | ((with_reducible refine td_split ?_ (fun _ => ?_) (fun _ => ?_)); exact rfl) | (with_reducible refine c_split (fun _ => ?_) (fun _ => ?_)))
      have hX : 0 ≤ x * 131 + y * 1117 + p * 29 + p.tdiv n * 53 := by omega
      have hX' : x * 131 + y * 1117 + p * 29 + p.tdiv n * 53 < 9223372036854775808 := by omega
      generalize x * 131 + y * 1117 + p * 29 + p.tdiv n * 53 = X at hX hX' ⊢
      obtain ⟨q0, q1⟩ : 0 ≤ X.tdiv 64 ∧ X.tdiv 64 ≤ X := ⟨Int.tdiv_nonneg hX (by omega), by rw [Int.tdiv_eq_ediv_of_nonneg hX]; exact Int.ediv_le_self _ hX⟩
      obtain ⟨t0, t1⟩ := tmod_in (a := bits .xor .i64 X (IntKind.i64.wrap (X.tdiv 64))) (k := k) (by rw [wrap_i64 (by omega) (by omega)]; exact xor_nonneg hX hX' q0 (by omega)) hk
      exact ret_same (h _ t0 t1)
end Go.Proofs.Ytjhedgoafkabiaa
namespace Go.Proofs.Ytjhedgoafkabiaa
set_option linter.all false
open Go Go.RowKit
set_option maxRecDepth 100000
variable (w0 : World) (H : AHeap) (K : Value → AHeap → Prop) (A : Option Addr) (n c : Nat) (zs : List Int) (b : Nat) (p : Int)
theorem op_ok (hr : Rdr H A n zs b) (h0 : 0 ≤ p) (h1 : p ≤ 1099511627776) (h : ∀ v, 1 ≤ v → v ≤ 12 → K (.int .i64 v) (H.set b (rk A n c (p + 1)))) :
    ACalls Try.prog w0 84 [.pointer (some ⟨b, 0, none⟩)] (H.set b (rk A n c p)) K := by
  refine acalls_of_sx mix Try.func84 of84 (by simp [ir84]) ?_; rw [ir84]; (try delta qT qI qC qO qM qG)
  repeat' (first | simp -implicitDefEqProofs only [zG1,zG2,zG3,zG4,zG5,zG6,zG7,eq_self,resV,rval,X.val,binv,fillL,setR,↓reduceIte,Nat.reduceEqDiff,Nat.reduceAdd,Nat.reduceMul,Nat.reduceLeDiff,Nat.reduceLT,Nat.reduceSub,reduceCtorEq,zGr] | ((with_reducible refine rows_intro (fun _ hb => ?_)); try simp only [set_none, ne_eq] at hb) | ((with_reducible refine new_intro (fun _ hb => ?_)); try simp only [set_none, ne_eq] at hb) | (with_reducible refine draw_same ?_) | ((with_reducible refine gd_split ?_ (fun _ => ?_) (fun _ => ?_)); exact rfl) | ((with_reducible refine td_split ?_ (fun _ => ?_) (fun _ => ?_)); exact rfl) | (with_reducible refine c_split (fun _ => ?_) (fun _ => ?_)) | (with_reducible refine pick_ok _ _ _ A n c zs b p _ hr h0 h1 (by decide) (fun v hv0 hv1 => ?_)))
  exact ret_same (h _ (by rw [wrap_i64 (by omega) (by omega)]; omega) (by rw [wrap_i64 (by omega) (by omega)]; omega))
end Go.Proofs.Ytjhedgoafkabiaa
namespace Go.Proofs.Ytjhedgoafkabiaa
set_option linter.all false
open Go Go.RowKit
open Classical in
/-- The heap without some blocks. -/
noncomputable def AHeap.no (H : AHeap) (B : Nat → Prop) : AHeap := fun x => if B x then none else H x
theorem no_le (H : AHeap) (B : Nat → Prop) : AHeap.le (H.no B) H := fun x k hx => by
  simp only [AHeap.no] at hx
  split at hx
  · cases hx
  · exact ⟨k, hx, rfl, rfl, rfl, fun _ _ h => h⟩
theorem no_in {H : AHeap} {B : Nat → Prop} {x : Nat} (h : B x) : H.no B x = none := by simp [AHeap.no, h]
theorem no_out {H : AHeap} {B : Nat → Prop} {x : Nat} (h : ¬ B x) : H.no B x = H x := by simp [AHeap.no, h]
theorem le_no {A H : AHeap} {B : Nat → Prop} (hl : AHeap.le A H) (hB : ∀ x, B x → A x = none) : AHeap.le A (H.no B) := fun x k hx => by
  obtain ⟨k', hk', r⟩ := hl x k hx
  have : ¬ B x := fun h => by rw [hB x h] at hx; cases hx
  exact ⟨k', by rw [no_out this]; exact hk', r⟩
theorem no_mono {A H : AHeap} {B : Nat → Prop} (hl : AHeap.le A H) : AHeap.le (A.no B) (H.no B) := le_no ((no_le _ _).trans hl) fun _ hx => no_in hx
theorem Own.no {A H : AHeap} {t : TypeId} {s : Nat} {v : Value} {n : Nat} {xs : List Value} {B : Nat → Prop} (h : Own A t s v n xs H) (hB : ∀ x, B x → A x ≠ none) : Own (A.no B) t s v n xs (H.no B) := by
  rcases h with ⟨rfl, rfl, rfl, rfl⟩ | ⟨b, cap, rfl, hb, hn, hc, hl, rfl⟩
  · exact .inl ⟨rfl, rfl, rfl, rfl⟩
  · have hb' : ¬ B b := fun h => hB b h hb
    refine .inr ⟨b, cap, rfl, by rw [no_out hb']; exact hb, hn, hc, hl, ?_⟩
    funext x
    by_cases hx : x = b
    · subst hx; rw [no_out hb', set_same, set_same]
    · rw [set_ne hx]
      by_cases hBx : B x
      · rw [no_in hBx, no_in hBx]
      · rw [no_out hBx, no_out hBx, set_ne hx]
theorem Own.cut {A H H' : AHeap} {t : TypeId} {s : Nat} {v : Value} {n : Nat} {xs : List Value} (h : Own A t s v n xs H) (hl : AHeap.le H H') :
    ∃ (P : Nat → Prop) (H'' : AHeap), (∀ x, P x → A x = none ∧ H x ≠ none) ∧ AHeap.le H'' H' ∧ Own (H'.no P) t s v n xs H'' := by
  rcases h with ⟨rfl, rfl, rfl, rfl⟩ | ⟨b, cap, rfl, hb, hn, hc, hlen, rfl⟩
  · refine ⟨fun _ => False, H'.no fun _ => False, fun x h => h.elim, no_le _ _, .inl ⟨rfl, rfl, rfl, rfl⟩⟩
  · refine ⟨fun x => x = b, (H'.no fun x => x = b).set b ⟨xs, true, t, cap * s⟩, fun x hx => ⟨by rw [hx]; exact hb, by rw [hx, set_same]; simp⟩, fun x k hx => ?_, .inr ⟨b, cap, rfl, no_in rfl, hn, hc, hlen, rfl⟩⟩
    by_cases hxb : x = b
    · subst hxb
      rw [set_same] at hx
      obtain rfl := Option.some.inj hx
      exact hl x _ (set_same _ _ _)
    · rw [set_ne hxb, no_out (B := fun x => x = b) hxb] at hx
      exact ⟨k, hx, rfl, rfl, rfl, fun _ _ h => h⟩
theorem ACalls.mono {P : Program} {w0 : World} {f : Nat} {args : List Value} {H H' : AHeap} {K : Value → AHeap → Prop} (h : ACalls P w0 f args H' K) (hl : AHeap.le H' H) : ACalls P w0 f args H K :=
  ⟨h.1, fun w hs => h.2 w (hs.mono hl)⟩
end Go.Proofs.Ytjhedgoafkabiaa
namespace Go.Proofs.Ytjhedgoafkabiaa
set_option linter.all false
open Go Go.RowKit
/-- C knows at block b at least what k says. -/
def Kn (C : AHeap) (b : Nat) (k : Blk) : Prop := ∃ k' : Blk, C b = some k' ∧ k'.own = k.own ∧ k'.ty = k.ty ∧ k'.cap = k.cap ∧ ∀ (j : Nat) (v : Value), k.cells[j]? = some v → k'.cells[j]? = some v
/-- C' knows what C knew, but for the blocks bs. -/
def Chg (C C' : AHeap) (bs : List Nat) : Prop := ∀ (b : Nat) (k : Blk), ¬ b ∈ bs → C b = some k → Kn C' b k
/-- v is a slice of n elements of the call's own, in the blocks bs (one, or none). -/
def Rw (C : AHeap) (t : TypeId) (sz : Nat) (v : Value) (n : Nat) (xs : List Value) (bs : List Nat) : Prop :=
  (v = .slice none 0 0 ∧ n = 0 ∧ xs = [] ∧ bs = []) ∨
  ∃ b cap, v = .slice (some ⟨b, 0, none⟩) n cap ∧ bs = [b] ∧ n ≤ cap ∧ cap ≤ maxLen ∧ xs.length = n * sz ∧ Kn C b ⟨xs, true, t, cap * sz⟩
/-- None of these blocks is known. -/
def New (H : AHeap) (bs : List Nat) : Prop := ∀ b, b ∈ bs → H b = none
section
variable {C C' C'' H : AHeap} {b b' : Nat} {k k' : Blk} {bs bs' : List Nat}
theorem Kn.of (h : C b = some k) : Kn C b k := ⟨k, h, rfl, rfl, rfl, fun _ _ h => h⟩
theorem Kn.trans (h : Kn C b k) (hl : AHeap.le C C') : Kn C' b k := by
  obtain ⟨k1, h1, o1, t1, c1, r1⟩ := h
  obtain ⟨k2, h2, o2, t2, c2, r2⟩ := hl b k1 h1
  exact ⟨k2, h2, o2.trans o1, t2.trans t1, c2.trans c1, fun j v hv => r2 j v (r1 j v hv)⟩
theorem Kn.ne (h : Kn C b k) : C b ≠ none := by obtain ⟨k', h', _⟩ := h; rw [h']; simp
theorem Kn.ne_new (h : Kn C b k) (hb : C b' = none) : ¬ b = b' := by rintro rfl; exact h.ne hb
theorem Kn.chg (h : Kn C b k) (hc : Chg C C' bs) (hb : ¬ b ∈ bs) : Kn C' b k := by
  obtain ⟨k1, h1, o1, t1, c1, r1⟩ := h
  obtain ⟨k2, h2, o2, t2, c2, r2⟩ := hc b k1 hb h1
  exact ⟨k2, h2, o2.trans o1, t2.trans t1, c2.trans c1, fun j v hv => r2 j v (r1 j v hv)⟩
theorem Kn.same (C : AHeap) (b : Nat) (k : Blk) : Kn (C.set b k) b k := .of (set_same _ _ _)
theorem Kn.set (h : Kn C b k) (hb : ¬ b = b') (k' : Blk) : Kn (C.set b' k') b k := by
  obtain ⟨k1, h1, r⟩ := h
  exact ⟨k1, by rw [set_ne hb]; exact h1, r⟩
theorem Kn.fresh (h : Kn C b k) (hb : C b' = none) (k' : Blk) : Kn (C.set b' k') b k := h.set (h.ne_new hb) k'
theorem Kn.cell (h : Kn C b k) {j : Nat} {v : Value} (hv : k.cells[j]? = some v) : C.cell (some ⟨b, j, none⟩) = some v := by
  obtain ⟨k1, h1, _, _, _, r⟩ := h
  rw [cell_blk h1]; exact r j v hv
theorem Kn.fl (h : Kn C b k) {vs : List Value} (hv : ∀ (j : Nat) (v : Value), vs[j]? = some v → k.cells[j]? = some v) : Fl C (some ⟨b, 0, none⟩) vs := fun j v hj => by
  rw [adr_lit, Nat.zero_add]; exact h.cell (hv j v hj)
theorem Kn.weaken (h : Kn C b k) {xs : List Value} (hx : ∀ (j : Nat) (v : Value), xs[j]? = some v → k.cells[j]? = some v) : Kn C b ⟨xs, k.own, k.ty, k.cap⟩ := by
  obtain ⟨k1, h1, o1, t1, c1, r1⟩ := h
  exact ⟨k1, h1, o1, t1, c1, fun j v hv => r1 j v (hx j v hv)⟩
theorem Chg.of_le (h : AHeap.le C C') : Chg C C' bs := fun b k _ hk => h b k hk
theorem Chg.le (h : Chg C C' []) : AHeap.le C C' := fun b k hk => h b k (by simp) hk
theorem Chg.refl (C : AHeap) (bs : List Nat) : Chg C C bs := .of_le (.refl C)
theorem Chg.mono (h : Chg C C' bs) (hs : ∀ b, b ∈ bs → b ∈ bs') : Chg C C' bs' := fun b k hb hk => h b k (fun hm => hb (hs b hm)) hk
theorem Chg.trans (h : Chg C C' bs) (h' : Chg C' C'' bs) : Chg C C'' bs := fun b k hb hk => (h b k hb hk).chg h' hb
theorem Chg.then_le (h : Chg C C' bs) (h' : AHeap.le C' C'') : Chg C C'' bs := fun b k hb hk => (h b k hb hk).trans h'
theorem Chg.after (h : AHeap.le C C') (h' : Chg C' C'' bs) : Chg C C'' bs := fun b k hb hk => Kn.chg (h b k hk) h' hb
/-- What stood before the blocks were made still stands. -/
theorem Chg.keep (hl : AHeap.le H C) (hc : Chg C C' bs) (hn : New H bs) : AHeap.le H C' := fun b k hk => Kn.chg (hl b k hk) hc fun hb => by rw [hn b hb] at hk; cases hk
theorem Chg.set (h : Chg C C' bs) (hb : b ∈ bs) (k : Blk) : Chg C (C'.set b k) bs := fun b' k' hb' hk' => (h b' k' hb' hk').set (fun e => hb' (e ▸ hb)) k
theorem Chg.fresh (h : Chg C C' bs) (hb : C' b = none) (k : Blk) : Chg C (C'.set b k) bs := fun b' k' hb' hk' => (h b' k' hb' hk').fresh hb k
theorem New.le (h : New C bs) (hl : AHeap.le H C) : New H bs := fun b hb => hl.none (h b hb)
theorem New.nil (H : AHeap) : New H [] := fun b hb => by cases hb
theorem New.one (h : H b = none) : New H [b] := fun x hx => by simp at hx; subst hx; exact h
theorem New.app (h : New H bs) (h' : New H bs') : New H (bs ++ bs') := fun b hb => (List.mem_append.1 hb).elim (h b) (h' b)
variable {t : TypeId} {sz n : Nat} {v : Value} {xs : List Value}
theorem Rw.trans (h : Rw C t sz v n xs bs) (hl : AHeap.le C C') : Rw C' t sz v n xs bs := by
  rcases h with h | ⟨b, cap, h1, h2, h3, h4, h5, h6⟩
  · exact .inl h
  · exact .inr ⟨b, cap, h1, h2, h3, h4, h5, h6.trans hl⟩
theorem Rw.chg (h : Rw C t sz v n xs bs) (hc : Chg C C' bs') (hd : ∀ b, b ∈ bs → ¬ b ∈ bs') : Rw C' t sz v n xs bs := by
  rcases h with h | ⟨b, cap, h1, rfl, h3, h4, h5, h6⟩
  · exact .inl h
  · exact .inr ⟨b, cap, h1, rfl, h3, h4, h5, h6.chg hc (hd b (by simp))⟩
theorem Rw.fl (h : Rw C t sz v n xs bs) : ∃ A c, v = .slice A n c ∧ Fl C A xs := by
  rcases h with ⟨rfl, rfl, rfl, rfl⟩ | ⟨b, cap, rfl, h2, h3, h4, h5, h6⟩
  · exact ⟨_, _, rfl, Fl.nil _ _⟩
  · exact ⟨_, _, rfl, h6.fl fun _ _ h => h⟩
theorem Rw.fl' {A : Option Addr} {n' c : Nat} (h : Rw C t sz (.slice A n' c) n xs bs) : Fl C A xs ∧ n' = n := by
  obtain ⟨A', c', e, hf⟩ := h.fl
  simp only [Value.slice.injEq] at e
  obtain ⟨rfl, rfl, rfl⟩ := e
  exact ⟨hf, rfl⟩
theorem Rw.len (h : Rw C t sz v n xs bs) : xs.length = n * sz := by
  rcases h with ⟨rfl, rfl, rfl, rfl⟩ | ⟨b, cap, rfl, h2, h3, h4, h5, h6⟩
  · simp
  · exact h5
theorem Rw.bound (h : Rw C t sz v n xs bs) : n ≤ maxLen := by
  rcases h with ⟨rfl, rfl, rfl, rfl⟩ | ⟨b, cap, rfl, h2, h3, h4, h5, h6⟩
  · exact Nat.zero_le _
  · omega
theorem Rw.open_ (h : Rw C t sz v n xs bs) (hn : 0 < n) : ∃ b cap, v = .slice (some ⟨b, 0, none⟩) n cap ∧ bs = [b] ∧ n ≤ cap ∧ cap ≤ maxLen ∧ xs.length = n * sz ∧ Kn C b ⟨xs, true, t, cap * sz⟩ := by
  rcases h with ⟨rfl, rfl, rfl, rfl⟩ | h
  · cases hn
  · exact h
theorem Rw.mk {b cap : Nat} (h : Kn C b ⟨xs, true, t, cap * sz⟩) (hl : xs.length = n * sz) (hn : n ≤ cap) (hc : cap ≤ maxLen) : Rw C t sz (.slice (some ⟨b, 0, none⟩) n cap) n xs [b] := .inr ⟨b, cap, rfl, rfl, hn, hc, hl, h⟩
theorem Rw.nil_ (C : AHeap) (t : TypeId) (sz : Nat) : Rw C t sz (.slice none 0 0) 0 [] [] := .inl ⟨rfl, rfl, rfl, rfl⟩
theorem Own.rw_ {A : AHeap} (h : Own A t sz v n xs C) : AHeap.le A C ∧ ∃ bs, New A bs ∧ Rw C t sz v n xs bs := by
  refine ⟨h.le, ?_⟩
  rcases h with ⟨rfl, rfl, rfl, rfl⟩ | ⟨b, cap, rfl, hb, hn, hc, hl, rfl⟩
  · exact ⟨[], New.nil _, .inl ⟨rfl, rfl, rfl, rfl⟩⟩
  · exact ⟨[b], New.one hb, .inr ⟨b, cap, rfl, rfl, hn, hc, hl, Kn.same _ _ _⟩⟩
/-- The row, cut out of what the heap knows: for contracts that ask for a row alone. -/
theorem Rw.own_ (h : Rw C t sz v n xs bs) : ∃ A B, AHeap.le B C ∧ Own A t sz v n xs B ∧ ∀ b, b ∈ bs ∨ A b = C b := by
  rcases h with ⟨rfl, rfl, rfl, rfl⟩ | ⟨b, cap, rfl, rfl, hn, hc, hl, hk⟩
  · exact ⟨C, C, .refl _, .inl ⟨rfl, rfl, rfl, rfl⟩, fun _ => .inr rfl⟩
  · refine ⟨C.del b, (C.del b).set b ⟨xs, true, t, cap * sz⟩, fun x k' hx => ?_, .inr ⟨b, cap, rfl, by simp [AHeap.del], hn, hc, hl, rfl⟩, fun x => ?_⟩
    · by_cases hxb : x = b
      · subst hxb; rw [set_same] at hx; obtain rfl := Option.some.inj hx; exact hk
      · rw [set_ne hxb] at hx; simp only [AHeap.del, if_neg hxb] at hx; exact Kn.of hx
    · by_cases hxb : x = b
      · exact .inl (by simp [hxb])
      · exact .inr (by simp [AHeap.del, hxb])
/-- A contract that changes a row in place. -/
theorem Rw.put {A B : AHeap} {n' : Nat} {xs' : List Value} (ho : Own A t sz v n xs B) (hA : ∀ b, b ∈ bs ∨ A b = C b) (hr : Rw C t sz v n xs bs) (hn : n' = n) (h : Own A t sz v n' xs' C') : Chg C C' bs ∧ Rw C' t sz v n' xs' bs := by
  subst hn
  refine ⟨fun b k hb hk => ?_, ?_⟩
  · have : A b = some k := ((hA b).resolve_left hb).trans hk
    exact h.le b k this
  · rcases hr with ⟨rfl, rfl, rfl, rfl⟩ | ⟨b, cap, rfl, rfl, hn, hc, hl, hk⟩
    · rcases h with ⟨_, _, rfl, rfl⟩ | ⟨b', cap', e, _⟩
      · exact .inl ⟨rfl, rfl, rfl, rfl⟩
      · cases e
    · rcases h with ⟨e, _⟩ | ⟨b', cap', e, hb, hn', hc', hl', rfl⟩
      · cases e
      · simp only [Value.slice.injEq, Option.some.injEq, Addr.mk.injEq] at e
        obtain ⟨⟨rfl, _⟩, _, rfl⟩ := e
        exact .inr ⟨b, cap, rfl, rfl, hn', hc', hl', Kn.same _ _ _⟩
end
theorem New.off {C C' : AHeap} {t : TypeId} {sz : Nat} {v : Value} {n : Nat} {xs : List Value} {bs bs' : List Nat} (h : New C bs) (hr : Rw C t sz v n xs bs') : ∀ b, b ∈ bs' → ¬ b ∈ bs := fun b hb hm => by
  rcases hr with ⟨_, _, _, rfl⟩ | ⟨b', cap, _, rfl, _, _, _, hk⟩
  · cases hb
  · simp at hb; subst hb; exact hk.ne (h _ hm)
theorem rw_of {H : AHeap} {t : TypeId} {sz : Nat} {n : Nat} {xs : List Value} {K : Value → AHeap → Prop} (h : ∀ v C bs, AHeap.le H C → New H bs → Rw C t sz v n xs bs → K v C) : ∀ v H', Own H t sz v n xs H' → K v H' := fun v H' o => by
  obtain ⟨l, bs, hn, hr⟩ := o.rw_
  exact h v H' bs l hn hr
section
variable {P : Program} {w0 : World} {K : Value → AHeap → Prop} {C H : AHeap} {b o n m xc cap bytes : Nat} {k : Blk} {v x : Value} {xs news : List Value} {bs : List Nat} {t : TypeId} {z : List Value}
theorem getElem?_setR : ∀ (vs cs : List Value) (o j : Nat), o + vs.length ≤ cs.length → (setR cs o vs)[j]? = if o ≤ j ∧ j < o + vs.length then vs[j - o]? else cs[j]?
  | [], cs, o, j, _ => by simp only [setR, List.length_nil, Nat.add_zero]; rw [if_neg (by omega)]
  | v :: r, cs, o, j, h => by
    simp only [List.length_cons] at h
    simp only [setR]
    rw [getElem?_setR r _ _ _ (by simp; omega)]
    simp only [List.length_cons, List.getElem?_set]
    by_cases hj : j = o
    · subst hj
      rw [if_neg (by omega), if_pos rfl, if_pos (by omega), if_pos (by omega), Nat.sub_self]; rfl
    · by_cases hlt : o + 1 ≤ j ∧ j < o + 1 + r.length
      · rw [if_pos hlt, if_pos (by omega), show j - o = (j - (o + 1)) + 1 by omega, List.getElem?_cons_succ]
      · rw [if_neg hlt, if_neg (fun e => hj e.symm), if_neg (by omega)]
theorem set_mid {H : AHeap} {b b' : Nat} {k k' k2 : Blk} (h : ¬ b' = b) : ((H.set b k).set b' k2).set b k' = (H.set b k').set b' k2 := by
  rw [set_comm (H := H) (b := b) (b' := b') (fun e => h e.symm), set_set, set_comm h]
theorem Chg.no {C : AHeap} {bs : List Nat} : Chg C (C.no fun b => b ∈ bs) bs := fun b k hb hk => Kn.of (by rw [no_out hb]; exact hk)
theorem Chg.le_no {C C' : AHeap} {bs : List Nat} (h : Chg C C' bs) : AHeap.le (C.no fun b => b ∈ bs) C' := fun b k hk => by
  by_cases hb : b ∈ bs
  · rw [no_in hb] at hk; cases hk
  · rw [no_out hb] at hk; exact h b k hb hk
/-- A store into a block of the call's own. -/
theorem st_kn (h : Kn C b k) (ho : k.own = true) (hs : v.cells.size = n) (hl : o + n ≤ k.cells.length) (h1 : ∀ u ∈ v.cells.toList, u.oneCell' = true)
    (hK : ∀ C', Chg C C' [b] → (∀ x, ¬ x = b → C' x = C x) → Kn C' b ⟨setR k.cells o v.cells.toList, true, k.ty, k.cap⟩ → K undef C') : stK n (.pointer (some ⟨b, o, none⟩)) v K C := by
  obtain ⟨k1, e1, o1, t1, c1, r1⟩ := h
  have hlen : k.cells.length ≤ k1.cells.length := by
    rcases Nat.lt_or_ge k1.cells.length k.cells.length with hlt | hge
    · have := r1 k1.cells.length _ (List.getElem?_eq_getElem hlt)
      rw [List.getElem?_eq_none (Nat.le_refl _)] at this; cases this
    · exact hge
  refine ⟨rfl, k1, e1, o1.trans ho, hs, Nat.le_trans hl hlen, h1, hK _ (fun x k' hx hk => ?_) (fun x hx => by rw [set_ne hx]) ⟨_, set_same _ _ _, o1.trans ho, t1, c1, fun j u hu => ?_⟩⟩
  · have : ¬ x = b := by simpa using hx
    exact Kn.of (by rw [set_ne this]; exact hk)
  · have hsz : v.cells.toList.length = n := by simpa using hs
    simp only at hu ⊢
    rw [getElem?_setR _ _ _ _ (by omega)] at hu ⊢
    split
    · rename_i hj; rw [if_pos hj] at hu; exact hu
    · rename_i hj; rw [if_neg hj] at hu; exact r1 j u hu
/-- A store into a block that is known in full. -/
theorem st_known {v : Value} {K : Value → AHeap → Prop} {H : AHeap} (h : (H b).isSome = true) : stK n (.pointer (some ⟨b, o, none⟩)) v K H = ∃ k, H b = some k ∧ k.own = true ∧ v.cells.size = n ∧ o + n ≤ k.cells.length ∧ (∀ u ∈ v.cells.toList, u.oneCell' = true) ∧
    K undef (H.set b ⟨setR k.cells o v.cells.toList, k.own, k.ty, k.cap⟩) := st_eq
/-- An append to a row of the call's own. -/
theorem app_rw (hr : Rw C t z.length v n xs bs) {xa : Option Addr} (hn : Fl C xa news) (hl : news.length = m * z.length) (h1 : ∀ u ∈ news, u.oneCell' = true) (hm : n + m ≤ maxLen) (hB : (n + m) * bytes ≤ 140737488355328)
    (hK : ∀ v' C' bs', Chg C C' bs → (∀ b, b ∈ bs' → b ∈ bs ∨ C b = none) → Rw C' t z.length v' (n + m) (xs ++ news) bs' → K v' C') : appK P w0 z t bytes v (.slice xa m xc) K C := by
  rcases hr with ⟨rfl, rfl, rfl, rfl⟩ | ⟨b, cap, rfl, rfl, hnc, hc, hlen, hk⟩
  · refine .inr ⟨[], C, news, .inl (.inl ⟨rfl, rfl, rfl, rfl⟩), hl, hn, h1, hm, hB, fun v' C' ho => ?_⟩
    obtain ⟨l, bs', hb, hr⟩ := ho.rw_
    exact hK v' C' bs' (.of_le l) (fun b hb' => .inr (hb b hb')) hr
  · obtain ⟨k1, e1, o1, t1, c1, r1⟩ := hk
    have hlen' : n * z.length ≤ k1.cells.length := by
      rcases Nat.eq_zero_or_pos (n * z.length) with h0 | h0
      · omega
      · have := r1 (n * z.length - 1) _ (List.getElem?_eq_getElem (by simp only; omega))
        have := (List.getElem?_eq_some_iff.1 this).1
        omega
    refine .inr ⟨xs, C.del b, news, .inl (.inr ⟨b, cap, k1, rfl, e1, o1, t1, c1, hnc, hc, hlen', ?_, rfl⟩), hl, hn, h1, hm, hB, fun v' C' ho => ?_⟩
    · apply List.ext_getElem?
      intro j
      rw [List.getElem?_take]
      split
      · rename_i hj
        rw [List.getElem?_eq_getElem (by omega)]
        exact (r1 j _ (List.getElem?_eq_getElem (by simp only; omega))).symm
      · rw [List.getElem?_eq_none (by omega)]
    · obtain ⟨l, bs', hb, hr⟩ := ho.rw_
      refine hK v' C' bs' (fun x k' hx hk' => ?_) (fun x hx => ?_) hr
      · have : ¬ x = b := by simpa using hx
        exact l x k' (by simp only [AHeap.del, if_neg this]; exact hk')
      · have h0 := hb x hx
        by_cases hxb : x = b
        · exact .inl (by simp [hxb])
        · simp only [AHeap.del, if_neg hxb] at h0; exact .inr h0
/-- The first m elements of a row of the call's own. -/
theorem Rw.cut_ {b cap m : Nat} {sz : Nat} (h : Kn C b ⟨xs, true, t, cap * sz⟩) (hl : xs.length = n * sz) (hm : m ≤ n) : Kn C b ⟨xs.take (m * sz), true, t, cap * sz⟩ ∧ (xs.take (m * sz)).length = m * sz :=
  ⟨h.weaken (fun j v hv => by
    rw [List.getElem?_take] at hv
    split at hv
    · exact hv
    · cases hv), by rw [List.length_take, hl]; exact Nat.min_eq_left (Nat.mul_le_mul_right _ hm)⟩
theorem for_rule {fr : Fr} {c : XC} {Q : Exit → Fr → AHeap → Prop} (n : Nat) (I : Nat → Fr → AHeap → Prop) (h0 : I 0 fr H)
    (step : ∀ k fr H, k < n → I k fr H → ∀ N : Fr → AHeap → Prop, (∀ fr' H' H'', AHeap.le H'' H' → I (k + 1) fr' H'' → N fr' H') → sx P w0 c (thenK N Q) fr H)
    (done : ∀ fr H, I n fr H → ∀ N : Fr → AHeap → Prop, sx P w0 c (thenK N Q) fr H) : sx P w0 (.loop c) Q fr H := by
  refine ⟨fun m fr H => ∃ k : Nat, m = n - k ∧ k ≤ n ∧ I k fr H, n, ⟨0, rfl, Nat.zero_le _, h0⟩, ?_⟩
  rintro m fr H ⟨k, rfl, hk, hI⟩
  by_cases hlt : k < n
  · exact step k fr H hlt hI _ fun fr' H' H'' hl hI' => ⟨_, H'', by omega, hl, k + 1, rfl, by omega, hI'⟩
  · obtain rfl : k = n := by omega
    exact done fr H hI _
theorem while_rule {fr : Fr} {c : XC} {Q : Exit → Fr → AHeap → Prop} (I : Nat → Fr → AHeap → Prop) (m : Nat) (h0 : I m fr H)
    (step : ∀ m fr H, I m fr H → ∀ N : Fr → AHeap → Prop, (∀ m' fr' H' H'', m' < m → AHeap.le H'' H' → I m' fr' H'' → N fr' H') → sx P w0 c (thenK N Q) fr H) : sx P w0 (.loop c) Q fr H :=
  ⟨I, m, h0, fun m fr H hI => step m fr H hI _ fun m' fr' H' H'' hlt hl hI' => ⟨m', H'', hlt, hl, hI'⟩⟩
end
theorem zGq : (type_of% @rdn_F) ∧ (type_of% @rdnF_zero) ∧ (type_of% @rdnF_succ) ∧ (type_of% @st_known) ∧ (type_of% @cell_old) ∧ (type_of% @set_mid) := ⟨@rdn_F, @rdnF_zero, @rdnF_succ, @st_known, @cell_old, @set_mid⟩
end Go.Proofs.Ytjhedgoafkabiaa
namespace Go.Proofs.Ytjhedgoafkabiaa
set_option linter.all false
open Go Go.RowKit
theorem nat_add {a b : Nat} (h : a + b ≤ 4611686018427387904) : IntKind.i64.wrap ((a : Int) + (b : Int)) = ((a + b : Nat) : Int) := by rw [wrap_i64 (by omega) (by omega)]; omega
theorem nat_up {a : Nat} (h : a ≤ 4611686018427387904) : IntKind.i64.wrap ((a : Int) + 1) = ((a + 1 : Nat) : Int) := by rw [wrap_i64 (by omega) (by omega)]; omega
theorem nat_dn {a : Nat} (h : a ≤ 4611686018427387904) : IntKind.i64.wrap (((a + 1 : Nat) : Int) - 1) = (a : Int) := by rw [wrap_i64 (by omega) (by omega)]; omega
/-- v is a row of the call's own, over H. -/
def Row (H C : AHeap) (t : TypeId) (sz : Nat) (v : Value) (n : Nat) (xs : List Value) : Prop := ∃ bs, AHeap.le H C ∧ New H bs ∧ Rw C t sz v n xs bs
section
variable {P : Program} {w0 : World} {K : Value → AHeap → Prop} {H H' B C C' C2 : AHeap} {t : TypeId} {sz n m b : Nat} {v : Value} {xs news : List Value}
theorem Row.hle (h : Row H C t sz v n xs) : AHeap.le H C := by obtain ⟨_, l, _⟩ := h; exact l
theorem Row.le (h : Row H C t sz v n xs) (l : AHeap.le C C') : Row H C' t sz v n xs := by
  obtain ⟨bs, l0, nb, w⟩ := h
  exact ⟨bs, l0.trans l, nb, w.trans l⟩
theorem Row.base (h : Row H C t sz v n xs) (l : AHeap.le H' H) : Row H' C t sz v n xs := by
  obtain ⟨bs, l0, nb, w⟩ := h
  exact ⟨bs, l.trans l0, nb.le l, w⟩
theorem Row.fl (h : Row H C t sz v n xs) : ∃ A c, v = .slice A n c ∧ Fl C A xs := by
  obtain ⟨bs, l0, nb, w⟩ := h
  exact w.fl
theorem Row.fl' {A : Option Addr} {n' c : Nat} (h : Row H C t sz (.slice A n' c) n xs) : Fl C A xs ∧ n' = n := by
  obtain ⟨bs, l0, nb, w⟩ := h
  exact w.fl'
theorem Row.len (h : Row H C t sz v n xs) : xs.length = n * sz := by
  obtain ⟨bs, l0, nb, w⟩ := h
  exact w.len
theorem Row.nil_ (H : AHeap) (t : TypeId) (sz : Nat) : Row H H t sz (.slice none 0 0) 0 [] := ⟨[], .refl _, New.nil _, Rw.nil_ _ _ _⟩
theorem Row.lit0 (hb : H b = none) : Row H (H.set b ⟨[], true, t, 0⟩) t sz (.slice (some ⟨b, 0, none⟩) 0 0) 0 [] :=
  ⟨[b], (AHeap.le.refl H).fresh hb _, New.one hb, Rw.mk (cap := 0) (by rw [Nat.zero_mul]; exact Kn.same _ _ _) (by simp) (Nat.le_refl _) (by decide)⟩
/-- A row made by a literal. -/
theorem Row.lit (hb : H b = none) {c : Nat} (hc : c = n * sz) (hl : xs.length = n * sz) (hm : n ≤ maxLen) : Row H (H.set b ⟨xs, true, t, c⟩) t sz (.slice (some ⟨b, 0, none⟩) n n) n xs := by
  subst hc
  exact ⟨[b], (AHeap.le.refl H).fresh hb _, New.one hb, Rw.mk (Kn.same _ _ _) hl (Nat.le_refl _) hm⟩
/-- Append what can be read. -/
theorem Row.app {z : List Value} {bytes : Nat} {xa : Option Addr} {xc : Nat} (h : Row H C t z.length v n xs) (hf : Fl C xa news) (hl : news.length = m * z.length) (h1 : ∀ u ∈ news, u.oneCell' = true) (hm : n + m ≤ maxLen) (hB : (n + m) * bytes ≤ 140737488355328)
    (hK : ∀ v' C', Row H C' t z.length v' (n + m) (xs ++ news) → K v' C') : appK P w0 z t bytes v (.slice xa m xc) K C := by
  obtain ⟨bs, l, nb, w⟩ := h
  refine app_rw w hf hl h1 hm hB fun v' C' bs' hc hn hr => hK v' C' ⟨bs', hc.keep l nb, fun x hx => ?_, hr⟩
  rcases hn x hx with h | h
  · exact nb x h
  · exact l.none h
/-- Append one literal element. -/
theorem Row.app1 {z : List Value} {bytes : Nat} {xc : Nat} (h : Row H C t z.length v n xs) (hb : C b = none) {o : Bool} {t' : TypeId} {c : Nat} (hl : news.length = m * z.length) (h1 : ∀ u ∈ news, u.oneCell' = true) (hm : n + m ≤ maxLen) (hB : (n + m) * bytes ≤ 140737488355328)
    (hK : ∀ v' C', Row H C' t z.length v' (n + m) (xs ++ news) → K v' C') : appK P w0 z t bytes v (.slice (some ⟨b, 0, none⟩) m xc) K (C.set b ⟨news, o, t', c⟩) :=
  (h.le ((AHeap.le.refl C).fresh hb _)).app (Fl.blk _ _ _ _ fun _ _ h => h) hl h1 hm hB hK
/-- The row, over all else that is known behind it. -/
theorem Row.cut (h : Row H C t sz v n xs) (l : AHeap.le C C2) : ∃ B, AHeap.le H B ∧ AHeap.le B C2 ∧ Row B C2 t sz v n xs ∧ ∀ (t2 : TypeId) (sz2 : Nat) (v2 : Value) (n2 : Nat) (xs2 : List Value), Row C C2 t2 sz2 v2 n2 xs2 → Row H B t2 sz2 v2 n2 xs2 := by
  obtain ⟨bs, l0, nb, w⟩ := h
  have hB := le_no (B := fun b => b ∈ bs) (l0.trans l) nb
  refine ⟨C2.no fun b => b ∈ bs, hB, no_le _ _, ⟨bs, no_le _ _, fun x hx => no_in hx, w.trans l⟩, fun t2 sz2 v2 n2 xs2 h2 => ?_⟩
  obtain ⟨bs2, l2, nb2, w2⟩ := h2
  refine ⟨bs2, hB, nb2.le l0, w2.chg Chg.no fun x hx hm => ?_⟩
  rcases w with ⟨_, _, _, rfl⟩ | ⟨b', cap, _, rfl, _, _, _, hk⟩
  · cases hm
  · simp only [List.mem_cons, List.not_mem_nil, or_false] at hm
    subst hm
    exact hk.ne (nb2 _ hx)
end
end Go.Proofs.Ytjhedgoafkabiaa
namespace Go.Proofs.Ytjhedgoafkabiaa
set_option linter.all false
open Go Go.RowKit
inductive Ex where
  | mk (op n : Int) (args : List Ex)
def Ex.op : Ex → Int | .mk o _ _ => o
def Ex.n : Ex → Int | .mk _ n _ => n
def Ex.args : Ex → List Ex | .mk _ _ a => a
mutual
/-- The cells of an expression, and what its slice leads to. -/
def ExV (H : AHeap) : Ex → List Value → Prop
  | .mk op n args, cs => ∃ A c, cs = [.int .i64 op, .int .i64 n, .slice A args.length c] ∧ args.length ≤ maxLen ∧ ExR H args A 0
def ExR (H : AHeap) : List Ex → Option Addr → Nat → Prop
  | [], _, _ => True
  | e :: es, A, i => (∃ v0 v1 v2, H.cell (adr A (i * 3)) = some v0 ∧ H.cell (adr A (i * 3 + 1)) = some v1 ∧ H.cell (adr A (i * 3 + 2)) = some v2 ∧ ExV H e [v0, v1, v2]) ∧ ExR H es A (i + 1)
end
/-- How many expressions lie below. -/
def Ex.cnt : Ex → Nat
  | .mk _ _ args => cntL args
where cntL : List Ex → Nat
  | [] => 0
  | e :: es => 1 + e.cnt + cntL es
mutual
theorem ExV.le {H H' : AHeap} (hl : AHeap.le H H') : ∀ {e : Ex} {cs : List Value}, ExV H e cs → ExV H' e cs
  | .mk op n args, cs, h => by
    simp only [ExV] at h ⊢
    obtain ⟨A, c, h1, h2, h3⟩ := h
    exact ⟨A, c, h1, h2, ExR.le hl h3⟩
theorem ExR.le {H H' : AHeap} (hl : AHeap.le H H') : ∀ {es : List Ex} {A : Option Addr} {i : Nat}, ExR H es A i → ExR H' es A i
  | [], _, _, _ => by simp only [ExR]
  | e :: es, A, i, h => by
    simp only [ExR] at h ⊢
    obtain ⟨⟨v0, v1, v2, h0, h1, h2, h3⟩, h4⟩ := h
    exact ⟨⟨v0, v1, v2, hl.cell h0, hl.cell h1, hl.cell h2, ExV.le hl h3⟩, ExR.le hl h4⟩
end
theorem ExR.at_ {H : AHeap} : ∀ {es : List Ex} {A : Option Addr} {i k : Nat}, ExR H es A i → (hk : k < es.length) → ∃ v0 v1 v2, H.cell (adr A ((i + k) * 3)) = some v0 ∧ H.cell (adr A ((i + k) * 3 + 1)) = some v1 ∧ H.cell (adr A ((i + k) * 3 + 2)) = some v2 ∧ ExV H es[k] [v0, v1, v2]
  | e :: es, A, i, 0, h, _ => by simp only [ExR] at h; exact h.1
  | e :: es, A, i, k + 1, h, hk => by
    simp only [ExR] at h
    have := ExR.at_ (k := k) h.2 (by simpa using hk)
    rw [show i + 1 + k = i + (k + 1) by omega] at this
    exact this
/-- The k-th argument's cells. -/
theorem ExR.arg {H : AHeap} {es : List Ex} {A : Option Addr} {k : Nat} (h : ExR H es A 0) (hk : k < es.length) :
    A.isSome = true ∧ ∃ a c, (H.cell (adr A (k * 3)) = some (.int .i64 es[k].op) ∧ H.cell (adr A (k * 3 + 1)) = some (.int .i64 es[k].n) ∧ H.cell (adr A (k * 3 + 2)) = some (.slice a es[k].args.length c)) ∧
      ExV H es[k] [.int .i64 es[k].op, .int .i64 es[k].n, .slice a es[k].args.length c] := by
  obtain ⟨v0, v1, v2, h0, h1, h2, h3⟩ := h.at_ hk
  rw [Nat.zero_add] at h0 h1 h2
  have hA : A.isSome = true := by
    cases A with
    | none => cases h0
    | some a => rfl
  generalize es[k] = e at h3 ⊢
  cases e with
  | mk op n args =>
    have h3' := h3
    simp only [ExV] at h3
    obtain ⟨a, c, h4, _, _⟩ := h3
    simp only [List.cons.injEq, and_true] at h4
    obtain ⟨rfl, rfl, rfl⟩ := h4
    exact ⟨hA, a, c, ⟨h0, h1, h2⟩, h3'⟩
theorem ExV.open_ {H : AHeap} {e : Ex} {cs : List Value} (h : ExV H e cs) : ∃ a c, cs = [.int .i64 e.op, .int .i64 e.n, .slice a e.args.length c] ∧ e.args.length ≤ maxLen ∧ ExR H e.args a 0 := by
  cases e with
  | mk op n args => simpa only [ExV, Ex.op, Ex.n, Ex.args] using h
/-- The two arguments of an operation. -/
theorem ExR.two {H : AHeap} {x y : Ex} {A : Option Addr} (h : ExR H [x, y] A 0) : ∃ a c b d, (A.isSome = true ∧ H.cell A = some (.int .i64 x.op) ∧ H.cell (adr A 1) = some (.int .i64 x.n) ∧ H.cell (adr A 2) = some (.slice a x.args.length c) ∧
    H.cell (adr A 3) = some (.int .i64 y.op) ∧ H.cell (adr A 4) = some (.int .i64 y.n) ∧ H.cell (adr A 5) = some (.slice b y.args.length d)) ∧
    ExV H x [.int .i64 x.op, .int .i64 x.n, .slice a x.args.length c] ∧ ExV H y [.int .i64 y.op, .int .i64 y.n, .slice b y.args.length d] := by
  obtain ⟨hA, a, c, ⟨h0, h1, h2⟩, h3⟩ := h.arg (k := 0) (by simp)
  obtain ⟨_, b, d, ⟨g0, g1, g2⟩, g3⟩ := h.arg (k := 1) (by simp)
  simp only [Nat.zero_mul, Nat.zero_add, adr_zero, List.getElem_cons_zero, List.getElem_cons_succ, Nat.one_mul] at h0 h1 h2 h3 g0 g1 g2 g3
  exact ⟨a, c, b, d, ⟨hA, h0, h1, h2, g0, g1, g2⟩, h3, g3⟩
theorem two_le {H H' : AHeap} (hl : AHeap.le H H') {A : Option Addr} {x0 x1 x2 x3 x4 x5 : Value} (h : A.isSome = true ∧ H.cell A = some x0 ∧ H.cell (adr A 1) = some x1 ∧ H.cell (adr A 2) = some x2 ∧ H.cell (adr A 3) = some x3 ∧ H.cell (adr A 4) = some x4 ∧ H.cell (adr A 5) = some x5) :
    A.isSome = true ∧ H'.cell A = some x0 ∧ H'.cell (adr A 1) = some x1 ∧ H'.cell (adr A 2) = some x2 ∧ H'.cell (adr A 3) = some x3 ∧ H'.cell (adr A 4) = some x4 ∧ H'.cell (adr A 5) = some x5 :=
  ⟨h.1, hl.cell h.2.1, hl.cell h.2.2.1, hl.cell h.2.2.2.1, hl.cell h.2.2.2.2.1, hl.cell h.2.2.2.2.2.1, hl.cell h.2.2.2.2.2.2⟩
def exprOk : Nat → Ex → Bool
  | 0, _ => false
  | d + 1, .mk op n args =>
    if op = 0 then decide (0 ≤ n) && decide (n ≤ 99999) && args.isEmpty
    else if op = 13 then decide (0 ≤ n) && decide (n ≤ 3) && args.isEmpty
    else decide (1 ≤ op) && decide (op ≤ 12) && n == 0 && (match args with | [x, y] => exprOk d x && exprOk d y | _ => false)
/-- The depth, and the code, of an expression of two arguments at most. -/
def Ex.depth : Ex → Nat
  | .mk _ _ args => depthL args + 1
where depthL : List Ex → Nat
  | [] => 0
  | e :: es => max e.depth (depthL es)
end Go.Proofs.Ytjhedgoafkabiaa
namespace Go.Proofs.Ytjhedgoafkabiaa
set_option linter.all false
open Go Go.RowKit
/-- What C' knows of the blocks that C does not know. -/
def AHeap.off (C' C : AHeap) : AHeap := fun x => if (C x).isSome then none else C' x
theorem off_le (C' C : AHeap) : AHeap.le (C'.off C) C' := fun x k hx => by
  simp only [AHeap.off] at hx
  split at hx
  · cases hx
  · exact ⟨k, hx, rfl, rfl, rfl, fun _ _ h => h⟩
theorem off_at {C' C : AHeap} {x : Nat} (h : C x = none) : C'.off C x = C' x := by simp [AHeap.off, h]
theorem off_some {C' C : AHeap} {x : Nat} {k : Blk} (h : C'.off C x = some k) : C x = none ∧ C' x = some k := by
  simp only [AHeap.off] at h
  split at h
  · cases h
  · rename_i hn; exact ⟨by simpa using hn, h⟩
theorem setR_mid {xs ys vs : List Value} {o : Nat} (ho : o = xs.length) (hl : vs.length ≤ ys.length) : setR (xs ++ ys) o vs = (xs ++ vs) ++ ys.drop vs.length := by
  subst ho
  apply List.ext_getElem?
  intro j
  rw [getElem?_setR _ _ _ _ (by rw [List.length_append]; omega)]
  by_cases h1 : j < xs.length
  · rw [if_neg (by omega), List.getElem?_append_left h1, List.append_assoc, List.getElem?_append_left h1]
  · by_cases h2 : j < xs.length + vs.length
    · rw [if_pos (by omega), List.getElem?_append_left (by rw [List.length_append]; omega), List.getElem?_append_right (by omega)]
    · rw [if_neg (by omega), List.getElem?_append_right (by omega), List.getElem?_append_right (by rw [List.length_append]; omega), List.getElem?_drop, List.length_append]
      congr 1; omega
section
variable {H C C' C1 C2 D : AHeap} {b x : Nat} {k : Blk} {bs bs' : List Nat}
theorem off_any (h : ∀ x k, C1 x = none → C2 x = some k → H x = none ∧ Kn C' x k) : AHeap.le (C2.off C1) (C'.off H) := fun x k hx => by
  obtain ⟨h1, h2⟩ := off_some hx
  obtain ⟨h3, k2, h4, r⟩ := h x k h1 h2
  exact ⟨k2, by rw [off_at h3]; exact h4, r⟩
theorem kn_off {k : Blk} (hx : H x = none) (hk : Kn C x k) : Kn (C.off H) x k := by
  obtain ⟨k1, h1, r⟩ := hk
  exact ⟨k1, by rw [off_at hx]; exact h1, r⟩
end
end Go.Proofs.Ytjhedgoafkabiaa
namespace Go.Proofs.Ytjhedgoafkabiaa
set_option linter.all false
open Go Go.RowKit
set_option maxRecDepth 100000
theorem del_at {C : AHeap} {b x : Nat} (h : ¬ x = b) : C.del b x = C x := by simp [AHeap.del, h]
theorem del_same (C : AHeap) (b : Nat) : C.del b b = none := by simp [AHeap.del]
/-- The bytes that are read. -/
structure Src where
  A : Option Addr
  n : Nat
  c : Nat
  zs : List Int
structure RdK (S : Src) (C : AHeap) (b : Nat) (p : Int) : Prop where
  kn : Kn C b (rk S.A S.n S.c p)
  fl : Fl (C.del b) S.A (u8s S.zs)
  rng : ∀ z ∈ S.zs, 0 ≤ z ∧ z < 256
  len : S.zs.length = S.n
  max : S.n ≤ 2000
/-- A step that keeps all but the reader's block. -/
structure Dr (C C' : AHeap) (b : Nat) : Prop where
  le : AHeap.le (C.del b) (C'.del b)
  b0 : C b ≠ none
  b1 : C' b ≠ none
section
variable {S : Src} {C C' C1 C2 D : AHeap} {b x : Nat} {p p' : Int} {k : Blk}
theorem del_mono (h : AHeap.le C C') : AHeap.le (C.del b) (C'.del b) := fun x k hx => by
  by_cases e : x = b
  · subst e; rw [del_same] at hx; cases hx
  · rw [del_at e] at hx ⊢; exact h x k hx
theorem RdK.le (h : RdK S C b p) (l : AHeap.le C C') : RdK S C' b p := ⟨h.kn.trans l, h.fl.le (del_mono l), h.rng, h.len, h.max⟩
theorem RdK.fresh (h : RdK S C b p) (hx : C x = none) (k : Blk) : RdK S (C.set x k) b p := h.le ((AHeap.le.refl C).fresh hx k)
theorem RdK.ne (h : RdK S C b p) : C b ≠ none := h.kn.ne
theorem Dr.of_le (l : AHeap.le C C') (h : C b ≠ none) : Dr C C' b := ⟨del_mono l, h, fun e => h (l.none e)⟩
theorem RdK.dr (h : RdK S C b p) (l : AHeap.le C C') : Dr C C' b := .of_le l h.ne
theorem Dr.refl (h : C b ≠ none) : Dr C C b := .of_le (.refl _) h
theorem Dr.trans (h : Dr C C1 b) (h' : Dr C1 C2 b) : Dr C C2 b := ⟨h.le.trans h'.le, h.b0, h'.b1⟩
theorem Dr.then_le (h : Dr C C1 b) (l : AHeap.le C1 C2) : Dr C C2 b := h.trans (.of_le l h.b1)
theorem Dr.nov (h : Dr C C1 b) (hx : C1 x = none) : C x = none := by
  by_cases e : x = b
  · subst e; exact absurd hx h.b1
  · have := h.le.none (b := x) (by rw [del_at e]; exact hx)
    rwa [del_at e] at this
theorem Dr.kn (h : Dr C C1 b) (hk : Kn C x k) (e : ¬ x = b) : Kn C1 x k := by
  obtain ⟨k1, h1, r⟩ := hk
  have h2 : C.del b x = some k1 := by rw [del_at e]; exact h1
  have h3 := (show Kn (C.del b) x k from ⟨k1, h2, r⟩).trans h.le
  obtain ⟨k2, h4, r2⟩ := h3
  exact ⟨k2, by rwa [del_at e] at h4, r2⟩
theorem Dr.sov (h : Dr C C1 b) (hk : C x = some k) (e : ¬ x = b) : Kn C1 x k := h.kn (Kn.of hk) e
theorem Dr.off_r (h : Dr C C1 b) (h' : Dr C1 C2 b) : AHeap.le (C2.off C1) (C2.off C) := fun x k hx => by
  obtain ⟨h1, h2⟩ := off_some hx
  exact ⟨k, by rw [off_at (h.nov h1)]; exact h2, rfl, rfl, rfl, fun _ _ h => h⟩
theorem Dr.fl (h : Dr C C' b) {A : Option Addr} {vs : List Value} (hf : Fl (C.del b) A vs) : Fl (C'.del b) A vs := hf.le h.le
theorem del_le' (C : AHeap) (b : Nat) : AHeap.le (C.del b) C := AHeap.del_le C b
theorem RdK.cut (h : RdK S C b p) : AHeap.le ((C.del b).set b (rk S.A S.n S.c p)) C := fun x k hx => by
  by_cases e : x = b
  · subst e; rw [set_same] at hx; obtain rfl := Option.some.inj hx; exact h.kn
  · rw [set_ne e] at hx; exact del_le' C b x k hx
theorem RdK.rdr (h : RdK S C b p) : Rdr (C.del b) S.A S.n S.zs b := ⟨h.fl, h.rng, h.len, h.max, del_same _ _⟩
theorem del_set (hD : D b = none) (k : Blk) : (D.set b k).del b = D := by
  funext x
  by_cases e : x = b
  · subst e; rw [del_same, hD]
  · rw [del_at e, set_ne e]
/-- Behind a draw in the old style. -/
theorem RdK.back (h : RdK S C b p) (l : AHeap.le (C.del b) D) (hD : D b = none) (q : Int) : RdK S (D.set b (rk S.A S.n S.c q)) b q ∧ Dr C (D.set b (rk S.A S.n S.c q)) b :=
  ⟨⟨Kn.same _ _ _, by rw [del_set hD]; exact h.fl.le l, h.rng, h.len, h.max⟩, by rw [del_set hD]; exact l, h.ne, by rw [set_same]; simp⟩
end
section
variable {S : Src} {C C' C1 C2 H : AHeap} {b x : Nat} {p : Int} {bs : List Nat}
theorem RdK.chg (h : RdK S C b p) (hc : Chg C C' bs) (hx : ¬ b ∈ bs) (hf : Fl (H.del b) S.A (u8s S.zs)) (hH : AHeap.le (H.del b) (C'.del b)) : RdK S C' b p := ⟨h.kn.chg hc hx, hf.le hH, h.rng, h.len, h.max⟩
theorem Dr.chg (h : Dr H C b) (hc : Chg C C' bs) (hn : New H bs) : Dr H C' b := by
  have hb : ¬ b ∈ bs := fun hm => h.b0 (hn b hm)
  refine ⟨fun x k hx => ?_, h.b0, ?_⟩
  · have e : ¬ x = b := by rintro rfl; rw [del_same] at hx; cases hx
    obtain ⟨k1, h1, r1⟩ := h.le x k hx
    have hxH : H x = some k := by rw [del_at e] at hx; exact hx
    have h2 := (show Kn C x k from ⟨k1, by rwa [del_at e] at h1, r1⟩).chg hc fun hm => by rw [hn x hm] at hxH; cases hxH
    obtain ⟨k2, h3, r2⟩ := h2
    exact ⟨k2, by rw [del_at e]; exact h3, r2⟩
  · intro e
    cases hk : C b with
    | none => exact h.b1 hk
    | some k => have := (Kn.of hk).chg hc hb; exact this.ne e
/-- What was made beside blocks that then change. -/
theorem Dr.off_chg (h : Dr H C1 b) (hc : Chg C2 C' bs) (hn : ∀ x, x ∈ bs → C1 x ≠ none) : AHeap.le (C2.off C1) (C'.off H) :=
  off_any fun x k h1 h2 => ⟨h.nov h1, (Kn.of h2).chg hc fun hm => hn x hm h1⟩
theorem Dr.toChg (h : Dr C C' b) (hs : b ∈ bs) : Chg C C' bs := fun x k hx hk => h.sov hk fun e => hx (e ▸ hs)
theorem no_del (C : AHeap) (bs : List Nat) (hb : b ∈ bs) : AHeap.le (C.no fun y => y ∈ bs) (C.del b) := fun x k hx => by
  by_cases hm : x ∈ bs
  · rw [no_in hm] at hx; cases hx
  · rw [no_out hm] at hx
    have e : ¬ x = b := by rintro rfl; exact hm hb
    exact ⟨k, by rw [del_at e]; exact hx, rfl, rfl, rfl, fun _ _ h => h⟩
theorem st_kn3 {D : Value → AHeap → Prop} {t : TypeId} {c : Nat} {v0 v1 v2 u0 u1 u2 : Value} (hk : Kn C x ⟨[v0, v1, v2], true, t, c⟩) (h1 : ∀ u ∈ [u0, u1, u2], u.oneCell' = true)
    (hD : ∀ C', Chg C C' [x] → Kn C' x ⟨[u0, u1, u2], true, t, c⟩ → (C'.cell (some ⟨x, 0, none⟩) = some u0 ∧ C'.cell (some ⟨x, 1, none⟩) = some u1 ∧ C'.cell (some ⟨x, 2, none⟩) = some u2) → D undef C') : stK 3 (.pointer (some ⟨x, 0, none⟩)) (.agg #[u0, u1, u2]) D C :=
  st_kn hk rfl rfl (by simp) h1 fun C' hc _ k => hD C' hc k ⟨k.cell (j := 0) rfl, k.cell (j := 1) rfl, k.cell (j := 2) rfl⟩
theorem st_kn8 {D : Value → AHeap → Prop} {t : TypeId} {c : Nat} {v0 v1 v2 v3 v4 v5 v6 v7 u0 u1 u2 u3 u4 u5 u6 u7 : Value} (hk : Kn C x ⟨[v0, v1, v2, v3, v4, v5, v6, v7], true, t, c⟩) (h1 : ∀ u ∈ [u0, u1, u2, u3, u4, u5, u6, u7], u.oneCell' = true)
    (hD : ∀ C', Chg C C' [x] → Kn C' x ⟨[u0, u1, u2, u3, u4, u5, u6, u7], true, t, c⟩ → (C'.cell (some ⟨x, 0, none⟩) = some u0 ∧ C'.cell (some ⟨x, 1, none⟩) = some u1 ∧ C'.cell (some ⟨x, 2, none⟩) = some u2 ∧ C'.cell (some ⟨x, 3, none⟩) = some u3 ∧ C'.cell (some ⟨x, 4, none⟩) = some u4 ∧ C'.cell (some ⟨x, 5, none⟩) = some u5 ∧ C'.cell (some ⟨x, 6, none⟩) = some u6 ∧ C'.cell (some ⟨x, 7, none⟩) = some u7) → D undef C') :
    stK 8 (.pointer (some ⟨x, 0, none⟩)) (.agg #[u0, u1, u2, u3, u4, u5, u6, u7]) D C :=
  st_kn hk rfl rfl (by simp) h1 fun C' hc _ k => hD C' hc k ⟨k.cell (j := 0) rfl, k.cell (j := 1) rfl, k.cell (j := 2) rfl, k.cell (j := 3) rfl, k.cell (j := 4) rfl, k.cell (j := 5) rfl, k.cell (j := 6) rfl, k.cell (j := 7) rfl⟩
end
section
variable (w0 : World) (K : Value → AHeap → Prop) {S : Src} {C : AHeap} {b : Nat} {p : Int}
theorem pickK_ok (hr : RdK S C b p) (k : Int) (h0 : 0 ≤ p) (h1 : p ≤ 1099511627776) (hk : 1 ≤ k) (h : ∀ v C', RdK S C' b (p + 1) → Dr C C' b → 0 ≤ v → v < k → K (.int .i64 v) C') :
    ACalls Try.prog w0 48 [.pointer (some ⟨b, 0, none⟩), .int .i64 k] C K :=
  ACalls.mono (pick_ok w0 _ K S.A S.n S.c S.zs b p k hr.rdr h0 h1 hk fun v g0 g1 => (hr.back (.refl _) (del_same _ _) (p + 1)).elim fun r d => h v _ r d g0 g1) hr.cut
theorem opK_ok (hr : RdK S C b p) (h0 : 0 ≤ p) (h1 : p ≤ 1099511627776) (h : ∀ v C', RdK S C' b (p + 1) → Dr C C' b → 1 ≤ v → v ≤ 12 → K (.int .i64 v) C') :
    ACalls Try.prog w0 84 [.pointer (some ⟨b, 0, none⟩)] C K :=
  ACalls.mono (op_ok w0 _ K S.A S.n S.c S.zs b p hr.rdr h0 h1 fun v g0 g1 => (hr.back (.refl _) (del_same _ _) (p + 1)).elim fun r d => h v _ r d g0 g1) hr.cut
end
end Go.Proofs.Ytjhedgoafkabiaa
namespace Go.Proofs.Ytjhedgoafkabiaa
set_option linter.all false
open Go Go.RowKit
set_option maxRecDepth 100000
variable (w0 : World) (H : AHeap) (K : Value → AHeap → Prop)
theorem exV_leaf (H : AHeap) (op n : Int) (A : Option Addr) (c : Nat) : ExV H (.mk op n []) [.int .i64 op, .int .i64 n, .slice A 0 c] := by
  simp only [ExV]
  exact ⟨A, c, rfl, Nat.zero_le _, by simp only [ExR]⟩
theorem exV_both {D : AHeap} {x : Nat} {t : TypeId} {cc : Nat} {o : Int} {a b : Ex} {Aa Ab : Option Addr} {ca cb : Nat} (hk : Kn D x ⟨[.int .i64 a.op, .int .i64 a.n, .slice Aa a.args.length ca, .int .i64 b.op, .int .i64 b.n, .slice Ab b.args.length cb], true, t, cc⟩)
    (ha : ExV D a [.int .i64 a.op, .int .i64 a.n, .slice Aa a.args.length ca]) (hb : ExV D b [.int .i64 b.op, .int .i64 b.n, .slice Ab b.args.length cb]) : ExV D (.mk o 0 [a, b]) [.int .i64 o, .int .i64 0, .slice (some ⟨x, 0, none⟩) 2 2] := by
  simp only [ExV]
  refine ⟨_, _, rfl, by simp [maxLen], ?_⟩
  simp only [ExR, adr_lit, Nat.zero_mul, Nat.zero_add, Nat.one_mul, and_true]
  exact ⟨⟨_, _, _, hk.cell rfl, hk.cell rfl, hk.cell rfl, ha⟩, _, _, _, hk.cell rfl, hk.cell rfl, hk.cell rfl, hb⟩
theorem l4Leaf_ok (o n : Int) (h : ∀ A c C', AHeap.le H C' → K (.agg #[.int .i64 o, .int .i64 n, .slice A 0 c]) C') : ACalls Try.prog w0 72 [.int .i64 o, .int .i64 n] H K := by
  refine acalls_of_sx mix Try.func72 of72 (by simp [ir72]) ?_; rw [ir72]; (try delta qT qI qC qO qM qG)
  repeat' (first | simp -implicitDefEqProofs only [zG1,zG2,zG3,zG4,zG5,zG6,zG7,eq_self,resV,rval,X.val,binv,fillL,setR,↓reduceIte,Nat.reduceEqDiff,Nat.reduceAdd,Nat.reduceMul,Nat.reduceLeDiff,Nat.reduceLT,Nat.reduceSub,reduceCtorEq,zGr, *] | ((with_reducible refine rows_intro (fun _ hb => ?_)); try simp only [set_none, ne_eq] at hb) | ((with_reducible refine new_intro (fun _ hb => ?_)); try simp only [set_none, ne_eq] at hb) | (with_reducible refine draw_same ?_) | ((with_reducible refine gd_split ?_ (fun _ => ?_) (fun _ => ?_)); exact rfl) | ((with_reducible refine td_split ?_ (fun _ => ?_) (fun _ => ?_)); exact rfl) | (with_reducible refine c_split (fun _ => ?_) (fun _ => ?_)))
  rename_i x4 h4 x7
  refine ⟨_, AHeap.le.refl _, h _ _ _ ?_⟩
  exact le_fresh0 (le_fresh0 (le_fresh0 (.refl _) h4 _) hb.2 _) h4 _
theorem l4Both_ok (o : Int) (a b : Ex) (Aa Ab : Option Addr) (ca cb : Nat) (h : ∀ x C' t c, AHeap.le H C' → H x = none → Kn C' x ⟨[.int .i64 a.op, .int .i64 a.n, .slice Aa a.args.length ca, .int .i64 b.op, .int .i64 b.n, .slice Ab b.args.length cb], true, t, c⟩ → K (.agg #[.int .i64 o, .int .i64 0, .slice (some ⟨x, 0, none⟩) 2 2]) C') :
    ACalls Try.prog w0 85 [.int .i64 o, .agg #[.int .i64 a.op, .int .i64 a.n, .slice Aa a.args.length ca], .agg #[.int .i64 b.op, .int .i64 b.n, .slice Ab b.args.length cb]] H K := by
  refine acalls_of_sx mix Try.func85 of85 (by simp [ir85]) ?_; rw [ir85]; (try delta qT qI qC qO qM qG)
  repeat' (first | simp -implicitDefEqProofs only [zG1,zG2,zG3,zG4,zG5,zG6,zG7,eq_self,resV,rval,X.val,binv,fillL,setR,↓reduceIte,Nat.reduceEqDiff,Nat.reduceAdd,Nat.reduceMul,Nat.reduceLeDiff,Nat.reduceLT,Nat.reduceSub,reduceCtorEq,zGr, *] | ((with_reducible refine rows_intro (fun _ hb => ?_)); try simp only [set_none, ne_eq] at hb) | ((with_reducible refine new_intro (fun _ hb => ?_)); try simp only [set_none, ne_eq] at hb) | (with_reducible refine draw_same ?_) | ((with_reducible refine gd_split ?_ (fun _ => ?_) (fun _ => ?_)); exact rfl) | ((with_reducible refine td_split ?_ (fun _ => ?_) (fun _ => ?_)); exact rfl) | (with_reducible refine c_split (fun _ => ?_) (fun _ => ?_)))
  rename_i x1 h1 x2 h2 x3 h3 x4
  refine ⟨_, AHeap.le.refl _, h x4 _ 61 6 ?_ hb.2.2.2 ?_⟩
  · exact le_fresh0 (le_fresh0 (le_fresh0 (le_fresh0 (le_fresh0 (.refl _) h1 _) h2.2 _) h3.2.2 _) hb.2.2.2 _) h3.2.2 _
  · exact (Kn.same _ _ _).set hb.1 _
theorem ok_up {d : Nat} : ∀ {e : Ex}, exprOk d e = true → exprOk (d + 1) e = true := by
  induction d with
  | zero => intro e h; cases e; cases h
  | succ d ih =>
    intro ⟨op, n, args⟩ h
    unfold exprOk at h ⊢
    split
    · rename_i h0; rwa [if_pos h0] at h
    · rename_i h0
      rw [if_neg h0] at h
      split
      · rename_i h1; rwa [if_pos h1] at h
      · rename_i h1
        rw [if_neg h1] at h
        simp only [Bool.and_eq_true] at h ⊢
        refine ⟨h.1, ?_⟩
        replace h := h.2
        match args, h with
        | [x, y], h =>
          have h := Bool.and_eq_true_iff.1 h
          exact Bool.and_eq_true_iff.2 ⟨ih h.1, ih h.2⟩
        | [], h | [_], h | _ :: _ :: _ :: _, h => cases h
theorem ok_up5 {d : Nat} {e : Ex} (hd : d ≤ 5) (h : exprOk d e = true) : exprOk 5 e = true := by
  have : ∀ m, exprOk (d + m) e = true := by
    intro m
    induction m with
    | zero => exact h
    | succ m ih => exact ok_up ih
  have := this (5 - d)
  rwa [show d + (5 - d) = 5 by omega] at this
theorem ok_leaf0 {n : Int} (h0 : 0 ≤ n) (h1 : n ≤ 99999) : exprOk 1 (.mk 0 n []) = true := by simp [exprOk, h0, h1]
theorem ok_leaf13 {n : Int} (h0 : 0 ≤ n) (h1 : n ≤ 3) : exprOk 1 (.mk 13 n []) = true := by simp [exprOk, h0, h1]
theorem ok_both {d : Nat} {o : Int} {a b : Ex} (h0 : 1 ≤ o) (h1 : o ≤ 12) (ha : exprOk d a = true) (hb : exprOk d b = true) : exprOk (d + 1) (.mk o 0 [a, b]) = true := by
  have e0 : ¬ o = 0 := by omega
  have e1 : ¬ o = 13 := by omega
  simp [exprOk, h0, h1, ha, hb, e0, e1]
variable {S : Src} {b : Nat} {p : Int}
theorem l91Leaf_ok (hr : RdK S H b p) (h0 : 0 ≤ p) (h1 : p ≤ 1099511627000)
    (h : ∀ o n A c C' p', RdK S C' b p' → Dr H C' b → exprOk 1 (.mk o n []) = true → p ≤ p' → p' ≤ p + 2 → K (.agg #[.int .i64 o, .int .i64 n, .slice A 0 c]) C') :
    ACalls Try.prog w0 50 [.pointer (some ⟨b, 0, none⟩)] H K := by
  have fin : ∀ (x : Nat) (C : AHeap) (t : TypeId) (cc : Nat) (q : Int) (o n : Int) (A : Option Addr) (c : Nat) (D : Value → AHeap → Prop), H x = none → Kn C x ⟨[.int .i64 0, .int .i64 0, .slice none 0 0], true, t, cc⟩ → RdK S C b q → Dr H C b → exprOk 1 (.mk o n []) = true → p ≤ q → q ≤ p + 2 →
      (∀ C', (C'.cell (some ⟨x, 0, none⟩) = some (.int .i64 o) ∧ C'.cell (some ⟨x, 1, none⟩) = some (.int .i64 n) ∧ C'.cell (some ⟨x, 2, none⟩) = some (.slice A 0 c)) → K (.agg #[.int .i64 o, .int .i64 n, .slice A 0 c]) C' → D undef C') →
      stK 3 (.pointer (some ⟨x, 0, none⟩)) (.agg #[.int .i64 o, .int .i64 n, .slice A 0 c]) D C := by
    intro x C t cc q o n A c D hx hk hrc hd ho hq0 hq1 hD
    have hbx : ¬ b ∈ [x] := by
      simp only [List.mem_cons, List.not_mem_nil, or_false]
      rintro rfl; exact hr.ne hx
    refine st_kn3 hk (by simp [ocI, ocS]) (fun C' hc k cs => hD C' cs ?_)
    have hd' := hd.chg hc (New.one hx)
    exact h o n A c C' q (hrc.chg hc hbx hr.fl hd'.le) hd' ho hq0 hq1
  refine acalls_of_sx mix Try.func50 of50 (by simp [ir50]) ?_; rw [ir50]; (try delta qT qI qC qO qM qG)
  repeat' (first | simp -implicitDefEqProofs only [zG1,zG2,zG3,zG4,zG5,zG6,zG7,eq_self,resV,rval,X.val,binv,fillL,setR,↓reduceIte,Nat.reduceEqDiff,Nat.reduceAdd,Nat.reduceMul,Nat.reduceLeDiff,Nat.reduceLT,Nat.reduceSub,reduceCtorEq,zGq] | ((with_reducible refine rows_intro (fun _ hb => ?_)); try simp only [set_none, ne_eq] at hb) | ((with_reducible refine new_intro (fun _ hb => ?_)); try simp only [set_none, ne_eq] at hb) | (with_reducible refine draw_same ?_) | ((with_reducible refine gd_split ?_ (fun _ => ?_) (fun _ => ?_)); exact rfl) | ((with_reducible refine td_split ?_ (fun _ => ?_) (fun _ => ?_)); exact rfl) | (with_reducible refine c_split (fun _ => ?_) (fun _ => ?_)))
  rename_i x
  have hx := hb
  have hr1 := hr.fresh hx ⟨[.int .i64 0, .int .i64 0, .slice none 0 0], true, 61, 3⟩
  have l1 := (AHeap.le.refl H).fresh hx ⟨[.int .i64 0, .int .i64 0, .slice none 0 0], true, 61, 3⟩
  have k1 := Kn.same H x ⟨[.int .i64 0, .int .i64 0, .slice none 0 0], true, 61, 3⟩
  have hxb : ¬ x = b := by rintro rfl; exact hr.ne hx
  refine pickK_ok _ _ hr1 4 (by omega) (by omega) (by decide) (fun v C1 r1 d1 hv0 hv1 => ?_)
  have d1' := (hr.dr l1).trans d1
  have k2 := d1.kn k1 hxb
  repeat' (first | simp -implicitDefEqProofs only [zG1,zG2,zG3,zG4,zG5,zG6,zG7,eq_self,resV,rval,X.val,binv,fillL,setR,↓reduceIte,Nat.reduceEqDiff,Nat.reduceAdd,Nat.reduceMul,Nat.reduceLeDiff,Nat.reduceLT,Nat.reduceSub,reduceCtorEq,zGq] | ((with_reducible refine rows_intro (fun _ hb => ?_)); try simp only [set_none, ne_eq] at hb) | ((with_reducible refine new_intro (fun _ hb => ?_)); try simp only [set_none, ne_eq] at hb) | (with_reducible refine draw_same ?_) | ((with_reducible refine gd_split ?_ (fun _ => ?_) (fun _ => ?_)); exact rfl) | ((with_reducible refine td_split ?_ (fun _ => ?_) (fun _ => ?_)); exact rfl) | (with_reducible refine c_split (fun _ => ?_) (fun _ => ?_)))
  · refine pickK_ok _ _ r1 4 (by omega) (by omega) (by decide) (fun v C2 r2 d2 hv0 hv1 => ?_)
    repeat' (first | simp -implicitDefEqProofs only [zG1,zG2,zG3,zG4,zG5,zG6,zG7,eq_self,resV,rval,X.val,binv,fillL,setR,↓reduceIte,Nat.reduceEqDiff,Nat.reduceAdd,Nat.reduceMul,Nat.reduceLeDiff,Nat.reduceLT,Nat.reduceSub,reduceCtorEq,zGq] | ((with_reducible refine rows_intro (fun _ hb => ?_)); try simp only [set_none, ne_eq] at hb) | ((with_reducible refine new_intro (fun _ hb => ?_)); try simp only [set_none, ne_eq] at hb) | (with_reducible refine draw_same ?_) | ((with_reducible refine gd_split ?_ (fun _ => ?_) (fun _ => ?_)); exact rfl) | ((with_reducible refine td_split ?_ (fun _ => ?_) (fun _ => ?_)); exact rfl) | (with_reducible refine c_split (fun _ => ?_) (fun _ => ?_)) | (with_reducible refine l4Leaf_ok _ _ _ _ _ (fun A c C3 l3 => ?_)))
    refine fin x C3 _ _ _ _ _ _ _ _ hx ((d2.kn k2 hxb).trans l3) (r2.le l3) ((d1'.trans d2).then_le l3) (ok_leaf0 hv0 (by omega)) (by omega) (by omega) (fun C4 hc4 hK => ?_)
    repeat' (first | simp -implicitDefEqProofs only [zG1,zG2,zG3,zG4,zG5,zG6,zG7,eq_self,resV,rval,X.val,binv,fillL,setR,↓reduceIte,Nat.reduceEqDiff,Nat.reduceAdd,Nat.reduceMul,Nat.reduceLeDiff,Nat.reduceLT,Nat.reduceSub,reduceCtorEq,zGq, hc4] | ((with_reducible refine rows_intro (fun _ hb => ?_)); try simp only [set_none, ne_eq] at hb) | ((with_reducible refine new_intro (fun _ hb => ?_)); try simp only [set_none, ne_eq] at hb) | (with_reducible refine draw_same ?_) | ((with_reducible refine gd_split ?_ (fun _ => ?_) (fun _ => ?_)); exact rfl) | ((with_reducible refine td_split ?_ (fun _ => ?_) (fun _ => ?_)); exact rfl) | (with_reducible refine c_split (fun _ => ?_) (fun _ => ?_)))
    exact ret_same hK
  · rename_i y
    have hy := hb
    refine pickK_ok _ _ (r1.fresh hy _) 8 (by omega) (by omega) (by decide) (fun v C2 r2 d2 hv0 hv1 => ?_)
    have hyb : ¬ y = b := by rintro rfl; exact r1.ne hy
    have ky := d2.kn (Kn.same C1 y _) hyb
    have ly := (AHeap.le.refl C1).fresh hy ⟨[.int .i64 5, .int .i64 31, .int .i64 32, .int .i64 100, .int .i64 2047, .int .i64 2048, .int .i64 65536, .int .i64 99999], true, 3, 8⟩
    have d2' := (Dr.of_le ly r1.ne).trans d2
    obtain ⟨j, rfl⟩ : ∃ j : Nat, v = j := ⟨v.toNat, by omega⟩
    have hj : j < 8 := by omega
    have g1 := rng (k := j) (n := 8) hj
    match j, hj with
    | 0, _ | 1, _ | 2, _ | 3, _ | 4, _ | 5, _ | 6, _ | 7, _ =>
      have cy0 := ky.cell (j := 0) rfl
      have cy1 := ky.cell (j := 1) rfl
      have cy2 := ky.cell (j := 2) rfl
      have cy3 := ky.cell (j := 3) rfl
      have cy4 := ky.cell (j := 4) rfl
      have cy5 := ky.cell (j := 5) rfl
      have cy6 := ky.cell (j := 6) rfl
      have cy7 := ky.cell (j := 7) rfl
      repeat' (first | simp -implicitDefEqProofs only [zG1,zG2,zG3,zG4,zG5,zG6,zG7,eq_self,resV,rval,X.val,binv,fillL,setR,↓reduceIte,Nat.reduceEqDiff,Nat.reduceAdd,Nat.reduceMul,Nat.reduceLeDiff,Nat.reduceLT,Nat.reduceSub,reduceCtorEq,zGq, g1, cy0, cy1, cy2, cy3, cy4, cy5, cy6, cy7, Nat.mul_one, adr_lit, Nat.zero_add] | ((with_reducible refine rows_intro (fun _ hb => ?_)); try simp only [set_none, ne_eq] at hb) | ((with_reducible refine new_intro (fun _ hb => ?_)); try simp only [set_none, ne_eq] at hb) | (with_reducible refine draw_same ?_) | ((with_reducible refine gd_split ?_ (fun _ => ?_) (fun _ => ?_)); exact rfl) | ((with_reducible refine td_split ?_ (fun _ => ?_) (fun _ => ?_)); exact rfl) | (with_reducible refine c_split (fun _ => ?_) (fun _ => ?_)) | (with_reducible refine l4Leaf_ok _ _ _ _ _ (fun A c C3 l3 => ?_)))
      refine fin x C3 _ _ _ _ _ _ _ _ hx ((d2'.kn k2 hxb).trans l3) (r2.le l3) ((d1'.trans d2').then_le l3) (ok_leaf0 (by decide) (by decide)) (by omega) (by omega) (fun C4 hc4 hK => ?_)
      repeat' (first | simp -implicitDefEqProofs only [zG1,zG2,zG3,zG4,zG5,zG6,zG7,eq_self,resV,rval,X.val,binv,fillL,setR,↓reduceIte,Nat.reduceEqDiff,Nat.reduceAdd,Nat.reduceMul,Nat.reduceLeDiff,Nat.reduceLT,Nat.reduceSub,reduceCtorEq,zGq, hc4] | ((with_reducible refine rows_intro (fun _ hb => ?_)); try simp only [set_none, ne_eq] at hb) | ((with_reducible refine new_intro (fun _ hb => ?_)); try simp only [set_none, ne_eq] at hb) | (with_reducible refine draw_same ?_) | ((with_reducible refine gd_split ?_ (fun _ => ?_) (fun _ => ?_)); exact rfl) | ((with_reducible refine td_split ?_ (fun _ => ?_) (fun _ => ?_)); exact rfl) | (with_reducible refine c_split (fun _ => ?_) (fun _ => ?_)))
      exact ret_same hK
  · refine pickK_ok _ _ r1 4 (by omega) (by omega) (by decide) (fun v C2 r2 d2 hv0 hv1 => ?_)
    repeat' (first | simp -implicitDefEqProofs only [zG1,zG2,zG3,zG4,zG5,zG6,zG7,eq_self,resV,rval,X.val,binv,fillL,setR,↓reduceIte,Nat.reduceEqDiff,Nat.reduceAdd,Nat.reduceMul,Nat.reduceLeDiff,Nat.reduceLT,Nat.reduceSub,reduceCtorEq,zGq] | ((with_reducible refine rows_intro (fun _ hb => ?_)); try simp only [set_none, ne_eq] at hb) | ((with_reducible refine new_intro (fun _ hb => ?_)); try simp only [set_none, ne_eq] at hb) | (with_reducible refine draw_same ?_) | ((with_reducible refine gd_split ?_ (fun _ => ?_) (fun _ => ?_)); exact rfl) | ((with_reducible refine td_split ?_ (fun _ => ?_) (fun _ => ?_)); exact rfl) | (with_reducible refine c_split (fun _ => ?_) (fun _ => ?_)) | (with_reducible refine l4Leaf_ok _ _ _ _ _ (fun A c C3 l3 => ?_)))
    refine fin x C3 _ _ _ _ _ _ _ _ hx ((d2.kn k2 hxb).trans l3) (r2.le l3) ((d1'.trans d2).then_le l3) (ok_leaf13 hv0 (by omega)) (by omega) (by omega) (fun C4 hc4 hK => ?_)
    repeat' (first | simp -implicitDefEqProofs only [zG1,zG2,zG3,zG4,zG5,zG6,zG7,eq_self,resV,rval,X.val,binv,fillL,setR,↓reduceIte,Nat.reduceEqDiff,Nat.reduceAdd,Nat.reduceMul,Nat.reduceLeDiff,Nat.reduceLT,Nat.reduceSub,reduceCtorEq,zGq, hc4] | ((with_reducible refine rows_intro (fun _ hb => ?_)); try simp only [set_none, ne_eq] at hb) | ((with_reducible refine new_intro (fun _ hb => ?_)); try simp only [set_none, ne_eq] at hb) | (with_reducible refine draw_same ?_) | ((with_reducible refine gd_split ?_ (fun _ => ?_) (fun _ => ?_)); exact rfl) | ((with_reducible refine td_split ?_ (fun _ => ?_) (fun _ => ?_)); exact rfl) | (with_reducible refine c_split (fun _ => ?_) (fun _ => ?_)))
    exact ret_same hK
end Go.Proofs.Ytjhedgoafkabiaa
namespace Go.Proofs.Ytjhedgoafkabiaa
set_option linter.all false
open Go Go.RowKit
set_option maxRecDepth 100000
variable (w0 : World)
def drT : Nat → Nat
  | 0 => 3
  | d + 1 => 2 * drT d + 3
theorem drT_ge : ∀ d, 3 ≤ drT d
  | 0 => Nat.le_refl _
  | d + 1 => by simp only [drT]; omega
theorem l91Expr_ok {S : Src} {b : Nat} (d : Nat) : ∀ (H : AHeap) (K : Value → AHeap → Prop) (p : Int), d ≤ 5 → RdK S H b p → 0 ≤ p → p + drT d ≤ 1099511620000 →
    (∀ e A c C' p', RdK S C' b p' → Dr H C' b → exprOk (max d 1) e = true → ExV (C'.off H) e [.int .i64 e.op, .int .i64 e.n, .slice A e.args.length c] → p ≤ p' → p' ≤ p + drT d → K (.agg #[.int .i64 e.op, .int .i64 e.n, .slice A e.args.length c]) C') →
    ACalls Try.prog w0 73 [.pointer (some ⟨b, 0, none⟩), .int .i64 d] H K := by
  induction d with
  | zero =>
    intro H K p hd hr h0 h1 h
    have g2 : decide (((0 : Nat) : Int) < 2) = true := by decide
    have hT : drT 0 = 3 := rfl
    refine acalls_of_sx mix Try.func73 of73 (by simp [ir73]) ?_; rw [ir73]; (try delta qT qI qC qO qM qG)
    repeat' (first | simp -implicitDefEqProofs only [zG1,zG2,zG3,zG4,zG5,zG6,zG7,eq_self,resV,rval,X.val,binv,fillL,setR,↓reduceIte,Nat.reduceEqDiff,Nat.reduceAdd,Nat.reduceMul,Nat.reduceLeDiff,Nat.reduceLT,Nat.reduceSub,reduceCtorEq,zGq, g2] | ((with_reducible refine rows_intro (fun _ hb => ?_)); try simp only [set_none, ne_eq] at hb) | ((with_reducible refine new_intro (fun _ hb => ?_)); try simp only [set_none, ne_eq] at hb) | (with_reducible refine draw_same ?_) | ((with_reducible refine gd_split ?_ (fun _ => ?_) (fun _ => ?_)); exact rfl) | ((with_reducible refine td_split ?_ (fun _ => ?_) (fun _ => ?_)); exact rfl) | (with_reducible refine c_split (fun _ => ?_) (fun _ => ?_)))
    have hx := hb
    rename_i x
    have hxb : ¬ x = b := by rintro rfl; exact hr.ne hx
    have l1 := (AHeap.le.refl H).fresh hx ⟨[.int .i64 0, .int .i64 0, .slice none 0 0], true, 61, 3⟩
    refine l91Leaf_ok _ _ _ (hr.fresh hx _) h0 (by omega) (fun o n A c C1 p' r1 d1 ho hp0 hp1 => ?_)
    repeat' (first | simp -implicitDefEqProofs only [zG1,zG2,zG3,zG4,zG5,zG6,zG7,eq_self,resV,rval,X.val,binv,fillL,setR,↓reduceIte,Nat.reduceEqDiff,Nat.reduceAdd,Nat.reduceMul,Nat.reduceLeDiff,Nat.reduceLT,Nat.reduceSub,reduceCtorEq,zGq, g2] | ((with_reducible refine rows_intro (fun _ hb => ?_)); try simp only [set_none, ne_eq] at hb) | ((with_reducible refine new_intro (fun _ hb => ?_)); try simp only [set_none, ne_eq] at hb) | (with_reducible refine draw_same ?_) | ((with_reducible refine gd_split ?_ (fun _ => ?_) (fun _ => ?_)); exact rfl) | ((with_reducible refine td_split ?_ (fun _ => ?_) (fun _ => ?_)); exact rfl) | (with_reducible refine c_split (fun _ => ?_) (fun _ => ?_)))
    refine st_kn3 (d1.kn (Kn.same _ _ _) hxb) (by simp [ocI, ocS]) (fun C2 hc k cs => ?_)
    have d2 := ((hr.dr l1).trans d1).chg hc (New.one hx)
    repeat' (first | simp -implicitDefEqProofs only [zG1,zG2,zG3,zG4,zG5,zG6,zG7,eq_self,resV,rval,X.val,binv,fillL,setR,↓reduceIte,Nat.reduceEqDiff,Nat.reduceAdd,Nat.reduceMul,Nat.reduceLeDiff,Nat.reduceLT,Nat.reduceSub,reduceCtorEq,zGq, cs] | ((with_reducible refine rows_intro (fun _ hb => ?_)); try simp only [set_none, ne_eq] at hb) | ((with_reducible refine new_intro (fun _ hb => ?_)); try simp only [set_none, ne_eq] at hb) | (with_reducible refine draw_same ?_) | ((with_reducible refine gd_split ?_ (fun _ => ?_) (fun _ => ?_)); exact rfl) | ((with_reducible refine td_split ?_ (fun _ => ?_) (fun _ => ?_)); exact rfl) | (with_reducible refine c_split (fun _ => ?_) (fun _ => ?_)))
    exact ret_same (h (.mk o n []) A c C2 p' (r1.chg hc (by simpa using fun e => hxb e.symm) hr.fl d2.le) d2 ho (exV_leaf _ _ _ _ _) hp0 (by omega))
  | succ d ih =>
    intro H K p hd hr h0 h1 h
    have hT : drT (d + 1) = 2 * drT d + 3 := rfl
    have hT0 := drT_ge d
    have leaf : ∀ (C0 : AHeap) (q : Int) (x : Nat) (D : Value → AHeap → Prop), H x = none → Kn C0 x ⟨[.int .i64 0, .int .i64 0, .slice none 0 0], true, 61, 3⟩ → RdK S C0 b q → Dr H C0 b → p ≤ q → q ≤ p + 1 →
        (∀ o n A c C, (∀ E : Value → AHeap → Prop, (∀ C', (C'.cell (some ⟨x, 0, none⟩) = some (.int .i64 o) ∧ C'.cell (some ⟨x, 1, none⟩) = some (.int .i64 n) ∧ C'.cell (some ⟨x, 2, none⟩) = some (.slice A 0 c)) → K (.agg #[.int .i64 o, .int .i64 n, .slice A 0 c]) C' → E undef C') → stK 3 (.pointer (some ⟨x, 0, none⟩)) (.agg #[.int .i64 o, .int .i64 n, .slice A 0 c]) E C) → D (.agg #[.int .i64 o, .int .i64 n, .slice A 0 c]) C) →
        ACalls Try.prog w0 50 [.pointer (some ⟨b, 0, none⟩)] C0 D := by
      intro C0 q x D hx hk hrc hdc hq0 hq1 hD
      have hxb : ¬ x = b := by rintro rfl; exact hr.ne hx
      refine l91Leaf_ok _ _ _ hrc (by omega) (by omega) (fun o n A c C1 p' r1 d1 ho hp0 hp1 => hD o n A c C1 fun E hE => ?_)
      refine st_kn3 (d1.kn hk hxb) (by simp [ocI, ocS]) (fun C2 hc k cs => hE C2 cs ?_)
      have d2 := (hdc.trans d1).chg hc (New.one hx)
      have ho' : exprOk (max (d + 1) 1) (.mk o n []) = true := by
        have : ∀ m, exprOk (1 + m) (.mk o n []) = true := by
          intro m
          induction m with
          | zero => exact ho
          | succ m ih => exact ok_up ih
        have := this d
        rwa [show max (d + 1) 1 = 1 + d by omega]
      exact h (.mk o n []) A c C2 p' (r1.chg hc (by simpa using fun e => hxb e.symm) hr.fl d2.le) d2 ho' (exV_leaf _ _ _ _ _) (by omega) (by omega)
    have w1 : IntKind.i64.wrap (((d + 1 : Nat) : Int) - 1) = (d : Int) := by rw [wrap_i64 (by omega) (by omega)]; omega
    by_cases hd1 : d = 0
    · subst hd1
      have g2 : decide (((0 + 1 : Nat) : Int) < 2) = true := by decide
      refine acalls_of_sx mix Try.func73 of73 (by simp [ir73]) ?_; rw [ir73]; (try delta qT qI qC qO qM qG)
      repeat' (first | simp -implicitDefEqProofs only [zG1,zG2,zG3,zG4,zG5,zG6,zG7,eq_self,resV,rval,X.val,binv,fillL,setR,↓reduceIte,Nat.reduceEqDiff,Nat.reduceAdd,Nat.reduceMul,Nat.reduceLeDiff,Nat.reduceLT,Nat.reduceSub,reduceCtorEq,zGq, g2] | ((with_reducible refine rows_intro (fun _ hb => ?_)); try simp only [set_none, ne_eq] at hb) | ((with_reducible refine new_intro (fun _ hb => ?_)); try simp only [set_none, ne_eq] at hb) | (with_reducible refine draw_same ?_) | ((with_reducible refine gd_split ?_ (fun _ => ?_) (fun _ => ?_)); exact rfl) | ((with_reducible refine td_split ?_ (fun _ => ?_) (fun _ => ?_)); exact rfl) | (with_reducible refine c_split (fun _ => ?_) (fun _ => ?_)))
      have hx := hb
      rename_i x
      refine leaf _ p x _ hx (Kn.same _ _ _) (hr.fresh hx _) (hr.dr ((AHeap.le.refl H).fresh hx _)) (by omega) (by omega) (fun o n A c C st => ?_)
      repeat' (first | simp -implicitDefEqProofs only [zG1,zG2,zG3,zG4,zG5,zG6,zG7,eq_self,resV,rval,X.val,binv,fillL,setR,↓reduceIte,Nat.reduceEqDiff,Nat.reduceAdd,Nat.reduceMul,Nat.reduceLeDiff,Nat.reduceLT,Nat.reduceSub,reduceCtorEq,zGq, g2] | ((with_reducible refine rows_intro (fun _ hb => ?_)); try simp only [set_none, ne_eq] at hb) | ((with_reducible refine new_intro (fun _ hb => ?_)); try simp only [set_none, ne_eq] at hb) | (with_reducible refine draw_same ?_) | ((with_reducible refine gd_split ?_ (fun _ => ?_) (fun _ => ?_)); exact rfl) | ((with_reducible refine td_split ?_ (fun _ => ?_) (fun _ => ?_)); exact rfl) | (with_reducible refine c_split (fun _ => ?_) (fun _ => ?_)))
      refine st _ (fun C2 cs hK => ?_)
      repeat' (first | simp -implicitDefEqProofs only [zG1,zG2,zG3,zG4,zG5,zG6,zG7,eq_self,resV,rval,X.val,binv,fillL,setR,↓reduceIte,Nat.reduceEqDiff,Nat.reduceAdd,Nat.reduceMul,Nat.reduceLeDiff,Nat.reduceLT,Nat.reduceSub,reduceCtorEq,zGq, cs] | ((with_reducible refine rows_intro (fun _ hb => ?_)); try simp only [set_none, ne_eq] at hb) | ((with_reducible refine new_intro (fun _ hb => ?_)); try simp only [set_none, ne_eq] at hb) | (with_reducible refine draw_same ?_) | ((with_reducible refine gd_split ?_ (fun _ => ?_) (fun _ => ?_)); exact rfl) | ((with_reducible refine td_split ?_ (fun _ => ?_) (fun _ => ?_)); exact rfl) | (with_reducible refine c_split (fun _ => ?_) (fun _ => ?_)))
      exact ret_same hK
    · have g2 : decide (((d + 1 : Nat) : Int) < 2) = false := by simp; omega
      refine acalls_of_sx mix Try.func73 of73 (by simp [ir73]) ?_; rw [ir73]; (try delta qT qI qC qO qM qG)
      repeat' (first | simp -implicitDefEqProofs only [zG1,zG2,zG3,zG4,zG5,zG6,zG7,eq_self,resV,rval,X.val,binv,fillL,setR,↓reduceIte,Nat.reduceEqDiff,Nat.reduceAdd,Nat.reduceMul,Nat.reduceLeDiff,Nat.reduceLT,Nat.reduceSub,reduceCtorEq,zGq, g2] | ((with_reducible refine rows_intro (fun _ hb => ?_)); try simp only [set_none, ne_eq] at hb) | ((with_reducible refine new_intro (fun _ hb => ?_)); try simp only [set_none, ne_eq] at hb) | (with_reducible refine draw_same ?_) | ((with_reducible refine gd_split ?_ (fun _ => ?_) (fun _ => ?_)); exact rfl) | ((with_reducible refine td_split ?_ (fun _ => ?_) (fun _ => ?_)); exact rfl) | (with_reducible refine c_split (fun _ => ?_) (fun _ => ?_)))
      have hx := hb
      rename_i x
      have hxb : ¬ x = b := by rintro rfl; exact hr.ne hx
      have l1 := (AHeap.le.refl H).fresh hx ⟨[.int .i64 0, .int .i64 0, .slice none 0 0], true, 61, 3⟩
      refine pickK_ok _ _ (hr.fresh hx _) 3 (by omega) (by omega) (by decide) (fun v C1 r1 d1 hv0 hv1 => ?_)
      have d1' := (hr.dr l1).trans d1
      have k1 := d1.kn (Kn.same H x ⟨[.int .i64 0, .int .i64 0, .slice none 0 0], true, 61, 3⟩) hxb
      repeat' (first | simp -implicitDefEqProofs only [zG1,zG2,zG3,zG4,zG5,zG6,zG7,eq_self,resV,rval,X.val,binv,fillL,setR,↓reduceIte,Nat.reduceEqDiff,Nat.reduceAdd,Nat.reduceMul,Nat.reduceLeDiff,Nat.reduceLT,Nat.reduceSub,reduceCtorEq,zGq, g2] | ((with_reducible refine rows_intro (fun _ hb => ?_)); try simp only [set_none, ne_eq] at hb) | ((with_reducible refine new_intro (fun _ hb => ?_)); try simp only [set_none, ne_eq] at hb) | (with_reducible refine draw_same ?_) | ((with_reducible refine gd_split ?_ (fun _ => ?_) (fun _ => ?_)); exact rfl) | ((with_reducible refine td_split ?_ (fun _ => ?_) (fun _ => ?_)); exact rfl) | (with_reducible refine c_split (fun _ => ?_) (fun _ => ?_)))
      · refine leaf C1 (p + 1) x _ hx k1 r1 d1' (by omega) (by omega) (fun o n A c C st => ?_)
        repeat' (first | simp -implicitDefEqProofs only [zG1,zG2,zG3,zG4,zG5,zG6,zG7,eq_self,resV,rval,X.val,binv,fillL,setR,↓reduceIte,Nat.reduceEqDiff,Nat.reduceAdd,Nat.reduceMul,Nat.reduceLeDiff,Nat.reduceLT,Nat.reduceSub,reduceCtorEq,zGq, g2] | ((with_reducible refine rows_intro (fun _ hb => ?_)); try simp only [set_none, ne_eq] at hb) | ((with_reducible refine new_intro (fun _ hb => ?_)); try simp only [set_none, ne_eq] at hb) | (with_reducible refine draw_same ?_) | ((with_reducible refine gd_split ?_ (fun _ => ?_) (fun _ => ?_)); exact rfl) | ((with_reducible refine td_split ?_ (fun _ => ?_) (fun _ => ?_)); exact rfl) | (with_reducible refine c_split (fun _ => ?_) (fun _ => ?_)))
        refine st _ (fun C2 cs hK => ?_)
        repeat' (first | simp -implicitDefEqProofs only [zG1,zG2,zG3,zG4,zG5,zG6,zG7,eq_self,resV,rval,X.val,binv,fillL,setR,↓reduceIte,Nat.reduceEqDiff,Nat.reduceAdd,Nat.reduceMul,Nat.reduceLeDiff,Nat.reduceLT,Nat.reduceSub,reduceCtorEq,zGq, cs] | ((with_reducible refine rows_intro (fun _ hb => ?_)); try simp only [set_none, ne_eq] at hb) | ((with_reducible refine new_intro (fun _ hb => ?_)); try simp only [set_none, ne_eq] at hb) | (with_reducible refine draw_same ?_) | ((with_reducible refine gd_split ?_ (fun _ => ?_) (fun _ => ?_)); exact rfl) | ((with_reducible refine td_split ?_ (fun _ => ?_) (fun _ => ?_)); exact rfl) | (with_reducible refine c_split (fun _ => ?_) (fun _ => ?_)))
        exact ret_same hK
      · refine opK_ok _ _ r1 (by omega) (by omega) (fun o C2 r2 d2 ho0 ho1 => ?_)
        have d2' := d1'.trans d2
        have k2 := d2.kn k1 hxb
        repeat' (first | simp -implicitDefEqProofs only [zG1,zG2,zG3,zG4,zG5,zG6,zG7,eq_self,resV,rval,X.val,binv,fillL,setR,↓reduceIte,Nat.reduceEqDiff,Nat.reduceAdd,Nat.reduceMul,Nat.reduceLeDiff,Nat.reduceLT,Nat.reduceSub,reduceCtorEq,zGq, w1] | ((with_reducible refine rows_intro (fun _ hb => ?_)); try simp only [set_none, ne_eq] at hb) | ((with_reducible refine new_intro (fun _ hb => ?_)); try simp only [set_none, ne_eq] at hb) | (with_reducible refine draw_same ?_) | ((with_reducible refine gd_split ?_ (fun _ => ?_) (fun _ => ?_)); exact rfl) | ((with_reducible refine td_split ?_ (fun _ => ?_) (fun _ => ?_)); exact rfl) | (with_reducible refine c_split (fun _ => ?_) (fun _ => ?_)))
        refine ih _ _ _ (by omega) r2 (by omega) (by omega) (fun e1 A1 c1 C3 p3 r3 d3 he1 hv1 hp0 hp1 => ?_)
        have k3 := d3.kn k2 hxb
        repeat' (first | simp -implicitDefEqProofs only [zG1,zG2,zG3,zG4,zG5,zG6,zG7,eq_self,resV,rval,X.val,binv,fillL,setR,↓reduceIte,Nat.reduceEqDiff,Nat.reduceAdd,Nat.reduceMul,Nat.reduceLeDiff,Nat.reduceLT,Nat.reduceSub,reduceCtorEq,zGq] | ((with_reducible refine rows_intro (fun _ hb => ?_)); try simp only [set_none, ne_eq] at hb) | ((with_reducible refine new_intro (fun _ hb => ?_)); try simp only [set_none, ne_eq] at hb) | ((with_reducible refine gd_split ?_ (fun _ => ?_) (fun _ => ?_)); exact rfl) | ((with_reducible refine td_split ?_ (fun _ => ?_) (fun _ => ?_)); exact rfl) | (with_reducible refine c_split (fun _ => ?_) (fun _ => ?_)))
        rename_i y
        have hy := hb
        have l4 := (AHeap.le.refl C3).fresh hy ⟨[.int .i64 e1.op, .int .i64 e1.n, .slice A1 e1.args.length c1], true, 61, 3⟩
        have hyx : ¬ y = x := fun e => k3.ne (e ▸ hy)
        have hyb : ¬ y = b := fun e => r3.ne (e ▸ hy)
        have k4 := k3.trans l4
        have ky := Kn.same C3 y ⟨[.int .i64 e1.op, .int .i64 e1.n, .slice A1 e1.args.length c1], true, 61, 3⟩
        have r4 := r3.le l4
        have d4' := (d2'.trans d3).then_le l4
        generalize C3.set y ⟨[.int .i64 e1.op, .int .i64 e1.n, .slice A1 e1.args.length c1], true, 61, 3⟩ = C4 at *
        refine draw_at (C4.no fun z => z ∈ [b, x]) (no_le _ _) ?_
        have ky' : Kn (C4.no fun z => z ∈ [b, x]) y _ := ky.chg Chg.no (by simp; exact ⟨hyb, hyx⟩)
        have q0 := ky'.cell (j := 0) rfl
        have q1 := ky'.cell (j := 1) rfl
        have q2 := ky'.cell (j := 2) rfl
        repeat' (first | simp -implicitDefEqProofs only [zG1,zG2,zG3,zG4,zG5,zG6,zG7,eq_self,resV,rval,X.val,binv,fillL,setR,↓reduceIte,Nat.reduceEqDiff,Nat.reduceAdd,Nat.reduceMul,Nat.reduceLeDiff,Nat.reduceLT,Nat.reduceSub,reduceCtorEq,zGq, w1, q0, q1, q2, adr_lit, Nat.zero_add] | ((with_reducible refine rows_intro (fun _ hb => ?_)); try simp only [set_none, ne_eq] at hb) | ((with_reducible refine new_intro (fun _ hb => ?_)); try simp only [set_none, ne_eq] at hb) | ((with_reducible refine gd_split ?_ (fun _ => ?_) (fun _ => ?_)); exact rfl) | ((with_reducible refine td_split ?_ (fun _ => ?_) (fun _ => ?_)); exact rfl) | (with_reducible refine c_split (fun _ => ?_) (fun _ => ?_)))
        refine ih _ _ _ (by omega) r4 (by omega) (by omega) (fun e2 A2 c2 C5 p5 r5 d5 he2 hv2 hp2 hp3 => ?_)
        have lp5 : AHeap.le (C4.no fun z => z ∈ [b, x]) C5 := ((no_del C4 [b, x] (by simp)).trans d5.le).trans (del_le' _ _)
        repeat' (first | simp -implicitDefEqProofs only [zG1,zG2,zG3,zG4,zG5,zG6,zG7,eq_self,resV,rval,X.val,binv,fillL,setR,↓reduceIte,Nat.reduceEqDiff,Nat.reduceAdd,Nat.reduceMul,Nat.reduceLeDiff,Nat.reduceLT,Nat.reduceSub,reduceCtorEq,zGq, lp5] | ((with_reducible refine rows_intro (fun _ hb => ?_)); try simp only [set_none, ne_eq] at hb) | ((with_reducible refine new_intro (fun _ hb => ?_)); try simp only [set_none, ne_eq] at hb) | ((with_reducible refine gd_split ?_ (fun _ => ?_) (fun _ => ?_)); exact rfl) | ((with_reducible refine td_split ?_ (fun _ => ?_) (fun _ => ?_)); exact rfl) | (with_reducible refine c_split (fun _ => ?_) (fun _ => ?_)))
        refine l4Both_ok _ _ _ o e1 e2 A1 A2 c1 c2 (fun z C6 t6 c6 l6 hz kz => ?_)
        have lp6 := lp5.trans l6
        repeat' (first | simp -implicitDefEqProofs only [zG1,zG2,zG3,zG4,zG5,zG6,zG7,eq_self,resV,rval,X.val,binv,fillL,setR,↓reduceIte,Nat.reduceEqDiff,Nat.reduceAdd,Nat.reduceMul,Nat.reduceLeDiff,Nat.reduceLT,Nat.reduceSub,reduceCtorEq,zGq, lp6] | ((with_reducible refine rows_intro (fun _ hb => ?_)); try simp only [set_none, ne_eq] at hb) | ((with_reducible refine new_intro (fun _ hb => ?_)); try simp only [set_none, ne_eq] at hb) | ((with_reducible refine gd_split ?_ (fun _ => ?_) (fun _ => ?_)); exact rfl) | ((with_reducible refine td_split ?_ (fun _ => ?_) (fun _ => ?_)); exact rfl) | (with_reducible refine c_split (fun _ => ?_) (fun _ => ?_)))
        have k6 := (d5.kn k4 hxb).trans l6
        refine st_kn3 k6 (by simp [ocI, ocS]) (fun C7 hc k7 cs => ?_)
        have lp7 := hc.keep lp6 (New.one (no_in (by simp)))
        repeat' (first | simp -implicitDefEqProofs only [zG1,zG2,zG3,zG4,zG5,zG6,zG7,eq_self,resV,rval,X.val,binv,fillL,setR,↓reduceIte,Nat.reduceEqDiff,Nat.reduceAdd,Nat.reduceMul,Nat.reduceLeDiff,Nat.reduceLT,Nat.reduceSub,reduceCtorEq,zGq, lp7, cs] | ((with_reducible refine rows_intro (fun _ hb => ?_)); try simp only [set_none, ne_eq] at hb) | ((with_reducible refine new_intro (fun _ hb => ?_)); try simp only [set_none, ne_eq] at hb) | ((with_reducible refine gd_split ?_ (fun _ => ?_) (fun _ => ?_)); exact rfl) | ((with_reducible refine td_split ?_ (fun _ => ?_) (fun _ => ?_)); exact rfl) | (with_reducible refine c_split (fun _ => ?_) (fun _ => ?_)))
        have d7 := ((d4'.trans d5).then_le l6).chg hc (New.one hx)
        have hzx : ¬ z = x := fun e => (d5.kn k4 hxb).ne (e ▸ hz)
        have e1v : ExV (C7.off H) e1 [.int .i64 e1.op, .int .i64 e1.n, .slice A1 e1.args.length c1] := by
          have c37 : Chg C3 C7 [b, x] := ((Chg.of_le l4).trans ((d5.toChg (by simp)).trans ((Chg.of_le l6).trans (hc.mono (by simp)))))
          exact hv1.le (d2'.off_chg c37 (by
            intro z hz
            simp only [List.mem_cons, List.not_mem_nil, or_false] at hz
            rcases hz with rfl | rfl
            · exact r2.ne
            · exact k2.ne))
        have e2v : ExV (C7.off H) e2 [.int .i64 e2.op, .int .i64 e2.n, .slice A2 e2.args.length c2] := by
          have c57 : Chg C5 C7 [x] := Chg.after l6 hc
          exact hv2.le (d4'.off_chg c57 (by
            intro z hz
            simp only [List.mem_cons, List.not_mem_nil, or_false] at hz
            subst hz
            exact k4.ne))
        have kz7 := kn_off (H := H) ((d4'.trans d5).nov hz) (kz.chg hc (by simpa using hzx))
        have hmx : max d 1 = d := by omega
        rw [hmx] at he1 he2
        exact ret_same (h (.mk o 0 [e1, e2]) _ _ C7 p5 (r5.le l6 |>.chg hc (by simpa using fun e => hxb e.symm) hr.fl d7.le) d7 (by rw [show max (d + 1) 1 = d + 1 by omega]; exact ok_both ho0 ho1 he1 he2) (exV_both kz7 e1v e2v) (by omega) (by omega))
end Go.Proofs.Ytjhedgoafkabiaa
namespace Go.Proofs.Ytjhedgoafkabiaa
set_option linter.all false
open Go Go.RowKit
inductive St where
  | mk (kind var box : Int) (e : Ex) (body els : List St)
def St.kind : St → Int | .mk k _ _ _ _ _ => k
def St.var : St → Int | .mk _ v _ _ _ _ => v
def St.box : St → Int | .mk _ _ b _ _ _ => b
def St.e : St → Ex | .mk _ _ _ e _ _ => e
def St.body : St → List St | .mk _ _ _ _ b _ => b
def St.els : St → List St | .mk _ _ _ _ _ l => l
/-- The eight cells of a statement. -/
abbrev stc (k v b : Int) (e : Ex) (n1 n2 : Nat) (A0 : Option Addr) (c0 : Nat) (A1 : Option Addr) (c1 : Nat) (A2 : Option Addr) (c2 : Nat) : List Value :=
  [.int .i64 k, .int .i64 v, .int .i64 b, .int .i64 e.op, .int .i64 e.n, .slice A0 e.args.length c0, .slice A1 n1 c1, .slice A2 n2 c2]
mutual
/-- The cells of a statement, and what its slices lead to. -/
def StV (H : AHeap) : St → List Value → Prop
  | .mk k v b e body els, cs => ∃ A0 c0 A1 c1 A2 c2, cs = stc k v b e body.length els.length A0 c0 A1 c1 A2 c2 ∧
      e.args.length ≤ maxLen ∧ ExR H e.args A0 0 ∧ (body.length ≤ maxLen ∧ StR H body A1 0) ∧ (els.length ≤ maxLen ∧ StR H els A2 0)
def StR (H : AHeap) : List St → Option Addr → Nat → Prop
  | [], _, _ => True
  | s :: ss, A, i => (∃ cs, (∀ j, j < 8 → H.cell (adr A (i * 8 + j)) = cs[j]?) ∧ StV H s cs) ∧ StR H ss A (i + 1)
end
mutual
theorem StV.le {H H' : AHeap} (hl : AHeap.le H H') : ∀ {s : St} {cs : List Value}, StV H s cs → StV H' s cs
  | .mk k v b e body els, cs, h => by
    simp only [StV] at h ⊢
    obtain ⟨A0, c0, A1, c1, A2, c2, h1, h2, h3, ⟨h4, h5⟩, h6, h7⟩ := h
    exact ⟨A0, c0, A1, c1, A2, c2, h1, h2, h3.le hl, ⟨h4, StR.le hl h5⟩, h6, StR.le hl h7⟩
theorem StR.le {H H' : AHeap} (hl : AHeap.le H H') : ∀ {ss : List St} {A : Option Addr} {i : Nat}, StR H ss A i → StR H' ss A i
  | [], _, _, _ => by simp only [StR]
  | s :: ss, A, i, h => by
    simp only [StR] at h ⊢
    obtain ⟨⟨cs, h0, h1⟩, h2⟩ := h
    refine ⟨⟨cs, fun j hj => ?_, StV.le hl h1⟩, StR.le hl h2⟩
    have h3 := h0 j hj
    have h8 : cs.length = 8 := by
      cases s with
      | mk k v b e body els =>
        simp only [StV] at h1
        obtain ⟨A0, c0, A1, c1, A2, c2, rfl, _⟩ := h1
        rfl
    rw [List.getElem?_eq_getElem (by omega)] at h3 ⊢
    exact hl.cell h3
end
theorem StV.open_ {H : AHeap} {s : St} {cs : List Value} (h : StV H s cs) : ∃ A0 c0 A1 c1 A2 c2, cs = stc s.kind s.var s.box s.e s.body.length s.els.length A0 c0 A1 c1 A2 c2 ∧
    s.e.args.length ≤ maxLen ∧ ExR H s.e.args A0 0 ∧ (s.body.length ≤ maxLen ∧ StR H s.body A1 0) ∧ (s.els.length ≤ maxLen ∧ StR H s.els A2 0) := by
  cases s with
  | mk k v b e body els => simpa only [StV, St.kind, St.var, St.box, St.e, St.body, St.els] using h
theorem StV.len {H : AHeap} {s : St} {cs : List Value} (h : StV H s cs) : cs.length = 8 := by
  obtain ⟨_, _, _, _, _, _, rfl, _⟩ := h.open_
  rfl
theorem StV.ex {H : AHeap} {e : Ex} {A : Option Addr} (c : Nat) (hl : e.args.length ≤ maxLen) (h : ExR H e.args A 0) : ExV H e [.int .i64 e.op, .int .i64 e.n, .slice A e.args.length c] := by
  cases e with
  | mk op n args => simp only [ExV, Ex.op, Ex.n, Ex.args] at *; exact ⟨A, c, rfl, hl, h⟩
theorem StR.at_ {H : AHeap} : ∀ {ss : List St} {A : Option Addr} {i k : Nat}, StR H ss A i → (hk : k < ss.length) → ∃ cs, (∀ j, j < 8 → H.cell (adr A ((i + k) * 8 + j)) = cs[j]?) ∧ StV H ss[k] cs
  | s :: ss, A, i, 0, h, _ => by simp only [StR] at h; exact h.1
  | s :: ss, A, i, k + 1, h, hk => by
    simp only [StR] at h
    have := StR.at_ (k := k) h.2 (by simpa using hk)
    rw [show i + 1 + k = i + (k + 1) by omega] at this
    exact this
/-- The eight cells that stand at a place. -/
abbrev Pl8 (H : AHeap) (A : Option Addr) (o : Nat) (k v b : Int) (e : Ex) (n1 n2 : Nat) (A0 : Option Addr) (c0 : Nat) (A1 : Option Addr) (c1 : Nat) (A2 : Option Addr) (c2 : Nat) : Prop :=
  H.cell (adr A o) = some (.int .i64 k) ∧ H.cell (adr A (o + 1)) = some (.int .i64 v) ∧ H.cell (adr A (o + 2)) = some (.int .i64 b) ∧ H.cell (adr A (o + 3)) = some (.int .i64 e.op) ∧ H.cell (adr A (o + 4)) = some (.int .i64 e.n) ∧
  H.cell (adr A (o + 5)) = some (.slice A0 e.args.length c0) ∧ H.cell (adr A (o + 6)) = some (.slice A1 n1 c1) ∧ H.cell (adr A (o + 7)) = some (.slice A2 n2 c2)
theorem Pl8.le {H H' : AHeap} (hl : AHeap.le H H') {A : Option Addr} {o : Nat} {k v b : Int} {e : Ex} {n1 n2 : Nat} {A0 : Option Addr} {c0 : Nat} {A1 : Option Addr} {c1 : Nat} {A2 : Option Addr} {c2 : Nat}
    (h : Pl8 H A o k v b e n1 n2 A0 c0 A1 c1 A2 c2) : Pl8 H' A o k v b e n1 n2 A0 c0 A1 c1 A2 c2 := by
  obtain ⟨h0, h1, h2, h3, h4, h5, h6, h7⟩ := h
  exact ⟨hl.cell h0, hl.cell h1, hl.cell h2, hl.cell h3, hl.cell h4, hl.cell h5, hl.cell h6, hl.cell h7⟩
/-- The k-th statement. -/
theorem StR.arg {H : AHeap} {ss : List St} {A : Option Addr} {k : Nat} (h : StR H ss A 0) (hk : k < ss.length) : A.isSome = true ∧ ∃ A0 c0 A1 c1 A2 c2,
    Pl8 H A (k * 8) ss[k].kind ss[k].var ss[k].box ss[k].e ss[k].body.length ss[k].els.length A0 c0 A1 c1 A2 c2 ∧
    StV H ss[k] (stc ss[k].kind ss[k].var ss[k].box ss[k].e ss[k].body.length ss[k].els.length A0 c0 A1 c1 A2 c2) := by
  obtain ⟨cs, h0, h1⟩ := h.at_ hk
  obtain ⟨A0, c0, A1, c1, A2, c2, rfl, _⟩ := h1.open_
  rw [Nat.zero_add] at h0
  have q := h0 0 (by omega)
  refine ⟨?_, A0, c0, A1, c1, A2, c2, ⟨q, h0 1 (by omega), h0 2 (by omega), h0 3 (by omega), h0 4 (by omega), h0 5 (by omega), h0 6 (by omega), h0 7 (by omega)⟩, h1⟩
  cases A with
  | none => cases q
  | some a => rfl
/-- A statement's cells, as the call has them. -/
theorem StV.parts {H : AHeap} {s : St} {A0 : Option Addr} {c0 : Nat} {A1 : Option Addr} {c1 : Nat} {A2 : Option Addr} {c2 : Nat} (h : StV H s (stc s.kind s.var s.box s.e s.body.length s.els.length A0 c0 A1 c1 A2 c2)) :
    ExV H s.e [.int .i64 s.e.op, .int .i64 s.e.n, .slice A0 s.e.args.length c0] ∧ (s.body.length ≤ maxLen ∧ StR H s.body A1 0) ∧ (s.els.length ≤ maxLen ∧ StR H s.els A2 0) := by
  obtain ⟨B0, d0, B1, d1, B2, d2, he, h1, h2, h3, h4⟩ := h.open_
  simp only [stc, List.cons.injEq, Value.slice.injEq, true_and, and_true] at he
  obtain ⟨⟨rfl, rfl⟩, ⟨rfl, rfl⟩, rfl, rfl⟩ := he
  exact ⟨StV.ex _ h1 h2, h3, h4⟩
/-- Cells in a row that read as statements. -/
def StL (H : AHeap) : List St → List Value → Prop
  | [], xs => xs = []
  | s :: ss, xs => ∃ cs ys, xs = cs ++ ys ∧ StV H s cs ∧ StL H ss ys
theorem StL.le {H H' : AHeap} (hl : AHeap.le H H') : ∀ {ss : List St} {xs : List Value}, StL H ss xs → StL H' ss xs
  | [], _, h => h
  | s :: ss, xs, h => by
    obtain ⟨cs, ys, h1, h2, h3⟩ := h
    exact ⟨cs, ys, h1, h2.le hl, h3.le hl⟩
theorem StL.len {H : AHeap} : ∀ {ss : List St} {xs : List Value}, StL H ss xs → xs.length = ss.length * 8
  | [], _, h => by simp only [StL] at h; subst h; rfl
  | s :: ss, xs, h => by
    obtain ⟨cs, ys, rfl, h2, h3⟩ := h
    have := h2.len
    have := h3.len
    simp only [List.length_append, List.length_cons]; omega
theorem StL.app {H : AHeap} : ∀ {ss ts : List St} {xs ys : List Value}, StL H ss xs → StL H ts ys → StL H (ss ++ ts) (xs ++ ys)
  | [], ts, xs, ys, h, h' => by simp only [StL] at h; subst h; exact h'
  | s :: ss, ts, xs, ys, h, h' => by
    obtain ⟨cs, zs, rfl, h2, h3⟩ := h
    exact ⟨cs, zs ++ ys, by rw [List.append_assoc], h2, h3.app h'⟩
theorem StL.one {H : AHeap} {s : St} {cs : List Value} (h : StV H s cs) : StL H [s] cs := ⟨cs, [], by simp, h, rfl⟩
theorem StL.take {H : AHeap} : ∀ {ss : List St} {xs : List Value} (k : Nat), StL H ss xs → StL H (ss.take k) (xs.take (k * 8))
  | [], _, k, h => by simp only [StL] at h; subst h; simp [StL]
  | s :: ss, xs, 0, h => by simp [StL]
  | s :: ss, xs, k + 1, h => by
    obtain ⟨cs, ys, rfl, h2, h3⟩ := h
    refine ⟨cs, ys.take (k * 8), ?_, h2, h3.take k⟩
    have := h2.len
    rw [List.take_append, List.take_of_length_le (by omega), show (k + 1) * 8 - cs.length = k * 8 by omega]
theorem StL.r {H : AHeap} {A : Option Addr} : ∀ {ss : List St} {xs : List Value} {i : Nat}, StL H ss xs → (∀ j v, xs[j]? = some v → H.cell (adr A (i * 8 + j)) = some v) → StR H ss A i
  | [], _, _, _, _ => by simp only [StR]
  | s :: ss, xs, i, h, hf => by
    obtain ⟨cs, ys, rfl, h2, h3⟩ := h
    have h8 := h2.len
    simp only [StR]
    refine ⟨⟨cs, fun j hj => ?_, h2⟩, StL.r h3 fun j v hv => ?_⟩
    · rw [List.getElem?_eq_getElem (by omega)]
      exact hf j _ (by rw [List.getElem?_append_left (by omega), List.getElem?_eq_getElem (by omega)])
    · have := hf (8 + j) v (by rw [List.getElem?_append_right (by omega), show 8 + j - cs.length = j by omega]; exact hv)
      rw [show (i + 1) * 8 + j = i * 8 + (8 + j) by omega]
      exact this
theorem StL.str {H : AHeap} {A : Option Addr} {ss : List St} {xs : List Value} (h : StL H ss xs) (hf : Fl H A xs) : StR H ss A 0 := h.r fun j v hv => by
  rw [Nat.zero_mul, Nat.zero_add]; exact hf j v hv
/-- The cells of statements in the heap, as a row. -/
theorem StR.fl {H : AHeap} {A : Option Addr} : ∀ {ss : List St} {i : Nat}, StR H ss A i → ∃ xs, StL H ss xs ∧ ∀ j v, xs[j]? = some v → H.cell (adr A (i * 8 + j)) = some v
  | [], i, _ => ⟨[], rfl, fun j v h => by cases h⟩
  | s :: ss, i, h => by
    simp only [StR] at h
    obtain ⟨⟨cs, h0, h1⟩, h2⟩ := h
    obtain ⟨ys, g1, g2⟩ := h2.fl
    have h8 := h1.len
    refine ⟨cs ++ ys, ⟨cs, ys, rfl, h1, g1⟩, fun j v hv => ?_⟩
    rw [List.getElem?_append] at hv
    split at hv
    · rw [h0 j (by omega)]; exact hv
    · have := g2 _ _ hv
      rw [show i * 8 + j = (i + 1) * 8 + (j - cs.length) by omega]
      exact this
theorem StR.fl0 {H : AHeap} {A : Option Addr} {ss : List St} (h : StR H ss A 0) : ∃ xs, StL H ss xs ∧ Fl H A xs := by
  obtain ⟨xs, h1, h2⟩ := h.fl
  refine ⟨xs, h1, fun j v hv => ?_⟩
  have := h2 j v hv
  rwa [Nat.zero_mul, Nat.zero_add] at this
mutual
theorem stv_one {H : AHeap} : ∀ {s : St} {cs : List Value}, StV H s cs → ∀ v ∈ cs, v.oneCell' = true
  | .mk k v b e body els, cs, h => by
    simp only [StV] at h
    obtain ⟨A0, c0, A1, c1, A2, c2, rfl, _⟩ := h
    intro v hv
    simp only [stc, List.mem_cons, List.not_mem_nil, or_false] at hv
    rcases hv with rfl | rfl | rfl | rfl | rfl | rfl | rfl | rfl <;> exact id rfl
end
theorem StL.one' {H : AHeap} : ∀ {ss : List St} {xs : List Value}, StL H ss xs → ∀ v ∈ xs, v.oneCell' = true
  | [], _, h, v, hv => by simp only [StL] at h; subst h; cases hv
  | s :: ss, xs, h, v, hv => by
    obtain ⟨cs, ys, rfl, h2, h3⟩ := h
    rcases List.mem_append.1 hv with hv | hv
    · exact stv_one h2 v hv
    · exact h3.one' v hv
def plainE (e : Ex) : Bool := e.op == 0 && e.n == 0 && e.args.isEmpty
/-- A statement without blocks is as its kind needs. -/
def stSimple (s : St) : Bool :=
  s.body.isEmpty && s.els.isEmpty &&
  if s.kind = 1 then decide (0 ≤ s.var) && decide (s.var ≤ 3) && s.box == 0 && exprOk 5 s.e
  else if s.kind = 4 then s.var == 0 && decide (0 ≤ s.box) && decide (s.box ≤ 2) && exprOk 5 s.e
  else if s.kind = 5 then decide (0 ≤ s.var) && decide (s.var ≤ 3) && decide (0 ≤ s.box) && decide (s.box ≤ 2) && plainE s.e
  else if s.kind = 6 then s.var == 0 && s.box == 0 && plainE s.e
  else if s.kind = 7 then s.var == 0 && s.box == 0 && exprOk 5 s.e
  else false
def stBlock (s : St) : Bool := s.var == 0 && s.box == 0 && exprOk 5 s.e && (s.kind == 2 || s.els.isEmpty)
def stOk : Nat → St → Bool
  | 0, s => if s.kind = 2 ∨ s.kind = 3 then false else stSimple s
  | d + 1, s => if s.kind = 2 ∨ s.kind = 3 then stBlock s && s.body.all (stOk d) && s.els.all (stOk d) else stSimple s
mutual
/-- How many statements there are, those in blocks too. -/
def St.cnt : St → Nat
  | .mk _ _ _ _ body els => 1 + cntL body + cntL els
def cntL : List St → Nat
  | [] => 0
  | s :: ss => s.cnt + cntL ss
end
theorem St.cnt_eq (s : St) : s.cnt = 1 + cntL s.body + cntL s.els := by cases s; simp only [St.cnt, St.body, St.els]
theorem cntL_len : ∀ ss : List St, ss.length ≤ cntL ss
  | [] => by simp
  | s :: ss => by simp only [cntL, List.length_cons, St.cnt_eq]; have := cntL_len ss; omega
theorem cntL_app : ∀ ss ts : List St, cntL (ss ++ ts) = cntL ss + cntL ts
  | [], ts => by simp [cntL]
  | s :: ss, ts => by simp only [List.cons_append, cntL, cntL_app ss ts]; omega
theorem cntL_take {ss : List St} : ∀ {k : Nat} (h : k < ss.length), cntL (ss.take (k + 1)) = cntL (ss.take k) + ss[k].cnt := by
  induction ss with
  | nil => intro k h; cases h
  | cons e es ih =>
    intro k h
    cases k with
    | zero => simp [cntL]
    | succ k =>
      have := ih (k := k) (by simpa using h)
      simp only [List.take_succ_cons, cntL, List.getElem_cons_succ, this]
      omega
theorem cntL_le {ss : List St} (k : Nat) : cntL (ss.take k) ≤ cntL ss := by
  induction ss generalizing k with
  | nil => simp [cntL]
  | cons e es ih =>
    cases k with
    | zero => simp [cntL]
    | succ k => simp only [List.take_succ_cons, cntL]; have := ih k; omega
theorem cntL_at {ss : List St} {k : Nat} (h : k < ss.length) : ss[k].cnt ≤ cntL ss := by
  have h1 := cntL_take h
  have h2 := cntL_le (ss := ss) (k + 1)
  omega
def stsOk (ss : List St) : Bool := ss.all (stOk 3) && decide (cntL ss ≤ 16)
end Go.Proofs.Ytjhedgoafkabiaa
namespace Go.Proofs.Ytjhedgoafkabiaa
set_option linter.all false
open Go Go.RowKit
set_option maxRecDepth 100000
variable (w0 : World)
theorem z20 : (0 ≤ (0 : Int) ∧ (0 : Int) < ((2 : Nat) : Int)) = True := by decide
theorem z21 : (0 ≤ (1 : Int) ∧ (1 : Int) < ((2 : Nat) : Int)) = True := by decide
theorem z2e : (((2 : Nat) : Int) == 2) = true := by decide
theorem ok_two {d : Nat} {op n : Int} {x y : Ex} : exprOk (d + 1) (.mk op n [x, y]) = (!(op == 0) && !(op == 13) && opValid op && n == 0 && exprOk d x && exprOk d y) := by
  simp only [exprOk, opValid, List.isEmpty_cons, Bool.and_false]
  by_cases h0 : op = 0
  · simp [h0]
  · by_cases h1 : op = 13
    · simp [h1]
    · have e0 : (op == 0) = false := by simp [h0]
      have e1 : (op == 13) = false := by simp [h1]
      simp [h0, h1, e0, e1, Bool.and_assoc]
theorem ok_more {d : Nat} {op n : Int} {args : List Ex} (h : args.length ≠ 2) : exprOk (d + 1) (.mk op n args) = ((op == 0 && decide (0 ≤ n) && decide (n ≤ 99999) || op == 13 && decide (0 ≤ n) && decide (n < 4)) && args.length == 0) := by
  have e2 : args.isEmpty = (args.length == 0) := by cases args <;> simp
  match args, h with
  | [], _ | [_], _ | _ :: _ :: _ :: _, _ =>
    simp only [exprOk]
    by_cases h0 : op = 0
    · simp [h0]
    · by_cases h1 : op = 13
      · have e3 : decide (n ≤ 3) = decide (n < 4) := decide_eq_decide.2 (by omega)
        simp only [h1, e3]; simp
      · have e0 : (op == 0) = false := by simp [h0]
        have e1 : (op == 13) = false := by simp [h1]
        simp [h0, h1, e0, e1]
theorem ok_zero (e : Ex) : exprOk 0 e = false := by cases e; rfl
theorem exprValid_ok (d : Nat) : ∀ (e : Ex) (a : Option Addr) (c : Nat) (H : AHeap) (K : Value → AHeap → Prop), d ≤ 1000 → ExV H e [.int .i64 e.op, .int .i64 e.n, .slice a e.args.length c] → K (.bool (exprOk d e)) H →
    ACalls Try.prog w0 101 [.agg #[.int .i64 e.op, .int .i64 e.n, .slice a e.args.length c], .int .i64 d] H K := by
  induction d with
  | zero =>
    intro ⟨op, n, args⟩ a c H K hd hv h
    simp only [Ex.op, Ex.n, Ex.args] at hv ⊢
    simp only [exprOk] at h
    have g2 : decide (((0 : Nat) : Int) > 1) = false := by decide
    have g3 : decide (((0 : Nat) : Int) > 0) = false := by decide
    refine acalls_of_sx mix Try.func101 of101 (by simp [ir101]) ?_; rw [ir101]; (try delta qT qI qC qO qM qG)
    repeat' (first | simp -implicitDefEqProofs only [zG1,zG2,zG3,zG4,zG5,zG6,zG7,eq_self,resV,rval,X.val,binv,fillL,setR,↓reduceIte,Nat.reduceEqDiff,Nat.reduceAdd,Nat.reduceMul,Nat.reduceLeDiff,Nat.reduceLT,Nat.reduceSub,reduceCtorEq,zGr, g2, g3] | ((with_reducible refine rows_intro (fun _ hb => ?_)); try simp only [set_none, ne_eq] at hb) | ((with_reducible refine new_intro (fun _ hb => ?_)); try simp only [set_none, ne_eq] at hb) | (with_reducible refine draw_same ?_) | ((with_reducible refine gd_split ?_ (fun _ => ?_) (fun _ => ?_)); exact rfl) | ((with_reducible refine td_split ?_ (fun _ => ?_) (fun _ => ?_)); exact rfl) | (with_reducible refine c_split (fun _ => ?_) (fun _ => ?_)) | (with_reducible refine opValid_ok _ _ _ _ ?_))
    all_goals exact ⟨H, (by simp -implicitDefEqProofs only [le_set_true, le_refl_true, eq_self, *]), h⟩
  | succ d ih =>
    intro ⟨op, n, args⟩ a c H K hd hv h
    obtain ⟨_, _, he, hm, hR⟩ := hv.open_
    simp only [List.cons.injEq, and_true, Value.slice.injEq, true_and] at he
    obtain ⟨rfl, rfl⟩ := he
    simp only [Ex.op, Ex.n, Ex.args] at hR hm hv ⊢
    have g2 : decide (((d + 1 : Nat) : Int) > 0) = true := by simp <;> omega
    by_cases h2 : args.length = 2
    · obtain ⟨x, y, rfl⟩ : ∃ x y, args = [x, y] := by
        match args, h2 with
        | [x, y], _ => exact ⟨x, y, rfl⟩
      rw [ok_two] at h
      obtain ⟨a', c', b', d', hc, hx, hy⟩ := hR.two
      have g1 : IntKind.i64.wrap (((d + 1 : Nat) : Int) - 1) = (d : Int) := by rw [wrap_i64 (by omega) (by omega)]; omega
      have g3 : (((2 : Nat) : Int) == 0) = false := by decide
      have hz : d = 0 → exprOk d x = false := by rintro rfl; exact ok_zero x
      refine acalls_of_sx mix Try.func101 of101 (by simp [ir101]) ?_; rw [ir101]; (try delta qT qI qC qO qM qG)
      repeat' (first | simp -implicitDefEqProofs only [zG1,zG2,zG3,zG4,zG5,zG6,zG7,eq_self,resV,rval,X.val,binv,fillL,setR,↓reduceIte,Nat.reduceEqDiff,Nat.reduceAdd,Nat.reduceMul,Nat.reduceLeDiff,Nat.reduceLT,Nat.reduceSub,reduceCtorEq,zGr, z20, z21, z2e, g1, g2, g3, Int.toNat_zero, Int.toNat_one, Nat.zero_mul, Nat.one_mul, cell_old, *] | ((with_reducible refine rows_intro (fun _ hb => ?_)); try simp only [set_none, ne_eq] at hb) | ((with_reducible refine new_intro (fun _ hb => ?_)); try simp only [set_none, ne_eq] at hb) | (with_reducible refine draw_same ?_) | ((with_reducible refine gd_split ?_ (fun _ => ?_) (fun _ => ?_)); exact rfl) | ((with_reducible refine td_split ?_ (fun _ => ?_) (fun _ => ?_)); exact rfl) | (with_reducible refine c_split (fun _ => ?_) (fun _ => ?_)) | (with_reducible refine opValid_ok _ _ _ _ ?_) | (with_reducible refine ih x a' c' _ _ (by omega) (hx.le ((AHeap.le.refl H).fresh ‹_› _)) ?_) | (with_reducible refine ih y b' d' _ _ (by omega) (hy.le ((AHeap.le.refl H).fresh ‹_› _)) ?_))
      all_goals refine ⟨H, (by simp -implicitDefEqProofs only [le_set_true, le_refl_true, eq_self, *]), kb h ?_⟩
      all_goals clear h hv hR hc hx hy ih
      all_goals (try simp only [beq_iff_eq, beq_eq_false_iff_ne, bne_iff_ne, bne_eq_false_iff_eq, decide_eq_true_eq, decide_eq_false_iff_not, ne_eq, Bool.not_eq_true, Bool.not_eq_false, Bool.not_eq_eq_eq_not, Bool.not_true, Bool.not_false, Int.not_lt, Int.not_le, ge_iff_le, gt_iff_lt] at *)
      all_goals grind
    · have g3 : (((args.length : Nat) : Int) == 2) = false := by simp; omega
      rw [ok_more h2] at h
      refine acalls_of_sx mix Try.func101 of101 (by simp [ir101]) ?_; rw [ir101]; (try delta qT qI qC qO qM qG)
      repeat' (first | simp -implicitDefEqProofs only [zG1,zG2,zG3,zG4,zG5,zG6,zG7,eq_self,resV,rval,X.val,binv,fillL,setR,↓reduceIte,Nat.reduceEqDiff,Nat.reduceAdd,Nat.reduceMul,Nat.reduceLeDiff,Nat.reduceLT,Nat.reduceSub,reduceCtorEq,zGr, g2, g3] | ((with_reducible refine rows_intro (fun _ hb => ?_)); try simp only [set_none, ne_eq] at hb) | ((with_reducible refine new_intro (fun _ hb => ?_)); try simp only [set_none, ne_eq] at hb) | (with_reducible refine draw_same ?_) | ((with_reducible refine gd_split ?_ (fun _ => ?_) (fun _ => ?_)); exact rfl) | ((with_reducible refine td_split ?_ (fun _ => ?_) (fun _ => ?_)); exact rfl) | (with_reducible refine c_split (fun _ => ?_) (fun _ => ?_)) | (with_reducible refine opValid_ok _ _ _ _ ?_))
      all_goals refine ⟨H, (by simp -implicitDefEqProofs only [le_set_true, le_refl_true, eq_self, *]), kb h ?_⟩
      all_goals clear h hv hR ih
      all_goals (try simp only [beq_iff_eq, beq_eq_false_iff_ne, bne_iff_ne, bne_eq_false_iff_eq, decide_eq_true_eq, decide_eq_false_iff_not, ne_eq, Bool.not_eq_true, Bool.not_eq_false, Bool.not_eq_eq_eq_not, Bool.not_true, Bool.not_false, Int.not_lt, Int.not_le, ge_iff_le, gt_iff_lt] at *)
      all_goals grind
variable (H : AHeap) (K : Value → AHeap → Prop)
theorem exprValid5_ok' (e : Ex) (a : Option Addr) (c : Nat) (hv : ExV H e [.int .i64 e.op, .int .i64 e.n, .slice a e.args.length c]) (h : K (.bool (exprOk 5 e)) H) :
    ACalls Try.prog w0 101 [.agg #[.int .i64 e.op, .int .i64 e.n, .slice a e.args.length c], .int .i64 5] H K := exprValid_ok w0 5 e a c H K (by decide) hv h
theorem exprValid5_ok (e : Ex) (a : Option Addr) (c : Nat) (hv : ExV H e [.int .i64 e.op, .int .i64 e.n, .slice a e.args.length c]) (h : K (.bool (exprOk 5 e)) H) :
    ACalls Try.prog w0 98 [.agg #[.int .i64 e.op, .int .i64 e.n, .slice a e.args.length c]] H K := by
  refine acalls_of_sx mix Try.func98 of98 (by simp [ir98]) ?_; rw [ir98]; (try delta qT qI qC qO qM qG)
  repeat' (first | simp -implicitDefEqProofs only [zG1,zG2,zG3,zG4,zG5,zG6,zG7,eq_self,resV,rval,X.val,binv,fillL,setR,↓reduceIte,Nat.reduceEqDiff,Nat.reduceAdd,Nat.reduceMul,Nat.reduceLeDiff,Nat.reduceLT,Nat.reduceSub,reduceCtorEq,zGr, *] | ((with_reducible refine rows_intro (fun _ hb => ?_)); try simp only [set_none, ne_eq] at hb) | ((with_reducible refine new_intro (fun _ hb => ?_)); try simp only [set_none, ne_eq] at hb) | (with_reducible refine draw_same ?_) | ((with_reducible refine gd_split ?_ (fun _ => ?_) (fun _ => ?_)); exact rfl) | ((with_reducible refine td_split ?_ (fun _ => ?_) (fun _ => ?_)); exact rfl) | (with_reducible refine c_split (fun _ => ?_) (fun _ => ?_)) | (with_reducible refine exprValid5_ok' _ _ _ e a c (hv.le ((AHeap.le.refl H).fresh ‹_› _)) ?_))
  exact ⟨H, (by simp -implicitDefEqProofs only [le_set_true, le_refl_true, eq_self, *]), h⟩
theorem l4Ok_ok (d : Nat) : ∀ (e : Ex) (a : Option Addr) (c : Nat) (H : AHeap) (K : Value → AHeap → Prop), d ≤ 1000 → ExV H e [.int .i64 e.op, .int .i64 e.n, .slice a e.args.length c] → K (.bool (exprOk d e)) H →
    ACalls Try.prog w0 100 [.agg #[.int .i64 e.op, .int .i64 e.n, .slice a e.args.length c], .int .i64 d] H K := by
  induction d with
  | zero =>
    intro ⟨op, n, args⟩ a c H K hd hv h
    simp only [Ex.op, Ex.n, Ex.args] at hv ⊢
    simp only [exprOk] at h
    have g2 : decide (((0 : Nat) : Int) < 1) = true := by decide
    refine acalls_of_sx mix Try.func100 of100 (by simp [ir100]) ?_; rw [ir100]; (try delta qT qI qC qO qM qG)
    repeat' (first | simp -implicitDefEqProofs only [zG1,zG2,zG3,zG4,zG5,zG6,zG7,eq_self,resV,rval,X.val,binv,fillL,setR,↓reduceIte,Nat.reduceEqDiff,Nat.reduceAdd,Nat.reduceMul,Nat.reduceLeDiff,Nat.reduceLT,Nat.reduceSub,reduceCtorEq,zGr, g2] | ((with_reducible refine rows_intro (fun _ hb => ?_)); try simp only [set_none, ne_eq] at hb) | ((with_reducible refine new_intro (fun _ hb => ?_)); try simp only [set_none, ne_eq] at hb) | (with_reducible refine draw_same ?_) | ((with_reducible refine gd_split ?_ (fun _ => ?_) (fun _ => ?_)); exact rfl) | ((with_reducible refine td_split ?_ (fun _ => ?_) (fun _ => ?_)); exact rfl) | (with_reducible refine c_split (fun _ => ?_) (fun _ => ?_)) | (with_reducible refine opValidS_ok _ _ _ _ ?_))
    all_goals exact ⟨H, (by simp -implicitDefEqProofs only [le_set_true, le_refl_true, eq_self, *]), h⟩
  | succ d ih =>
    intro ⟨op, n, args⟩ a c H K hd hv h
    obtain ⟨_, _, he, hm, hR⟩ := hv.open_
    simp only [List.cons.injEq, and_true, Value.slice.injEq, true_and] at he
    obtain ⟨rfl, rfl⟩ := he
    simp only [Ex.op, Ex.n, Ex.args] at hR hm hv ⊢
    have g2 : decide (((d + 1 : Nat) : Int) < 1) = false := by simp <;> omega
    by_cases h2 : args.length = 2
    · obtain ⟨x, y, rfl⟩ : ∃ x y, args = [x, y] := by
        match args, h2 with
        | [x, y], _ => exact ⟨x, y, rfl⟩
      rw [ok_two] at h
      obtain ⟨a', c', b', d', hc, hx, hy⟩ := hR.two
      have g1 : IntKind.i64.wrap (((d + 1 : Nat) : Int) - 1) = (d : Int) := by rw [wrap_i64 (by omega) (by omega)]; omega
      have g3 : (((2 : Nat) : Int) == 0) = false := by decide
      refine acalls_of_sx mix Try.func100 of100 (by simp [ir100]) ?_; rw [ir100]; (try delta qT qI qC qO qM qG)
      repeat' (first | simp -implicitDefEqProofs only [zG1,zG2,zG3,zG4,zG5,zG6,zG7,eq_self,resV,rval,X.val,binv,fillL,setR,↓reduceIte,Nat.reduceEqDiff,Nat.reduceAdd,Nat.reduceMul,Nat.reduceLeDiff,Nat.reduceLT,Nat.reduceSub,reduceCtorEq,zGr, z20, z21, z2e, g1, g2, g3, Int.toNat_zero, Int.toNat_one, Nat.zero_mul, Nat.one_mul, cell_old, *] | ((with_reducible refine rows_intro (fun _ hb => ?_)); try simp only [set_none, ne_eq] at hb) | ((with_reducible refine new_intro (fun _ hb => ?_)); try simp only [set_none, ne_eq] at hb) | (with_reducible refine draw_same ?_) | ((with_reducible refine gd_split ?_ (fun _ => ?_) (fun _ => ?_)); exact rfl) | ((with_reducible refine td_split ?_ (fun _ => ?_) (fun _ => ?_)); exact rfl) | (with_reducible refine c_split (fun _ => ?_) (fun _ => ?_)) | (with_reducible refine opValidS_ok _ _ _ _ ?_) | (with_reducible refine l6In_ok _ _ _ _ _ _ ?_) | (with_reducible refine ih x a' c' _ _ (by omega) (hx.le ((AHeap.le.refl H).fresh ‹_› _)) ?_) | (with_reducible refine ih y b' d' _ _ (by omega) (hy.le ((AHeap.le.refl H).fresh ‹_› _)) ?_))
      all_goals refine ⟨H, (by simp -implicitDefEqProofs only [le_set_true, le_refl_true, eq_self, *]), kb h ?_⟩
      all_goals clear h hv hR hc hx hy ih
      all_goals (try simp only [beq_iff_eq, beq_eq_false_iff_ne, bne_iff_ne, bne_eq_false_iff_eq, decide_eq_true_eq, decide_eq_false_iff_not, ne_eq, Bool.not_eq_true, Bool.not_eq_false, Bool.not_eq_eq_eq_not, Bool.not_true, Bool.not_false, Int.not_lt, Int.not_le, ge_iff_le, gt_iff_lt] at *)
      all_goals grind
    · have g3 : (((args.length : Nat) : Int) == 2) = false := by simp; omega
      rw [ok_more h2] at h
      refine acalls_of_sx mix Try.func100 of100 (by simp [ir100]) ?_; rw [ir100]; (try delta qT qI qC qO qM qG)
      repeat' (first | simp -implicitDefEqProofs only [zG1,zG2,zG3,zG4,zG5,zG6,zG7,eq_self,resV,rval,X.val,binv,fillL,setR,↓reduceIte,Nat.reduceEqDiff,Nat.reduceAdd,Nat.reduceMul,Nat.reduceLeDiff,Nat.reduceLT,Nat.reduceSub,reduceCtorEq,zGr, g2, g3] | ((with_reducible refine rows_intro (fun _ hb => ?_)); try simp only [set_none, ne_eq] at hb) | ((with_reducible refine new_intro (fun _ hb => ?_)); try simp only [set_none, ne_eq] at hb) | (with_reducible refine draw_same ?_) | ((with_reducible refine gd_split ?_ (fun _ => ?_) (fun _ => ?_)); exact rfl) | ((with_reducible refine td_split ?_ (fun _ => ?_) (fun _ => ?_)); exact rfl) | (with_reducible refine c_split (fun _ => ?_) (fun _ => ?_)) | (with_reducible refine opValidS_ok _ _ _ _ ?_) | (with_reducible refine l6In_ok _ _ _ _ _ _ ?_))
      all_goals refine ⟨H, (by simp -implicitDefEqProofs only [le_set_true, le_refl_true, eq_self, *]), kb h ?_⟩
      all_goals clear h hv hR ih
      all_goals (try simp only [beq_iff_eq, beq_eq_false_iff_ne, bne_iff_ne, bne_eq_false_iff_eq, decide_eq_true_eq, decide_eq_false_iff_not, ne_eq, Bool.not_eq_true, Bool.not_eq_false, Bool.not_eq_eq_eq_not, Bool.not_true, Bool.not_false, Int.not_lt, Int.not_le, ge_iff_le, gt_iff_lt] at *)
      all_goals grind
theorem exprValid5S_ok' (e : Ex) (a : Option Addr) (c : Nat) (hv : ExV H e [.int .i64 e.op, .int .i64 e.n, .slice a e.args.length c]) (h : K (.bool (exprOk 5 e)) H) :
    ACalls Try.prog w0 100 [.agg #[.int .i64 e.op, .int .i64 e.n, .slice a e.args.length c], .int .i64 5] H K := l4Ok_ok w0 5 e a c H K (by decide) hv h
theorem exprValid5S_ok (e : Ex) (a : Option Addr) (c : Nat) (hv : ExV H e [.int .i64 e.op, .int .i64 e.n, .slice a e.args.length c]) (h : K (.bool (exprOk 5 e)) H) :
    ACalls Try.prog w0 91 [.agg #[.int .i64 e.op, .int .i64 e.n, .slice a e.args.length c]] H K := by
  refine acalls_of_sx mix Try.func91 of91 (by simp [ir91]) ?_; rw [ir91]; (try delta qT qI qC qO qM qG)
  repeat' (first | simp -implicitDefEqProofs only [zG1,zG2,zG3,zG4,zG5,zG6,zG7,eq_self,resV,rval,X.val,binv,fillL,setR,↓reduceIte,Nat.reduceEqDiff,Nat.reduceAdd,Nat.reduceMul,Nat.reduceLeDiff,Nat.reduceLT,Nat.reduceSub,reduceCtorEq,zGr, *] | ((with_reducible refine rows_intro (fun _ hb => ?_)); try simp only [set_none, ne_eq] at hb) | ((with_reducible refine new_intro (fun _ hb => ?_)); try simp only [set_none, ne_eq] at hb) | (with_reducible refine draw_same ?_) | ((with_reducible refine gd_split ?_ (fun _ => ?_) (fun _ => ?_)); exact rfl) | ((with_reducible refine td_split ?_ (fun _ => ?_) (fun _ => ?_)); exact rfl) | (with_reducible refine c_split (fun _ => ?_) (fun _ => ?_)) | (with_reducible refine exprValid5S_ok' _ _ _ e a c (hv.le ((AHeap.le.refl H).fresh ‹_› _)) ?_))
  exact ⟨H, (by simp -implicitDefEqProofs only [le_set_true, le_refl_true, eq_self, *]), h⟩
theorem ok_args {d : Nat} {op n : Int} {args : List Ex} (h : exprOk (d + 1) (.mk op n args) = true) : (args = [] ∧ (op = 0 ∨ op = 13)) ∨ ∃ x y, args = [x, y] ∧ exprOk d x = true ∧ exprOk d y = true ∧ 1 ≤ op ∧ op ≤ 12 := by
  simp only [exprOk] at h
  split at h
  · simp at h; exact .inl ⟨h.2, .inl ‹_›⟩
  · split at h
    · simp at h; exact .inl ⟨h.2, .inr ‹_›⟩
    · simp only [Bool.and_eq_true, decide_eq_true_eq] at h
      obtain ⟨⟨⟨h1, h2⟩, _⟩, h3⟩ := h
      split at h3
      · simp only [Bool.and_eq_true] at h3
        exact .inr ⟨_, _, rfl, h3.1, h3.2, h1, h2⟩
      · cases h3
end Go.Proofs.Ytjhedgoafkabiaa
namespace Go.Proofs.Ytjhedgoafkabiaa
set_option linter.all false
open Go Go.RowKit
set_option maxRecDepth 100000
variable (w0 : World)
def comp : Nat → Ex → Int → List Qd
  | 0, _, _ => []
  | d + 1, .mk op n args, i =>
    if op = 0 then [⟨1, i, 0, 0, n⟩] else if op = 13 then [⟨2, i, n, 0, 0⟩]
    else match args with
      | [x, y] => comp d x i ++ comp d y (i + 1) ++ [⟨3, i, i, i + 1, op⟩]
      | _ => []
theorem comp_len : ∀ (d : Nat) (e : Ex) (i : Int), (comp d e i).length < 2 ^ d
  | 0, _, _ => by simp [comp]
  | d + 1, .mk op n args, i => by
    have hp : 0 < 2 ^ d := Nat.pow_pos (by omega)
    simp only [comp]
    split
    · simp <;> omega
    · split
      · simp <;> omega
      · split
        · rename_i x y
          have := comp_len d x i
          have := comp_len d y (i + 1)
          simp only [List.length_append, List.length_cons, List.length_nil]
          omega
        · simp <;> omega
theorem qcells_one (x0 x1 x2 x3 x4 : Int) : qcells [⟨x0, x1, x2, x3, x4⟩] = [.int .i64 x0, .int .i64 x1, .int .i64 x2, .int .i64 x3, .int .i64 x4] := rfl
theorem qcells_app (p q : List Qd) : qcells (p ++ q) = qcells p ++ qcells q := by simp [qcells]
theorem compileExpr_ok (d : Nat) : ∀ (e : Ex) (a : Option Addr) (c : Nat) (i : Int) (H0 H : AHeap) (K : Value → AHeap → Prop) (v : Value) (n : Nat) (xs : List Value), d ≤ 30 → exprOk d e = true → ExV H0 e [.int .i64 e.op, .int .i64 e.n, .slice a e.args.length c] →
    0 ≤ i → i + d ≤ 1000000 → Own H0 33 5 v n xs H → n + 2 ^ d ≤ 1099511627776 → (∀ v' H', Own H0 33 5 v' (n + (comp d e i).length) (xs ++ qcells (comp d e i)) H' → K v' H') →
    ACalls Try.prog w0 87 [.agg #[.int .i64 e.op, .int .i64 e.n, .slice a e.args.length c], .int .i64 i, v] H K := by
  induction d with
  | zero => intro e a c i H0 H K v n xs hd ho; rw [ok_zero] at ho; cases ho
  | succ d ih =>
    intro ⟨op, n, args⟩ a c i H0 H K v m xs hd ho hv hi0 hi1 hw hm h
    obtain ⟨_, _, he, _, hR⟩ := hv.open_
    simp only [List.cons.injEq, and_true, Value.slice.injEq, true_and] at he
    obtain ⟨rfl, rfl⟩ := he
    simp only [Ex.op, Ex.n, Ex.args] at hR hv ⊢
    have hp : 0 < 2 ^ d := Nat.pow_pos (by omega)
    rcases ok_args ho with ⟨rfl, hop⟩ | ⟨x, y, rfl, hox, hoy, hop⟩
    · have ecomp : comp (d + 1) (.mk op n []) i = if op = 0 then [⟨1, i, 0, 0, n⟩] else [⟨2, i, n, 0, 0⟩] := by
        rcases hop with rfl | rfl <;> simp [comp]
      rw [ecomp] at h
      rcases hop with rfl | rfl
      · have g1 : ((0 : Int) == 0) = true := by decide
        simp only [if_true, qcells_one, List.length_cons, List.length_nil] at h
        refine acalls_of_sx mix Try.func87 of87 (by simp [ir87]) ?_; rw [ir87]; (try delta qT qI qC qO qM qG)
        repeat' (first | simp -implicitDefEqProofs only [zG1,zG2,zG3,zG4,zG5,zG6,zG7,eq_self,resV,rval,X.val,binv,fillL,setR,↓reduceIte,Nat.reduceEqDiff,Nat.reduceAdd,Nat.reduceMul,Nat.reduceLeDiff,Nat.reduceLT,Nat.reduceSub,reduceCtorEq,zGr, g1] | ((with_reducible refine rows_intro (fun _ hb => ?_)); try simp only [set_none, ne_eq] at hb) | ((with_reducible refine new_intro (fun _ hb => ?_)); try simp only [set_none, ne_eq] at hb) | (with_reducible refine draw_same ?_) | ((with_reducible refine gd_split ?_ (fun _ => ?_) (fun _ => ?_)); exact rfl) | ((with_reducible refine td_split ?_ (fun _ => ?_) (fun _ => ?_)); exact rfl) | (with_reducible refine c_split (fun _ => ?_) (fun _ => ?_)) | (with_reducible refine app_lit (hw.fresh ‹H _ = none› _) (set_none.2 hb) rfl ?_ ?_ ?_ (fun _ _ ho' => ?_)))
        · simp only [maxLen]; omega
        · omega
        · obtain ⟨H1, l1, o1⟩ := ho'.weaken (((AHeap.le.refl H0).fresh (hw.none' ‹H _ = none›) _).trans ((AHeap.le.refl _).fresh ((hw.fresh ‹H _ = none› _).none' (set_none.2 hb)) _))
          exact ⟨H1, l1, h _ _ o1⟩
      · have g1 : ((13 : Int) == 0) = false := by decide
        have g2 : ((13 : Int) == 13) = true := by decide
        simp only [show ¬ (13 : Int) = 0 by decide, if_false, qcells_one, List.length_cons, List.length_nil] at h
        refine acalls_of_sx mix Try.func87 of87 (by simp [ir87]) ?_; rw [ir87]; (try delta qT qI qC qO qM qG)
        repeat' (first | simp -implicitDefEqProofs only [zG1,zG2,zG3,zG4,zG5,zG6,zG7,eq_self,resV,rval,X.val,binv,fillL,setR,↓reduceIte,Nat.reduceEqDiff,Nat.reduceAdd,Nat.reduceMul,Nat.reduceLeDiff,Nat.reduceLT,Nat.reduceSub,reduceCtorEq,zGr, g1, g2] | ((with_reducible refine rows_intro (fun _ hb => ?_)); try simp only [set_none, ne_eq] at hb) | ((with_reducible refine new_intro (fun _ hb => ?_)); try simp only [set_none, ne_eq] at hb) | (with_reducible refine draw_same ?_) | ((with_reducible refine gd_split ?_ (fun _ => ?_) (fun _ => ?_)); exact rfl) | ((with_reducible refine td_split ?_ (fun _ => ?_) (fun _ => ?_)); exact rfl) | (with_reducible refine c_split (fun _ => ?_) (fun _ => ?_)) | (with_reducible refine app_lit (hw.fresh ‹H _ = none› _) (set_none.2 hb) rfl ?_ ?_ ?_ (fun _ _ ho' => ?_)))
        · simp only [maxLen]; omega
        · omega
        · obtain ⟨H1, l1, o1⟩ := ho'.weaken (((AHeap.le.refl H0).fresh (hw.none' ‹H _ = none›) _).trans ((AHeap.le.refl _).fresh ((hw.fresh ‹H _ = none› _).none' (set_none.2 hb)) _))
          exact ⟨H1, l1, h _ _ o1⟩
    · have e0 : ¬ op = 0 := by omega
      have e13 : ¬ op = 13 := by omega
      have g0 : (op == 0) = false := by simp [e0]
      have g13 : (op == 13) = false := by simp [e13]
      have g1 : IntKind.i64.wrap (i + 1) = i + 1 := wrap_i64 (by omega) (by omega)
      have ecomp : comp (d + 1) (.mk op n [x, y]) i = comp d x i ++ comp d y (i + 1) ++ [⟨3, i, i, i + 1, op⟩] := by simp [comp, e0, e13]
      rw [ecomp, qcells_app, qcells_app, qcells_one] at h
      have lx := comp_len d x i
      have ly := comp_len d y (i + 1)
      rw [Nat.pow_succ] at hm
      refine acalls_of_sx mix Try.func87 of87 (by simp [ir87]) ?_; rw [ir87]; (try delta qT qI qC qO qM qG)
      repeat' (first | simp -implicitDefEqProofs only [zG1,zG2,zG3,zG4,zG5,zG6,zG7,eq_self,resV,rval,X.val,binv,fillL,setR,↓reduceIte,Nat.reduceEqDiff,Nat.reduceAdd,Nat.reduceMul,Nat.reduceLeDiff,Nat.reduceLT,Nat.reduceSub,reduceCtorEq,zGr, g0, g13] | ((with_reducible refine rows_intro (fun _ hb => ?_)); try simp only [set_none, ne_eq] at hb) | ((with_reducible refine new_intro (fun _ hb => ?_)); try simp only [set_none, ne_eq] at hb) | (with_reducible refine draw_same ?_) | ((with_reducible refine gd_split ?_ (fun _ => ?_) (fun _ => ?_)); exact rfl) | ((with_reducible refine td_split ?_ (fun _ => ?_) (fun _ => ?_)); exact rfl) | (with_reducible refine c_split (fun _ => ?_) (fun _ => ?_)))
      have hb0 := hw.none' hb
      have hb1 := hb
      have hl0 : AHeap.le H0 (H0.set _ ⟨[.int .i64 op, .int .i64 n, .slice a 2 c], true, 61, 3⟩) := (AHeap.le.refl H0).fresh hb0 _
      have hw1 : Own (H0.set _ ⟨[.int .i64 op, .int .i64 n, .slice a 2 c], true, 61, 3⟩) 33 5 v m xs _ := hw.fresh hb _
      obtain ⟨a', c', b', d', hc, hx, hy⟩ := hR.two
      have hc1 := two_le (hl0.trans hw1.le) hc
      repeat' (first | simp -implicitDefEqProofs only [zG1,zG2,zG3,zG4,zG5,zG6,zG7,eq_self,resV,rval,X.val,binv,fillL,setR,↓reduceIte,Nat.reduceEqDiff,Nat.reduceAdd,Nat.reduceMul,Nat.reduceLeDiff,Nat.reduceLT,Nat.reduceSub,reduceCtorEq,zGr, z20, z21, hc1, Int.toNat_zero, Int.toNat_one, Nat.zero_mul, Nat.one_mul] | ((with_reducible refine rows_intro (fun _ hb => ?_)); try simp only [set_none, ne_eq] at hb) | ((with_reducible refine new_intro (fun _ hb => ?_)); try simp only [set_none, ne_eq] at hb) | (with_reducible refine draw_same ?_) | ((with_reducible refine gd_split ?_ (fun _ => ?_) (fun _ => ?_)); exact rfl) | ((with_reducible refine td_split ?_ (fun _ => ?_) (fun _ => ?_)); exact rfl) | (with_reducible refine c_split (fun _ => ?_) (fun _ => ?_)) | (with_reducible refine ih x a' c' i _ _ _ v m xs (by omega) hox (hx.le hl0) hi0 (by omega) hw1 (by omega) (fun v1 H1 o1 => ?_)))
      have hc2 := two_le (hl0.trans o1.le) hc
      have hf2 := fl_three o1.le
      repeat' (first | simp -implicitDefEqProofs only [zG1,zG2,zG3,zG4,zG5,zG6,zG7,eq_self,resV,rval,X.val,binv,fillL,setR,↓reduceIte,Nat.reduceEqDiff,Nat.reduceAdd,Nat.reduceMul,Nat.reduceLeDiff,Nat.reduceLT,Nat.reduceSub,reduceCtorEq,zGr, z20, z21, g1, hc2, hf2, Int.toNat_zero, Int.toNat_one, Nat.zero_mul, Nat.one_mul] | ((with_reducible refine rows_intro (fun _ hb => ?_)); try simp only [set_none, ne_eq] at hb) | ((with_reducible refine new_intro (fun _ hb => ?_)); try simp only [set_none, ne_eq] at hb) | (with_reducible refine draw_same ?_) | ((with_reducible refine gd_split ?_ (fun _ => ?_) (fun _ => ?_)); exact rfl) | ((with_reducible refine td_split ?_ (fun _ => ?_) (fun _ => ?_)); exact rfl) | (with_reducible refine c_split (fun _ => ?_) (fun _ => ?_)) | (with_reducible refine ih y b' d' (i + 1) _ _ _ v1 _ _ (by omega) hoy (hy.le hl0) (by omega) (by omega) o1 (by omega) (fun v2 H2 o2 => ?_)))
      have hf3 := fl_three o2.le
      repeat' (first | simp -implicitDefEqProofs only [zG1,zG2,zG3,zG4,zG5,zG6,zG7,eq_self,resV,rval,X.val,binv,fillL,setR,↓reduceIte,Nat.reduceEqDiff,Nat.reduceAdd,Nat.reduceMul,Nat.reduceLeDiff,Nat.reduceLT,Nat.reduceSub,reduceCtorEq,zGr, g1, hf3] | ((with_reducible refine rows_intro (fun _ hb => ?_)); try simp only [set_none, ne_eq] at hb) | ((with_reducible refine new_intro (fun _ hb => ?_)); try simp only [set_none, ne_eq] at hb) | (with_reducible refine draw_same ?_) | ((with_reducible refine gd_split ?_ (fun _ => ?_) (fun _ => ?_)); exact rfl) | ((with_reducible refine td_split ?_ (fun _ => ?_) (fun _ => ?_)); exact rfl) | (with_reducible refine c_split (fun _ => ?_) (fun _ => ?_)) | (with_reducible refine app_lit o2 ‹_› rfl ?_ ?_ ?_ (fun _ _ ho' => ?_)))
      · simp only [maxLen]; omega
      · omega
      · obtain ⟨H3, l3, o3⟩ := ho'.weaken (hl0.trans ((AHeap.le.refl _).fresh (o2.none' ‹_›) _))
        refine ⟨H3, l3, h _ _ ?_⟩
        simpa only [List.append_assoc, List.length_append, List.length_cons, List.length_nil, Nat.add_assoc] using o3
theorem qcells_oc (qs : List Qd) : ∀ v ∈ qcells qs, v.oneCell' = true := by
  intro v hv
  simp only [qcells, List.mem_flatMap, Qd.cells, List.mem_cons, List.not_mem_nil, or_false] at hv
  obtain ⟨q, _, h | h | h | h | h⟩ := hv <;> subst h <;> rfl
theorem l22Expr_ok (d : Nat) : ∀ (e : Ex) (a : Option Addr) (c : Nat) (i : Int) (H : AHeap) (K : Value → AHeap → Prop), d ≤ 30 → exprOk d e = true → ExV H e [.int .i64 e.op, .int .i64 e.n, .slice a e.args.length c] →
    0 ≤ i → i + d ≤ 1000000 → (∀ v' H', Own H 33 5 v' (comp d e i).length (qcells (comp d e i)) H' → K v' H') →
    ACalls Try.prog w0 78 [.agg #[.int .i64 e.op, .int .i64 e.n, .slice a e.args.length c], .int .i64 i] H K := by
  induction d with
  | zero => intro e a c i H K hd ho; rw [ok_zero] at ho; cases ho
  | succ d ih =>
    intro ⟨op, n, args⟩ a c i H K hd ho hv hi0 hi1 h
    obtain ⟨_, _, he, _, hR⟩ := hv.open_
    simp only [List.cons.injEq, and_true, Value.slice.injEq, true_and] at he
    obtain ⟨rfl, rfl⟩ := he
    simp only [Ex.op, Ex.n, Ex.args] at hR hv ⊢
    have hp : 2 ^ d ≤ 2 ^ 30 := Nat.pow_le_pow_right (by omega) (by omega)
    rcases ok_args ho with ⟨rfl, hop⟩ | ⟨x, y, rfl, hox, hoy, hop⟩
    · have ecomp : comp (d + 1) (.mk op n []) i = if op = 0 then [⟨1, i, 0, 0, n⟩] else [⟨2, i, n, 0, 0⟩] := by
        rcases hop with rfl | rfl <;> simp [comp]
      rw [ecomp] at h
      rcases hop with rfl | rfl
      · have g1 : ((0 : Int) == 0) = true := by decide
        simp only [if_true, qcells_one, List.length_cons, List.length_nil] at h
        refine acalls_of_sx mix Try.func78 of78 (by simp [ir78]) ?_; rw [ir78]; (try delta qT qI qC qO qM qG)
        repeat' (first | simp -implicitDefEqProofs only [zG1,zG2,zG3,zG4,zG5,zG6,zG7,eq_self,resV,rval,X.val,binv,fillL,setR,↓reduceIte,Nat.reduceEqDiff,Nat.reduceAdd,Nat.reduceMul,Nat.reduceLeDiff,Nat.reduceLT,Nat.reduceSub,reduceCtorEq,zGr, g1] | ((with_reducible refine rows_intro (fun _ hb => ?_)); try simp only [set_none, ne_eq] at hb) | ((with_reducible refine new_intro (fun _ hb => ?_)); try simp only [set_none, ne_eq] at hb) | (with_reducible refine draw_same ?_) | ((with_reducible refine gd_split ?_ (fun _ => ?_) (fun _ => ?_)); exact rfl) | ((with_reducible refine td_split ?_ (fun _ => ?_) (fun _ => ?_)); exact rfl) | (with_reducible refine c_split (fun _ => ?_) (fun _ => ?_)))
        exact ret_own h ((AHeap.le.refl H).fresh ‹H _ = none› _) hb.2 rfl rfl rfl (by decide) (by decide) rfl
      · have g1 : ((13 : Int) == 0) = false := by decide
        have g2 : ((13 : Int) == 13) = true := by decide
        simp only [show ¬ (13 : Int) = 0 by decide, if_false, qcells_one, List.length_cons, List.length_nil] at h
        refine acalls_of_sx mix Try.func78 of78 (by simp [ir78]) ?_; rw [ir78]; (try delta qT qI qC qO qM qG)
        repeat' (first | simp -implicitDefEqProofs only [zG1,zG2,zG3,zG4,zG5,zG6,zG7,eq_self,resV,rval,X.val,binv,fillL,setR,↓reduceIte,Nat.reduceEqDiff,Nat.reduceAdd,Nat.reduceMul,Nat.reduceLeDiff,Nat.reduceLT,Nat.reduceSub,reduceCtorEq,zGr, g1, g2] | ((with_reducible refine rows_intro (fun _ hb => ?_)); try simp only [set_none, ne_eq] at hb) | ((with_reducible refine new_intro (fun _ hb => ?_)); try simp only [set_none, ne_eq] at hb) | (with_reducible refine draw_same ?_) | ((with_reducible refine gd_split ?_ (fun _ => ?_) (fun _ => ?_)); exact rfl) | ((with_reducible refine td_split ?_ (fun _ => ?_) (fun _ => ?_)); exact rfl) | (with_reducible refine c_split (fun _ => ?_) (fun _ => ?_)))
        exact ret_own h ((AHeap.le.refl H).fresh ‹H _ = none› _) hb.2 rfl rfl rfl (by decide) (by decide) rfl
    · have e0 : ¬ op = 0 := by omega
      have e13 : ¬ op = 13 := by omega
      have g0 : (op == 0) = false := by simp [e0]
      have g13 : (op == 13) = false := by simp [e13]
      have g1 : IntKind.i64.wrap (i + 1) = i + 1 := wrap_i64 (by omega) (by omega)
      have ecomp : comp (d + 1) (.mk op n [x, y]) i = comp d x i ++ comp d y (i + 1) ++ [⟨3, i, i, i + 1, op⟩] := by simp [comp, e0, e13]
      rw [ecomp, qcells_app, qcells_app, qcells_one] at h
      have lx := comp_len d x i
      have ly := comp_len d y (i + 1)
      refine acalls_of_sx mix Try.func78 of78 (by simp [ir78]) ?_; rw [ir78]; (try delta qT qI qC qO qM qG)
      repeat' (first | simp -implicitDefEqProofs only [zG1,zG2,zG3,zG4,zG5,zG6,zG7,eq_self,resV,rval,X.val,binv,fillL,setR,↓reduceIte,Nat.reduceEqDiff,Nat.reduceAdd,Nat.reduceMul,Nat.reduceLeDiff,Nat.reduceLT,Nat.reduceSub,reduceCtorEq,zGr, g0, g13] | ((with_reducible refine rows_intro (fun _ hb => ?_)); try simp only [set_none, ne_eq] at hb) | ((with_reducible refine new_intro (fun _ hb => ?_)); try simp only [set_none, ne_eq] at hb) | (with_reducible refine draw_same ?_) | ((with_reducible refine gd_split ?_ (fun _ => ?_) (fun _ => ?_)); exact rfl) | ((with_reducible refine td_split ?_ (fun _ => ?_) (fun _ => ?_)); exact rfl) | (with_reducible refine c_split (fun _ => ?_) (fun _ => ?_)))
      have hb1 := hb
      have hl0 : AHeap.le H (H.set _ ⟨[.int .i64 op, .int .i64 n, .slice a 2 c], true, 61, 3⟩) := (AHeap.le.refl H).fresh hb1 _
      obtain ⟨a', c', b', d', hc, hx, hy⟩ := hR.two
      have hc1 := two_le hl0 hc
      repeat' (first | simp -implicitDefEqProofs only [zG1,zG2,zG3,zG4,zG5,zG6,zG7,eq_self,resV,rval,X.val,binv,fillL,setR,↓reduceIte,Nat.reduceEqDiff,Nat.reduceAdd,Nat.reduceMul,Nat.reduceLeDiff,Nat.reduceLT,Nat.reduceSub,reduceCtorEq,zGr, z20, z21, g1, hc1, Int.toNat_zero, Int.toNat_one, Nat.zero_mul, Nat.one_mul] | ((with_reducible refine rows_intro (fun _ hb => ?_)); try simp only [set_none, ne_eq] at hb) | ((with_reducible refine new_intro (fun _ hb => ?_)); try simp only [set_none, ne_eq] at hb) | (with_reducible refine draw_same ?_) | ((with_reducible refine gd_split ?_ (fun _ => ?_) (fun _ => ?_)); exact rfl) | ((with_reducible refine td_split ?_ (fun _ => ?_) (fun _ => ?_)); exact rfl) | (with_reducible refine c_split (fun _ => ?_) (fun _ => ?_)) | (with_reducible refine ih x a' c' i _ _ (by omega) hox (hx.le hl0) hi0 (by omega) (fun v1 H1 o1 => ?_)))
      have l1 := o1.le
      have hc2 := two_le (hl0.trans l1) hc
      have hf2 := fl_three l1
      repeat' (first | simp -implicitDefEqProofs only [zG1,zG2,zG3,zG4,zG5,zG6,zG7,eq_self,resV,rval,X.val,binv,fillL,setR,↓reduceIte,Nat.reduceEqDiff,Nat.reduceAdd,Nat.reduceMul,Nat.reduceLeDiff,Nat.reduceLT,Nat.reduceSub,reduceCtorEq,zGr, z20, z21, g1, hc2, hf2, l1, Int.toNat_zero, Int.toNat_one, Nat.zero_mul, Nat.one_mul] | ((with_reducible refine rows_intro (fun _ hb => ?_)); try simp only [set_none, ne_eq] at hb) | ((with_reducible refine new_intro (fun _ hb => ?_)); try simp only [set_none, ne_eq] at hb) | (with_reducible refine draw_same ?_) | ((with_reducible refine gd_split ?_ (fun _ => ?_) (fun _ => ?_)); exact rfl) | ((with_reducible refine td_split ?_ (fun _ => ?_) (fun _ => ?_)); exact rfl) | (with_reducible refine c_split (fun _ => ?_) (fun _ => ?_)) | (with_reducible refine ih y b' d' (i + 1) _ _ (by omega) hoy (hy.le (hl0.trans l1)) (by omega) (by omega) (fun v2 H2 o2 => ?_)))
      have l2 := o2.le
      have l12 := l1.trans l2
      obtain ⟨A2, c2, rfl, f2⟩ := o2.fl
      repeat' (first | simp -implicitDefEqProofs only [zG1,zG2,zG3,zG4,zG5,zG6,zG7,eq_self,resV,rval,X.val,binv,fillL,setR,↓reduceIte,Nat.reduceEqDiff,Nat.reduceAdd,Nat.reduceMul,Nat.reduceLeDiff,Nat.reduceLT,Nat.reduceSub,reduceCtorEq,zGr, l12] | ((with_reducible refine rows_intro (fun _ hb => ?_)); try simp only [set_none, ne_eq] at hb) | ((with_reducible refine new_intro (fun _ hb => ?_)); try simp only [set_none, ne_eq] at hb) | (with_reducible refine draw_same ?_) | ((with_reducible refine gd_split ?_ (fun _ => ?_) (fun _ => ?_)); exact rfl) | ((with_reducible refine td_split ?_ (fun _ => ?_) (fun _ => ?_)); exact rfl) | (with_reducible refine c_split (fun _ => ?_) (fun _ => ?_)) | (with_reducible refine app_read o1 l2 f2 ?_ (qcells_oc _) ?_ ?_ (fun v3 B3 H3 lB o3 => ?_)))
      · exact qcells_len _
      · simp only [maxLen]; omega
      · omega
      have l3 := lB.trans o3.le
      have hf3 := fl_three l3
      repeat' (first | simp -implicitDefEqProofs only [zG1,zG2,zG3,zG4,zG5,zG6,zG7,eq_self,resV,rval,X.val,binv,fillL,setR,↓reduceIte,Nat.reduceEqDiff,Nat.reduceAdd,Nat.reduceMul,Nat.reduceLeDiff,Nat.reduceLT,Nat.reduceSub,reduceCtorEq,zGr, g1, hf3, l3] | ((with_reducible refine rows_intro (fun _ hb => ?_)); try simp only [set_none, ne_eq] at hb) | ((with_reducible refine new_intro (fun _ hb => ?_)); try simp only [set_none, ne_eq] at hb) | (with_reducible refine draw_same ?_) | ((with_reducible refine gd_split ?_ (fun _ => ?_) (fun _ => ?_)); exact rfl) | ((with_reducible refine td_split ?_ (fun _ => ?_) (fun _ => ?_)); exact rfl) | (with_reducible refine c_split (fun _ => ?_) (fun _ => ?_)) | (with_reducible refine app_lit o3 ‹_› rfl ?_ ?_ ?_ (fun _ _ ho' => ?_)))
      · simp only [maxLen]; omega
      · omega
      · obtain ⟨H4, l4, o4⟩ := ho'.weaken (hl0.trans (lB.trans ((AHeap.le.refl _).fresh (o3.none' ‹_›) _)))
        refine ⟨H4, l4, h _ _ ?_⟩
        simpa only [List.append_assoc, List.length_append, List.length_cons, List.length_nil, Nat.add_assoc] using o4
variable (H : AHeap) (K : Value → AHeap → Prop)
end Go.Proofs.Ytjhedgoafkabiaa
namespace Go.Proofs.Ytjhedgoafkabiaa
set_option linter.all false
open Go Go.RowKit
set_option maxRecDepth 100000
variable (w0 : World) (H : AHeap) (K : Value → AHeap → Prop)
def opAt (qs : List Qd) (i : Nat) : Int := ((qs[i]?).map (·.op)).getD 0
def nAt (qs : List Qd) (i : Nat) : Int := ((qs[i]?).map (·.n)).getD 0
def codeValid (qs : List Qd) : Bool := decide (1 ≤ qs.length) && decide (qs.length ≤ 600) && (qs.all fun q => quadValid q qs.length) && (opAt qs (qs.length - 1) == 10 || opAt qs (qs.length - 1) == 4)
theorem code_at {qs : List Qd} (h : codeValid qs = true) : 1 ≤ qs.length ∧ qs.length ≤ 600 ∧ ∀ i (hi : i < qs.length), quadValid qs[i] qs.length = true := by
  simp only [codeValid, Bool.and_eq_true, decide_eq_true_eq, List.all_eq_true] at h
  exact ⟨h.1.1.1, h.1.1.2, fun i hi => h.1.2 _ (List.getElem_mem hi)⟩
theorem sub1 {n : Nat} (h : 1 ≤ n) (hn : n ≤ 4611686018427387904) : IntKind.i64.wrap ((n : Int) - 1) = ((n - 1 : Nat) : Int) := by rw [wrap_i64 (by omega) (by omega)]; omega
end Go.Proofs.Ytjhedgoafkabiaa
namespace Go.Proofs.Ytjhedgoafkabiaa
set_option linter.all false
open Go Go.RowKit
def compE (e : Ex) : List Qd := comp 5 e 4
def haltQ : Qd := ⟨10, 0, 0, 0, 0⟩
mutual
/-- How many quads a statement has. -/
def szS : St → Nat
  | .mk k _ _ e body els =>
    if k = 2 then (compE e).length + 1 + szL body + (if els.isEmpty then 0 else 1 + szL els)
    else if k = 3 then (compE e).length + 2 + szL body
    else if k = 5 ∨ k = 6 then 1
    else (compE e).length + 1
def szL : List St → Nat
  | [] => 0
  | s :: ss => szS s + szL ss
end
mutual
/-- The quads of a statement that begins at an index. -/
def compS : St → Nat → List Qd
  | .mk k v b e body els, i =>
    if k = 2 then
      (if els.isEmpty then compE e ++ ⟨5, 0, 4, 0, ((i + (compE e).length + 1 + szL body : Nat) : Int)⟩ :: compL body (i + (compE e).length + 1)
      else compE e ++ ⟨5, 0, 4, 0, ((i + (compE e).length + 1 + szL body + 1 : Nat) : Int)⟩ :: (compL body (i + (compE e).length + 1) ++
        ⟨4, 0, 0, 0, ((i + (compE e).length + 1 + szL body + 1 + szL els : Nat) : Int)⟩ :: compL els (i + (compE e).length + 1 + szL body + 1)))
    else if k = 3 then compE e ++ ⟨5, 0, 4, 0, ((i + (compE e).length + 1 + szL body + 1 : Nat) : Int)⟩ :: (compL body (i + (compE e).length + 1) ++ [⟨4, 0, 0, 0, (i : Int)⟩])
    else if k = 5 then [⟨7, v, 0, 0, b⟩]
    else if k = 6 then [⟨8, 0, 0, 0, 0⟩]
    else if k = 1 then compE e ++ [⟨2, v, 4, 0, 0⟩]
    else if k = 4 then compE e ++ [⟨6, 0, 4, 0, b⟩]
    else compE e ++ [⟨9, 0, 4, 0, 0⟩]
def compL : List St → Nat → List Qd
  | [], _ => []
  | s :: ss, i => compS s i ++ compL ss (i + szS s)
end
def compTask (ss : List St) : List Qd := compL ss 0 ++ [haltQ]
def compileTask (ss : List St) : List Qd := if stsOk ss then compTask ss else []
mutual
theorem compS_len : ∀ (s : St) (i : Nat), (compS s i).length = szS s
  | .mk k v b e body els, i => by
    have hb := fun j => compL_len body j
    have hl := fun j => compL_len els j
    by_cases h2 : k = 2
    · subst h2
      simp only [compS, szS, if_true]
      split
      · simp only [List.length_append, List.length_cons, hb]; omega
      · simp only [List.length_append, List.length_cons, hb, hl]; omega
    · by_cases h3 : k = 3
      · subst h3
        simp only [compS, szS, if_neg h2, if_true, List.length_append, List.length_cons, List.length_nil, hb]; omega
      · by_cases h5 : k = 5
        · subst h5; simp [compS, szS]
        · by_cases h6 : k = 6
          · subst h6; simp [compS, szS]
          · have h56 : ¬ (k = 5 ∨ k = 6) := by omega
            simp only [compS, szS, if_neg h2, if_neg h3, if_neg h5, if_neg h6, if_neg h56]
            split
            · simp
            · split <;> simp
theorem compL_len : ∀ (ss : List St) (i : Nat), (compL ss i).length = szL ss
  | [], _ => by simp only [compL, szL, List.length_nil]
  | s :: ss, i => by simp only [compL, szL, List.length_append, compS_len s, compL_len ss]
end
theorem compE_le (e : Ex) : (compE e).length ≤ 31 := by have := comp_len 5 e 4; simp only [compE]; omega
mutual
theorem szS_le : ∀ s : St, szS s ≤ 33 * s.cnt
  | .mk k v b e body els => by
    have h0 := compE_le e
    have h1 := szL_le body
    have h2 := szL_le els
    simp only [szS, St.cnt]
    repeat' split
    all_goals omega
theorem szL_le : ∀ ss : List St, szL ss ≤ 33 * cntL ss
  | [] => by simp [szL]
  | s :: ss => by
    have h1 := szS_le s
    have h2 := szL_le ss
    simp only [szL, cntL]; omega
end
theorem szL_app : ∀ ss ts : List St, szL (ss ++ ts) = szL ss + szL ts
  | [], ts => by simp [szL]
  | s :: ss, ts => by simp only [List.cons_append, szL, szL_app ss ts]; omega
theorem compL_app : ∀ (ss ts : List St) (i : Nat), compL (ss ++ ts) i = compL ss i ++ compL ts (i + szL ss)
  | [], ts, i => by simp [compL, szL]
  | s :: ss, ts, i => by simp only [List.cons_append, compL, szL, compL_app ss ts, List.append_assoc, Nat.add_assoc]
theorem szL_take {ss : List St} {k : Nat} (h : k < ss.length) : szL (ss.take (k + 1)) = szL (ss.take k) + szS ss[k] := by
  rw [List.take_add_one, List.getElem?_eq_getElem h, szL_app]; simp [szL]
theorem compL_take {ss : List St} {k : Nat} (h : k < ss.length) (i : Nat) : compL (ss.take (k + 1)) i = compL (ss.take k) i ++ compS ss[k] (i + szL (ss.take k)) := by
  rw [List.take_add_one, List.getElem?_eq_getElem h, compL_app]; simp [compL]
theorem plain_ok {e : Ex} (h : plainE e = true) : exprOk 5 e = true := by
  cases e with
  | mk op n args =>
    simp only [plainE, Ex.op, Ex.n, Ex.args, Bool.and_eq_true, beq_iff_eq] at h
    obtain ⟨⟨rfl, rfl⟩, h⟩ := h
    simp [exprOk, h]
/-- The expression of every valid statement can be compiled. -/
theorem stOk_e {d : Nat} {s : St} (h : stOk d s = true) : exprOk 5 s.e = true := by
  have simple : stSimple s = true → exprOk 5 s.e = true := by
    intro h
    simp only [stSimple, Bool.and_eq_true] at h
    replace h := h.2
    repeat' split at h
    all_goals first
      | (cases h; done)
      | (simp only [Bool.and_eq_true] at h; first | exact h.2 | exact plain_ok h.2)
  cases d with
  | zero =>
    simp only [stOk] at h
    split at h
    · cases h
    · exact simple h
  | succ d =>
    simp only [stOk] at h
    split at h
    · simp only [stBlock, Bool.and_eq_true] at h
      exact h.1.1.1.2
    · exact simple h
theorem stOk_simple {d : Nat} {s : St} (h : stOk d s = true) (h2 : s.kind ≠ 2) (h3 : s.kind ≠ 3) : stSimple s = true := by
  cases d with
  | zero =>
    simp only [stOk] at h
    rwa [if_neg (by omega)] at h
  | succ d =>
    simp only [stOk] at h
    rwa [if_neg (by omega)] at h
theorem stOk_block {d : Nat} {s : St} (h : stOk d s = true) (hk : s.kind = 2 ∨ s.kind = 3) : ∃ d', d = d' + 1 ∧ stBlock s = true ∧ s.body.all (stOk d') = true ∧ s.els.all (stOk d') = true := by
  cases d with
  | zero =>
    simp only [stOk] at h
    rw [if_pos hk] at h; cases h
  | succ d =>
    simp only [stOk] at h
    rw [if_pos hk] at h
    simp only [Bool.and_eq_true] at h
    exact ⟨d, rfl, h.1.1, h.1.2, h.2⟩
theorem simple_kind {s : St} (h : stSimple s = true) : s.kind = 1 ∨ s.kind = 4 ∨ s.kind = 5 ∨ s.kind = 6 ∨ s.kind = 7 := by
  simp only [stSimple, Bool.and_eq_true] at h
  replace h := h.2
  repeat' split at h
  all_goals first
    | (cases h; done)
    | omega
theorem simple_q {s : St} (h : stSimple s = true) (i : Nat) : ∃ q, compS s i = (if s.kind = 5 ∨ s.kind = 6 then [] else compE s.e) ++ [q] ∧ (∀ m, quadValid q m = true) ∧ q.op ≠ 10 ∧ q.op ≠ 4 ∧ q.op ≠ 5 ∧
    q = (if s.kind = 5 then ⟨7, s.var, 0, 0, s.box⟩ else if s.kind = 6 then ⟨8, 0, 0, 0, 0⟩ else if s.kind = 1 then ⟨2, s.var, 4, 0, 0⟩ else if s.kind = 4 then ⟨6, 0, 4, 0, s.box⟩ else ⟨9, 0, 4, 0, 0⟩) := by
  cases s with
  | mk k v b e body els =>
    have hk := simple_kind h
    have h : (body.isEmpty && els.isEmpty &&
      if k = 1 then decide (0 ≤ v) && decide (v ≤ 3) && b == 0 && exprOk 5 e
      else if k = 4 then v == 0 && decide (0 ≤ b) && decide (b ≤ 2) && exprOk 5 e
      else if k = 5 then decide (0 ≤ v) && decide (v ≤ 3) && decide (0 ≤ b) && decide (b ≤ 2) && plainE e
      else if k = 6 then v == 0 && b == 0 && plainE e
      else if k = 7 then v == 0 && b == 0 && exprOk 5 e
      else false) = true := h
    simp only [St.kind, St.var, St.box, St.e] at hk ⊢
    simp only [Bool.and_eq_true] at h
    replace h := h.2
    simp only [compS]
    rcases hk with rfl | rfl | rfl | rfl | rfl
    all_goals
      simp at h
      refine ⟨_, rfl, fun m => ?_, ?_, ?_, ?_, rfl⟩
      · simp [quadValid, isReg]; try omega
      · simp
      · simp
      · simp
theorem compTask_len (ss : List St) : (compTask ss).length = szL ss + 1 := by simp [compTask, compL_len]
theorem compileTask_le (ss : List St) : (compileTask ss).length ≤ 529 := by
  unfold compileTask
  split
  · rename_i h
    simp only [stsOk, Bool.and_eq_true, decide_eq_true_eq] at h
    rw [compTask_len]; have := szL_le ss; omega
  · simp
end Go.Proofs.Ytjhedgoafkabiaa
