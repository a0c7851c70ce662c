/- Slim code of the functions that are walked. -/
import Derived.Test.YtikddbjfljcbkaaDoorChecked
import Derived.Test.YtikddbjfljcbkaaDoorAbsBox
import Derived.KernelRfl
open Go Go.Abs
namespace Go.Proofs.SlimCode
def roL : List (List Nat) := [[], [], [], [], [46, 47], [], [3, 5], [10], [2, 3], [2, 3], [1], [2, 3], [2, 3], [1], [1, 49], [], [], [], [14], [], [], [], [], [], [98], [], [], [], [], [], [], [], [], [], [], [], [], [], [], [], [], [], [], [], [], [], [], [], [], [], [], [], [], []]
def inL (l : List (List Nat)) (f d : Nat) : Bool := (l.getD f []).contains d
def pow10L : List Int := [1, 10, 100, 1000, 10000, 100000, 1000000, 10000000, 100000000, 1000000000, 10000000000, 100000000000, 1000000000000, 10000000000000, 100000000000000, 1000000000000000, 10000000000000000, 100000000000000000, 1000000000000000000, 10000000000000000000]
def b32L : List Int := [0, 1, 28, 2, 29, 14, 24, 3, 30, 22, 20, 15, 25, 17, 4, 8, 31, 27, 13, 23, 21, 19, 16, 7, 26, 12, 18, 6, 11, 5, 10, 9]
def b64L : List Int := [0, 1, 56, 2, 57, 49, 28, 3, 61, 58, 42, 50, 38, 29, 17, 4, 62, 47, 59, 36, 45, 43, 51, 22, 53, 39, 33, 30, 24, 18, 12, 5, 63, 55, 48, 27, 60, 41, 37, 16, 46, 35, 44, 21, 52, 32, 23, 11, 54, 26, 40, 15, 34, 20, 31, 10, 25, 14, 19, 9, 13, 8, 7, 6]
def gl : Nat → List AV
  | 0 => pow10L.map (AV.int .u64)
  | _ => []
def ann : Ann := { esc := fun _ _ => false, fz := fun _ => false, ro := inL roL, still := fun _ => true, pure := fun _ => true, glob := fun g => if g < 3 then some (gl g) else none }
def ls0 : List UInt8 := [48, 49, 50, 51, 52, 53, 54, 55, 56, 57, 97, 98, 99, 100, 101, 102, 103, 104, 105, 106, 107, 108, 109, 110, 111, 112, 113, 114, 115, 116, 117, 118, 119, 120, 121, 122]
def ls1 : List UInt8 := [48, 48, 48, 49, 48, 50, 48, 51, 48, 52, 48, 53, 48, 54, 48, 55, 48, 56, 48, 57, 49, 48, 49, 49, 49, 50, 49, 51, 49, 52, 49, 53, 49, 54, 49, 55, 49, 56, 49, 57, 50, 48, 50, 49, 50, 50, 50, 51, 50, 52, 50, 53, 50, 54, 50, 55, 50, 56, 50, 57, 51, 48, 51, 49, 51, 50, 51, 51, 51, 52, 51, 53, 51, 54, 51, 55, 51, 56, 51, 57, 52, 48, 52, 49, 52, 50, 52, 51, 52, 52, 52, 53, 52, 54, 52, 55, 52, 56, 52, 57, 53, 48, 53, 49, 53, 50, 53, 51, 53, 52, 53, 53, 53, 54, 53, 55, 53, 56, 53, 57, 54, 48, 54, 49, 54, 50, 54, 51, 54, 52, 54, 53, 54, 54, 54, 55, 54, 56, 54, 57, 55, 48, 55, 49, 55, 50, 55, 51, 55, 52, 55, 53, 55, 54, 55, 55, 55, 56, 55, 57, 56, 48, 56, 49, 56, 50, 56, 51, 56, 52, 56, 53, 56, 54, 56, 55, 56, 56, 56, 57, 57, 48, 57, 49, 57, 50, 57, 51, 57, 52, 57, 53, 57, 54, 57, 55, 57, 56, 57, 57]
def ls2 : List UInt8 := [0, 1, 2, 2, 3, 3, 3, 3, 4, 4, 4, 4, 4, 4, 4, 4, 5, 5, 5, 5, 5, 5, 5, 5, 5, 5, 5, 5, 5, 5, 5, 5, 6, 6, 6, 6, 6, 6, 6, 6, 6, 6, 6, 6, 6, 6, 6, 6, 6, 6, 6, 6, 6, 6, 6, 6, 6, 6, 6, 6, 6, 6, 6, 6, 7, 7, 7, 7, 7, 7, 7, 7, 7, 7, 7, 7, 7, 7, 7, 7, 7, 7, 7, 7, 7, 7, 7, 7, 7, 7, 7, 7, 7, 7, 7, 7, 7, 7, 7, 7, 7, 7, 7, 7, 7, 7, 7, 7, 7, 7, 7, 7, 7, 7, 7, 7, 7, 7, 7, 7, 7, 7, 7, 7, 7, 7, 7, 7, 8, 8, 8, 8, 8, 8, 8, 8, 8, 8, 8, 8, 8, 8, 8, 8, 8, 8, 8, 8, 8, 8, 8, 8, 8, 8, 8, 8, 8, 8, 8, 8, 8, 8, 8, 8, 8, 8, 8, 8, 8, 8, 8, 8, 8, 8, 8, 8, 8, 8, 8, 8, 8, 8, 8, 8, 8, 8, 8, 8, 8, 8, 8, 8, 8, 8, 8, 8, 8, 8, 8, 8, 8, 8, 8, 8, 8, 8, 8, 8, 8, 8, 8, 8, 8, 8, 8, 8, 8, 8, 8, 8, 8, 8, 8, 8, 8, 8, 8, 8, 8, 8, 8, 8, 8, 8, 8, 8, 8, 8, 8, 8, 8, 8, 8, 8, 8, 8, 8, 8, 8, 8, 8, 8, 8, 8, 8, 8]
/- daguerre/daguerrelaw29.TraceAll -/
def S3 : SC := (.seq (.reg 0 [⟨some 2, none, .hbox false (.r 0)⟩,
    ⟨some 3, none, .hbox false (.r 1)⟩,
    ⟨some 4, none, .mv (.c (.bool false))⟩])
  (.seq (.reg 0 [⟨some 10, none, .call (.c (.fn 6 [] [])) []⟩,
    ⟨some 5, none, .mv (.r 10)⟩])
  (.seq (.seq (.reg 0 [⟨some 11, none, .mv (.r 5)⟩,
    ⟨some 12, none, .un .not (.r 11)⟩])
  (.cond (.r 12)
   (.seq (.reg 0 [⟨some 4, none, .mv (.c (.bool false))⟩])
   .ret)
   .skip))
  (.seq (.reg 3 [⟨some 13, none, .ld (.r 2) (some 4)⟩,
    ⟨some 14, none, .call (.c (.fn 7 [] [])) [(.r 13)]⟩,
    ⟨some 15, none, .ld (.r 3) (some 4)⟩,
    ⟨some 16, none, .call (.c (.fn 7 [] [])) [(.r 15)]⟩,
    ⟨none, none, .st (.r 2) (.r 14) 4⟩,
    ⟨none, none, .st (.r 3) (.r 16) 4⟩])
  (.seq (.reg 0 [⟨some 17, none, .fa (.r 2) 1⟩,
    ⟨some 18, none, .ld (.r 17) none⟩,
    ⟨some 19, none, .bin .eql (.r 18) (.c (.int .i64 1))⟩,
    ⟨some 20, none, .mv (.r 19)⟩,
    ⟨some 21, some (20, false), .fa (.r 2) 1⟩,
    ⟨some 22, some (20, false), .ld (.r 21) none⟩,
    ⟨some 23, some (20, false), .bin .eql (.r 22) (.c (.int .i64 2))⟩,
    ⟨some 24, none, .pick (.r 20) (.c (.bool true)) (.r 23)⟩,
    ⟨some 6, none, .mv (.r 24)⟩])
  (.seq (.reg 0 [⟨some 25, none, .fa (.r 3) 1⟩,
    ⟨some 26, none, .ld (.r 25) none⟩,
    ⟨some 27, none, .bin .eql (.r 26) (.c (.int .i64 1))⟩,
    ⟨some 28, none, .mv (.r 27)⟩,
    ⟨some 29, some (28, false), .fa (.r 3) 1⟩,
    ⟨some 30, some (28, false), .ld (.r 29) none⟩,
    ⟨some 31, some (28, false), .bin .eql (.r 30) (.c (.int .i64 2))⟩,
    ⟨some 32, none, .pick (.r 28) (.c (.bool true)) (.r 31)⟩,
    ⟨some 7, none, .mv (.r 32)⟩])
  (.seq (.reg 0 [⟨some 33, none, .ld (.r 2) (some 4)⟩,
    ⟨some 34, none, .ld (.r 3) (some 4)⟩,
    ⟨some 35, none, .call (.c (.fn 8 [] [])) [(.r 33), (.r 34)]⟩,
    ⟨some 36, none, .mv (.r 35)⟩,
    ⟨some 37, some (36, true), .ld (.r 3) (some 4)⟩,
    ⟨some 38, some (36, true), .ld (.r 2) (some 4)⟩,
    ⟨some 39, some (36, true), .call (.c (.fn 8 [] [])) [(.r 37), (.r 38)]⟩,
    ⟨some 40, none, .pick (.r 36) (.r 39) (.c (.bool false))⟩,
    ⟨some 41, none, .mv (.r 40)⟩,
    ⟨some 42, some (41, true), .fa (.r 2) 1⟩,
    ⟨some 43, some (41, true), .ld (.r 42) none⟩,
    ⟨some 44, some (41, true), .fa (.r 3) 1⟩,
    ⟨some 45, some (41, true), .ld (.r 44) none⟩,
    ⟨some 46, some (41, true), .bin .eql (.r 43) (.r 45)⟩,
    ⟨some 47, none, .pick (.r 41) (.r 46) (.c (.bool false))⟩,
    ⟨some 48, none, .mv (.r 47)⟩,
    ⟨some 49, some (48, true), .fa (.r 2) 2⟩,
    ⟨some 50, some (48, true), .ld (.r 49) none⟩,
    ⟨some 51, some (48, true), .fa (.r 3) 2⟩,
    ⟨some 52, some (48, true), .ld (.r 51) none⟩,
    ⟨some 53, some (48, true), .bin .eql (.r 50) (.r 52)⟩,
    ⟨some 54, none, .pick (.r 48) (.r 53) (.c (.bool false))⟩,
    ⟨some 55, none, .mv (.r 54)⟩,
    ⟨some 56, some (55, true), .fa (.r 2) 3⟩,
    ⟨some 57, some (55, true), .ld (.r 56) none⟩,
    ⟨some 58, some (55, true), .fa (.r 3) 3⟩,
    ⟨some 59, some (55, true), .ld (.r 58) none⟩,
    ⟨some 60, some (55, true), .bin .eql (.r 57) (.r 59)⟩,
    ⟨some 61, none, .pick (.r 55) (.r 60) (.c (.bool false))⟩,
    ⟨some 8, none, .mv (.r 61)⟩])
  (.seq (.reg 0 [⟨some 62, none, .ld (.r 2) (some 4)⟩,
    ⟨some 63, none, .ld (.r 3) (some 4)⟩,
    ⟨some 64, none, .call (.c (.fn 8 [] [])) [(.r 62), (.r 63)]⟩,
    ⟨some 65, none, .mv (.r 64)⟩,
    ⟨some 66, some (65, false), .ld (.r 3) (some 4)⟩,
    ⟨some 67, some (65, false), .ld (.r 2) (some 4)⟩,
    ⟨some 68, some (65, false), .call (.c (.fn 8 [] [])) [(.r 66), (.r 67)]⟩,
    ⟨some 69, none, .pick (.r 65) (.c (.bool true)) (.r 68)⟩,
    ⟨some 9, none, .mv (.r 69)⟩])
  (.seq (.block 0 (.seq (.reg 0 [⟨some 71, none, .mv (.r 6)⟩,
     ⟨some 72, none, .mv (.r 71)⟩,
     ⟨some 73, some (72, true), .mv (.r 7)⟩,
     ⟨some 74, none, .pick (.r 72) (.r 73) (.c (.bool false))⟩,
     ⟨some 70, none, .mv (.r 74)⟩])
   (.cond (.r 70)
    (.reg 0 [⟨some 75, none, .mv (.r 8)⟩,
      ⟨some 9, none, .mv (.r 75)⟩])
    (.seq (.reg 0 [⟨some 77, none, .mv (.r 6)⟩,
      ⟨some 76, none, .mv (.r 77)⟩])
    (.cond (.r 76)
     (.reg 0 [⟨some 78, none, .ld (.r 3) (some 4)⟩,
       ⟨some 79, none, .ld (.r 2) (some 4)⟩,
       ⟨some 80, none, .call (.c (.fn 8 [] [])) [(.r 78), (.r 79)]⟩,
       ⟨some 9, none, .mv (.r 80)⟩])
     (.seq (.reg 0 [⟨some 82, none, .mv (.r 7)⟩,
       ⟨some 81, none, .mv (.r 82)⟩])
     (.cond (.r 81)
      (.reg 0 [⟨some 83, none, .ld (.r 2) (some 4)⟩,
        ⟨some 84, none, .ld (.r 3) (some 4)⟩,
        ⟨some 85, none, .call (.c (.fn 8 [] [])) [(.r 83), (.r 84)]⟩,
        ⟨some 9, none, .mv (.r 85)⟩])
      .skip)))))))
  (.seq (.reg 43 [⟨some 86, none, .ld (.r 2) (some 4)⟩,
    ⟨some 87, none, .ld (.r 3) (some 4)⟩,
    ⟨some 88, none, .call (.c (.fn 9 [] [])) [(.r 86), (.r 87)]⟩,
    ⟨some 89, none, .mv (.r 8)⟩,
    ⟨some 90, none, .beq false (.r 88) (.r 89)⟩,
    ⟨some 91, none, .mv (.r 90)⟩,
    ⟨some 92, some (91, true), .ld (.r 2) (some 4)⟩,
    ⟨some 93, some (91, true), .ld (.r 2) (some 4)⟩,
    ⟨some 94, some (91, true), .call (.c (.fn 9 [] [])) [(.r 92), (.r 93)]⟩,
    ⟨some 95, none, .pick (.r 91) (.r 94) (.c (.bool false))⟩,
    ⟨some 96, none, .mv (.r 95)⟩,
    ⟨some 97, some (96, true), .ld (.r 2) (some 4)⟩,
    ⟨some 98, some (96, true), .call (.c (.fn 10 [] [])) [(.r 97)]⟩,
    ⟨some 99, some (96, true), .mv (.r 6)⟩,
    ⟨some 100, some (96, true), .beq false (.r 98) (.r 99)⟩,
    ⟨some 101, none, .pick (.r 96) (.r 100) (.c (.bool false))⟩,
    ⟨some 102, none, .mv (.r 101)⟩,
    ⟨some 103, some (102, true), .ld (.r 2) (some 4)⟩,
    ⟨some 104, some (102, true), .ld (.r 3) (some 4)⟩,
    ⟨some 105, some (102, true), .call (.c (.fn 11 [] [])) [(.r 103), (.r 104)]⟩,
    ⟨some 106, some (102, true), .ld (.r 2) (some 4)⟩,
    ⟨some 107, some (102, true), .ld (.r 3) (some 4)⟩,
    ⟨some 108, some (102, true), .call (.c (.fn 8 [] [])) [(.r 106), (.r 107)]⟩,
    ⟨some 109, some (102, true), .beq false (.r 105) (.r 108)⟩,
    ⟨some 110, none, .pick (.r 102) (.r 109) (.c (.bool false))⟩,
    ⟨some 111, none, .mv (.r 110)⟩,
    ⟨some 112, some (111, true), .ld (.r 2) (some 4)⟩,
    ⟨some 113, some (111, true), .ld (.r 3) (some 4)⟩,
    ⟨some 114, some (111, true), .call (.c (.fn 12 [] [])) [(.r 112), (.r 113)]⟩,
    ⟨some 115, some (111, true), .mv (.r 9)⟩,
    ⟨some 116, some (111, true), .beq false (.r 114) (.r 115)⟩,
    ⟨some 117, none, .pick (.r 111) (.r 116) (.c (.bool false))⟩,
    ⟨some 118, none, .mv (.r 117)⟩,
    ⟨some 119, some (118, true), .ld (.r 3) (some 4)⟩,
    ⟨some 120, some (118, true), .ld (.r 2) (some 4)⟩,
    ⟨some 121, some (118, true), .call (.c (.fn 12 [] [])) [(.r 119), (.r 120)]⟩,
    ⟨some 122, some (118, true), .mv (.r 9)⟩,
    ⟨some 123, some (118, true), .beq false (.r 121) (.r 122)⟩,
    ⟨some 124, none, .pick (.r 118) (.r 123) (.c (.bool false))⟩,
    ⟨some 125, none, .mv (.r 124)⟩,
    ⟨some 126, some (125, true), .ld (.r 2) (some 4)⟩,
    ⟨some 127, some (125, true), .call (.c (.fn 13 [] [])) [(.r 126)]⟩,
    ⟨some 128, some (125, true), .ld (.r 2) (some 4)⟩,
    ⟨some 129, some (125, true), .call (.c (.fn 14 [] [])) [(.r 128)]⟩,
    ⟨some 130, some (125, true), .bin .eql (.r 127) (.r 129)⟩,
    ⟨some 131, none, .pick (.r 125) (.r 130) (.c (.bool false))⟩,
    ⟨some 4, none, .mv (.r 131)⟩])
  .ret))))))))))
theorem sl3 : Tryd.f3.body.bind (slC Tryd.prog ann 3) = some S3 := by kernel_rfl
/- daguerre/daguerrelaw29.TraceFront -/
def S4 : SC := (.seq (.reg 0 [⟨some 4, none, .hbox false (.r 0)⟩,
    ⟨some 8, none, .mv (.c (.bool false))⟩])
  (.seq (.reg 0 [⟨some 12, none, .call (.c (.fn 6 [] [])) []⟩,
    ⟨some 9, none, .mv (.r 12)⟩])
  (.seq (.seq (.reg 0 [⟨some 13, none, .mv (.r 9)⟩,
    ⟨some 14, none, .un .not (.r 13)⟩])
  (.cond (.r 14)
   (.seq (.reg 0 [⟨some 8, none, .mv (.c (.bool false))⟩])
   .ret)
   .skip))
  (.seq (.reg 0 [⟨some 15, none, .ld (.r 4) (some 4)⟩,
    ⟨some 16, none, .call (.c (.fn 7 [] [])) [(.r 15)]⟩,
    ⟨none, none, .st (.r 4) (.r 16) 4⟩])
  (.seq (.reg 0 [⟨some 17, none, .mv (.r 2)⟩,
    ⟨some 18, none, .bin .and (.r 17) (.c (.int .i64 1))⟩,
    ⟨some 19, none, .bin .add (.c (.int .i64 1)) (.r 18)⟩,
    ⟨some 20, none, .fa (.r 4) 1⟩,
    ⟨none, none, .st (.r 20) (.r 19) 1⟩])
  (.seq (.seq (.reg 0 [⟨some 21, none, .mv (.r 1)⟩,
    ⟨some 22, none, .bin .lss (.r 21) (.c (.int .i64 0))⟩,
    ⟨some 23, none, .mv (.r 22)⟩,
    ⟨some 24, some (23, false), .mv (.r 1)⟩,
    ⟨some 25, some (23, false), .fa (.r 4) 0⟩,
    ⟨some 26, some (23, false), .ld (.r 25) none⟩,
    ⟨some 27, some (23, false), .len (.r 26) none⟩,
    ⟨some 28, some (23, false), .bin .gtr (.r 24) (.r 27)⟩,
    ⟨some 29, none, .pick (.r 23) (.c (.bool true)) (.r 28)⟩])
  (.cond (.r 29)
   (.seq (.reg 0 [⟨some 8, none, .mv (.c (.bool true))⟩])
   .ret)
   .skip))
  (.seq (.reg 0 [⟨some 30, none, .fa (.r 4) 0⟩,
    ⟨some 31, none, .ld (.r 30) none⟩,
    ⟨some 32, none, .mv (.r 1)⟩,
    ⟨some 33, none, .slt (.r 31) none (some (.r 32)) 1⟩,
    ⟨some 34, none, .mv (.r 2)⟩,
    ⟨some 35, none, .bin .and (.r 34) (.c (.int .i64 3))⟩,
    ⟨some 36, none, .bin .rem (.r 35) (.c (.int .i64 3))⟩,
    ⟨some 37, none, .bin .add (.c (.int .i64 3)) (.r 36)⟩,
    ⟨some 38, none, .bld [.nil .sl, .int .i64 0, .int .i32 0, .str []] [(0, 1, (.r 33)), (1, 1, (.r 37))]⟩,
    ⟨some 10, none, .alc false [.nil .sl, .int .i64 0, .int .i32 0, .str []]⟩,
    ⟨none, none, .st (.r 10) (.r 38) 4⟩])
  (.seq (.reg 0 [⟨some 39, none, .ld (.r 4) (some 4)⟩,
    ⟨some 11, none, .alc false [.nil .sl, .int .i64 0, .int .i32 0, .str []]⟩,
    ⟨none, none, .st (.r 11) (.r 39) 4⟩])
  (.seq (.reg 0 [⟨some 40, none, .fa (.r 4) 0⟩,
    ⟨some 41, none, .ld (.r 40) none⟩,
    ⟨some 42, none, .mv (.r 1)⟩,
    ⟨some 43, none, .slt (.r 41) none (some (.r 42)) 1⟩,
    ⟨some 44, none, .app 1 4 (.c (.nil .sl)) (.r 43)⟩,
    ⟨some 45, none, .mv (.r 3)⟩,
    ⟨some 46, none, .bsl [.int .i32 0] 1 1 [(0, 1, (.r 45))]⟩,
    ⟨some 47, none, .appT 1 4 (.r 44) (.r 46)⟩,
    ⟨some 48, none, .fa (.r 11) 0⟩,
    ⟨none, none, .st (.r 48) (.r 47) 1⟩])
  (.seq (.reg 51 [⟨some 49, none, .ld (.r 4) (some 4)⟩,
    ⟨some 50, none, .ld (.r 10) (some 4)⟩,
    ⟨some 51, none, .call (.c (.fn 12 [] [])) [(.r 49), (.r 50)]⟩,
    ⟨some 52, none, .mv (.r 51)⟩,
    ⟨some 53, some (52, true), .ld (.r 10) (some 4)⟩,
    ⟨some 54, some (52, true), .ld (.r 4) (some 4)⟩,
    ⟨some 55, some (52, true), .call (.c (.fn 12 [] [])) [(.r 53), (.r 54)]⟩,
    ⟨some 56, none, .pick (.r 52) (.r 55) (.c (.bool false))⟩,
    ⟨some 57, none, .mv (.r 56)⟩,
    ⟨some 58, some (57, true), .ld (.r 10) (some 4)⟩,
    ⟨some 59, some (57, true), .ld (.r 4) (some 4)⟩,
    ⟨some 60, some (57, true), .call (.c (.fn 11 [] [])) [(.r 58), (.r 59)]⟩,
    ⟨some 61, none, .pick (.r 57) (.r 60) (.c (.bool false))⟩,
    ⟨some 62, none, .mv (.r 61)⟩,
    ⟨some 63, some (62, true), .ld (.r 4) (some 4)⟩,
    ⟨some 64, some (62, true), .ld (.r 4) (some 4)⟩,
    ⟨some 65, some (62, true), .call (.c (.fn 12 [] [])) [(.r 63), (.r 64)]⟩,
    ⟨some 66, none, .pick (.r 62) (.r 65) (.c (.bool false))⟩,
    ⟨some 67, none, .mv (.r 66)⟩,
    ⟨some 68, some (67, true), .ld (.r 4) (some 4)⟩,
    ⟨some 69, some (67, true), .ld (.r 11) (some 4)⟩,
    ⟨some 70, some (67, true), .call (.c (.fn 12 [] [])) [(.r 68), (.r 69)]⟩,
    ⟨some 71, some (67, true), .ld (.r 4) (some 4)⟩,
    ⟨some 72, some (67, true), .ld (.r 11) (some 4)⟩,
    ⟨some 73, some (67, true), .call (.c (.fn 9 [] [])) [(.r 71), (.r 72)]⟩,
    ⟨some 74, some (67, true), .beq false (.r 70) (.r 73)⟩,
    ⟨some 75, none, .pick (.r 67) (.r 74) (.c (.bool false))⟩,
    ⟨some 76, none, .mv (.r 75)⟩,
    ⟨some 77, some (76, true), .ld (.r 4) (some 4)⟩,
    ⟨some 78, some (76, true), .ld (.r 11) (some 4)⟩,
    ⟨some 79, some (76, true), .call (.c (.fn 9 [] [])) [(.r 77), (.r 78)]⟩,
    ⟨some 80, some (76, true), .mv (.r 1)⟩,
    ⟨some 81, some (76, true), .fa (.r 4) 0⟩,
    ⟨some 82, some (76, true), .ld (.r 81) none⟩,
    ⟨some 83, some (76, true), .len (.r 82) none⟩,
    ⟨some 84, some (76, true), .bin .sub (.r 83) (.c (.int .i64 1))⟩,
    ⟨some 85, some (76, true), .bin .eql (.r 80) (.r 84)⟩,
    ⟨some 86, some (76, true), .mv (.r 85)⟩,
    ⟨some 87, some (86, true), .fa (.r 4) 0⟩,
    ⟨some 88, some (86, true), .ld (.r 87) none⟩,
    ⟨some 89, some (86, true), .len (.r 88) none⟩,
    ⟨some 90, some (86, true), .bin .gtr (.r 89) (.c (.int .i64 0))⟩,
    ⟨some 91, some (76, true), .pick (.r 86) (.r 90) (.c (.bool false))⟩,
    ⟨some 92, some (76, true), .mv (.r 91)⟩,
    ⟨some 93, some (92, true), .fa (.r 4) 0⟩,
    ⟨some 94, some (92, true), .ld (.r 93) none⟩,
    ⟨some 95, some (92, true), .fa (.r 4) 0⟩,
    ⟨some 96, some (92, true), .ld (.r 95) none⟩,
    ⟨some 97, some (92, true), .len (.r 96) none⟩,
    ⟨some 98, some (92, true), .bin .sub (.r 97) (.c (.int .i64 1))⟩,
    ⟨some 99, some (92, true), .mnx true [(.r 98), (.c (.int .i64 0))]⟩,
    ⟨some 100, some (92, true), .ia (.r 94) (.r 99) none 1⟩,
    ⟨some 101, some (92, true), .ld (.r 100) none⟩,
    ⟨some 102, some (92, true), .mv (.r 3)⟩,
    ⟨some 103, some (92, true), .bin .eql (.r 101) (.r 102)⟩,
    ⟨some 104, some (76, true), .pick (.r 92) (.r 103) (.c (.bool false))⟩,
    ⟨some 105, some (76, true), .beq false (.r 79) (.r 104)⟩,
    ⟨some 106, none, .pick (.r 76) (.r 105) (.c (.bool false))⟩,
    ⟨some 8, none, .mv (.r 106)⟩])
  .ret))))))))))
theorem sl4 : Tryd.f4.body.bind (slC Tryd.prog ann 4) = some S4 := by kernel_rfl
/- daguerre/daguerrelaw29.TraceThree -/
def S5 : SC := (.seq (.reg 0 [⟨some 6, none, .mv (.c (.bool false))⟩])
  (.seq (.reg 0 [⟨some 11, none, .call (.c (.fn 6 [] [])) []⟩,
    ⟨some 7, none, .mv (.r 11)⟩])
  (.seq (.seq (.reg 0 [⟨some 12, none, .mv (.r 7)⟩,
    ⟨some 13, none, .un .not (.r 12)⟩])
  (.cond (.r 13)
   (.seq (.reg 0 [⟨some 6, none, .mv (.c (.bool false))⟩])
   .ret)
   .skip))
  (.seq (.reg 0 [⟨some 14, none, .mv (.r 0)⟩,
    ⟨some 15, none, .mv (.r 0)⟩,
    ⟨some 16, none, .len (.r 15) none⟩,
    ⟨some 17, none, .mnx false [(.r 16), (.c (.int .i64 15))]⟩,
    ⟨some 18, none, .slt (.r 14) none (some (.r 17)) 1⟩,
    ⟨some 0, none, .mv (.r 18)⟩])
  (.seq (.seq (.reg 0 [⟨some 19, none, .mv (.r 1)⟩,
    ⟨some 20, none, .bin .lss (.r 19) (.c (.int .i64 0))⟩,
    ⟨some 21, none, .mv (.r 20)⟩,
    ⟨some 22, some (21, false), .mv (.r 2)⟩,
    ⟨some 23, some (21, false), .mv (.r 1)⟩,
    ⟨some 24, some (21, false), .bin .lss (.r 22) (.r 23)⟩,
    ⟨some 25, none, .pick (.r 21) (.c (.bool true)) (.r 24)⟩,
    ⟨some 26, none, .mv (.r 25)⟩,
    ⟨some 27, some (26, false), .mv (.r 2)⟩,
    ⟨some 28, some (26, false), .mv (.r 0)⟩,
    ⟨some 29, some (26, false), .len (.r 28) none⟩,
    ⟨some 30, some (26, false), .bin .gtr (.r 27) (.r 29)⟩,
    ⟨some 31, none, .pick (.r 26) (.c (.bool true)) (.r 30)⟩])
  (.cond (.r 31)
   (.seq (.reg 0 [⟨some 6, none, .mv (.c (.bool true))⟩])
   .ret)
   .skip))
  (.seq (.reg 0 [⟨some 32, none, .mv (.r 0)⟩,
    ⟨some 33, none, .mv (.r 1)⟩,
    ⟨some 34, none, .slt (.r 32) none (some (.r 33)) 1⟩,
    ⟨some 35, none, .bld [.nil .sl, .int .i64 0, .int .i32 0, .str []] [(0, 1, (.r 34)), (1, 1, (.c (.int .i64 3)))]⟩,
    ⟨some 8, none, .alc false [.nil .sl, .int .i64 0, .int .i32 0, .str []]⟩,
    ⟨none, none, .st (.r 8) (.r 35) 4⟩])
  (.seq (.reg 0 [⟨some 36, none, .mv (.r 0)⟩,
    ⟨some 37, none, .mv (.r 2)⟩,
    ⟨some 38, none, .slt (.r 36) none (some (.r 37)) 1⟩,
    ⟨some 39, none, .bld [.nil .sl, .int .i64 0, .int .i32 0, .str []] [(0, 1, (.r 38)), (1, 1, (.c (.int .i64 4)))]⟩,
    ⟨some 9, none, .alc false [.nil .sl, .int .i64 0, .int .i32 0, .str []]⟩,
    ⟨none, none, .st (.r 9) (.r 39) 4⟩])
  (.seq (.reg 0 [⟨some 40, none, .mv (.r 0)⟩,
    ⟨some 41, none, .bld [.nil .sl, .int .i64 0, .int .i32 0, .str []] [(0, 1, (.r 40)), (1, 1, (.c (.int .i64 2))), (3, 1, (.c (.str [65, 97])))]⟩,
    ⟨some 10, none, .alc false [.nil .sl, .int .i64 0, .int .i32 0, .str []]⟩,
    ⟨none, none, .st (.r 10) (.r 41) 4⟩])
  (.seq (.reg 0 [⟨some 42, none, .ld (.r 8) (some 4)⟩,
    ⟨some 43, none, .ld (.r 9) (some 4)⟩,
    ⟨some 44, none, .call (.c (.fn 11 [] [])) [(.r 42), (.r 43)]⟩,
    ⟨some 45, none, .mv (.r 44)⟩,
    ⟨some 46, some (45, true), .ld (.r 9) (some 4)⟩,
    ⟨some 47, some (45, true), .ld (.r 10) (some 4)⟩,
    ⟨some 48, some (45, true), .call (.c (.fn 11 [] [])) [(.r 46), (.r 47)]⟩,
    ⟨some 49, none, .pick (.r 45) (.r 48) (.c (.bool false))⟩,
    ⟨some 50, none, .mv (.r 49)⟩,
    ⟨some 51, some (50, true), .ld (.r 8) (some 4)⟩,
    ⟨some 52, some (50, true), .ld (.r 10) (some 4)⟩,
    ⟨some 53, some (50, true), .call (.c (.fn 11 [] [])) [(.r 51), (.r 52)]⟩,
    ⟨some 54, none, .pick (.r 50) (.r 53) (.c (.bool false))⟩,
    ⟨some 55, none, .mv (.r 54)⟩,
    ⟨some 56, some (55, true), .ld (.r 8) (some 4)⟩,
    ⟨some 57, some (55, true), .ld (.r 10) (some 4)⟩,
    ⟨some 58, some (55, true), .call (.c (.fn 12 [] [])) [(.r 56), (.r 57)]⟩,
    ⟨some 59, none, .pick (.r 55) (.r 58) (.c (.bool false))⟩,
    ⟨some 60, none, .mv (.r 59)⟩,
    ⟨some 61, some (60, true), .ld (.r 10) (some 4)⟩,
    ⟨some 62, some (60, true), .ld (.r 9) (some 4)⟩,
    ⟨some 63, some (60, true), .call (.c (.fn 12 [] [])) [(.r 61), (.r 62)]⟩,
    ⟨some 64, none, .pick (.r 60) (.r 63) (.c (.bool false))⟩,
    ⟨some 65, none, .mv (.r 64)⟩,
    ⟨some 66, some (65, true), .ld (.r 8) (some 4)⟩,
    ⟨some 67, some (65, true), .ld (.r 9) (some 4)⟩,
    ⟨some 68, some (65, true), .call (.c (.fn 12 [] [])) [(.r 66), (.r 67)]⟩,
    ⟨some 69, none, .pick (.r 65) (.r 68) (.c (.bool false))⟩,
    ⟨some 70, none, .mv (.r 69)⟩,
    ⟨some 71, some (70, true), .ld (.r 9) (some 4)⟩,
    ⟨some 72, some (70, true), .ld (.r 8) (some 4)⟩,
    ⟨some 73, some (70, true), .call (.c (.fn 11 [] [])) [(.r 71), (.r 72)]⟩,
    ⟨some 74, some (70, true), .mv (.r 1)⟩,
    ⟨some 75, some (70, true), .mv (.r 2)⟩,
    ⟨some 76, some (70, true), .bin .eql (.r 74) (.r 75)⟩,
    ⟨some 77, some (70, true), .beq false (.r 73) (.r 76)⟩,
    ⟨some 78, none, .pick (.r 70) (.r 77) (.c (.bool false))⟩,
    ⟨some 79, none, .mv (.r 78)⟩,
    ⟨some 80, some (79, true), .ld (.r 8) (some 4)⟩,
    ⟨some 81, some (79, true), .ld (.r 9) (some 4)⟩,
    ⟨some 82, some (79, true), .call (.c (.fn 9 [] [])) [(.r 80), (.r 81)]⟩,
    ⟨some 83, some (79, true), .un .not (.r 82)⟩,
    ⟨some 84, none, .pick (.r 79) (.r 83) (.c (.bool false))⟩,
    ⟨some 85, none, .mv (.r 84)⟩,
    ⟨some 86, some (85, true), .ld (.r 10) (some 4)⟩,
    ⟨some 87, some (85, true), .call (.c (.fn 10 [] [])) [(.r 86)]⟩,
    ⟨some 88, none, .pick (.r 85) (.r 87) (.c (.bool false))⟩,
    ⟨some 6, none, .mv (.r 88)⟩])
  .ret)))))))))
theorem sl5 : Tryd.f5.body.bind (slC Tryd.prog ann 5) = some S5 := by kernel_rfl
/- daguerre/daguerrelaw29.begun -/
def S6 : SC := (.seq (.reg 0 [⟨some 0, none, .mv (.c (.bool false))⟩])
  (.seq (.reg 0 [⟨some 3, none, .bsl [.int .i32 0, .int .i32 0] 1 2 [(0, 1, (.c (.int .i32 5))), (1, 1, (.c (.int .i32 (-3))))]⟩,
    ⟨some 4, none, .bld [.nil .sl, .int .i64 0, .int .i32 0, .str []] [(0, 1, (.r 3)), (1, 1, (.c (.int .i64 1))), (2, 1, (.c (.int .i32 2)))]⟩,
    ⟨some 1, none, .alc false [.nil .sl, .int .i64 0, .int .i32 0, .str []]⟩,
    ⟨none, none, .st (.r 1) (.r 4) 4⟩])
  (.seq (.reg 0 [⟨some 5, none, .bsl [.int .i32 0] 1 1 [(0, 1, (.c (.int .i32 5)))]⟩,
    ⟨some 6, none, .bld [.nil .sl, .int .i64 0, .int .i32 0, .str []] [(0, 1, (.r 5)), (1, 1, (.c (.int .i64 3)))]⟩,
    ⟨some 2, none, .alc false [.nil .sl, .int .i64 0, .int .i32 0, .str []]⟩,
    ⟨none, none, .st (.r 2) (.r 6) 4⟩])
  (.seq (.reg 0 [⟨some 7, none, .ld (.r 1) (some 4)⟩,
    ⟨some 8, none, .ld (.r 1) (some 4)⟩,
    ⟨some 9, none, .call (.c (.fn 9 [] [])) [(.r 7), (.r 8)]⟩,
    ⟨some 10, none, .mv (.r 9)⟩,
    ⟨some 11, some (10, true), .ld (.r 1) (some 4)⟩,
    ⟨some 12, some (10, true), .ld (.r 2) (some 4)⟩,
    ⟨some 13, some (10, true), .call (.c (.fn 9 [] [])) [(.r 11), (.r 12)]⟩,
    ⟨some 14, some (10, true), .un .not (.r 13)⟩,
    ⟨some 15, none, .pick (.r 10) (.r 14) (.c (.bool false))⟩,
    ⟨some 16, none, .mv (.r 15)⟩,
    ⟨some 17, some (16, true), .ld (.r 1) (some 4)⟩,
    ⟨some 18, some (16, true), .call (.c (.fn 10 [] [])) [(.r 17)]⟩,
    ⟨some 19, none, .pick (.r 16) (.r 18) (.c (.bool false))⟩,
    ⟨some 20, none, .mv (.r 19)⟩,
    ⟨some 21, some (20, true), .ld (.r 2) (some 4)⟩,
    ⟨some 22, some (20, true), .call (.c (.fn 10 [] [])) [(.r 21)]⟩,
    ⟨some 23, some (20, true), .un .not (.r 22)⟩,
    ⟨some 24, none, .pick (.r 20) (.r 23) (.c (.bool false))⟩,
    ⟨some 25, none, .mv (.r 24)⟩,
    ⟨some 26, some (25, true), .ld (.r 2) (some 4)⟩,
    ⟨some 27, some (25, true), .ld (.r 1) (some 4)⟩,
    ⟨some 28, some (25, true), .call (.c (.fn 11 [] [])) [(.r 26), (.r 27)]⟩,
    ⟨some 29, none, .pick (.r 25) (.r 28) (.c (.bool false))⟩,
    ⟨some 30, none, .mv (.r 29)⟩,
    ⟨some 31, some (30, true), .ld (.r 1) (some 4)⟩,
    ⟨some 32, some (30, true), .ld (.r 2) (some 4)⟩,
    ⟨some 33, some (30, true), .call (.c (.fn 11 [] [])) [(.r 31), (.r 32)]⟩,
    ⟨some 34, some (30, true), .un .not (.r 33)⟩,
    ⟨some 35, none, .pick (.r 30) (.r 34) (.c (.bool false))⟩,
    ⟨some 36, none, .mv (.r 35)⟩,
    ⟨some 37, some (36, true), .ld (.r 1) (some 4)⟩,
    ⟨some 38, some (36, true), .ld (.r 2) (some 4)⟩,
    ⟨some 39, some (36, true), .call (.c (.fn 12 [] [])) [(.r 37), (.r 38)]⟩,
    ⟨some 40, none, .pick (.r 36) (.r 39) (.c (.bool false))⟩,
    ⟨some 41, none, .mv (.r 40)⟩,
    ⟨some 42, some (41, true), .ld (.r 2) (some 4)⟩,
    ⟨some 43, some (41, true), .ld (.r 1) (some 4)⟩,
    ⟨some 44, some (41, true), .call (.c (.fn 12 [] [])) [(.r 42), (.r 43)]⟩,
    ⟨some 45, none, .pick (.r 41) (.r 44) (.c (.bool false))⟩,
    ⟨some 46, none, .mv (.r 45)⟩,
    ⟨some 47, some (46, true), .ld (.r 1) (some 4)⟩,
    ⟨some 48, some (46, true), .call (.c (.fn 13 [] [])) [(.r 47)]⟩,
    ⟨some 49, some (46, true), .bin .eql (.r 48) (.c (.str [53, 32, 45, 51, 32, 101, 120, 105, 116, 32, 50]))⟩,
    ⟨some 50, none, .pick (.r 46) (.r 49) (.c (.bool false))⟩,
    ⟨some 51, none, .mv (.r 50)⟩,
    ⟨some 52, some (51, true), .ld (.r 2) (some 4)⟩,
    ⟨some 53, some (51, true), .call (.c (.fn 13 [] [])) [(.r 52)]⟩,
    ⟨some 54, some (51, true), .bin .eql (.r 53) (.c (.str [53, 32, 102, 117, 101, 108]))⟩,
    ⟨some 55, none, .pick (.r 51) (.r 54) (.c (.bool false))⟩,
    ⟨some 0, none, .mv (.r 55)⟩])
  .ret))))
theorem sl6 : Tryd.f6.body.bind (slC Tryd.prog ann 6) = some S6 := by kernel_rfl
/- daguerre/daguerrelaw29.cut -/
def S7 : SC := (.seq (.reg 0 [⟨some 1, none, .hbox false (.r 0)⟩,
    ⟨some 2, none, .alc false [.nil .sl, .int .i64 0, .int .i32 0, .str []]⟩])
  (.seq (.reg 10 [⟨some 3, none, .fa (.r 1) 0⟩,
    ⟨some 4, none, .ld (.r 3) none⟩,
    ⟨some 5, none, .fa (.r 1) 0⟩,
    ⟨some 6, none, .ld (.r 5) none⟩,
    ⟨some 7, none, .len (.r 6) none⟩,
    ⟨some 8, none, .mnx false [(.r 7), (.c (.int .i64 20))]⟩,
    ⟨some 9, none, .slt (.r 4) none (some (.r 8)) 1⟩,
    ⟨some 10, none, .appT 1 4 (.c (.nil .sl)) (.r 9)⟩,
    ⟨some 11, none, .fa (.r 1) 3⟩,
    ⟨some 12, none, .ld (.r 11) none⟩,
    ⟨some 13, none, .call (.c (.fn 15 [] [])) [(.r 12), (.c (.int .i64 10))]⟩,
    ⟨some 14, none, .fa (.r 1) 0⟩,
    ⟨none, none, .st (.r 14) (.r 10) 1⟩,
    ⟨some 15, none, .fa (.r 1) 3⟩,
    ⟨none, none, .st (.r 15) (.r 13) 1⟩])
  (.seq (.reg 0 [⟨some 16, none, .ld (.r 1) (some 4)⟩,
    ⟨none, none, .st (.r 2) (.r 16) 4⟩])
  .ret)))
theorem sl7 : Tryd.f7.body.bind (slC Tryd.prog ann 7) = some S7 := by kernel_rfl
/- daguerre/daguerrelaw29.front -/
def S8 : SC := (.seq (.reg 0 [⟨some 2, none, .box (.r 0)⟩,
    ⟨some 3, none, .box (.r 1)⟩,
    ⟨some 4, none, .mv (.c (.bool false))⟩])
  (.seq (.seq (.reg 0 [⟨some 6, none, .fa (.r 2) 0⟩,
    ⟨some 7, none, .ld (.r 6) none⟩,
    ⟨some 8, none, .len (.r 7) none⟩,
    ⟨some 9, none, .fa (.r 3) 0⟩,
    ⟨some 10, none, .ld (.r 9) none⟩,
    ⟨some 11, none, .len (.r 10) none⟩,
    ⟨some 12, none, .bin .gtr (.r 8) (.r 11)⟩])
  (.cond (.r 12)
   (.seq (.reg 0 [⟨some 4, none, .mv (.c (.bool false))⟩])
   .ret)
   .skip))
  (.seq (.seq (.reg 0 [⟨some 5, none, .mv (.c (.int .i64 0))⟩])
  (.block 0 (.loop (.seq (.seq (.reg 0 [⟨some 13, none, .mv (.r 5)⟩,
      ⟨some 14, none, .fa (.r 2) 0⟩,
      ⟨some 15, none, .ld (.r 14) none⟩,
      ⟨some 16, none, .len (.r 15) none⟩,
      ⟨some 17, none, .bin .lss (.r 13) (.r 16)⟩])
    (.cond (.r 17)
     .skip
     (.exit 0)))
    (.seq (.block 1 (.seq (.reg 10 [⟨some 20, none, .fa (.r 2) 0⟩,
       ⟨some 21, none, .ld (.r 20) none⟩,
       ⟨some 22, none, .mv (.r 5)⟩,
       ⟨some 23, none, .ia (.r 21) (.r 22) none 1⟩,
       ⟨some 24, none, .ld (.r 23) none⟩,
       ⟨some 25, none, .fa (.r 3) 0⟩,
       ⟨some 26, none, .ld (.r 25) none⟩,
       ⟨some 27, none, .mv (.r 5)⟩,
       ⟨some 28, none, .ia (.r 26) (.r 27) none 1⟩,
       ⟨some 29, none, .ld (.r 28) none⟩,
       ⟨some 30, none, .bin .neq (.r 24) (.r 29)⟩])
     (.cond (.r 30)
      (.seq (.reg 0 [⟨some 4, none, .mv (.c (.bool false))⟩])
      .ret)
      .skip)))
    (.reg 0 [⟨some 18, none, .mv (.r 5)⟩,
      ⟨some 19, none, .bin .add (.r 18) (.c (.int .i64 1))⟩,
      ⟨some 5, none, .mv (.r 19)⟩]))))))
  (.seq (.reg 0 [⟨some 4, none, .mv (.c (.bool true))⟩])
  .ret))))
theorem sl8 : Tryd.f8.body.bind (slC Tryd.prog ann 8) = some S8 := by kernel_rfl
/- daguerre/trace.Eq -/
def S9 : SC := (.seq (.reg 0 [⟨some 2, none, .box (.r 0)⟩,
    ⟨some 3, none, .box (.r 1)⟩,
    ⟨some 4, none, .mv (.c (.bool false))⟩])
  (.seq (.reg 0 [⟨some 5, none, .fa (.r 2) 0⟩,
    ⟨some 6, none, .ld (.r 5) none⟩,
    ⟨some 7, none, .fa (.r 3) 0⟩,
    ⟨some 8, none, .ld (.r 7) none⟩,
    ⟨some 9, none, .call (.c (.fn 16 [] [])) [(.r 6), (.r 8)]⟩,
    ⟨some 10, none, .mv (.r 9)⟩,
    ⟨some 11, some (10, true), .fa (.r 2) 1⟩,
    ⟨some 12, some (10, true), .ld (.r 11) none⟩,
    ⟨some 13, some (10, true), .fa (.r 3) 1⟩,
    ⟨some 14, some (10, true), .ld (.r 13) none⟩,
    ⟨some 15, some (10, true), .bin .eql (.r 12) (.r 14)⟩,
    ⟨some 16, none, .pick (.r 10) (.r 15) (.c (.bool false))⟩,
    ⟨some 17, none, .mv (.r 16)⟩,
    ⟨some 18, some (17, true), .fa (.r 2) 2⟩,
    ⟨some 19, some (17, true), .ld (.r 18) none⟩,
    ⟨some 20, some (17, true), .fa (.r 3) 2⟩,
    ⟨some 21, some (17, true), .ld (.r 20) none⟩,
    ⟨some 22, some (17, true), .bin .eql (.r 19) (.r 21)⟩,
    ⟨some 23, none, .pick (.r 17) (.r 22) (.c (.bool false))⟩,
    ⟨some 24, none, .mv (.r 23)⟩,
    ⟨some 25, some (24, true), .fa (.r 2) 3⟩,
    ⟨some 26, some (24, true), .ld (.r 25) none⟩,
    ⟨some 27, some (24, true), .fa (.r 3) 3⟩,
    ⟨some 28, some (24, true), .ld (.r 27) none⟩,
    ⟨some 29, some (24, true), .bin .eql (.r 26) (.r 28)⟩,
    ⟨some 30, none, .pick (.r 24) (.r 29) (.c (.bool false))⟩,
    ⟨some 4, none, .mv (.r 30)⟩])
  .ret))
theorem sl9 : Tryd.f9.body.bind (slC Tryd.prog ann 9) = some S9 := by kernel_rfl
/- daguerre/trace.Whole -/
def S10 : SC := (.seq (.reg 0 [⟨some 1, none, .box (.r 0)⟩,
    ⟨some 2, none, .mv (.c (.bool false))⟩])
  (.seq (.reg 0 [⟨some 3, none, .fa (.r 1) 1⟩,
    ⟨some 4, none, .ld (.r 3) none⟩,
    ⟨some 5, none, .bin .eql (.r 4) (.c (.int .i64 1))⟩,
    ⟨some 6, none, .mv (.r 5)⟩,
    ⟨some 7, some (6, false), .fa (.r 1) 1⟩,
    ⟨some 8, some (6, false), .ld (.r 7) none⟩,
    ⟨some 9, some (6, false), .bin .eql (.r 8) (.c (.int .i64 2))⟩,
    ⟨some 10, none, .pick (.r 6) (.c (.bool true)) (.r 9)⟩,
    ⟨some 2, none, .mv (.r 10)⟩])
  .ret))
theorem sl10 : Tryd.f10.body.bind (slC Tryd.prog ann 10) = some S10 := by kernel_rfl
/- daguerre/trace.Begins -/
def S11 : SC := (.seq (.reg 0 [⟨some 2, none, .box (.r 0)⟩,
    ⟨some 3, none, .box (.r 1)⟩,
    ⟨some 4, none, .mv (.c (.bool false))⟩])
  (.seq (.reg 16 [⟨some 5, none, .fa (.r 2) 0⟩,
    ⟨some 6, none, .ld (.r 5) none⟩,
    ⟨some 7, none, .len (.r 6) none⟩,
    ⟨some 8, none, .fa (.r 3) 0⟩,
    ⟨some 9, none, .ld (.r 8) none⟩,
    ⟨some 10, none, .len (.r 9) none⟩,
    ⟨some 11, none, .bin .leq (.r 7) (.r 10)⟩,
    ⟨some 12, none, .mv (.r 11)⟩,
    ⟨some 13, some (12, true), .fa (.r 2) 0⟩,
    ⟨some 14, some (12, true), .ld (.r 13) none⟩,
    ⟨some 15, some (12, true), .fa (.r 3) 0⟩,
    ⟨some 16, some (12, true), .ld (.r 15) none⟩,
    ⟨some 17, some (12, true), .fa (.r 2) 0⟩,
    ⟨some 18, some (12, true), .ld (.r 17) none⟩,
    ⟨some 19, some (12, true), .len (.r 18) none⟩,
    ⟨some 20, some (12, true), .slt (.r 16) none (some (.r 19)) 1⟩,
    ⟨some 21, some (12, true), .call (.c (.fn 16 [] [])) [(.r 14), (.r 20)]⟩,
    ⟨some 22, none, .pick (.r 12) (.r 21) (.c (.bool false))⟩,
    ⟨some 4, none, .mv (.r 22)⟩])
  .ret))
theorem sl11 : Tryd.f11.body.bind (slC Tryd.prog ann 11) = some S11 := by kernel_rfl
/- daguerre/trace.Agree -/
def S12 : SC := (.seq (.reg 0 [⟨some 2, none, .box (.r 0)⟩,
    ⟨some 3, none, .box (.r 1)⟩,
    ⟨some 4, none, .mv (.c (.bool false))⟩])
  (.seq (.seq (.reg 3 [⟨some 7, none, .ld (.r 2) (some 4)⟩,
    ⟨some 8, none, .call (.c (.fn 10 [] [])) [(.r 7)]⟩,
    ⟨some 9, none, .ld (.r 3) (some 4)⟩,
    ⟨some 10, none, .call (.c (.fn 10 [] [])) [(.r 9)]⟩,
    ⟨some 5, none, .mv (.r 8)⟩,
    ⟨some 6, none, .mv (.r 10)⟩])
  (.block 0 (.seq (.reg 0 [⟨some 12, none, .mv (.r 5)⟩,
     ⟨some 13, none, .mv (.r 12)⟩,
     ⟨some 14, some (13, true), .mv (.r 6)⟩,
     ⟨some 15, none, .pick (.r 13) (.r 14) (.c (.bool false))⟩,
     ⟨some 11, none, .mv (.r 15)⟩])
   (.cond (.r 11)
    (.seq (.reg 0 [⟨some 16, none, .ld (.r 2) (some 4)⟩,
      ⟨some 17, none, .ld (.r 3) (some 4)⟩,
      ⟨some 18, none, .call (.c (.fn 9 [] [])) [(.r 16), (.r 17)]⟩,
      ⟨some 4, none, .mv (.r 18)⟩])
    .ret)
    (.seq (.reg 0 [⟨some 20, none, .mv (.r 5)⟩,
      ⟨some 19, none, .mv (.r 20)⟩])
    (.cond (.r 19)
     (.seq (.reg 0 [⟨some 21, none, .ld (.r 3) (some 4)⟩,
       ⟨some 22, none, .ld (.r 2) (some 4)⟩,
       ⟨some 23, none, .call (.c (.fn 11 [] [])) [(.r 21), (.r 22)]⟩,
       ⟨some 4, none, .mv (.r 23)⟩])
     .ret)
     (.seq (.reg 0 [⟨some 25, none, .mv (.r 6)⟩,
       ⟨some 24, none, .mv (.r 25)⟩])
     (.cond (.r 24)
      (.seq (.reg 0 [⟨some 26, none, .ld (.r 2) (some 4)⟩,
        ⟨some 27, none, .ld (.r 3) (some 4)⟩,
        ⟨some 28, none, .call (.c (.fn 11 [] [])) [(.r 26), (.r 27)]⟩,
        ⟨some 4, none, .mv (.r 28)⟩])
      .ret)
      .skip))))))))
  (.seq (.reg 0 [⟨some 29, none, .ld (.r 2) (some 4)⟩,
    ⟨some 30, none, .ld (.r 3) (some 4)⟩,
    ⟨some 31, none, .call (.c (.fn 11 [] [])) [(.r 29), (.r 30)]⟩,
    ⟨some 32, none, .mv (.r 31)⟩,
    ⟨some 33, some (32, false), .ld (.r 3) (some 4)⟩,
    ⟨some 34, some (32, false), .ld (.r 2) (some 4)⟩,
    ⟨some 35, some (32, false), .call (.c (.fn 11 [] [])) [(.r 33), (.r 34)]⟩,
    ⟨some 36, none, .pick (.r 32) (.c (.bool true)) (.r 35)⟩,
    ⟨some 4, none, .mv (.r 36)⟩])
  .ret)))
theorem sl12 : Tryd.f12.body.bind (slC Tryd.prog ann 12) = some S12 := by kernel_rfl
/- daguerre/trace.Text -/
def S13 : SC := (.seq (.reg 0 [⟨some 1, none, .box (.r 0)⟩,
    ⟨some 2, none, .mv (.c (.str []))⟩])
  (.seq (.reg 0 [⟨some 3, none, .mv (.c (.str []))⟩])
  (.seq (.seq (.reg 0 [⟨some 6, none, .fa (.r 1) 0⟩,
    ⟨some 7, none, .ld (.r 6) none⟩,
    ⟨some 8, none, .len (.r 7) none⟩,
    ⟨some 9, none, .mv (.c (.int .i64 0))⟩])
  (.block 0 (.loop (.seq (.reg 0 [⟨some 10, none, .bin .lss (.r 9) (.r 8)⟩])
    (.seq (.cond (.r 10)
     .skip
     (.exit 0))
    (.seq (.block 1 (.seq (.reg 0 [⟨some 11, none, .ia (.r 7) (.r 9) none 1⟩,
       ⟨some 12, none, .ld (.r 11) none⟩,
       ⟨some 5, none, .mv (.r 12)⟩])
     (.reg 0 [⟨some 13, none, .mv (.r 3)⟩,
       ⟨some 14, none, .mv (.r 5)⟩,
       ⟨some 15, none, .cv .i64 (.r 14)⟩,
       ⟨some 16, none, .call (.c (.fn 17 [] [])) [(.r 15)]⟩,
       ⟨some 17, none, .bin .add (.r 16) (.c (.str [32]))⟩,
       ⟨some 18, none, .bin .add (.r 13) (.r 17)⟩,
       ⟨some 3, none, .mv (.r 18)⟩])))
    (.reg 0 [⟨some 19, none, .bin .add (.r 9) (.c (.int .i64 1))⟩,
      ⟨some 9, none, .mv (.r 19)⟩])))))))
  (.seq (.seq (.reg 0 [⟨some 20, none, .fa (.r 1) 1⟩,
    ⟨some 21, none, .ld (.r 20) none⟩])
  (.block 2 (.seq (.reg 0 [⟨some 23, none, .bin .eql (.r 21) (.c (.int .i64 1))⟩,
     ⟨some 22, none, .mv (.r 23)⟩])
   (.cond (.r 22)
    (.seq (.reg 0 [⟨some 24, none, .mv (.r 3)⟩,
      ⟨some 25, none, .bin .add (.r 24) (.c (.str [101, 120, 105, 116, 32]))⟩,
      ⟨some 26, none, .fa (.r 1) 2⟩,
      ⟨some 27, none, .ld (.r 26) none⟩,
      ⟨some 28, none, .cv .i64 (.r 27)⟩,
      ⟨some 29, none, .call (.c (.fn 17 [] [])) [(.r 28)]⟩,
      ⟨some 30, none, .bin .add (.r 25) (.r 29)⟩,
      ⟨some 2, none, .mv (.r 30)⟩])
    .ret)
    (.seq (.reg 0 [⟨some 32, none, .bin .eql (.r 21) (.c (.int .i64 2))⟩,
      ⟨some 31, none, .mv (.r 32)⟩])
    (.cond (.r 31)
     (.seq (.reg 0 [⟨some 33, none, .mv (.r 3)⟩,
       ⟨some 34, none, .bin .add (.r 33) (.c (.str [116, 104, 114, 111, 119, 32]))⟩,
       ⟨some 35, none, .fa (.r 1) 3⟩,
       ⟨some 36, none, .ld (.r 35) none⟩,
       ⟨some 37, none, .bin .add (.r 34) (.r 36)⟩,
       ⟨some 2, none, .mv (.r 37)⟩])
     .ret)
     (.seq (.reg 0 [⟨some 39, none, .bin .eql (.r 21) (.c (.int .i64 3))⟩,
       ⟨some 38, none, .mv (.r 39)⟩])
     (.cond (.r 38)
      (.seq (.reg 0 [⟨some 40, none, .mv (.r 3)⟩,
        ⟨some 41, none, .bin .add (.r 40) (.c (.str [102, 117, 101, 108]))⟩,
        ⟨some 2, none, .mv (.r 41)⟩])
      .ret)
      (.seq (.reg 0 [⟨some 43, none, .bin .eql (.r 21) (.c (.int .i64 4))⟩,
        ⟨some 42, none, .mv (.r 43)⟩])
      (.cond (.r 42)
       (.seq (.reg 0 [⟨some 44, none, .mv (.r 3)⟩,
         ⟨some 45, none, .bin .add (.r 44) (.c (.str [104, 101, 97, 112]))⟩,
         ⟨some 2, none, .mv (.r 45)⟩])
       .ret)
       (.seq (.reg 0 [⟨some 47, none, .bin .eql (.r 21) (.c (.int .i64 5))⟩,
         ⟨some 46, none, .mv (.r 47)⟩])
       (.cond (.r 46)
        (.seq (.reg 0 [⟨some 48, none, .mv (.r 3)⟩,
          ⟨some 49, none, .bin .add (.r 48) (.c (.str [100, 101, 101, 112]))⟩,
          ⟨some 2, none, .mv (.r 49)⟩])
        .ret)
        (.seq (.reg 0 [⟨some 51, none, .bin .eql (.r 21) (.c (.int .i64 6))⟩,
          ⟨some 50, none, .mv (.r 51)⟩])
        (.cond (.r 50)
         (.seq (.reg 0 [⟨some 52, none, .mv (.r 3)⟩,
           ⟨some 53, none, .bin .add (.r 52) (.c (.str [98, 97, 100]))⟩,
           ⟨some 2, none, .mv (.r 53)⟩])
         .ret)
         .skip))))))))))))))
  (.seq (.reg 0 [⟨some 54, none, .mv (.r 3)⟩,
    ⟨some 55, none, .bin .add (.r 54) (.c (.str [63]))⟩,
    ⟨some 2, none, .mv (.r 55)⟩])
  .ret)))))
theorem sl13 : Tryd.f13.body.bind (slC Tryd.prog ann 13) = some S13 := by kernel_rfl
/- daguerre/daguerrelaw29.text -/
def S14 : SC := (.seq (.reg 0 [⟨some 1, none, .box (.r 0)⟩,
    ⟨some 2, none, .mv (.c (.str []))⟩])
  (.seq (.reg 0 [⟨some 3, none, .mv (.c (.str []))⟩])
  (.seq (.seq (.reg 0 [⟨some 4, none, .mv (.c (.int .i64 0))⟩])
  (.block 0 (.loop (.seq (.seq (.reg 0 [⟨some 5, none, .mv (.r 4)⟩,
      ⟨some 6, none, .fa (.r 1) 0⟩,
      ⟨some 7, none, .ld (.r 6) none⟩,
      ⟨some 8, none, .len (.r 7) none⟩,
      ⟨some 9, none, .bin .lss (.r 5) (.r 8)⟩])
    (.cond (.r 9)
     .skip
     (.exit 0)))
    (.seq (.block 1 (.reg 0 [⟨some 12, none, .mv (.r 3)⟩,
       ⟨some 13, none, .fa (.r 1) 0⟩,
       ⟨some 14, none, .ld (.r 13) none⟩,
       ⟨some 15, none, .mv (.r 4)⟩,
       ⟨some 16, none, .ia (.r 14) (.r 15) none 1⟩,
       ⟨some 17, none, .ld (.r 16) none⟩,
       ⟨some 18, none, .cv .i64 (.r 17)⟩,
       ⟨some 19, none, .call (.c (.fn 18 [] [])) [(.r 18)]⟩,
       ⟨some 20, none, .bin .add (.r 19) (.c (.str [32]))⟩,
       ⟨some 21, none, .bin .add (.r 12) (.r 20)⟩,
       ⟨some 3, none, .mv (.r 21)⟩]))
    (.reg 0 [⟨some 10, none, .mv (.r 4)⟩,
      ⟨some 11, none, .bin .add (.r 10) (.c (.int .i64 1))⟩,
      ⟨some 4, none, .mv (.r 11)⟩]))))))
  (.seq (.seq (.reg 0 [⟨some 22, none, .fa (.r 1) 1⟩,
    ⟨some 23, none, .ld (.r 22) none⟩])
  (.block 2 (.seq (.reg 0 [⟨some 25, none, .bin .eql (.r 23) (.c (.int .i64 1))⟩,
     ⟨some 24, none, .mv (.r 25)⟩])
   (.cond (.r 24)
    (.seq (.reg 0 [⟨some 26, none, .mv (.r 3)⟩,
      ⟨some 27, none, .bin .add (.r 26) (.c (.str [101, 120, 105, 116, 32]))⟩,
      ⟨some 28, none, .fa (.r 1) 2⟩,
      ⟨some 29, none, .ld (.r 28) none⟩,
      ⟨some 30, none, .cv .i64 (.r 29)⟩,
      ⟨some 31, none, .call (.c (.fn 18 [] [])) [(.r 30)]⟩,
      ⟨some 32, none, .bin .add (.r 27) (.r 31)⟩,
      ⟨some 2, none, .mv (.r 32)⟩])
    .ret)
    (.seq (.reg 0 [⟨some 34, none, .bin .eql (.r 23) (.c (.int .i64 2))⟩,
      ⟨some 33, none, .mv (.r 34)⟩])
    (.cond (.r 33)
     (.seq (.reg 0 [⟨some 35, none, .mv (.r 3)⟩,
       ⟨some 36, none, .bin .add (.r 35) (.c (.str [116, 104, 114, 111, 119, 32]))⟩,
       ⟨some 37, none, .fa (.r 1) 3⟩,
       ⟨some 38, none, .ld (.r 37) none⟩,
       ⟨some 39, none, .bin .add (.r 36) (.r 38)⟩,
       ⟨some 2, none, .mv (.r 39)⟩])
     .ret)
     .skip))))))
  (.seq (.seq (.reg 0 [⟨some 40, none, .fa (.r 1) 1⟩,
    ⟨some 41, none, .ld (.r 40) none⟩,
    ⟨some 42, none, .bin .geq (.r 41) (.c (.int .i64 3))⟩,
    ⟨some 43, none, .mv (.r 42)⟩,
    ⟨some 44, some (43, true), .fa (.r 1) 1⟩,
    ⟨some 45, some (43, true), .ld (.r 44) none⟩,
    ⟨some 46, some (43, true), .bin .leq (.r 45) (.c (.int .i64 6))⟩,
    ⟨some 47, none, .pick (.r 43) (.r 46) (.c (.bool false))⟩])
  (.cond (.r 47)
   (.seq (.reg 0 [⟨some 48, none, .mv (.r 3)⟩,
     ⟨some 49, none, .bsl [.str [], .str [], .str [], .str []] 1 4 [(0, 1, (.c (.str [102, 117, 101, 108]))), (1, 1, (.c (.str [104, 101, 97, 112]))), (2, 1, (.c (.str [100, 101, 101, 112]))), (3, 1, (.c (.str [98, 97, 100])))]⟩,
     ⟨some 50, none, .fa (.r 1) 1⟩,
     ⟨some 51, none, .ld (.r 50) none⟩,
     ⟨some 52, none, .bin .sub (.r 51) (.c (.int .i64 3))⟩,
     ⟨some 53, none, .ia (.r 49) (.r 52) none 1⟩,
     ⟨some 54, none, .ld (.r 53) none⟩,
     ⟨some 55, none, .bin .add (.r 48) (.r 54)⟩,
     ⟨some 2, none, .mv (.r 55)⟩])
   .ret)
   .skip))
  (.seq (.reg 0 [⟨some 56, none, .mv (.r 3)⟩,
    ⟨some 57, none, .bin .add (.r 56) (.c (.str [63]))⟩,
    ⟨some 2, none, .mv (.r 57)⟩])
  .ret))))))
theorem sl14 : Tryd.f14.body.bind (slC Tryd.prog ann 14) = some S14 := by kernel_rfl
/- daguerre/daguerrelaw1.Cut -/
def S15 : SC := (.seq (.reg 0 [⟨some 4, none, .mv (.c (.str []))⟩])
  (.seq (.seq (.reg 0 [⟨some 5, none, .mv (.r 0)⟩,
    ⟨some 6, none, .lens (.r 5)⟩,
    ⟨some 7, none, .mv (.r 1)⟩,
    ⟨some 8, none, .bin .gtr (.r 6) (.r 7)⟩])
  (.cond (.r 8)
   (.seq (.reg 0 [⟨some 9, none, .mv (.r 0)⟩,
     ⟨some 10, none, .mv (.r 1)⟩,
     ⟨some 11, none, .sls (.r 9) none (some (.r 10))⟩,
     ⟨some 4, none, .mv (.r 11)⟩])
   .ret)
   .skip))
  (.seq (.reg 0 [⟨some 12, none, .mv (.r 0)⟩,
    ⟨some 4, none, .mv (.r 12)⟩])
  .ret)))
theorem sl15 : Tryd.f15.body.bind (slC Tryd.prog ann 15) = some S15 := by kernel_rfl
/- slices.Equal[[]int32,int32] -/
def S16 : SC := (.seq (.reg 0 [⟨some 4, none, .mv (.c (.bool false))⟩])
  (.seq (.seq (.reg 0 [⟨some 6, none, .mv (.r 0)⟩,
    ⟨some 7, none, .len (.r 6) none⟩,
    ⟨some 8, none, .mv (.r 1)⟩,
    ⟨some 9, none, .len (.r 8) none⟩,
    ⟨some 10, none, .bin .neq (.r 7) (.r 9)⟩])
  (.cond (.r 10)
   (.seq (.reg 0 [⟨some 4, none, .mv (.c (.bool false))⟩])
   .ret)
   .skip))
  (.seq (.seq (.reg 0 [⟨some 11, none, .mv (.r 0)⟩,
    ⟨some 12, none, .len (.r 11) none⟩,
    ⟨some 13, none, .mv (.c (.int .i64 0))⟩])
  (.block 0 (.loop (.seq (.reg 0 [⟨some 14, none, .bin .lss (.r 13) (.r 12)⟩])
    (.seq (.cond (.r 14)
     .skip
     (.exit 0))
    (.seq (.block 1 (.seq (.reg 0 [⟨some 15, none, .mv (.r 13)⟩,
       ⟨some 5, none, .mv (.r 15)⟩])
     (.seq (.reg 8 [⟨some 16, none, .mv (.r 0)⟩,
       ⟨some 17, none, .mv (.r 5)⟩,
       ⟨some 18, none, .ia (.r 16) (.r 17) none 1⟩,
       ⟨some 19, none, .ld (.r 18) none⟩,
       ⟨some 20, none, .mv (.r 1)⟩,
       ⟨some 21, none, .mv (.r 5)⟩,
       ⟨some 22, none, .ia (.r 20) (.r 21) none 1⟩,
       ⟨some 23, none, .ld (.r 22) none⟩,
       ⟨some 24, none, .bin .neq (.r 19) (.r 23)⟩])
     (.cond (.r 24)
      (.seq (.reg 0 [⟨some 4, none, .mv (.c (.bool false))⟩])
      .ret)
      .skip))))
    (.reg 0 [⟨some 25, none, .bin .add (.r 13) (.c (.int .i64 1))⟩,
      ⟨some 13, none, .mv (.r 25)⟩])))))))
  (.seq (.reg 0 [⟨some 4, none, .mv (.c (.bool true))⟩])
  .ret))))
theorem sl16 : Tryd.f16.body.bind (slC Tryd.prog ann 16) = some S16 := by kernel_rfl
/- strconv.Itoa -/
def S17 : SC := (.seq (.reg 0 [⟨some 2, none, .mv (.c (.str []))⟩])
  (.seq (.reg 0 [⟨some 3, none, .mv (.r 0)⟩,
    ⟨some 4, none, .call (.c (.fn 19 [] [])) [(.r 3)]⟩,
    ⟨some 2, none, .mv (.r 4)⟩])
  .ret))
theorem sl17 : Tryd.f17.body.bind (slC Tryd.prog ann 17) = some S17 := by kernel_rfl
/- daguerre/daguerrelaw29.digits -/
def S18 : SC := (.seq (.reg 0 [⟨some 2, none, .mv (.c (.str []))⟩])
  (.seq (.seq (.reg 0 [⟨some 4, none, .mv (.r 0)⟩,
    ⟨some 5, none, .bin .lss (.r 4) (.c (.int .i64 0))⟩])
  (.cond (.r 5)
   (.seq (.reg 0 [⟨some 6, none, .mv (.r 0)⟩,
     ⟨some 7, none, .un .neg (.r 6)⟩,
     ⟨some 8, none, .call (.c (.fn 18 [] [])) [(.r 7)]⟩,
     ⟨some 9, none, .bin .add (.c (.str [45])) (.r 8)⟩,
     ⟨some 2, none, .mv (.r 9)⟩])
   .ret)
   .skip))
  (.seq (.reg 0 [⟨some 10, none, .mv (.r 0)⟩,
    ⟨some 11, none, .bin .rem (.r 10) (.c (.int .i64 10))⟩,
    ⟨some 12, none, .bin .add (.c (.int .i64 48)) (.r 11)⟩,
    ⟨some 13, none, .cv .u8 (.r 12)⟩,
    ⟨some 14, none, .bsl [.int .u8 0] 1 1 [(0, 1, (.r 13))]⟩,
    ⟨some 15, none, .b2s (.r 14)⟩,
    ⟨some 3, none, .mv (.r 15)⟩])
  (.seq (.seq (.reg 0 [⟨some 16, none, .mv (.r 0)⟩,
    ⟨some 17, none, .bin .lss (.r 16) (.c (.int .i64 10))⟩])
  (.cond (.r 17)
   (.seq (.reg 0 [⟨some 18, none, .mv (.r 3)⟩,
     ⟨some 2, none, .mv (.r 18)⟩])
   .ret)
   .skip))
  (.seq (.reg 0 [⟨some 19, none, .mv (.r 0)⟩,
    ⟨some 20, none, .bin .quo (.r 19) (.c (.int .i64 10))⟩,
    ⟨some 21, none, .call (.c (.fn 18 [] [])) [(.r 20)]⟩,
    ⟨some 22, none, .mv (.r 3)⟩,
    ⟨some 23, none, .bin .add (.r 21) (.r 22)⟩,
    ⟨some 2, none, .mv (.r 23)⟩])
  .ret)))))
theorem sl18 : Tryd.f18.body.bind (slC Tryd.prog ann 18) = some S18 := by kernel_rfl
/- internal/strconv.Itoa -/
def S19 : SC := (.seq (.reg 0 [⟨some 2, none, .mv (.c (.str []))⟩])
  (.seq (.reg 0 [⟨some 3, none, .mv (.r 0)⟩,
    ⟨some 4, none, .call (.c (.fn 20 [] [])) [(.r 3), (.c (.int .i64 10))]⟩,
    ⟨some 2, none, .mv (.r 4)⟩])
  .ret))
theorem sl19 : Tryd.f19.body.bind (slC Tryd.prog ann 19) = some S19 := by kernel_rfl
/- internal/strconv.FormatInt -/
def S20 : SC := (.seq (.reg 0 [⟨some 4, none, .mv (.c (.str []))⟩])
  (.seq (.seq (.reg 0 [⟨some 10, none, .mv (.r 1)⟩,
    ⟨some 11, none, .bin .eql (.r 10) (.c (.int .i64 10))⟩])
  (.cond (.r 11)
   (.seq (.seq (.reg 0 [⟨some 12, none, .mv (.r 0)⟩,
     ⟨some 13, none, .bin .leq (.c (.int .i64 0)) (.r 12)⟩,
     ⟨some 14, none, .mv (.r 13)⟩,
     ⟨some 15, some (14, true), .mv (.r 0)⟩,
     ⟨some 16, some (14, true), .bin .lss (.r 15) (.c (.int .i64 100))⟩,
     ⟨some 17, none, .pick (.r 14) (.r 16) (.c (.bool false))⟩])
   (.cond (.r 17)
    (.seq (.reg 0 [⟨some 18, none, .mv (.r 0)⟩,
      ⟨some 19, none, .call (.c (.fn 21 [] [])) [(.r 18)]⟩,
      ⟨some 4, none, .mv (.r 19)⟩])
    .ret)
    .skip))
   (.seq (.reg 0 [⟨some 5, none, .alc false [.int .u8 0, .int .u8 0, .int .u8 0, .int .u8 0, .int .u8 0, .int .u8 0, .int .u8 0, .int .u8 0, .int .u8 0, .int .u8 0, .int .u8 0, .int .u8 0, .int .u8 0, .int .u8 0, .int .u8 0, .int .u8 0, .int .u8 0, .int .u8 0, .int .u8 0, .int .u8 0, .int .u8 0, .int .u8 0, .int .u8 0, .int .u8 0]⟩])
   (.seq (.reg 0 [⟨some 20, none, .mv (.r 0)⟩,
     ⟨some 21, none, .cv .u64 (.r 20)⟩,
     ⟨some 6, none, .mv (.r 21)⟩])
   (.seq (.seq (.reg 0 [⟨some 22, none, .mv (.r 0)⟩,
     ⟨some 23, none, .bin .lss (.r 22) (.c (.int .i64 0))⟩])
   (.cond (.r 23)
    (.reg 0 [⟨some 24, none, .mv (.r 6)⟩,
      ⟨some 25, none, .un .neg (.r 24)⟩,
      ⟨some 6, none, .mv (.r 25)⟩])
    .skip))
   (.seq (.reg 0 [⟨some 26, none, .mv (.r 6)⟩,
     ⟨some 27, none, .call (.c (.fn 22 [] [])) [(.r 26)]⟩,
     ⟨some 7, none, .mv (.r 27)⟩])
   (.seq (.reg 0 [⟨some 28, none, .mv (.r 7)⟩,
     ⟨some 29, none, .bin .add (.c (.int .i64 1)) (.r 28)⟩,
     ⟨some 30, none, .sla (.r 5) 24 (some (.c (.int .i64 1))) (some (.r 29)) 1⟩,
     ⟨some 31, none, .mv (.r 6)⟩,
     ⟨some 32, none, .call (.c (.fn 23 [] [])) [(.r 30), (.r 31)]⟩])
   (.seq (.seq (.reg 0 [⟨some 33, none, .mv (.r 0)⟩,
     ⟨some 34, none, .bin .lss (.r 33) (.c (.int .i64 0))⟩])
   (.cond (.r 34)
    (.seq (.reg 0 [⟨some 35, none, .ia (.r 5) (.c (.int .i64 0)) (some 24) 1⟩,
      ⟨none, none, .st (.r 35) (.c (.int .u8 45)) 1⟩])
    (.seq (.reg 0 [⟨some 36, none, .mv (.r 7)⟩,
      ⟨some 37, none, .bin .add (.c (.int .i64 1)) (.r 36)⟩,
      ⟨some 38, none, .sla (.r 5) 24 none (some (.r 37)) 1⟩,
      ⟨some 39, none, .b2s (.r 38)⟩,
      ⟨some 4, none, .mv (.r 39)⟩])
    .ret))
    .skip))
   (.seq (.reg 0 [⟨some 40, none, .mv (.r 7)⟩,
     ⟨some 41, none, .bin .add (.c (.int .i64 1)) (.r 40)⟩,
     ⟨some 42, none, .sla (.r 5) 24 (some (.c (.int .i64 1))) (some (.r 41)) 1⟩,
     ⟨some 43, none, .b2s (.r 42)⟩,
     ⟨some 4, none, .mv (.r 43)⟩])
   .ret))))))))
   .skip))
  (.seq (.reg 0 [⟨some 45, none, .mv (.r 0)⟩,
    ⟨some 46, none, .cv .u64 (.r 45)⟩,
    ⟨some 47, none, .mv (.r 1)⟩,
    ⟨some 48, none, .mv (.r 0)⟩,
    ⟨some 49, none, .bin .lss (.r 48) (.c (.int .i64 0))⟩,
    ⟨some 50, none, .call (.c (.fn 24 [] [])) [(.c (.nil .sl)), (.r 46), (.r 47), (.r 49), (.c (.bool false))]⟩,
    ⟨some 44, none, .mv (.r 50)⟩,
    ⟨some 51, none, .ext (.r 44) 0⟩,
    ⟨some 52, none, .ext (.r 44) 1⟩,
    ⟨some 8, none, .mv (.r 51)⟩,
    ⟨some 9, none, .mv (.r 52)⟩])
  (.seq (.reg 0 [⟨some 53, none, .mv (.r 9)⟩,
    ⟨some 4, none, .mv (.r 53)⟩])
  .ret))))
theorem sl20 : Tryd.f20.body.bind (slC Tryd.prog ann 20) = some S20 := by kernel_rfl
/- internal/strconv.small -/
def S21 : SC := (.seq (.reg 0 [⟨some 2, none, .mv (.c (.str []))⟩])
  (.seq (.seq (.reg 0 [⟨some 3, none, .mv (.r 0)⟩,
    ⟨some 4, none, .bin .lss (.r 3) (.c (.int .i64 10))⟩])
  (.cond (.r 4)
   (.seq (.reg 0 [⟨some 5, none, .mv (.r 0)⟩,
     ⟨some 6, none, .mv (.r 0)⟩,
     ⟨some 7, none, .bin .add (.r 6) (.c (.int .i64 1))⟩,
     ⟨some 8, none, .sls (.c (.str ls0)) (some (.r 5)) (some (.r 7))⟩,
     ⟨some 2, none, .mv (.r 8)⟩])
   .ret)
   .skip))
  (.seq (.reg 0 [⟨some 9, none, .mv (.r 0)⟩,
    ⟨some 10, none, .bin .mul (.r 9) (.c (.int .i64 2))⟩,
    ⟨some 11, none, .mv (.r 0)⟩,
    ⟨some 12, none, .bin .mul (.r 11) (.c (.int .i64 2))⟩,
    ⟨some 13, none, .bin .add (.r 12) (.c (.int .i64 2))⟩,
    ⟨some 14, none, .sls (.c (.str ls1)) (some (.r 10)) (some (.r 13))⟩,
    ⟨some 2, none, .mv (.r 14)⟩])
  .ret)))
theorem sl21 : Tryd.f21.body.bind (slC Tryd.prog ann 21) = some S21 := by kernel_rfl
/- internal/strconv.numDigits -/
def S22 : SC := (.seq (.reg 0 [⟨some 2, none, .mv (.c (.int .i64 0))⟩])
  (.seq (.reg 0 [⟨some 4, none, .mv (.r 0)⟩,
    ⟨some 5, none, .call (.c (.fn 26 [] [])) [(.r 4)]⟩,
    ⟨some 6, none, .call (.c (.fn 25 [] [])) [(.r 5)]⟩,
    ⟨some 3, none, .mv (.r 6)⟩])
  (.seq (.reg 0 [⟨some 7, none, .mv (.r 3)⟩,
    ⟨some 8, none, .mv (.r 0)⟩,
    ⟨some 9, none, .mv (.r 3)⟩,
    ⟨some 10, none, .ia (.c (.tptr (gl 0) 0)) (.r 9) (some 20) 1⟩,
    ⟨some 11, none, .ld (.r 10) none⟩,
    ⟨some 12, none, .bin .geq (.r 8) (.r 11)⟩,
    ⟨some 13, none, .call (.c (.fn 27 [] [])) [(.r 12)]⟩,
    ⟨some 14, none, .bin .add (.r 7) (.r 13)⟩,
    ⟨some 2, none, .mv (.r 14)⟩])
  .ret)))
theorem sl22 : Tryd.f22.body.bind (slC Tryd.prog ann 22) = some S22 := by kernel_rfl
/- internal/strconv.formatBase10 -/
def S23 : SC := (.seq (.reg 0 [⟨some 17, none, .mv (.r 0)⟩,
    ⟨some 18, none, .len (.r 17) none⟩,
    ⟨some 4, none, .mv (.r 18)⟩])
  (.seq (.block 0 (.loop (.seq (.seq (.reg 0 [⟨some 19, none, .mv (.r 4)⟩,
      ⟨some 20, none, .bin .geq (.r 19) (.c (.int .i64 8))⟩])
    (.cond (.r 20)
     .skip
     (.exit 0)))
    (.block 1 (.seq (.reg 0 [⟨some 21, none, .mv (.r 1)⟩,
       ⟨some 22, none, .bin .rem (.r 21) (.c (.int .u64 100000000))⟩,
       ⟨some 23, none, .cv .u32 (.r 22)⟩,
       ⟨some 5, none, .mv (.r 23)⟩])
     (.seq (.reg 0 [⟨some 24, none, .mv (.r 1)⟩,
       ⟨some 25, none, .bin .quo (.r 24) (.c (.int .u64 100000000))⟩,
       ⟨some 1, none, .mv (.r 25)⟩])
     (.seq (.reg 0 [⟨some 26, none, .mv (.r 5)⟩,
       ⟨some 27, none, .bin .quo (.r 26) (.c (.int .u32 10000))⟩,
       ⟨some 28, none, .mv (.r 5)⟩,
       ⟨some 29, none, .bin .rem (.r 28) (.c (.int .u32 10000))⟩,
       ⟨some 6, none, .mv (.r 27)⟩,
       ⟨some 7, none, .mv (.r 29)⟩])
     (.seq (.reg 0 [⟨some 30, none, .mv (.r 7)⟩,
       ⟨some 31, none, .bin .quo (.r 30) (.c (.int .u32 100))⟩,
       ⟨some 32, none, .bin .mul (.r 31) (.c (.int .u32 2))⟩,
       ⟨some 33, none, .mv (.r 7)⟩,
       ⟨some 34, none, .bin .rem (.r 33) (.c (.int .u32 100))⟩,
       ⟨some 35, none, .bin .mul (.r 34) (.c (.int .u32 2))⟩,
       ⟨some 8, none, .mv (.r 32)⟩,
       ⟨some 9, none, .mv (.r 35)⟩])
     (.seq (.reg 0 [⟨some 36, none, .mv (.r 6)⟩,
       ⟨some 37, none, .bin .quo (.r 36) (.c (.int .u32 100))⟩,
       ⟨some 38, none, .bin .mul (.r 37) (.c (.int .u32 2))⟩,
       ⟨some 39, none, .mv (.r 6)⟩,
       ⟨some 40, none, .bin .rem (.r 39) (.c (.int .u32 100))⟩,
       ⟨some 41, none, .bin .mul (.r 40) (.c (.int .u32 2))⟩,
       ⟨some 10, none, .mv (.r 38)⟩,
       ⟨some 11, none, .mv (.r 41)⟩])
     (.seq (.reg 0 [⟨some 42, none, .mv (.r 0)⟩,
       ⟨some 43, none, .mv (.r 4)⟩,
       ⟨some 44, none, .bin .sub (.r 43) (.c (.int .i64 1))⟩,
       ⟨some 45, none, .mv (.r 0)⟩,
       ⟨some 46, none, .mv (.r 4)⟩,
       ⟨some 47, none, .bin .sub (.r 46) (.c (.int .i64 2))⟩,
       ⟨some 48, none, .mv (.r 9)⟩,
       ⟨some 49, none, .bin .add (.r 48) (.c (.int .u32 1))⟩,
       ⟨some 50, none, .ixs (.c (.str ls1)) (.r 49)⟩,
       ⟨some 51, none, .mv (.r 9)⟩,
       ⟨some 52, none, .ixs (.c (.str ls1)) (.r 51)⟩,
       ⟨some 53, none, .ia (.r 42) (.r 44) none 1⟩,
       ⟨none, none, .st (.r 53) (.r 50) 1⟩,
       ⟨some 54, none, .ia (.r 45) (.r 47) none 1⟩,
       ⟨none, none, .st (.r 54) (.r 52) 1⟩])
     (.seq (.reg 0 [⟨some 55, none, .mv (.r 0)⟩,
       ⟨some 56, none, .mv (.r 4)⟩,
       ⟨some 57, none, .bin .sub (.r 56) (.c (.int .i64 3))⟩,
       ⟨some 58, none, .mv (.r 0)⟩,
       ⟨some 59, none, .mv (.r 4)⟩,
       ⟨some 60, none, .bin .sub (.r 59) (.c (.int .i64 4))⟩,
       ⟨some 61, none, .mv (.r 8)⟩,
       ⟨some 62, none, .bin .add (.r 61) (.c (.int .u32 1))⟩,
       ⟨some 63, none, .ixs (.c (.str ls1)) (.r 62)⟩,
       ⟨some 64, none, .mv (.r 8)⟩,
       ⟨some 65, none, .ixs (.c (.str ls1)) (.r 64)⟩,
       ⟨some 66, none, .ia (.r 55) (.r 57) none 1⟩,
       ⟨none, none, .st (.r 66) (.r 63) 1⟩,
       ⟨some 67, none, .ia (.r 58) (.r 60) none 1⟩,
       ⟨none, none, .st (.r 67) (.r 65) 1⟩])
     (.seq (.reg 0 [⟨some 68, none, .mv (.r 0)⟩,
       ⟨some 69, none, .mv (.r 4)⟩,
       ⟨some 70, none, .bin .sub (.r 69) (.c (.int .i64 5))⟩,
       ⟨some 71, none, .mv (.r 0)⟩,
       ⟨some 72, none, .mv (.r 4)⟩,
       ⟨some 73, none, .bin .sub (.r 72) (.c (.int .i64 6))⟩,
       ⟨some 74, none, .mv (.r 11)⟩,
       ⟨some 75, none, .bin .add (.r 74) (.c (.int .u32 1))⟩,
       ⟨some 76, none, .ixs (.c (.str ls1)) (.r 75)⟩,
       ⟨some 77, none, .mv (.r 11)⟩,
       ⟨some 78, none, .ixs (.c (.str ls1)) (.r 77)⟩,
       ⟨some 79, none, .ia (.r 68) (.r 70) none 1⟩,
       ⟨none, none, .st (.r 79) (.r 76) 1⟩,
       ⟨some 80, none, .ia (.r 71) (.r 73) none 1⟩,
       ⟨none, none, .st (.r 80) (.r 78) 1⟩])
     (.seq (.reg 0 [⟨some 81, none, .mv (.r 0)⟩,
       ⟨some 82, none, .mv (.r 4)⟩,
       ⟨some 83, none, .bin .sub (.r 82) (.c (.int .i64 7))⟩,
       ⟨some 84, none, .mv (.r 0)⟩,
       ⟨some 85, none, .mv (.r 4)⟩,
       ⟨some 86, none, .bin .sub (.r 85) (.c (.int .i64 8))⟩,
       ⟨some 87, none, .mv (.r 10)⟩,
       ⟨some 88, none, .bin .add (.r 87) (.c (.int .u32 1))⟩,
       ⟨some 89, none, .ixs (.c (.str ls1)) (.r 88)⟩,
       ⟨some 90, none, .mv (.r 10)⟩,
       ⟨some 91, none, .ixs (.c (.str ls1)) (.r 90)⟩,
       ⟨some 92, none, .ia (.r 81) (.r 83) none 1⟩,
       ⟨none, none, .st (.r 92) (.r 89) 1⟩,
       ⟨some 93, none, .ia (.r 84) (.r 86) none 1⟩,
       ⟨none, none, .st (.r 93) (.r 91) 1⟩])
     (.reg 0 [⟨some 94, none, .mv (.r 4)⟩,
       ⟨some 95, none, .bin .sub (.r 94) (.c (.int .i64 8))⟩,
       ⟨some 4, none, .mv (.r 95)⟩]))))))))))))))
  (.seq (.reg 0 [⟨some 96, none, .mv (.r 1)⟩,
    ⟨some 97, none, .cv .u32 (.r 96)⟩,
    ⟨some 12, none, .mv (.r 97)⟩])
  (.seq (.seq (.reg 0 [⟨some 98, none, .mv (.r 4)⟩,
    ⟨some 99, none, .bin .geq (.r 98) (.c (.int .i64 4))⟩])
  (.cond (.r 99)
   (.seq (.reg 0 [⟨some 100, none, .mv (.r 12)⟩,
     ⟨some 101, none, .bin .rem (.r 100) (.c (.int .u32 10000))⟩,
     ⟨some 13, none, .mv (.r 101)⟩])
   (.seq (.reg 0 [⟨some 102, none, .mv (.r 12)⟩,
     ⟨some 103, none, .bin .quo (.r 102) (.c (.int .u32 10000))⟩,
     ⟨some 12, none, .mv (.r 103)⟩])
   (.seq (.reg 0 [⟨some 104, none, .mv (.r 13)⟩,
     ⟨some 105, none, .bin .quo (.r 104) (.c (.int .u32 100))⟩,
     ⟨some 106, none, .bin .mul (.r 105) (.c (.int .u32 2))⟩,
     ⟨some 107, none, .mv (.r 13)⟩,
     ⟨some 108, none, .bin .rem (.r 107) (.c (.int .u32 100))⟩,
     ⟨some 109, none, .bin .mul (.r 108) (.c (.int .u32 2))⟩,
     ⟨some 14, none, .mv (.r 106)⟩,
     ⟨some 15, none, .mv (.r 109)⟩])
   (.seq (.reg 0 [⟨some 110, none, .mv (.r 0)⟩,
     ⟨some 111, none, .mv (.r 4)⟩,
     ⟨some 112, none, .bin .sub (.r 111) (.c (.int .i64 1))⟩,
     ⟨some 113, none, .mv (.r 0)⟩,
     ⟨some 114, none, .mv (.r 4)⟩,
     ⟨some 115, none, .bin .sub (.r 114) (.c (.int .i64 2))⟩,
     ⟨some 116, none, .mv (.r 15)⟩,
     ⟨some 117, none, .bin .add (.r 116) (.c (.int .u32 1))⟩,
     ⟨some 118, none, .ixs (.c (.str ls1)) (.r 117)⟩,
     ⟨some 119, none, .mv (.r 15)⟩,
     ⟨some 120, none, .ixs (.c (.str ls1)) (.r 119)⟩,
     ⟨some 121, none, .ia (.r 110) (.r 112) none 1⟩,
     ⟨none, none, .st (.r 121) (.r 118) 1⟩,
     ⟨some 122, none, .ia (.r 113) (.r 115) none 1⟩,
     ⟨none, none, .st (.r 122) (.r 120) 1⟩])
   (.seq (.reg 0 [⟨some 123, none, .mv (.r 0)⟩,
     ⟨some 124, none, .mv (.r 4)⟩,
     ⟨some 125, none, .bin .sub (.r 124) (.c (.int .i64 3))⟩,
     ⟨some 126, none, .mv (.r 0)⟩,
     ⟨some 127, none, .mv (.r 4)⟩,
     ⟨some 128, none, .bin .sub (.r 127) (.c (.int .i64 4))⟩,
     ⟨some 129, none, .mv (.r 14)⟩,
     ⟨some 130, none, .bin .add (.r 129) (.c (.int .u32 1))⟩,
     ⟨some 131, none, .ixs (.c (.str ls1)) (.r 130)⟩,
     ⟨some 132, none, .mv (.r 14)⟩,
     ⟨some 133, none, .ixs (.c (.str ls1)) (.r 132)⟩,
     ⟨some 134, none, .ia (.r 123) (.r 125) none 1⟩,
     ⟨none, none, .st (.r 134) (.r 131) 1⟩,
     ⟨some 135, none, .ia (.r 126) (.r 128) none 1⟩,
     ⟨none, none, .st (.r 135) (.r 133) 1⟩])
   (.reg 0 [⟨some 136, none, .mv (.r 4)⟩,
     ⟨some 137, none, .bin .sub (.r 136) (.c (.int .i64 4))⟩,
     ⟨some 4, none, .mv (.r 137)⟩]))))))
   .skip))
  (.seq (.seq (.reg 0 [⟨some 138, none, .mv (.r 4)⟩,
    ⟨some 139, none, .bin .geq (.r 138) (.c (.int .i64 2))⟩])
  (.cond (.r 139)
   (.seq (.reg 0 [⟨some 140, none, .mv (.r 12)⟩,
     ⟨some 141, none, .bin .rem (.r 140) (.c (.int .u32 100))⟩,
     ⟨some 142, none, .bin .mul (.r 141) (.c (.int .u32 2))⟩,
     ⟨some 16, none, .mv (.r 142)⟩])
   (.seq (.reg 0 [⟨some 143, none, .mv (.r 12)⟩,
     ⟨some 144, none, .bin .quo (.r 143) (.c (.int .u32 100))⟩,
     ⟨some 12, none, .mv (.r 144)⟩])
   (.seq (.reg 0 [⟨some 145, none, .mv (.r 0)⟩,
     ⟨some 146, none, .mv (.r 4)⟩,
     ⟨some 147, none, .bin .sub (.r 146) (.c (.int .i64 1))⟩,
     ⟨some 148, none, .mv (.r 0)⟩,
     ⟨some 149, none, .mv (.r 4)⟩,
     ⟨some 150, none, .bin .sub (.r 149) (.c (.int .i64 2))⟩,
     ⟨some 151, none, .mv (.r 16)⟩,
     ⟨some 152, none, .bin .add (.r 151) (.c (.int .u32 1))⟩,
     ⟨some 153, none, .ixs (.c (.str ls1)) (.r 152)⟩,
     ⟨some 154, none, .mv (.r 16)⟩,
     ⟨some 155, none, .ixs (.c (.str ls1)) (.r 154)⟩,
     ⟨some 156, none, .ia (.r 145) (.r 147) none 1⟩,
     ⟨none, none, .st (.r 156) (.r 153) 1⟩,
     ⟨some 157, none, .ia (.r 148) (.r 150) none 1⟩,
     ⟨none, none, .st (.r 157) (.r 155) 1⟩])
   (.reg 0 [⟨some 158, none, .mv (.r 4)⟩,
     ⟨some 159, none, .bin .sub (.r 158) (.c (.int .i64 2))⟩,
     ⟨some 4, none, .mv (.r 159)⟩]))))
   .skip))
  (.seq (.reg 0 [⟨some 160, none, .mv (.r 4)⟩,
    ⟨some 161, none, .bin .gtr (.r 160) (.c (.int .i64 0))⟩])
  (.cond (.r 161)
   (.reg 0 [⟨some 162, none, .mv (.r 0)⟩,
     ⟨some 163, none, .mv (.r 12)⟩,
     ⟨some 164, none, .bin .add (.c (.int .u32 48)) (.r 163)⟩,
     ⟨some 165, none, .cv .u8 (.r 164)⟩,
     ⟨some 166, none, .ia (.r 162) (.c (.int .i64 0)) none 1⟩,
     ⟨none, none, .st (.r 166) (.r 165) 1⟩])
   .skip)))))))
theorem sl23 : Tryd.f23.body.bind (slC Tryd.prog ann 23) = some S23 := by kernel_rfl
/- internal/strconv.formatBits -/
def S24 : SC := (.seq (.reg 0 [⟨some 10, none, .mv (.c (.nil .sl))⟩,
    ⟨some 11, none, .mv (.c (.str []))⟩])
  (.seq (.seq (.reg 0 [⟨some 19, none, .mv (.r 2)⟩,
    ⟨some 20, none, .bin .lss (.r 19) (.c (.int .i64 2))⟩,
    ⟨some 21, none, .mv (.r 20)⟩,
    ⟨some 22, some (21, false), .mv (.r 2)⟩,
    ⟨some 23, some (21, false), .bin .eql (.r 22) (.c (.int .i64 10))⟩,
    ⟨some 24, none, .pick (.r 21) (.c (.bool true)) (.r 23)⟩,
    ⟨some 25, none, .mv (.r 24)⟩,
    ⟨some 26, some (25, false), .mv (.r 2)⟩,
    ⟨some 27, some (25, false), .bin .gtr (.r 26) (.c (.int .i64 36))⟩,
    ⟨some 28, none, .pick (.r 25) (.c (.bool true)) (.r 27)⟩])
  (.cond (.r 28)
   (.reg 0 [⟨some 29, none, .raw⟩,
     ⟨none, none, .raw⟩])
   .skip))
  (.seq (.reg 0 [⟨some 12, none, .alc false [.int .u8 0, .int .u8 0, .int .u8 0, .int .u8 0, .int .u8 0, .int .u8 0, .int .u8 0, .int .u8 0, .int .u8 0, .int .u8 0, .int .u8 0, .int .u8 0, .int .u8 0, .int .u8 0, .int .u8 0, .int .u8 0, .int .u8 0, .int .u8 0, .int .u8 0, .int .u8 0, .int .u8 0, .int .u8 0, .int .u8 0, .int .u8 0, .int .u8 0, .int .u8 0, .int .u8 0, .int .u8 0, .int .u8 0, .int .u8 0, .int .u8 0, .int .u8 0, .int .u8 0, .int .u8 0, .int .u8 0, .int .u8 0, .int .u8 0, .int .u8 0, .int .u8 0, .int .u8 0, .int .u8 0, .int .u8 0, .int .u8 0, .int .u8 0, .int .u8 0, .int .u8 0, .int .u8 0, .int .u8 0, .int .u8 0, .int .u8 0, .int .u8 0, .int .u8 0, .int .u8 0, .int .u8 0, .int .u8 0, .int .u8 0, .int .u8 0, .int .u8 0, .int .u8 0, .int .u8 0, .int .u8 0, .int .u8 0, .int .u8 0, .int .u8 0, .int .u8 0]⟩])
  (.seq (.reg 0 [⟨some 13, none, .mv (.c (.int .i64 65))⟩])
  (.seq (.seq (.reg 0 [⟨some 30, none, .mv (.r 3)⟩])
  (.cond (.r 30)
   (.reg 0 [⟨some 31, none, .mv (.r 1)⟩,
     ⟨some 32, none, .un .neg (.r 31)⟩,
     ⟨some 1, none, .mv (.r 32)⟩])
   .skip))
  (.seq (.seq (.reg 0 [⟨some 33, none, .mv (.r 2)⟩,
    ⟨some 34, none, .call (.c (.fn 28 [] [])) [(.r 33)]⟩])
  (.cond (.r 34)
   (.seq (.reg 0 [⟨some 35, none, .mv (.r 2)⟩,
     ⟨some 36, none, .cv .u64 (.r 35)⟩,
     ⟨some 37, none, .call (.c (.fn 29 [] [])) [(.r 36)]⟩,
     ⟨some 38, none, .cv .u64 (.r 37)⟩,
     ⟨some 14, none, .mv (.r 38)⟩])
   (.seq (.reg 0 [⟨some 39, none, .mv (.r 2)⟩,
     ⟨some 40, none, .cv .u64 (.r 39)⟩,
     ⟨some 15, none, .mv (.r 40)⟩])
   (.seq (.reg 0 [⟨some 41, none, .mv (.r 2)⟩,
     ⟨some 42, none, .cv .u64 (.r 41)⟩,
     ⟨some 43, none, .bin .sub (.r 42) (.c (.int .u64 1))⟩,
     ⟨some 16, none, .mv (.r 43)⟩])
   (.seq (.block 0 (.loop (.seq (.seq (.reg 0 [⟨some 44, none, .mv (.r 1)⟩,
       ⟨some 45, none, .mv (.r 15)⟩,
       ⟨some 46, none, .bin .geq (.r 44) (.r 45)⟩])
     (.cond (.r 46)
      .skip
      (.exit 0)))
     (.block 1 (.seq (.reg 0 [⟨some 47, none, .mv (.r 13)⟩,
        ⟨some 48, none, .bin .sub (.r 47) (.c (.int .i64 1))⟩,
        ⟨some 13, none, .mv (.r 48)⟩])
      (.seq (.reg 0 [⟨some 49, none, .mv (.r 13)⟩,
        ⟨some 50, none, .mv (.r 1)⟩,
        ⟨some 51, none, .mv (.r 16)⟩,
        ⟨some 52, none, .bin .and (.r 50) (.r 51)⟩,
        ⟨some 53, none, .ixs (.c (.str ls0)) (.r 52)⟩,
        ⟨some 54, none, .ia (.r 12) (.r 49) (some 65) 1⟩,
        ⟨none, none, .st (.r 54) (.r 53) 1⟩])
      (.reg 0 [⟨some 55, none, .mv (.r 1)⟩,
        ⟨some 56, none, .mv (.r 14)⟩,
        ⟨some 57, none, .bin .shr (.r 55) (.r 56)⟩,
        ⟨some 1, none, .mv (.r 57)⟩])))))))
   (.seq (.reg 0 [⟨some 58, none, .mv (.r 13)⟩,
     ⟨some 59, none, .bin .sub (.r 58) (.c (.int .i64 1))⟩,
     ⟨some 13, none, .mv (.r 59)⟩])
   (.reg 0 [⟨some 60, none, .mv (.r 13)⟩,
     ⟨some 61, none, .mv (.r 1)⟩,
     ⟨some 62, none, .ixs (.c (.str ls0)) (.r 61)⟩,
     ⟨some 63, none, .ia (.r 12) (.r 60) (some 65) 1⟩,
     ⟨none, none, .st (.r 63) (.r 62) 1⟩]))))))
   (.seq (.reg 0 [⟨some 64, none, .mv (.r 2)⟩,
     ⟨some 65, none, .cv .u64 (.r 64)⟩,
     ⟨some 17, none, .mv (.r 65)⟩])
   (.seq (.block 2 (.loop (.seq (.seq (.reg 0 [⟨some 66, none, .mv (.r 1)⟩,
       ⟨some 67, none, .mv (.r 17)⟩,
       ⟨some 68, none, .bin .geq (.r 66) (.r 67)⟩])
     (.cond (.r 68)
      .skip
      (.exit 2)))
     (.block 3 (.seq (.reg 0 [⟨some 69, none, .mv (.r 13)⟩,
        ⟨some 70, none, .bin .sub (.r 69) (.c (.int .i64 1))⟩,
        ⟨some 13, none, .mv (.r 70)⟩])
      (.seq (.reg 0 [⟨some 71, none, .mv (.r 1)⟩,
        ⟨some 72, none, .mv (.r 17)⟩,
        ⟨some 73, none, .bin .quo (.r 71) (.r 72)⟩,
        ⟨some 18, none, .mv (.r 73)⟩])
      (.seq (.reg 0 [⟨some 74, none, .mv (.r 13)⟩,
        ⟨some 75, none, .mv (.r 1)⟩,
        ⟨some 76, none, .mv (.r 18)⟩,
        ⟨some 77, none, .mv (.r 17)⟩,
        ⟨some 78, none, .bin .mul (.r 76) (.r 77)⟩,
        ⟨some 79, none, .bin .sub (.r 75) (.r 78)⟩,
        ⟨some 80, none, .ixs (.c (.str ls0)) (.r 79)⟩,
        ⟨some 81, none, .ia (.r 12) (.r 74) (some 65) 1⟩,
        ⟨none, none, .st (.r 81) (.r 80) 1⟩])
      (.reg 0 [⟨some 82, none, .mv (.r 18)⟩,
        ⟨some 1, none, .mv (.r 82)⟩]))))))))
   (.seq (.reg 0 [⟨some 83, none, .mv (.r 13)⟩,
     ⟨some 84, none, .bin .sub (.r 83) (.c (.int .i64 1))⟩,
     ⟨some 13, none, .mv (.r 84)⟩])
   (.reg 0 [⟨some 85, none, .mv (.r 13)⟩,
     ⟨some 86, none, .mv (.r 1)⟩,
     ⟨some 87, none, .ixs (.c (.str ls0)) (.r 86)⟩,
     ⟨some 88, none, .ia (.r 12) (.r 85) (some 65) 1⟩,
     ⟨none, none, .st (.r 88) (.r 87) 1⟩]))))))
  (.seq (.seq (.reg 0 [⟨some 89, none, .mv (.r 3)⟩])
  (.cond (.r 89)
   (.seq (.reg 0 [⟨some 90, none, .mv (.r 13)⟩,
     ⟨some 91, none, .bin .sub (.r 90) (.c (.int .i64 1))⟩,
     ⟨some 13, none, .mv (.r 91)⟩])
   (.reg 0 [⟨some 92, none, .mv (.r 13)⟩,
     ⟨some 93, none, .ia (.r 12) (.r 92) (some 65) 1⟩,
     ⟨none, none, .st (.r 93) (.c (.int .u8 45)) 1⟩]))
   .skip))
  (.seq (.seq (.reg 0 [⟨some 94, none, .mv (.r 4)⟩])
  (.cond (.r 94)
   (.seq (.reg 0 [⟨some 95, none, .mv (.r 0)⟩,
     ⟨some 96, none, .mv (.r 13)⟩,
     ⟨some 97, none, .sla (.r 12) 65 (some (.r 96)) none 1⟩,
     ⟨some 98, none, .appT 1 1 (.r 95) (.r 97)⟩,
     ⟨some 10, none, .mv (.r 98)⟩])
   .ret)
   .skip))
  (.seq (.reg 0 [⟨some 99, none, .mv (.r 13)⟩,
    ⟨some 100, none, .sla (.r 12) 65 (some (.r 99)) none 1⟩,
    ⟨some 101, none, .b2s (.r 100)⟩,
    ⟨some 11, none, .mv (.r 101)⟩])
  .ret)))))))))
theorem sl24 : Tryd.f24.body.bind (slC Tryd.prog ann 24) = some S24 := by kernel_rfl
/- internal/strconv.log10Pow2 -/
def S25 : SC := (.seq (.reg 0 [⟨some 2, none, .mv (.c (.int .i64 0))⟩])
  (.seq (.reg 0 [⟨some 3, none, .mv (.r 0)⟩,
    ⟨some 4, none, .bin .mul (.r 3) (.c (.int .i64 78913))⟩,
    ⟨some 5, none, .bin .shr (.r 4) (.c (.int .u64 18))⟩,
    ⟨some 2, none, .mv (.r 5)⟩])
  .ret))
theorem sl25 : Tryd.f25.body.bind (slC Tryd.prog ann 25) = some S25 := by kernel_rfl
/- math/bits.Len64 -/
def S26 : SC := (.seq (.reg 0 [⟨some 2, none, .mv (.c (.int .i64 0))⟩])
  (.seq (.seq (.reg 0 [⟨some 3, none, .mv (.r 0)⟩,
    ⟨some 4, none, .bin .geq (.r 3) (.c (.int .u64 4294967296))⟩])
  (.cond (.r 4)
   (.seq (.reg 0 [⟨some 5, none, .mv (.r 0)⟩,
     ⟨some 6, none, .bin .shr (.r 5) (.c (.int .u64 32))⟩,
     ⟨some 0, none, .mv (.r 6)⟩])
   (.reg 0 [⟨some 2, none, .mv (.c (.int .i64 32))⟩]))
   .skip))
  (.seq (.seq (.reg 0 [⟨some 7, none, .mv (.r 0)⟩,
    ⟨some 8, none, .bin .geq (.r 7) (.c (.int .u64 65536))⟩])
  (.cond (.r 8)
   (.seq (.reg 0 [⟨some 9, none, .mv (.r 0)⟩,
     ⟨some 10, none, .bin .shr (.r 9) (.c (.int .u64 16))⟩,
     ⟨some 0, none, .mv (.r 10)⟩])
   (.reg 0 [⟨some 11, none, .mv (.r 2)⟩,
     ⟨some 12, none, .bin .add (.r 11) (.c (.int .i64 16))⟩,
     ⟨some 2, none, .mv (.r 12)⟩]))
   .skip))
  (.seq (.seq (.reg 0 [⟨some 13, none, .mv (.r 0)⟩,
    ⟨some 14, none, .bin .geq (.r 13) (.c (.int .u64 256))⟩])
  (.cond (.r 14)
   (.seq (.reg 0 [⟨some 15, none, .mv (.r 0)⟩,
     ⟨some 16, none, .bin .shr (.r 15) (.c (.int .u64 8))⟩,
     ⟨some 0, none, .mv (.r 16)⟩])
   (.reg 0 [⟨some 17, none, .mv (.r 2)⟩,
     ⟨some 18, none, .bin .add (.r 17) (.c (.int .i64 8))⟩,
     ⟨some 2, none, .mv (.r 18)⟩]))
   .skip))
  (.seq (.reg 0 [⟨some 19, none, .mv (.r 2)⟩,
    ⟨some 20, none, .mv (.r 0)⟩,
    ⟨some 21, none, .cv .u8 (.r 20)⟩,
    ⟨some 22, none, .ixs (.c (.str ls2)) (.r 21)⟩,
    ⟨some 23, none, .cv .i64 (.r 22)⟩,
    ⟨some 24, none, .bin .add (.r 19) (.r 23)⟩,
    ⟨some 2, none, .mv (.r 24)⟩])
  .ret)))))
theorem sl26 : Tryd.f26.body.bind (slC Tryd.prog ann 26) = some S26 := by kernel_rfl
/- internal/strconv.bool2[int] -/
def S27 : SC := (.seq (.reg 0 [⟨some 2, none, .mv (.c (.int .i64 0))⟩])
  (.seq (.seq (.reg 0 [⟨some 3, none, .mv (.r 0)⟩])
  (.cond (.r 3)
   (.seq (.reg 0 [⟨some 2, none, .mv (.c (.int .i64 1))⟩])
   .ret)
   .skip))
  (.seq (.reg 0 [⟨some 2, none, .mv (.c (.int .i64 0))⟩])
  .ret)))
theorem sl27 : Tryd.f27.body.bind (slC Tryd.prog ann 27) = some S27 := by kernel_rfl
/- internal/strconv.isPowerOfTwo -/
def S28 : SC := (.seq (.reg 0 [⟨some 2, none, .mv (.c (.bool false))⟩])
  (.seq (.reg 0 [⟨some 3, none, .mv (.r 0)⟩,
    ⟨some 4, none, .mv (.r 0)⟩,
    ⟨some 5, none, .bin .sub (.r 4) (.c (.int .i64 1))⟩,
    ⟨some 6, none, .bin .and (.r 3) (.r 5)⟩,
    ⟨some 7, none, .bin .eql (.r 6) (.c (.int .i64 0))⟩,
    ⟨some 2, none, .mv (.r 7)⟩])
  .ret))
theorem sl28 : Tryd.f28.body.bind (slC Tryd.prog ann 28) = some S28 := by kernel_rfl
/- math/bits.TrailingZeros -/
def S29 : SC := (.seq (.reg 0 [⟨some 2, none, .mv (.c (.int .i64 0))⟩])
  (.seq (.cond (.c (.bool false))
   (.seq (.reg 0 [⟨some 3, none, .mv (.r 0)⟩,
     ⟨some 4, none, .cv .u32 (.r 3)⟩,
     ⟨some 5, none, .call (.c (.fn 30 [] [])) [(.r 4)]⟩,
     ⟨some 2, none, .mv (.r 5)⟩])
   .ret)
   .skip)
  (.seq (.reg 0 [⟨some 6, none, .mv (.r 0)⟩,
    ⟨some 7, none, .call (.c (.fn 31 [] [])) [(.r 6)]⟩,
    ⟨some 2, none, .mv (.r 7)⟩])
  .ret)))
theorem sl29 : Tryd.f29.body.bind (slC Tryd.prog ann 29) = some S29 := by kernel_rfl
/- math/bits.TrailingZeros32 -/
def S30 : SC := (.seq (.reg 0 [⟨some 2, none, .mv (.c (.int .i64 0))⟩])
  (.seq (.seq (.reg 0 [⟨some 3, none, .mv (.r 0)⟩,
    ⟨some 4, none, .bin .eql (.r 3) (.c (.int .u32 0))⟩])
  (.cond (.r 4)
   (.seq (.reg 0 [⟨some 2, none, .mv (.c (.int .i64 32))⟩])
   .ret)
   .skip))
  (.seq (.reg 0 [⟨some 5, none, .mv (.r 0)⟩,
    ⟨some 6, none, .mv (.r 0)⟩,
    ⟨some 7, none, .un .neg (.r 6)⟩,
    ⟨some 8, none, .bin .and (.r 5) (.r 7)⟩,
    ⟨some 9, none, .bin .mul (.r 8) (.c (.int .u32 125613361))⟩,
    ⟨some 10, none, .bin .shr (.r 9) (.c (.int .u64 27))⟩,
    ⟨some 11, none, .ia (.c (.tptr (gl 1) 0)) (.r 10) (some 32) 1⟩,
    ⟨some 12, none, .ld (.r 11) none⟩,
    ⟨some 13, none, .cv .i64 (.r 12)⟩,
    ⟨some 2, none, .mv (.r 13)⟩])
  .ret)))
theorem sl30 : Tryd.f30.body.bind (slC Tryd.prog ann 30) = some S30 := by kernel_rfl
/- math/bits.TrailingZeros64 -/
def S31 : SC := (.seq (.reg 0 [⟨some 2, none, .mv (.c (.int .i64 0))⟩])
  (.seq (.seq (.reg 0 [⟨some 3, none, .mv (.r 0)⟩,
    ⟨some 4, none, .bin .eql (.r 3) (.c (.int .u64 0))⟩])
  (.cond (.r 4)
   (.seq (.reg 0 [⟨some 2, none, .mv (.c (.int .i64 64))⟩])
   .ret)
   .skip))
  (.seq (.reg 0 [⟨some 5, none, .mv (.r 0)⟩,
    ⟨some 6, none, .mv (.r 0)⟩,
    ⟨some 7, none, .un .neg (.r 6)⟩,
    ⟨some 8, none, .bin .and (.r 5) (.r 7)⟩,
    ⟨some 9, none, .bin .mul (.r 8) (.c (.int .u64 285870213051353865))⟩,
    ⟨some 10, none, .bin .shr (.r 9) (.c (.int .u64 58))⟩,
    ⟨some 11, none, .ia (.c (.tptr (gl 2) 0)) (.r 10) (some 64) 1⟩,
    ⟨some 12, none, .ld (.r 11) none⟩,
    ⟨some 13, none, .cv .i64 (.r 12)⟩,
    ⟨some 2, none, .mv (.r 13)⟩])
  .ret)))
theorem sl31 : Tryd.f31.body.bind (slC Tryd.prog ann 31) = some S31 := by kernel_rfl
end Go.Proofs.SlimCode
