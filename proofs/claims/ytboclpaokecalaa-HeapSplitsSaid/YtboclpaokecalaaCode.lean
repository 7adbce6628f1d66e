/- The code of the functions, resolved; and that it is theirs. -/
import Derived.Test.YtboclpaokecalaaAx3
import Derived.Test.YtboclpaokecalaaProg
namespace Go.Proofs.Ytboclpaokecalaa
open Go Go.Ax

def A3 : ACode :=
 (.seq (
  .reg [0] [
    ⟨(some 2), .val (.const (.bool false)), none⟩]) (
 (.seq (
  .reg [0] [
    ⟨(some 15), .val (.tmp 0), none⟩,
    ⟨(some 16), .val (.tmp 0), none⟩,
    ⟨(some 17), .len .sl (.tmp 16), none⟩,
    ⟨(some 18), .min (.tmp 17) (.const (.int .i64 200)), none⟩,
    ⟨(some 19), .slice 1 (.tmp 15) none (some (.tmp 18)) none, none⟩,
    ⟨(some 0), .val (.tmp 19), none⟩]) (
 (.seq (
  .reg [3, 0] [
    ⟨(some 20), .build [(.slice none 0 0), (.map none), (.int .i64 0)] [], none⟩,
    ⟨(some 21), .box (.tmp 20), none⟩,
    ⟨(some 3), .val (.tmp 21), none⟩]) (
 (.seq (
  (.seq (
   .reg [24, 3, 22, 0, 23] [
     ⟨(some 22), .val (.tmp 0), none⟩,
     ⟨(some 23), .len .sl (.tmp 22), none⟩,
     ⟨(some 24), .val (.const (.int .i64 0)), none⟩]) (
  (.block 0 (
   (.loop (
    (.seq (
     .reg [3, 22, 0, 23, 24, 25] [
       ⟨(some 25), .bin .lss (.tmp 24) (.tmp 23), none⟩]) (
    (.seq (
     (.cond (.tmp 25) (
      .skip) (
      .exit 0))) (
    (.seq (
     (.block 1 (
      (.seq (
       .reg [3, 22, 0, 23, 24, 4, 5] [
         ⟨(some 26), .val (.tmp 24), none⟩,
         ⟨(some 27), .idxSl 1 (.tmp 22) (.tmp 24), none⟩,
         ⟨(some 28), .load none (.tmp 27), none⟩,
         ⟨(some 4), .val (.tmp 26), none⟩,
         ⟨(some 5), .val (.tmp 28), none⟩]) (
      (.seq (
       .reg [3, 22, 0, 23, 24, 39] [
         ⟨(some 29), .val (.tmp 3), none⟩,
         ⟨(some 30), .val (.tmp 5), none⟩,
         ⟨(some 31), .val (.tmp 4), none⟩,
         ⟨(some 32), .call (.func 7) [(.tmp 29), (.tmp 30), (.tmp 31)], none⟩,
         ⟨(some 33), .un .not (.tmp 32), none⟩,
         ⟨(some 34), .val (.tmp 33), none⟩,
         ⟨(some 35), .val (.tmp 3), (some (34, false))⟩,
         ⟨(some 36), .val (.tmp 5), (some (34, false))⟩,
         ⟨(some 37), .val (.tmp 4), (some (34, false))⟩,
         ⟨(some 38), .call (.func 7) [(.tmp 35), (.tmp 36), (.tmp 37)], (some (34, false))⟩,
         ⟨(some 39), .pick (.tmp 34) (.const (.bool true)) (.tmp 38), none⟩]) (
      (.cond (.tmp 39) (
       (.seq (
        .reg [2] [
          ⟨(some 2), .val (.const (.bool false)), none⟩]) (
       .ret))) (
       .skip))))))))) (
    .reg [24, 3, 22, 0, 23] [
      ⟨(some 40), .bin .add (.tmp 24) (.const (.int .i64 1)), none⟩,
      ⟨(some 24), .val (.tmp 40), none⟩]))))))))))))) (
 (.seq (
  .reg [7, 6, 0, 3] [
    ⟨(some 6), .val (.const (.int .i64 0)), none⟩,
    ⟨(some 7), .val (.const (.int .i64 (-1))), none⟩]) (
 (.seq (
  (.seq (
   .reg [43, 7, 6, 0, 3, 42] [
     ⟨(some 41), .val (.tmp 0), none⟩,
     ⟨(some 42), .len .sl (.tmp 41), none⟩,
     ⟨(some 43), .val (.const (.int .i64 0)), none⟩]) (
  (.block 2 (
   (.loop (
    (.seq (
     .reg [0, 3, 42, 43, 7, 6, 44] [
       ⟨(some 44), .bin .lss (.tmp 43) (.tmp 42), none⟩]) (
    (.seq (
     (.cond (.tmp 44) (
      .skip) (
      .exit 2))) (
    (.seq (
     (.block 3 (
      (.seq (
       .reg [0, 3, 42, 43, 7, 6, 8] [
         ⟨(some 45), .val (.tmp 43), none⟩,
         ⟨(some 8), .val (.tmp 45), none⟩]) (
      (.seq (
       .reg [0, 3, 42, 43, 10, 9, 7, 6, 8, 11] [
         ⟨(some 47), .val (.tmp 3), none⟩,
         ⟨(some 48), .call (.func 8) [(.tmp 47)], none⟩,
         ⟨(some 46), .val (.tmp 48), none⟩,
         ⟨(some 49), .extr (.tmp 46) 0, none⟩,
         ⟨(some 50), .extr (.tmp 46) 1, none⟩,
         ⟨(some 51), .extr (.tmp 46) 2, none⟩,
         ⟨(some 9), .val (.tmp 49), none⟩,
         ⟨(some 10), .val (.tmp 50), none⟩,
         ⟨(some 11), .val (.tmp 51), none⟩]) (
      (.seq (
       (.seq (
        .reg [0, 3, 42, 43, 10, 9, 90] [
          ⟨(some 52), .val (.tmp 11), none⟩,
          ⟨(some 53), .un .not (.tmp 52), none⟩,
          ⟨(some 54), .val (.tmp 53), none⟩,
          ⟨(some 55), .val (.tmp 10), (some (54, false))⟩,
          ⟨(some 56), .bin .lss (.tmp 55) (.const (.int .i64 0)), (some (54, false))⟩,
          ⟨(some 57), .pick (.tmp 54) (.const (.bool true)) (.tmp 56), none⟩,
          ⟨(some 58), .val (.tmp 57), none⟩,
          ⟨(some 59), .val (.tmp 10), (some (58, false))⟩,
          ⟨(some 60), .val (.tmp 0), (some (58, false))⟩,
          ⟨(some 61), .len .sl (.tmp 60), (some (58, false))⟩,
          ⟨(some 62), .bin .geq (.tmp 59) (.tmp 61), (some (58, false))⟩,
          ⟨(some 63), .pick (.tmp 58) (.const (.bool true)) (.tmp 62), none⟩,
          ⟨(some 64), .val (.tmp 63), none⟩,
          ⟨(some 65), .val (.tmp 0), (some (64, false))⟩,
          ⟨(some 66), .val (.tmp 10), (some (64, false))⟩,
          ⟨(some 67), .idxSl 1 (.tmp 65) (.tmp 66), (some (64, false))⟩,
          ⟨(some 68), .load none (.tmp 67), (some (64, false))⟩,
          ⟨(some 69), .val (.tmp 9), (some (64, false))⟩,
          ⟨(some 70), .bin .neq (.tmp 68) (.tmp 69), (some (64, false))⟩,
          ⟨(some 71), .pick (.tmp 64) (.const (.bool true)) (.tmp 70), none⟩,
          ⟨(some 72), .val (.tmp 71), none⟩,
          ⟨(some 73), .val (.tmp 8), (some (72, false))⟩,
          ⟨(some 74), .bin .gtr (.tmp 73) (.const (.int .i64 0)), (some (72, false))⟩,
          ⟨(some 75), .val (.tmp 74), (some (72, false))⟩,
          ⟨(some 76), .val (.tmp 9), (some (75, true))⟩,
          ⟨(some 77), .val (.tmp 6), (some (75, true))⟩,
          ⟨(some 78), .bin .lss (.tmp 76) (.tmp 77), (some (75, true))⟩,
          ⟨(some 79), .val (.tmp 78), (some (75, true))⟩,
          ⟨(some 80), .val (.tmp 9), (some (79, false))⟩,
          ⟨(some 81), .val (.tmp 6), (some (79, false))⟩,
          ⟨(some 82), .bin .eql (.tmp 80) (.tmp 81), (some (79, false))⟩,
          ⟨(some 83), .val (.tmp 82), (some (79, false))⟩,
          ⟨(some 84), .val (.tmp 10), (some (83, true))⟩,
          ⟨(some 85), .val (.tmp 7), (some (83, true))⟩,
          ⟨(some 86), .bin .leq (.tmp 84) (.tmp 85), (some (83, true))⟩,
          ⟨(some 87), .pick (.tmp 83) (.tmp 86) (.const (.bool false)), (some (79, false))⟩,
          ⟨(some 88), .pick (.tmp 79) (.const (.bool true)) (.tmp 87), (some (75, true))⟩,
          ⟨(some 89), .pick (.tmp 75) (.tmp 88) (.const (.bool false)), (some (72, false))⟩,
          ⟨(some 90), .pick (.tmp 72) (.const (.bool true)) (.tmp 89), none⟩]) (
       (.cond (.tmp 90) (
        (.seq (
         .reg [2] [
           ⟨(some 2), .val (.const (.bool false)), none⟩]) (
        .ret))) (
        .skip))))) (
      .reg [7, 6, 0, 3, 42, 43] [
        ⟨(some 91), .val (.tmp 9), none⟩,
        ⟨(some 92), .val (.tmp 10), none⟩,
        ⟨(some 6), .val (.tmp 91), none⟩,
        ⟨(some 7), .val (.tmp 92), none⟩]))))))))) (
    .reg [43, 7, 6, 0, 3, 42] [
      ⟨(some 93), .bin .add (.tmp 43) (.const (.int .i64 1)), none⟩,
      ⟨(some 43), .val (.tmp 93), none⟩]))))))))))))) (
 (.seq (
  .reg [14] [
    ⟨(some 95), .val (.tmp 3), none⟩,
    ⟨(some 96), .call (.func 8) [(.tmp 95)], none⟩,
    ⟨(some 94), .val (.tmp 96), none⟩,
    ⟨(some 97), .extr (.tmp 94) 0, none⟩,
    ⟨(some 98), .extr (.tmp 94) 1, none⟩,
    ⟨(some 99), .extr (.tmp 94) 2, none⟩,
    ⟨(some 12), .val (.tmp 97), none⟩,
    ⟨(some 13), .val (.tmp 98), none⟩,
    ⟨(some 14), .val (.tmp 99), none⟩]) (
 (.seq (
  .reg [2] [
    ⟨(some 100), .val (.tmp 14), none⟩,
    ⟨(some 101), .un .not (.tmp 100), none⟩,
    ⟨(some 102), .val (.tmp 101), none⟩,
    ⟨(some 103), .call (.func 9) [], (some (102, true))⟩,
    ⟨(some 104), .pick (.tmp 102) (.tmp 103) (.const (.bool false)), none⟩,
    ⟨(some 2), .val (.tmp 104), none⟩]) (
 .ret))))))))))))))))
def H3 : Hint := (.two (.reg [0] []) (.two (.reg [0] []) (.two (.reg [3, 0] []) (.two (.two (.reg [24, 3, 22, 0, 23] []) (.one (.one (.two (.reg [3, 22, 0, 23, 24, 25] []) (.two (.two .leaf .leaf) (.two (.one (.two (.reg [3, 22, 0, 23, 24, 4, 5] []) (.two (.reg [3, 22, 0, 23, 24, 39] []) (.two (.two (.reg [2] []) .leaf) .leaf)))) (.reg [24, 3, 22, 0, 23] []))))))) (.two (.reg [7, 6, 0, 3] []) (.two (.two (.reg [43, 7, 6, 0, 3, 42] []) (.one (.one (.two (.reg [0, 3, 42, 43, 7, 6, 44] []) (.two (.two .leaf .leaf) (.two (.one (.two (.reg [0, 3, 42, 43, 7, 6, 8] []) (.two (.reg [0, 3, 42, 43, 10, 9, 7, 6, 8, 11] []) (.two (.two (.reg [0, 3, 42, 43, 10, 9, 90] []) (.two (.two (.reg [2] []) .leaf) .leaf)) (.reg [7, 6, 0, 3, 42, 43] []))))) (.reg [43, 7, 6, 0, 3, 42] []))))))) (.two (.reg [14] []) (.two (.reg [2] []) .leaf))))))))
def R3 : List ARes := [.tmp 2]
theorem code3 : cCode Try.prog 105 H3 (Try.f3.body.getD .skip) = some A3 := by kernel_rfl
theorem ok3 : FunOk Try.prog 3 ⟨R3, A3⟩ := ⟨Try.f3, _, H3, 105, Try.func3, by kernel_rfl, by kernel_rfl, code3, by decide, by kernel_rfl⟩
def A4 : ACode :=
 (.seq (
  .reg [2, 1, 0] [
    ⟨(some 6), .val (.const (.bool false)), none⟩]) (
 (.seq (
  .reg [0, 2, 1] [
    ⟨(some 14), .val (.tmp 0), none⟩,
    ⟨(some 15), .val (.tmp 0), none⟩,
    ⟨(some 16), .len .sl (.tmp 15), none⟩,
    ⟨(some 17), .min (.tmp 16) (.const (.int .i64 100)), none⟩,
    ⟨(some 18), .slice 1 (.tmp 14) none (some (.tmp 17)) none, none⟩,
    ⟨(some 0), .val (.tmp 18), none⟩]) (
 (.seq (
  .reg [8, 7, 0, 2, 1] [
    ⟨(some 19), .build [(.slice none 0 0), (.map none), (.int .i64 0)] [], none⟩,
    ⟨(some 20), .box (.tmp 19), none⟩,
    ⟨(some 21), .build [(.slice none 0 0), (.map none), (.int .i64 0)] [], none⟩,
    ⟨(some 22), .box (.tmp 21), none⟩,
    ⟨(some 7), .val (.tmp 20), none⟩,
    ⟨(some 8), .val (.tmp 22), none⟩]) (
 (.seq (
  (.seq (
   .reg [25, 8, 7, 23, 0, 2, 1, 24] [
     ⟨(some 23), .val (.tmp 0), none⟩,
     ⟨(some 24), .len .sl (.tmp 23), none⟩,
     ⟨(some 25), .val (.const (.int .i64 0)), none⟩]) (
  (.block 0 (
   (.loop (
    (.seq (
     .reg [8, 7, 23, 0, 2, 1, 24, 25, 26] [
       ⟨(some 26), .bin .lss (.tmp 25) (.tmp 24), none⟩]) (
    (.seq (
     (.cond (.tmp 26) (
      .skip) (
      .exit 0))) (
    (.seq (
     (.block 1 (
      (.seq (
       .reg [8, 7, 23, 0, 2, 1, 24, 25, 9, 10] [
         ⟨(some 27), .val (.tmp 25), none⟩,
         ⟨(some 28), .idxSl 1 (.tmp 23) (.tmp 25), none⟩,
         ⟨(some 29), .load none (.tmp 28), none⟩,
         ⟨(some 9), .val (.tmp 27), none⟩,
         ⟨(some 10), .val (.tmp 29), none⟩]) (
      (.seq (
       .reg [8, 7, 23, 0, 2, 1, 24, 25, 9, 10] [
         ⟨(some 30), .val (.tmp 7), none⟩,
         ⟨(some 31), .val (.tmp 10), none⟩,
         ⟨(some 32), .val (.tmp 9), none⟩,
         ⟨(some 33), .call (.func 7) [(.tmp 30), (.tmp 31), (.tmp 32)], none⟩]) (
      .reg [8, 7, 23, 0, 2, 1, 24, 25] [
        ⟨(some 34), .val (.tmp 8), none⟩,
        ⟨(some 35), .val (.tmp 10), none⟩,
        ⟨(some 36), .val (.tmp 9), none⟩,
        ⟨(some 37), .call (.func 7) [(.tmp 34), (.tmp 35), (.tmp 36)], none⟩]))))))) (
    .reg [25, 8, 7, 23, 0, 2, 1, 24] [
      ⟨(some 38), .bin .add (.tmp 25) (.const (.int .i64 1)), none⟩,
      ⟨(some 25), .val (.tmp 38), none⟩]))))))))))))) (
 (.seq (
  .reg [11, 0, 8, 7, 2, 1] [
    ⟨(some 39), .val (.tmp 7), none⟩,
    ⟨(some 40), .val (.tmp 1), none⟩,
    ⟨(some 41), .val (.tmp 2), none⟩,
    ⟨(some 42), .min (.tmp 40) (.tmp 41), none⟩,
    ⟨(some 43), .call (.func 10) [(.tmp 39), (.tmp 42)], none⟩,
    ⟨(some 44), .val (.tmp 7), none⟩,
    ⟨(some 45), .val (.tmp 1), none⟩,
    ⟨(some 46), .val (.tmp 2), none⟩,
    ⟨(some 47), .max (.tmp 45) (.tmp 46), none⟩,
    ⟨(some 48), .call (.func 10) [(.tmp 44), (.tmp 47)], none⟩,
    ⟨(some 49), .append 1 8 (.tmp 43) (.tmp 48), none⟩,
    ⟨(some 11), .val (.tmp 49), none⟩]) (
 (.seq (
  .reg [12, 11, 0, 8, 7] [
    ⟨(some 50), .val (.tmp 8), none⟩,
    ⟨(some 51), .val (.tmp 1), none⟩,
    ⟨(some 52), .val (.tmp 2), none⟩,
    ⟨(some 53), .max (.tmp 51) (.tmp 52), none⟩,
    ⟨(some 54), .call (.func 10) [(.tmp 50), (.tmp 53)], none⟩,
    ⟨(some 12), .val (.tmp 54), none⟩]) (
 (.seq (
  (.seq (
   .reg [12, 11, 76] [
     ⟨(some 55), .val (.tmp 11), none⟩,
     ⟨(some 56), .len .sl (.tmp 55), none⟩,
     ⟨(some 57), .val (.tmp 12), none⟩,
     ⟨(some 58), .len .sl (.tmp 57), none⟩,
     ⟨(some 59), .bin .neq (.tmp 56) (.tmp 58), none⟩,
     ⟨(some 60), .val (.tmp 59), none⟩,
     ⟨(some 61), .val (.tmp 7), (some (60, false))⟩,
     ⟨(some 62), .call (.func 11) [(.tmp 61)], (some (60, false))⟩,
     ⟨(some 63), .val (.tmp 8), (some (60, false))⟩,
     ⟨(some 64), .call (.func 11) [(.tmp 63)], (some (60, false))⟩,
     ⟨(some 65), .bin .neq (.tmp 62) (.tmp 64), (some (60, false))⟩,
     ⟨(some 66), .pick (.tmp 60) (.const (.bool true)) (.tmp 65), none⟩,
     ⟨(some 67), .val (.tmp 66), none⟩,
     ⟨(some 68), .val (.tmp 12), (some (67, false))⟩,
     ⟨(some 69), .len .sl (.tmp 68), (some (67, false))⟩,
     ⟨(some 70), .val (.tmp 8), (some (67, false))⟩,
     ⟨(some 71), .call (.func 11) [(.tmp 70)], (some (67, false))⟩,
     ⟨(some 72), .bin .add (.tmp 69) (.tmp 71), (some (67, false))⟩,
     ⟨(some 73), .val (.tmp 0), (some (67, false))⟩,
     ⟨(some 74), .len .sl (.tmp 73), (some (67, false))⟩,
     ⟨(some 75), .bin .neq (.tmp 72) (.tmp 74), (some (67, false))⟩,
     ⟨(some 76), .pick (.tmp 67) (.const (.bool true)) (.tmp 75), none⟩]) (
  (.cond (.tmp 76) (
   (.seq (
    .reg [6] [
      ⟨(some 6), .val (.const (.bool false)), none⟩]) (
   .ret))) (
   .skip))))) (
 (.seq (
  (.seq (
   .reg [79, 12, 11, 78] [
     ⟨(some 77), .val (.tmp 11), none⟩,
     ⟨(some 78), .len .sl (.tmp 77), none⟩,
     ⟨(some 79), .val (.const (.int .i64 0)), none⟩]) (
  (.block 2 (
   (.loop (
    (.seq (
     .reg [12, 11, 78, 79, 80] [
       ⟨(some 80), .bin .lss (.tmp 79) (.tmp 78), none⟩]) (
    (.seq (
     (.cond (.tmp 80) (
      .skip) (
      .exit 2))) (
    (.seq (
     (.block 3 (
      (.seq (
       .reg [12, 11, 78, 79, 13] [
         ⟨(some 81), .val (.tmp 79), none⟩,
         ⟨(some 13), .val (.tmp 81), none⟩]) (
      (.seq (
       .dreg [12, 11, 78, 79, 90] [
         (⟨(some 82), .val (.tmp 11), none⟩, []),
         (⟨(some 83), .val (.tmp 13), none⟩, []),
         (⟨(some 84), .idxSl 1 (.tmp 82) (.tmp 83), none⟩, []),
         (⟨(some 85), .load none (.tmp 84), none⟩, []),
         (⟨(some 86), .val (.tmp 12), none⟩, []),
         (⟨(some 87), .val (.tmp 13), none⟩, []),
         (⟨(some 88), .idxSl 1 (.tmp 86) (.tmp 87), none⟩, []),
         (⟨(some 89), .load none (.tmp 88), none⟩, [3]),
         (⟨(some 90), .bin .neq (.tmp 85) (.tmp 89), none⟩, [])]) (
      (.cond (.tmp 90) (
       (.seq (
        .reg [6] [
          ⟨(some 6), .val (.const (.bool false)), none⟩]) (
       .ret))) (
       .skip))))))))) (
    .reg [79, 12, 11, 78] [
      ⟨(some 91), .bin .add (.tmp 79) (.const (.int .i64 1)), none⟩,
      ⟨(some 79), .val (.tmp 91), none⟩]))))))))))))) (
 (.seq (
  .reg [6] [
    ⟨(some 92), .call (.func 9) [], none⟩,
    ⟨(some 6), .val (.tmp 92), none⟩]) (
 .ret))))))))))))))))))
def H4 : Hint := (.two (.reg [2, 1, 0] []) (.two (.reg [0, 2, 1] []) (.two (.reg [8, 7, 0, 2, 1] []) (.two (.two (.reg [25, 8, 7, 23, 0, 2, 1, 24] []) (.one (.one (.two (.reg [8, 7, 23, 0, 2, 1, 24, 25, 26] []) (.two (.two .leaf .leaf) (.two (.one (.two (.reg [8, 7, 23, 0, 2, 1, 24, 25, 9, 10] []) (.two (.reg [8, 7, 23, 0, 2, 1, 24, 25, 9, 10] []) (.reg [8, 7, 23, 0, 2, 1, 24, 25] [])))) (.reg [25, 8, 7, 23, 0, 2, 1, 24] []))))))) (.two (.reg [11, 0, 8, 7, 2, 1] []) (.two (.reg [12, 11, 0, 8, 7] []) (.two (.two (.reg [12, 11, 76] []) (.two (.two (.reg [6] []) .leaf) .leaf)) (.two (.two (.reg [79, 12, 11, 78] []) (.one (.one (.two (.reg [12, 11, 78, 79, 80] []) (.two (.two .leaf .leaf) (.two (.one (.two (.reg [12, 11, 78, 79, 13] []) (.two (.reg [12, 11, 78, 79, 90] [(0, [], []), (1, [], []), (2, [], [0, 1]), (3, [], [2, 0, 1]), (4, [], []), (5, [], []), (6, [], [4, 5]), (7, [3], [6, 4, 5]), (8, [], [3, 2, 0, 1, 7, 6, 4, 5])]) (.two (.two (.reg [6] []) .leaf) .leaf)))) (.reg [79, 12, 11, 78] []))))))) (.two (.reg [6] []) .leaf)))))))))
def R4 : List ARes := [.tmp 6]
theorem code4 : cCode Try.prog 93 H4 (Try.f4.body.getD .skip) = some A4 := by kernel_rfl
theorem ok4 : FunOk Try.prog 4 ⟨R4, A4⟩ := ⟨Try.f4, _, H4, 93, Try.func4, by kernel_rfl, by kernel_rfl, code4, by decide, by kernel_rfl⟩
def A5 : ACode :=
 (.seq (
  .reg [0] [
    ⟨(some 2), .val (.const (.bool false)), none⟩]) (
 (.seq (
  .reg [0] [
    ⟨(some 9), .val (.tmp 0), none⟩,
    ⟨(some 10), .val (.tmp 0), none⟩,
    ⟨(some 11), .len .sl (.tmp 10), none⟩,
    ⟨(some 12), .min (.tmp 11) (.const (.int .i64 80)), none⟩,
    ⟨(some 13), .slice 3 (.tmp 9) none (some (.tmp 12)) none, none⟩,
    ⟨(some 0), .val (.tmp 13), none⟩]) (
 (.seq (
  .reg [3, 0] [
    ⟨(some 14), .build [(.slice none 0 0), (.map none), (.int .i64 0)] [], none⟩,
    ⟨(some 15), .box (.tmp 14), none⟩,
    ⟨(some 3), .val (.tmp 15), none⟩]) (
 (.seq (
  .reg [3, 4, 0] [
    ⟨(some 4), .val (.const (.slice none 0 0)), none⟩]) (
 (.seq (
  (.seq (
   .reg [18, 3, 4, 16, 17] [
     ⟨(some 16), .val (.tmp 0), none⟩,
     ⟨(some 17), .len .sl (.tmp 16), none⟩,
     ⟨(some 18), .val (.const (.int .i64 0)), none⟩]) (
  (.block 0 (
   (.loop (
    (.seq (
     .reg [3, 16, 17, 18, 4, 19] [
       ⟨(some 19), .bin .lss (.tmp 18) (.tmp 17), none⟩]) (
    (.seq (
     (.cond (.tmp 19) (
      .skip) (
      .exit 0))) (
    (.seq (
     (.block 1 (
      (.seq (
       .reg [3, 16, 17, 18, 6, 4] [
         ⟨(some 20), .idxSl 3 (.tmp 16) (.tmp 18), none⟩,
         ⟨(some 21), .load (some 3) (.tmp 20), none⟩,
         ⟨(some 6), .new [(.int .u64 0), (.int .i64 0), (.int .i64 0)], none⟩,
         ⟨none, .store 3 (.tmp 6) (.tmp 21), none⟩]) (
      (.seq (
       .reg [3, 16, 17, 18, 7, 6, 8] [
         ⟨(some 23), .val (.tmp 3), none⟩,
         ⟨(some 24), .val (.tmp 4), none⟩,
         ⟨(some 25), .load (some 3) (.tmp 6), none⟩,
         ⟨(some 26), .call (.func 12) [(.tmp 23), (.tmp 24), (.tmp 25)], none⟩,
         ⟨(some 22), .val (.tmp 26), none⟩,
         ⟨(some 27), .extr (.tmp 22) 0, none⟩,
         ⟨(some 28), .extr (.tmp 22) 1, none⟩,
         ⟨(some 7), .val (.tmp 27), none⟩,
         ⟨(some 8), .val (.tmp 28), none⟩]) (
      (.seq (
       (.seq (
        .reg [3, 16, 17, 18, 7, 38] [
          ⟨(some 29), .val (.tmp 8), none⟩,
          ⟨(some 30), .un .not (.tmp 29), none⟩,
          ⟨(some 31), .val (.tmp 30), none⟩,
          ⟨(some 32), .val (.tmp 3), (some (31, false))⟩,
          ⟨(some 33), .val (.tmp 7), (some (31, false))⟩,
          ⟨(some 34), .fldA 2 (.tmp 6), (some (31, false))⟩,
          ⟨(some 35), .load none (.tmp 34), (some (31, false))⟩,
          ⟨(some 36), .call (.func 13) [(.tmp 32), (.tmp 33), (.tmp 35)], (some (31, false))⟩,
          ⟨(some 37), .un .not (.tmp 36), (some (31, false))⟩,
          ⟨(some 38), .pick (.tmp 31) (.const (.bool true)) (.tmp 37), none⟩]) (
       (.cond (.tmp 38) (
        (.seq (
         .reg [2] [
           ⟨(some 2), .val (.const (.bool false)), none⟩]) (
        .ret))) (
        .skip))))) (
      .reg [3, 4, 16, 17, 18] [
        ⟨(some 39), .val (.tmp 7), none⟩,
        ⟨(some 4), .val (.tmp 39), none⟩]))))))))) (
    .reg [18, 3, 4, 16, 17] [
      ⟨(some 40), .bin .add (.tmp 18) (.const (.int .i64 1)), none⟩,
      ⟨(some 18), .val (.tmp 40), none⟩]))))))))))))) (
 (.seq (
  .reg [2] [
    ⟨(some 41), .call (.func 9) [], none⟩,
    ⟨(some 2), .val (.tmp 41), none⟩]) (
 .ret))))))))))))
def H5 : Hint := (.two (.reg [0] []) (.two (.reg [0] []) (.two (.reg [3, 0] []) (.two (.reg [3, 4, 0] []) (.two (.two (.reg [18, 3, 4, 16, 17] []) (.one (.one (.two (.reg [3, 16, 17, 18, 4, 19] []) (.two (.two .leaf .leaf) (.two (.one (.two (.reg [3, 16, 17, 18, 6, 4] []) (.two (.reg [3, 16, 17, 18, 7, 6, 8] []) (.two (.two (.reg [3, 16, 17, 18, 7, 38] []) (.two (.two (.reg [2] []) .leaf) .leaf)) (.reg [3, 4, 16, 17, 18] []))))) (.reg [18, 3, 4, 16, 17] []))))))) (.two (.reg [2] []) .leaf))))))
def R5 : List ARes := [.tmp 2]
theorem code5 : cCode Try.prog 42 H5 (Try.f5.body.getD .skip) = some A5 := by kernel_rfl
theorem ok5 : FunOk Try.prog 5 ⟨R5, A5⟩ := ⟨Try.f5, _, H5, 42, Try.func5, by kernel_rfl, by kernel_rfl, code5, by decide, by kernel_rfl⟩
def A6 : ACode :=
 (.seq (
  .reg [0, 1] [
    ⟨(some 4), .val (.const (.bool false)), none⟩]) (
 (.seq (
  .reg [5, 0, 1] [
    ⟨(some 5), .val (.const (.pointer none)), none⟩]) (
 (.seq (
  .reg [5, 0, 1, 8] [
    ⟨(some 15), .val (.tmp 5), none⟩,
    ⟨(some 16), .call (.func 14) [(.tmp 15)], none⟩,
    ⟨(some 14), .val (.tmp 16), none⟩,
    ⟨(some 17), .extr (.tmp 14) 0, none⟩,
    ⟨(some 18), .extr (.tmp 14) 1, none⟩,
    ⟨(some 19), .extr (.tmp 14) 2, none⟩,
    ⟨(some 6), .val (.tmp 17), none⟩,
    ⟨(some 7), .val (.tmp 18), none⟩,
    ⟨(some 8), .val (.tmp 19), none⟩]) (
 (.seq (
  .reg [5, 0, 1, 11, 8] [
    ⟨(some 21), .val (.tmp 5), none⟩,
    ⟨(some 22), .call (.func 8) [(.tmp 21)], none⟩,
    ⟨(some 20), .val (.tmp 22), none⟩,
    ⟨(some 23), .extr (.tmp 20) 0, none⟩,
    ⟨(some 24), .extr (.tmp 20) 1, none⟩,
    ⟨(some 25), .extr (.tmp 20) 2, none⟩,
    ⟨(some 9), .val (.tmp 23), none⟩,
    ⟨(some 10), .val (.tmp 24), none⟩,
    ⟨(some 11), .val (.tmp 25), none⟩]) (
 (.seq (
  .reg [5, 0, 1, 13, 11, 8] [
    ⟨(some 27), .val (.tmp 5), none⟩,
    ⟨(some 28), .val (.tmp 1), none⟩,
    ⟨(some 29), .call (.func 15) [(.tmp 27), (.tmp 28)], none⟩,
    ⟨(some 26), .val (.tmp 29), none⟩,
    ⟨(some 30), .extr (.tmp 26) 0, none⟩,
    ⟨(some 31), .extr (.tmp 26) 1, none⟩,
    ⟨(some 12), .val (.tmp 30), none⟩,
    ⟨(some 13), .val (.tmp 31), none⟩]) (
 (.seq (
  .reg [4] [
    ⟨(some 32), .val (.tmp 5), none⟩,
    ⟨(some 33), .val (.tmp 0), none⟩,
    ⟨(some 34), .val (.tmp 1), none⟩,
    ⟨(some 35), .call (.func 7) [(.tmp 32), (.tmp 33), (.tmp 34)], none⟩,
    ⟨(some 36), .un .not (.tmp 35), none⟩,
    ⟨(some 37), .val (.tmp 36), none⟩,
    ⟨(some 38), .val (.tmp 8), (some (37, true))⟩,
    ⟨(some 39), .un .not (.tmp 38), (some (37, true))⟩,
    ⟨(some 40), .pick (.tmp 37) (.tmp 39) (.const (.bool false)), none⟩,
    ⟨(some 41), .val (.tmp 40), none⟩,
    ⟨(some 42), .val (.tmp 11), (some (41, true))⟩,
    ⟨(some 43), .un .not (.tmp 42), (some (41, true))⟩,
    ⟨(some 44), .pick (.tmp 41) (.tmp 43) (.const (.bool false)), none⟩,
    ⟨(some 45), .val (.tmp 44), none⟩,
    ⟨(some 46), .val (.tmp 13), (some (45, true))⟩,
    ⟨(some 47), .un .not (.tmp 46), (some (45, true))⟩,
    ⟨(some 48), .pick (.tmp 45) (.tmp 47) (.const (.bool false)), none⟩,
    ⟨(some 49), .val (.tmp 48), none⟩,
    ⟨(some 50), .val (.tmp 5), (some (49, true))⟩,
    ⟨(some 51), .val (.tmp 1), (some (49, true))⟩,
    ⟨(some 52), .call (.func 16) [(.tmp 50), (.tmp 51)], (some (49, true))⟩,
    ⟨(some 53), .un .not (.tmp 52), (some (49, true))⟩,
    ⟨(some 54), .pick (.tmp 49) (.tmp 53) (.const (.bool false)), none⟩,
    ⟨(some 55), .val (.tmp 54), none⟩,
    ⟨(some 56), .val (.tmp 5), (some (55, true))⟩,
    ⟨(some 57), .call (.func 11) [(.tmp 56)], (some (55, true))⟩,
    ⟨(some 58), .val (.tmp 5), (some (55, true))⟩,
    ⟨(some 59), .val (.tmp 0), (some (55, true))⟩,
    ⟨(some 60), .call (.func 10) [(.tmp 58), (.tmp 59)], (some (55, true))⟩,
    ⟨(some 61), .len .sl (.tmp 60), (some (55, true))⟩,
    ⟨(some 62), .bin .add (.tmp 57) (.tmp 61), (some (55, true))⟩,
    ⟨(some 63), .val (.tmp 5), (some (55, true))⟩,
    ⟨(some 64), .call (.func 17) [(.tmp 63)], (some (55, true))⟩,
    ⟨(some 65), .len .sl (.tmp 64), (some (55, true))⟩,
    ⟨(some 66), .bin .add (.tmp 62) (.tmp 65), (some (55, true))⟩,
    ⟨(some 67), .bin .eql (.tmp 66) (.const (.int .i64 0)), (some (55, true))⟩,
    ⟨(some 68), .pick (.tmp 55) (.tmp 67) (.const (.bool false)), none⟩,
    ⟨(some 69), .val (.tmp 68), none⟩,
    ⟨(some 70), .call (.func 9) [], (some (69, true))⟩,
    ⟨(some 71), .pick (.tmp 69) (.tmp 70) (.const (.bool false)), none⟩,
    ⟨(some 4), .val (.tmp 71), none⟩]) (
 .ret))))))))))))
def H6 : Hint := (.two (.reg [0, 1] []) (.two (.reg [5, 0, 1] []) (.two (.reg [5, 0, 1, 8] []) (.two (.reg [5, 0, 1, 11, 8] []) (.two (.reg [5, 0, 1, 13, 11, 8] []) (.two (.reg [4] []) .leaf))))))
def R6 : List ARes := [.tmp 4]
theorem code6 : cCode Try.prog 72 H6 (Try.f6.body.getD .skip) = some A6 := by kernel_rfl
theorem ok6 : FunOk Try.prog 6 ⟨R6, A6⟩ := ⟨Try.f6, _, H6, 72, Try.func6, by kernel_rfl, by kernel_rfl, code6, by decide, by kernel_rfl⟩
def A7 : ACode :=
 (.seq (
  .reg [0, 2, 1] [
    ⟨(some 6), .val (.const (.bool false)), none⟩]) (
 (.seq (
  (.seq (
   .reg [0, 2, 1, 10] [
     ⟨(some 9), .val (.tmp 0), none⟩,
     ⟨(some 10), .eqNil .ptr false (.tmp 9) (.const (.pointer none)), none⟩]) (
  (.cond (.tmp 10) (
   (.seq (
    .reg [6] [
      ⟨(some 6), .val (.const (.bool false)), none⟩]) (
   .ret))) (
   .skip))))) (
 (.seq (
  (.seq (
   .reg [0, 2, 1, 8] [
     ⟨(some 12), .val (.tmp 0), none⟩,
     ⟨(some 13), .nilck (.tmp 12), none⟩,
     ⟨(some 14), .fldA 1 (.tmp 13), none⟩,
     ⟨(some 15), .load none (.tmp 14), none⟩,
     ⟨(some 16), .val (.tmp 2), none⟩,
     ⟨(some 17), .lookup .int (.int .i64 0) (.tmp 15) (.tmp 16) true, none⟩,
     ⟨(some 11), .val (.tmp 17), none⟩,
     ⟨(some 18), .extr (.tmp 11) 0, none⟩,
     ⟨(some 19), .extr (.tmp 11) 1, none⟩,
     ⟨(some 7), .val (.tmp 18), none⟩,
     ⟨(some 8), .val (.tmp 19), none⟩]) (
  (.seq (
   .reg [0, 2, 1, 20] [
     ⟨(some 20), .val (.tmp 8), none⟩]) (
  (.cond (.tmp 20) (
   (.seq (
    .reg [6] [
      ⟨(some 6), .val (.const (.bool false)), none⟩]) (
   .ret))) (
   .skip))))))) (
 (.seq (
  (.seq (
   .reg [0, 2, 1, 25] [
     ⟨(some 21), .val (.tmp 0), none⟩,
     ⟨(some 22), .nilck (.tmp 21), none⟩,
     ⟨(some 23), .fldA 1 (.tmp 22), none⟩,
     ⟨(some 24), .load none (.tmp 23), none⟩,
     ⟨(some 25), .eqNil .map false (.tmp 24) (.const (.map none)), none⟩]) (
  (.cond (.tmp 25) (
   .reg [0, 2, 1] [
     ⟨(some 26), .val (.tmp 0), none⟩,
     ⟨(some 27), .mkMap, none⟩,
     ⟨(some 28), .nilck (.tmp 26), none⟩,
     ⟨(some 29), .fldA 1 (.tmp 28), none⟩,
     ⟨none, .store 1 (.tmp 29) (.tmp 27), none⟩]) (
   .skip))))) (
 (.seq (
  .dreg [0] [
    (⟨(some 30), .val (.tmp 0), none⟩, []),
    (⟨(some 31), .val (.tmp 0), none⟩, []),
    (⟨(some 32), .nilck (.tmp 31), none⟩, []),
    (⟨(some 33), .fldA 0 (.tmp 32), none⟩, []),
    (⟨(some 34), .load none (.tmp 33), none⟩, []),
    (⟨(some 35), .val (.tmp 1), none⟩, []),
    (⟨(some 36), .val (.tmp 0), none⟩, []),
    (⟨(some 37), .nilck (.tmp 36), none⟩, []),
    (⟨(some 38), .fldA 2 (.tmp 37), none⟩, []),
    (⟨(some 39), .load none (.tmp 38), none⟩, [4]),
    (⟨(some 40), .val (.tmp 2), none⟩, []),
    (⟨(some 41), .build [(.int .i64 0), (.int .i64 0), (.int .i64 0)] [(0, 1, (.tmp 35)), (1, 1, (.tmp 39)), (2, 1, (.tmp 40))], none⟩, []),
    (⟨(some 42), .buildSl 1 [(.int .i64 0), (.int .i64 0), (.int .i64 0)] [(0, 3, (.tmp 41))], none⟩, [4]),
    (⟨(some 43), .append 3 24 (.tmp 34) (.tmp 42), none⟩, []),
    (⟨(some 44), .nilck (.tmp 30), none⟩, []),
    (⟨(some 45), .fldA 0 (.tmp 44), none⟩, []),
    (⟨none, .store 1 (.tmp 45) (.tmp 43), none⟩, [])]) (
 (.seq (
  .reg [0] [
    ⟨(some 46), .val (.tmp 0), none⟩,
    ⟨(some 47), .nilck (.tmp 46), none⟩,
    ⟨(some 48), .fldA 2 (.tmp 47), none⟩,
    ⟨(some 49), .load none (.tmp 48), none⟩,
    ⟨(some 50), .bin .add (.tmp 49) (.const (.int .i64 1)), none⟩,
    ⟨(some 51), .nilck (.tmp 46), none⟩,
    ⟨(some 52), .fldA 2 (.tmp 51), none⟩,
    ⟨none, .store 1 (.tmp 52) (.tmp 50), none⟩]) (
 (.seq (
  .reg [] [
    ⟨(some 53), .val (.tmp 0), none⟩,
    ⟨(some 54), .val (.tmp 0), none⟩,
    ⟨(some 55), .nilck (.tmp 54), none⟩,
    ⟨(some 56), .fldA 0 (.tmp 55), none⟩,
    ⟨(some 57), .load none (.tmp 56), none⟩,
    ⟨(some 58), .len .sl (.tmp 57), none⟩,
    ⟨(some 59), .bin .sub (.tmp 58) (.const (.int .i64 1)), none⟩,
    ⟨(some 60), .call (.func 18) [(.tmp 53), (.tmp 59)], none⟩]) (
 (.seq (
  .reg [6] [
    ⟨(some 6), .val (.const (.bool true)), none⟩]) (
 .ret))))))))))))))))
def H7 : Hint := (.two (.reg [0, 2, 1] []) (.two (.two (.reg [0, 2, 1, 10] []) (.two (.two (.reg [6] []) .leaf) .leaf)) (.two (.two (.reg [0, 2, 1, 8] []) (.two (.reg [0, 2, 1, 20] []) (.two (.two (.reg [6] []) .leaf) .leaf))) (.two (.two (.reg [0, 2, 1, 25] []) (.two (.reg [0, 2, 1] []) .leaf)) (.two (.reg [0] [(0, [], []), (1, [], []), (2, [], [1]), (3, [], [2, 1]), (4, [], [3, 2, 1]), (5, [], []), (6, [], []), (7, [], [6]), (8, [], [7, 6]), (9, [4], [8, 7, 6]), (10, [], []), (11, [], [5, 9, 8, 7, 6, 10]), (12, [4], [11, 5, 9, 8, 7, 6, 10]), (13, [], [4, 3, 2, 1, 12, 11, 5, 9, 8, 7, 6, 10]), (14, [], [0, 1, 2, 3, 4, 5, 6, 7, 8, 9, 10, 11, 12, 13]), (15, [], [14, 0, 1, 2, 3, 4, 5, 6, 7, 8, 9, 10, 11, 12, 13]), (16, [], [15, 14, 0, 1, 2, 3, 4, 5, 6, 7, 8, 9, 10, 11, 12, 13])]) (.two (.reg [0] []) (.two (.reg [] []) (.two (.reg [6] []) .leaf))))))))
def R7 : List ARes := [.tmp 6]
theorem code7 : cCode Try.prog 61 H7 (Try.f7.body.getD .skip) = some A7 := by kernel_rfl
theorem ok7 : FunOk Try.prog 7 ⟨R7, A7⟩ := ⟨Try.f7, _, H7, 61, Try.func7, by kernel_rfl, by kernel_rfl, code7, by decide, by kernel_rfl⟩
def A8 : ACode :=
 (.seq (
  .reg [3, 0] [
    ⟨(some 2), .val (.const (.int .i64 0)), none⟩,
    ⟨(some 3), .val (.const (.int .i64 0)), none⟩,
    ⟨(some 4), .val (.const (.bool false)), none⟩]) (
 (.seq (
  (.seq (
   .reg [3, 0, 8] [
     ⟨(some 6), .val (.tmp 0), none⟩,
     ⟨(some 7), .call (.func 11) [(.tmp 6)], none⟩,
     ⟨(some 8), .bin .eql (.tmp 7) (.const (.int .i64 0)), none⟩]) (
  (.cond (.tmp 8) (
   (.seq (
    .reg [2, 3, 4] [
      ⟨(some 9), .val (.tmp 3), none⟩,
      ⟨(some 2), .val (.const (.int .i64 0)), none⟩,
      ⟨(some 3), .val (.tmp 9), none⟩,
      ⟨(some 4), .val (.const (.bool false)), none⟩]) (
   .ret))) (
   .skip))))) (
 (.seq (
  .reg [5] [
    ⟨(some 10), .val (.tmp 0), none⟩,
    ⟨(some 11), .call (.func 19) [(.tmp 10), (.const (.int .i64 0))], none⟩,
    ⟨(some 5), .new [(.int .i64 0), (.int .i64 0), (.int .i64 0)], none⟩,
    ⟨none, .store 3 (.tmp 5) (.tmp 11), none⟩]) (
 (.seq (
  .dreg [2, 3, 4] [
    (⟨(some 12), .fldA 0 (.tmp 5), none⟩, []),
    (⟨(some 13), .load none (.tmp 12), none⟩, []),
    (⟨(some 14), .fldA 2 (.tmp 5), none⟩, []),
    (⟨(some 15), .load none (.tmp 14), none⟩, [1]),
    (⟨(some 2), .val (.tmp 13), none⟩, []),
    (⟨(some 3), .val (.tmp 15), none⟩, []),
    (⟨(some 4), .val (.const (.bool true)), none⟩, [])]) (
 .ret))))))))
def H8 : Hint := (.two (.reg [3, 0] []) (.two (.two (.reg [3, 0, 8] []) (.two (.two (.reg [2, 3, 4] []) .leaf) .leaf)) (.two (.reg [5] []) (.two (.reg [2, 3, 4] [(0, [], []), (1, [], [0]), (2, [], []), (3, [1], [2]), (4, [], [1, 0]), (5, [], [3, 2, 4, 1, 0]), (6, [], [5, 3, 2, 4, 1, 0])]) .leaf))))
def R8 : List ARes := [.tmp 2, .tmp 3, .tmp 4]
theorem code8 : cCode Try.prog 16 H8 (Try.f8.body.getD .skip) = some A8 := by kernel_rfl
theorem ok8 : FunOk Try.prog 8 ⟨R8, A8⟩ := ⟨Try.f8, _, H8, 16, Try.func8, by kernel_rfl, by kernel_rfl, code8, by decide, by kernel_rfl⟩
def A9 : ACode :=
 (.seq (
  .reg [] [
    ⟨(some 0), .val (.const (.bool false)), none⟩]) (
 (.seq (
  .reg [1] [
    ⟨(some 1), .new [(.slice none 0 0), (.map none), (.int .i64 0)], none⟩]) (
 (.seq (
  .reg [1] [
    ⟨(some 6), .call (.func 20) [(.tmp 1), (.const (.int .i64 5)), (.const (.string ⟨#[97]⟩))], none⟩]) (
 (.seq (
  .reg [1] [
    ⟨(some 7), .call (.func 20) [(.tmp 1), (.const (.int .i64 3)), (.const (.string ⟨#[98]⟩))], none⟩]) (
 (.seq (
  .reg [1] [
    ⟨(some 8), .call (.func 20) [(.tmp 1), (.const (.int .i64 5)), (.const (.string ⟨#[99]⟩))], none⟩]) (
 (.seq (
  .reg [1] [
    ⟨(some 9), .call (.func 20) [(.tmp 1), (.const (.int .i64 3)), (.const (.string ⟨#[100]⟩))], none⟩]) (
 (.seq (
  .reg [1, 2] [
    ⟨(some 10), .call (.func 21) [(.tmp 1), (.const (.int .i64 4))], none⟩,
    ⟨(some 2), .val (.tmp 10), none⟩]) (
 (.seq (
  .reg [1, 5, 4, 3, 2] [
    ⟨(some 12), .call (.func 22) [(.tmp 1)], none⟩,
    ⟨(some 11), .val (.tmp 12), none⟩,
    ⟨(some 13), .extr (.tmp 11) 0, none⟩,
    ⟨(some 14), .extr (.tmp 11) 1, none⟩,
    ⟨(some 15), .extr (.tmp 11) 2, none⟩,
    ⟨(some 3), .val (.tmp 13), none⟩,
    ⟨(some 4), .val (.tmp 14), none⟩,
    ⟨(some 5), .val (.tmp 15), none⟩]) (
 (.seq (
  .reg [0] [
    ⟨(some 16), .val (.tmp 2), none⟩,
    ⟨(some 17), .len .sl (.tmp 16), none⟩,
    ⟨(some 18), .bin .eql (.tmp 17) (.const (.int .i64 2)), none⟩,
    ⟨(some 19), .val (.tmp 18), none⟩,
    ⟨(some 20), .val (.tmp 2), (some (19, true))⟩,
    ⟨(some 21), .idxSl 1 (.tmp 20) (.const (.int .i64 0)), (some (19, true))⟩,
    ⟨(some 22), .load none (.tmp 21), (some (19, true))⟩,
    ⟨(some 23), .bin .eql (.tmp 22) (.const (.string ⟨#[98]⟩)), (some (19, true))⟩,
    ⟨(some 24), .pick (.tmp 19) (.tmp 23) (.const (.bool false)), none⟩,
    ⟨(some 25), .val (.tmp 24), none⟩,
    ⟨(some 26), .val (.tmp 2), (some (25, true))⟩,
    ⟨(some 27), .idxSl 1 (.tmp 26) (.const (.int .i64 1)), (some (25, true))⟩,
    ⟨(some 28), .load none (.tmp 27), (some (25, true))⟩,
    ⟨(some 29), .bin .eql (.tmp 28) (.const (.string ⟨#[100]⟩)), (some (25, true))⟩,
    ⟨(some 30), .pick (.tmp 25) (.tmp 29) (.const (.bool false)), none⟩,
    ⟨(some 31), .val (.tmp 30), none⟩,
    ⟨(some 32), .val (.tmp 3), (some (31, true))⟩,
    ⟨(some 33), .bin .eql (.tmp 32) (.const (.int .i64 5)), (some (31, true))⟩,
    ⟨(some 34), .pick (.tmp 31) (.tmp 33) (.const (.bool false)), none⟩,
    ⟨(some 35), .val (.tmp 34), none⟩,
    ⟨(some 36), .val (.tmp 4), (some (35, true))⟩,
    ⟨(some 37), .bin .eql (.tmp 36) (.const (.string ⟨#[97]⟩)), (some (35, true))⟩,
    ⟨(some 38), .pick (.tmp 35) (.tmp 37) (.const (.bool false)), none⟩,
    ⟨(some 39), .val (.tmp 38), none⟩,
    ⟨(some 40), .val (.tmp 5), (some (39, true))⟩,
    ⟨(some 41), .pick (.tmp 39) (.tmp 40) (.const (.bool false)), none⟩,
    ⟨(some 42), .val (.tmp 41), none⟩,
    ⟨(some 43), .call (.func 23) [(.tmp 1)], (some (42, true))⟩,
    ⟨(some 44), .bin .eql (.tmp 43) (.const (.int .i64 1)), (some (42, true))⟩,
    ⟨(some 45), .pick (.tmp 42) (.tmp 44) (.const (.bool false)), none⟩,
    ⟨(some 0), .val (.tmp 45), none⟩]) (
 .ret))))))))))))))))))
def H9 : Hint := (.two (.reg [] []) (.two (.reg [1] []) (.two (.reg [1] []) (.two (.reg [1] []) (.two (.reg [1] []) (.two (.reg [1] []) (.two (.reg [1, 2] []) (.two (.reg [1, 5, 4, 3, 2] []) (.two (.reg [0] []) .leaf)))))))))
def R9 : List ARes := [.tmp 0]
theorem code9 : cCode Try.prog 46 H9 (Try.f9.body.getD .skip) = some A9 := by kernel_rfl
theorem ok9 : FunOk Try.prog 9 ⟨R9, A9⟩ := ⟨Try.f9, _, H9, 46, Try.func9, by kernel_rfl, by kernel_rfl, code9, by decide, by kernel_rfl⟩
def A10 : ACode :=
 (.seq (
  .reg [4, 0, 1] [
    ⟨(some 4), .val (.const (.slice none 0 0)), none⟩]) (
 (.block 0 (
  (.loop (
   (.block 1 (
    (.seq (
     .reg [4, 0, 1, 5, 7] [
       ⟨(some 12), .val (.tmp 0), none⟩,
       ⟨(some 13), .call (.func 14) [(.tmp 12)], none⟩,
       ⟨(some 11), .val (.tmp 13), none⟩,
       ⟨(some 14), .extr (.tmp 11) 0, none⟩,
       ⟨(some 15), .extr (.tmp 11) 1, none⟩,
       ⟨(some 16), .extr (.tmp 11) 2, none⟩,
       ⟨(some 5), .val (.tmp 14), none⟩,
       ⟨(some 6), .val (.tmp 15), none⟩,
       ⟨(some 7), .val (.tmp 16), none⟩]) (
    (.seq (
     (.seq (
      .reg [4, 0, 1, 23] [
        ⟨(some 17), .val (.tmp 7), none⟩,
        ⟨(some 18), .un .not (.tmp 17), none⟩,
        ⟨(some 19), .val (.tmp 18), none⟩,
        ⟨(some 20), .val (.tmp 5), (some (19, false))⟩,
        ⟨(some 21), .val (.tmp 1), (some (19, false))⟩,
        ⟨(some 22), .bin .gtr (.tmp 20) (.tmp 21), (some (19, false))⟩,
        ⟨(some 23), .pick (.tmp 19) (.const (.bool true)) (.tmp 22), none⟩]) (
     (.cond (.tmp 23) (
      (.seq (
       .reg [4] [
         ⟨(some 24), .val (.tmp 4), none⟩,
         ⟨(some 4), .val (.tmp 24), none⟩]) (
      .ret))) (
      .skip))))) (
    (.seq (
     .reg [0, 1, 9, 4] [
       ⟨(some 26), .val (.tmp 0), none⟩,
       ⟨(some 27), .call (.func 8) [(.tmp 26)], none⟩,
       ⟨(some 25), .val (.tmp 27), none⟩,
       ⟨(some 28), .extr (.tmp 25) 0, none⟩,
       ⟨(some 29), .extr (.tmp 25) 1, none⟩,
       ⟨(some 30), .extr (.tmp 25) 2, none⟩,
       ⟨(some 8), .val (.tmp 28), none⟩,
       ⟨(some 9), .val (.tmp 29), none⟩,
       ⟨(some 10), .val (.tmp 30), none⟩]) (
    .reg [4, 0, 1] [
      ⟨(some 31), .val (.tmp 4), none⟩,
      ⟨(some 32), .val (.tmp 9), none⟩,
      ⟨(some 33), .buildSl 1 [(.int .i64 0)] [(0, 1, (.tmp 32))], none⟩,
      ⟨(some 34), .append 1 8 (.tmp 31) (.tmp 33), none⟩,
      ⟨(some 4), .val (.tmp 34), none⟩]))))))))))))))
def H10 : Hint := (.two (.reg [4, 0, 1] []) (.one (.one (.one (.two (.reg [4, 0, 1, 5, 7] []) (.two (.two (.reg [4, 0, 1, 23] []) (.two (.two (.reg [4] []) .leaf) .leaf)) (.two (.reg [0, 1, 9, 4] []) (.reg [4, 0, 1] []))))))))
def R10 : List ARes := [.tmp 4]
theorem code10 : cCode Try.prog 35 H10 (Try.f10.body.getD .skip) = some A10 := by kernel_rfl
theorem ok10 : FunOk Try.prog 10 ⟨R10, A10⟩ := ⟨Try.f10, _, H10, 35, Try.func10, by kernel_rfl, by kernel_rfl, code10, by decide, by kernel_rfl⟩
def A11 : ACode :=
 (.seq (
  .reg [0] [
    ⟨(some 2), .val (.const (.int .i64 0)), none⟩]) (
 (.seq (
  (.seq (
   .reg [0, 4] [
     ⟨(some 3), .val (.tmp 0), none⟩,
     ⟨(some 4), .eqNil .ptr false (.tmp 3) (.const (.pointer none)), none⟩]) (
  (.cond (.tmp 4) (
   (.seq (
    .reg [2] [
      ⟨(some 2), .val (.const (.int .i64 0)), none⟩]) (
   .ret))) (
   .skip))))) (
 (.seq (
  .reg [2] [
    ⟨(some 5), .val (.tmp 0), none⟩,
    ⟨(some 6), .nilck (.tmp 5), none⟩,
    ⟨(some 7), .fldA 0 (.tmp 6), none⟩,
    ⟨(some 8), .load none (.tmp 7), none⟩,
    ⟨(some 9), .len .sl (.tmp 8), none⟩,
    ⟨(some 2), .val (.tmp 9), none⟩]) (
 .ret))))))
def H11 : Hint := (.two (.reg [0] []) (.two (.two (.reg [0, 4] []) (.two (.two (.reg [2] []) .leaf) .leaf)) (.two (.reg [2] []) .leaf)))
def R11 : List ARes := [.tmp 2]
theorem code11 : cCode Try.prog 10 H11 (Try.f11.body.getD .skip) = some A11 := by kernel_rfl
theorem ok11 : FunOk Try.prog 11 ⟨R11, A11⟩ := ⟨Try.f11, _, H11, 10, Try.func11, by kernel_rfl, by kernel_rfl, code11, by decide, by kernel_rfl⟩
def A12 : ACode :=
 (.seq (
  .reg [1, 0, 5] [
    ⟨(some 5), .box (.tmp 2), none⟩,
    ⟨(some 6), .val (.const (.slice none 0 0)), none⟩,
    ⟨(some 7), .val (.const (.bool false)), none⟩]) (
 (.seq (
  .reg [1, 0, 8, 5] [
    ⟨(some 15), .val (.tmp 1), none⟩,
    ⟨(some 16), .fldA 2 (.tmp 5), none⟩,
    ⟨(some 17), .load none (.tmp 16), none⟩,
    ⟨(some 18), .call (.func 24) [(.tmp 15), (.tmp 17)], none⟩,
    ⟨(some 8), .val (.tmp 18), none⟩]) (
 (.seq (
  (.seq (
   .reg [1, 0, 8, 5, 21] [
     ⟨(some 19), .fldA 0 (.tmp 5), none⟩,
     ⟨(some 20), .load none (.tmp 19), none⟩,
     ⟨(some 21), .bin .rem (.tmp 20) (.const (.int .u64 7)), none⟩]) (
  (.block 0 (
   (.seq (
    .reg [1, 0, 8, 5, 21, 22] [
      ⟨(some 23), .bin .eql (.tmp 21) (.const (.int .u64 4)), none⟩,
      ⟨(some 22), .val (.tmp 23), none⟩]) (
   (.cond (.tmp 22) (
    (.seq (
     .reg [10, 9, 11, 1] [
       ⟨(some 25), .val (.tmp 0), none⟩,
       ⟨(some 26), .call (.func 8) [(.tmp 25)], none⟩,
       ⟨(some 24), .val (.tmp 26), none⟩,
       ⟨(some 27), .extr (.tmp 24) 0, none⟩,
       ⟨(some 28), .extr (.tmp 24) 1, none⟩,
       ⟨(some 29), .extr (.tmp 24) 2, none⟩,
       ⟨(some 9), .val (.tmp 27), none⟩,
       ⟨(some 10), .val (.tmp 28), none⟩,
       ⟨(some 11), .val (.tmp 29), none⟩]) (
    (.seq (
     (.seq (
      .reg [10, 9, 11, 1, 32] [
        ⟨(some 30), .val (.tmp 1), none⟩,
        ⟨(some 31), .len .sl (.tmp 30), none⟩,
        ⟨(some 32), .bin .eql (.tmp 31) (.const (.int .i64 0)), none⟩]) (
     (.cond (.tmp 32) (
      (.seq (
       .reg [6, 7] [
         ⟨(some 33), .val (.tmp 1), none⟩,
         ⟨(some 34), .val (.tmp 11), none⟩,
         ⟨(some 35), .un .not (.tmp 34), none⟩,
         ⟨(some 36), .val (.tmp 35), none⟩,
         ⟨(some 37), .val (.tmp 9), (some (36, true))⟩,
         ⟨(some 38), .bin .eql (.tmp 37) (.const (.int .i64 0)), (some (36, true))⟩,
         ⟨(some 39), .pick (.tmp 36) (.tmp 38) (.const (.bool false)), none⟩,
         ⟨(some 40), .val (.tmp 39), none⟩,
         ⟨(some 41), .val (.tmp 10), (some (40, true))⟩,
         ⟨(some 42), .bin .eql (.tmp 41) (.const (.int .i64 0)), (some (40, true))⟩,
         ⟨(some 43), .pick (.tmp 40) (.tmp 42) (.const (.bool false)), none⟩,
         ⟨(some 6), .val (.tmp 33), none⟩,
         ⟨(some 7), .val (.tmp 43), none⟩]) (
      .ret))) (
      .skip))))) (
    (.seq (
     .dreg [6, 7] [
       (⟨(some 44), .val (.tmp 1), none⟩, []),
       (⟨(some 45), .slice 2 (.tmp 44) (some (.const (.int .i64 1))) none none, none⟩, []),
       (⟨(some 46), .val (.tmp 11), none⟩, []),
       (⟨(some 47), .val (.tmp 46), none⟩, []),
       (⟨(some 48), .val (.tmp 9), (some (47, true))⟩, []),
       (⟨(some 49), .val (.tmp 1), (some (47, true))⟩, []),
       (⟨(some 50), .idxSl 2 (.tmp 49) (.const (.int .i64 0)), (some (47, true))⟩, []),
       (⟨(some 51), .fldA 0 (.tmp 50), (some (47, true))⟩, []),
       (⟨(some 52), .load none (.tmp 51), (some (47, true))⟩, []),
       (⟨(some 53), .bin .eql (.tmp 48) (.tmp 52), (some (47, true))⟩, []),
       (⟨(some 54), .pick (.tmp 47) (.tmp 53) (.const (.bool false)), none⟩, []),
       (⟨(some 55), .val (.tmp 54), none⟩, []),
       (⟨(some 56), .val (.tmp 10), (some (55, true))⟩, []),
       (⟨(some 57), .val (.tmp 1), (some (55, true))⟩, []),
       (⟨(some 58), .idxSl 2 (.tmp 57) (.const (.int .i64 0)), (some (55, true))⟩, []),
       (⟨(some 59), .fldA 1 (.tmp 58), (some (55, true))⟩, []),
       (⟨(some 60), .load none (.tmp 59), (some (55, true))⟩, []),
       (⟨(some 61), .bin .eql (.tmp 56) (.tmp 60), (some (55, true))⟩, []),
       (⟨(some 62), .pick (.tmp 55) (.tmp 61) (.const (.bool false)), none⟩, []),
       (⟨(some 6), .val (.tmp 45), none⟩, []),
       (⟨(some 7), .val (.tmp 62), none⟩, [])]) (
    .ret))))))) (
    (.seq (
     .reg [8, 1, 5, 0, 21, 63] [
       ⟨(some 64), .bin .eql (.tmp 21) (.const (.int .u64 5)), none⟩,
       ⟨(some 63), .val (.tmp 64), none⟩]) (
    (.cond (.tmp 63) (
     (.seq (
      .reg [8, 12, 1] [
        ⟨(some 65), .val (.tmp 0), none⟩,
        ⟨(some 66), .fldA 2 (.tmp 5), none⟩,
        ⟨(some 67), .load none (.tmp 66), none⟩,
        ⟨(some 68), .call (.func 16) [(.tmp 65), (.tmp 67)], none⟩,
        ⟨(some 12), .val (.tmp 68), none⟩]) (
     (.seq (
      (.seq (
       .reg [8, 12, 1, 70] [
         ⟨(some 69), .val (.tmp 8), none⟩,
         ⟨(some 70), .bin .geq (.tmp 69) (.const (.int .i64 0)), none⟩]) (
      (.cond (.tmp 70) (
       .reg [8, 12, 1] [
         ⟨(some 71), .val (.tmp 1), none⟩,
         ⟨(some 72), .val (.tmp 8), none⟩,
         ⟨(some 73), .call (.func 25) [(.tmp 71), (.tmp 72)], none⟩,
         ⟨(some 1), .val (.tmp 73), none⟩]) (
       .skip))))) (
     (.seq (
      .reg [6, 7] [
        ⟨(some 74), .val (.tmp 1), none⟩,
        ⟨(some 75), .val (.tmp 12), none⟩,
        ⟨(some 76), .val (.tmp 8), none⟩,
        ⟨(some 77), .bin .geq (.tmp 76) (.const (.int .i64 0)), none⟩,
        ⟨(some 78), .eqB false (.tmp 75) (.tmp 77), none⟩,
        ⟨(some 6), .val (.tmp 74), none⟩,
        ⟨(some 7), .val (.tmp 78), none⟩]) (
     .ret))))))) (
     (.seq (
      .reg [1, 5, 0, 8, 79] [
        ⟨(some 80), .bin .eql (.tmp 21) (.const (.int .u64 6)), none⟩,
        ⟨(some 79), .val (.tmp 80), none⟩]) (
     (.cond (.tmp 79) (
      (.seq (
       .reg [13, 1, 5, 0] [
         ⟨(some 13), .val (.const (.int .i64 0)), none⟩]) (
      (.seq (
       (.block 1 (
        (.loop (
         (.seq (
          (.seq (
           .dreg [1, 5, 0, 13, 94] [
             (⟨(some 81), .val (.tmp 13), none⟩, []),
             (⟨(some 82), .val (.tmp 1), none⟩, []),
             (⟨(some 83), .len .sl (.tmp 82), none⟩, []),
             (⟨(some 84), .bin .lss (.tmp 81) (.tmp 83), none⟩, []),
             (⟨(some 85), .val (.tmp 84), none⟩, []),
             (⟨(some 86), .val (.tmp 1), (some (85, true))⟩, []),
             (⟨(some 87), .val (.tmp 13), (some (85, true))⟩, []),
             (⟨(some 88), .idxSl 2 (.tmp 86) (.tmp 87), (some (85, true))⟩, []),
             (⟨(some 89), .fldA 0 (.tmp 88), (some (85, true))⟩, []),
             (⟨(some 90), .load none (.tmp 89), (some (85, true))⟩, []),
             (⟨(some 91), .fldA 1 (.tmp 5), (some (85, true))⟩, []),
             (⟨(some 92), .load none (.tmp 91), (some (85, true))⟩, [9]),
             (⟨(some 93), .bin .leq (.tmp 90) (.tmp 92), (some (85, true))⟩, []),
             (⟨(some 94), .pick (.tmp 85) (.tmp 93) (.const (.bool false)), none⟩, [])]) (
          (.cond (.tmp 94) (
           .skip) (
           .exit 1))))) (
         (.block 2 (
          .reg [13, 1, 5, 0] [
            ⟨(some 95), .val (.tmp 13), none⟩,
            ⟨(some 96), .bin .add (.tmp 95) (.const (.int .i64 1)), none⟩,
            ⟨(some 13), .val (.tmp 96), none⟩]))))))))) (
      (.seq (
       .dreg [6, 7] [
         (⟨(some 97), .val (.tmp 1), none⟩, []),
         (⟨(some 98), .val (.tmp 13), none⟩, []),
         (⟨(some 99), .slice 2 (.tmp 97) (some (.tmp 98)) none none, none⟩, []),
         (⟨(some 100), .val (.tmp 0), none⟩, []),
         (⟨(some 101), .fldA 1 (.tmp 5), none⟩, []),
         (⟨(some 102), .load none (.tmp 101), none⟩, []),
         (⟨(some 104), .val (.tmp 1), none⟩, []),
         (⟨(some 105), .val (.tmp 13), none⟩, []),
         (⟨(some 103), .call (.func 10) [(.tmp 100), (.tmp 102)], none⟩, []),
         (⟨(some 106), .call (.func 26) [(.tmp 103), (.tmp 104), (.tmp 105)], none⟩, []),
         (⟨(some 6), .val (.tmp 99), none⟩, []),
         (⟨(some 7), .val (.tmp 106), none⟩, [])]) (
      .ret))))))) (
      .skip))))))))))))))))) (
 (.seq (
  .reg [8, 14, 5, 1] [
    ⟨(some 107), .val (.tmp 0), none⟩,
    ⟨(some 108), .fldA 1 (.tmp 5), none⟩,
    ⟨(some 109), .load none (.tmp 108), none⟩,
    ⟨(some 110), .fldA 2 (.tmp 5), none⟩,
    ⟨(some 111), .load none (.tmp 110), none⟩,
    ⟨(some 112), .call (.func 7) [(.tmp 107), (.tmp 109), (.tmp 111)], none⟩,
    ⟨(some 14), .val (.tmp 112), none⟩]) (
 (.seq (
  (.seq (
   .reg [8, 14, 5, 1, 114] [
     ⟨(some 113), .val (.tmp 8), none⟩,
     ⟨(some 114), .bin .lss (.tmp 113) (.const (.int .i64 0)), none⟩]) (
  (.cond (.tmp 114) (
   .reg [8, 14, 1] [
     ⟨(some 115), .val (.tmp 1), none⟩,
     ⟨(some 116), .fldA 1 (.tmp 5), none⟩,
     ⟨(some 117), .load none (.tmp 116), none⟩,
     ⟨(some 118), .fldA 2 (.tmp 5), none⟩,
     ⟨(some 119), .load none (.tmp 118), none⟩,
     ⟨(some 120), .call (.func 27) [(.tmp 115), (.tmp 117), (.tmp 119)], none⟩,
     ⟨(some 1), .val (.tmp 120), none⟩]) (
   .skip))))) (
 (.seq (
  .reg [6, 7] [
    ⟨(some 121), .val (.tmp 1), none⟩,
    ⟨(some 122), .val (.tmp 14), none⟩,
    ⟨(some 123), .val (.tmp 8), none⟩,
    ⟨(some 124), .bin .lss (.tmp 123) (.const (.int .i64 0)), none⟩,
    ⟨(some 125), .eqB false (.tmp 122) (.tmp 124), none⟩,
    ⟨(some 6), .val (.tmp 121), none⟩,
    ⟨(some 7), .val (.tmp 125), none⟩]) (
 .ret))))))))))))
def H12 : Hint := (.two (.reg [1, 0, 5] []) (.two (.reg [1, 0, 8, 5] []) (.two (.two (.reg [1, 0, 8, 5, 21] []) (.one (.two (.reg [1, 0, 8, 5, 21, 22] []) (.two (.two (.reg [10, 9, 11, 1] []) (.two (.two (.reg [10, 9, 11, 1, 32] []) (.two (.two (.reg [6, 7] []) .leaf) .leaf)) (.two (.reg [6, 7] [(0, [], []), (1, [], [0]), (2, [], []), (3, [], [2]), (4, [], [3, 2]), (5, [], [3, 2]), (6, [], [5, 3, 2]), (7, [], [6, 5, 3, 2]), (8, [], [7, 6, 5, 3, 2]), (9, [], [4, 3, 2, 8, 7, 6, 5]), (10, [], [3, 2, 9, 4, 8, 7, 6, 5]), (11, [], [10, 3, 2, 9, 4, 8, 7, 6, 5]), (12, [], [11, 10, 3, 2, 9, 4, 8, 7, 6, 5]), (13, [], [11, 10, 3, 2, 9, 4, 8, 7, 6, 5]), (14, [], [13, 11, 10, 3, 2, 9, 4, 8, 7, 6, 5]), (15, [], [14, 13, 11, 10, 3, 2, 9, 4, 8, 7, 6, 5]), (16, [], [15, 14, 13, 11, 10, 3, 2, 9, 4, 8, 7, 6, 5]), (17, [], [12, 11, 10, 3, 2, 9, 4, 8, 7, 6, 5, 16, 15, 14, 13]), (18, [], [11, 10, 3, 2, 9, 4, 8, 7, 6, 5, 17, 12, 16, 15, 14, 13]), (19, [], [1, 0, 11, 10, 3, 2, 9, 4, 8, 7, 6, 5]), (20, [], [18, 11, 10, 3, 2, 9, 4, 8, 7, 6, 5, 17, 12, 16, 15, 14, 13, 19, 1, 0])]) .leaf))) (.two (.reg [8, 1, 5, 0, 21, 63] []) (.two (.two (.reg [8, 12, 1] []) (.two (.two (.reg [8, 12, 1, 70] []) (.two (.reg [8, 12, 1] []) .leaf)) (.two (.reg [6, 7] []) .leaf))) (.two (.reg [1, 5, 0, 8, 79] []) (.two (.two (.reg [13, 1, 5, 0] []) (.two (.one (.one (.two (.two (.reg [1, 5, 0, 13, 94] [(0, [], []), (1, [], []), (2, [], [1]), (3, [], [0, 2, 1]), (4, [], [3, 0, 2, 1]), (5, [], [4, 3, 0, 2, 1]), (6, [], [4, 3, 0, 2, 1]), (7, [], [5, 4, 3, 0, 2, 1, 6]), (8, [], [7, 5, 4, 3, 0, 2, 1, 6]), (9, [], [8, 7, 5, 4, 3, 0, 2, 1, 6]), (10, [], [4, 3, 0, 2, 1]), (11, [9], [10, 4, 3, 0, 2, 1]), (12, [], [9, 8, 7, 5, 4, 3, 0, 2, 1, 6, 11, 10]), (13, [], [4, 3, 0, 2, 1, 12, 9, 8, 7, 5, 6, 11, 10])]) (.two .leaf .leaf)) (.one (.reg [13, 1, 5, 0] []))))) (.two (.reg [6, 7] [(0, [], []), (1, [], []), (2, [], [0, 1]), (3, [], []), (4, [], []), (5, [], [4]), (7, [], []), (8, [], []), (6, [], [3, 5, 4]), (9, [], [6, 3, 5, 4, 7, 8]), (10, [], [2, 0, 1, 9, 6, 3, 5, 4, 7, 8]), (11, [], [9, 6, 3, 5, 4, 7, 8, 10, 2, 0, 1])]) .leaf))) .leaf)))))))) (.two (.reg [8, 14, 5, 1] []) (.two (.two (.reg [8, 14, 5, 1, 114] []) (.two (.reg [8, 14, 1] []) .leaf)) (.two (.reg [6, 7] []) .leaf))))))
def R12 : List ARes := [.tmp 6, .tmp 7]
theorem code12 : cCode Try.prog 126 H12 (Try.f12.body.getD .skip) = some A12 := by kernel_rfl
theorem ok12 : FunOk Try.prog 12 ⟨R12, A12⟩ := ⟨Try.f12, _, H12, 126, Try.func12, by kernel_rfl, by kernel_rfl, code12, by decide, by kernel_rfl⟩
def A13 : ACode :=
 (.seq (
  .reg [1, 2, 0] [
    ⟨(some 6), .val (.const (.bool false)), none⟩]) (
 (.seq (
  .reg [1, 2, 0, 8, 7, 9] [
    ⟨(some 14), .val (.tmp 0), none⟩,
    ⟨(some 15), .call (.func 14) [(.tmp 14)], none⟩,
    ⟨(some 13), .val (.tmp 15), none⟩,
    ⟨(some 16), .extr (.tmp 13) 0, none⟩,
    ⟨(some 17), .extr (.tmp 13) 1, none⟩,
    ⟨(some 18), .extr (.tmp 13) 2, none⟩,
    ⟨(some 7), .val (.tmp 16), none⟩,
    ⟨(some 8), .val (.tmp 17), none⟩,
    ⟨(some 9), .val (.tmp 18), none⟩]) (
 (.seq (
  (.seq (
   .reg [1, 2, 0, 58] [
     ⟨(some 19), .val (.tmp 9), none⟩,
     ⟨(some 20), .val (.tmp 1), none⟩,
     ⟨(some 21), .len .sl (.tmp 20), none⟩,
     ⟨(some 22), .bin .gtr (.tmp 21) (.const (.int .i64 0)), none⟩,
     ⟨(some 23), .eqB true (.tmp 19) (.tmp 22), none⟩,
     ⟨(some 24), .val (.tmp 23), none⟩,
     ⟨(some 25), .val (.tmp 9), (some (24, false))⟩,
     ⟨(some 26), .val (.tmp 25), (some (24, false))⟩,
     ⟨(some 27), .val (.tmp 7), (some (26, true))⟩,
     ⟨(some 28), .val (.tmp 1), (some (26, true))⟩,
     ⟨(some 29), .idxSl 2 (.tmp 28) (.const (.int .i64 0)), (some (26, true))⟩,
     ⟨(some 30), .fldA 0 (.tmp 29), (some (26, true))⟩,
     ⟨(some 31), .load none (.tmp 30), (some (26, true))⟩,
     ⟨(some 32), .bin .neq (.tmp 27) (.tmp 31), (some (26, true))⟩,
     ⟨(some 33), .val (.tmp 32), (some (26, true))⟩,
     ⟨(some 34), .val (.tmp 8), (some (33, false))⟩,
     ⟨(some 35), .val (.tmp 1), (some (33, false))⟩,
     ⟨(some 36), .idxSl 2 (.tmp 35) (.const (.int .i64 0)), (some (33, false))⟩,
     ⟨(some 37), .fldA 1 (.tmp 36), (some (33, false))⟩,
     ⟨(some 38), .load none (.tmp 37), (some (33, false))⟩,
     ⟨(some 39), .bin .neq (.tmp 34) (.tmp 38), (some (33, false))⟩,
     ⟨(some 40), .pick (.tmp 33) (.const (.bool true)) (.tmp 39), (some (26, true))⟩,
     ⟨(some 41), .pick (.tmp 26) (.tmp 40) (.const (.bool false)), (some (24, false))⟩,
     ⟨(some 42), .pick (.tmp 24) (.const (.bool true)) (.tmp 41), none⟩,
     ⟨(some 43), .val (.tmp 42), none⟩,
     ⟨(some 44), .val (.tmp 0), (some (43, false))⟩,
     ⟨(some 45), .call (.func 11) [(.tmp 44)], (some (43, false))⟩,
     ⟨(some 46), .val (.tmp 1), (some (43, false))⟩,
     ⟨(some 47), .len .sl (.tmp 46), (some (43, false))⟩,
     ⟨(some 48), .bin .neq (.tmp 45) (.tmp 47), (some (43, false))⟩,
     ⟨(some 49), .pick (.tmp 43) (.const (.bool true)) (.tmp 48), none⟩,
     ⟨(some 50), .val (.tmp 49), none⟩,
     ⟨(some 51), .val (.tmp 0), (some (50, false))⟩,
     ⟨(some 52), .call (.func 17) [(.tmp 51)], (some (50, false))⟩,
     ⟨(some 53), .val (.tmp 1), (some (50, false))⟩,
     ⟨(some 54), .val (.tmp 1), (some (50, false))⟩,
     ⟨(some 55), .len .sl (.tmp 54), (some (50, false))⟩,
     ⟨(some 56), .call (.func 26) [(.tmp 52), (.tmp 53), (.tmp 55)], (some (50, false))⟩,
     ⟨(some 57), .un .not (.tmp 56), (some (50, false))⟩,
     ⟨(some 58), .pick (.tmp 50) (.const (.bool true)) (.tmp 57), none⟩]) (
  (.cond (.tmp 58) (
   (.seq (
    .reg [6] [
      ⟨(some 6), .val (.const (.bool false)), none⟩]) (
   .ret))) (
   .skip))))) (
 (.seq (
  .reg [10, 1, 2, 0] [
    ⟨(some 59), .val (.tmp 1), none⟩,
    ⟨(some 60), .val (.tmp 2), none⟩,
    ⟨(some 61), .call (.func 24) [(.tmp 59), (.tmp 60)], none⟩,
    ⟨(some 10), .val (.tmp 61), none⟩]) (
 (.seq (
  .reg [10, 1, 11, 12] [
    ⟨(some 63), .val (.tmp 0), none⟩,
    ⟨(some 64), .val (.tmp 2), none⟩,
    ⟨(some 65), .call (.func 15) [(.tmp 63), (.tmp 64)], none⟩,
    ⟨(some 62), .val (.tmp 65), none⟩,
    ⟨(some 66), .extr (.tmp 62) 0, none⟩,
    ⟨(some 67), .extr (.tmp 62) 1, none⟩,
    ⟨(some 11), .val (.tmp 66), none⟩,
    ⟨(some 12), .val (.tmp 67), none⟩]) (
 (.seq (
  .reg [6] [
    ⟨(some 68), .val (.tmp 12), none⟩,
    ⟨(some 69), .val (.tmp 10), none⟩,
    ⟨(some 70), .bin .geq (.tmp 69) (.const (.int .i64 0)), none⟩,
    ⟨(some 71), .eqB false (.tmp 68) (.tmp 70), none⟩,
    ⟨(some 72), .val (.tmp 71), none⟩,
    ⟨(some 73), .val (.tmp 12), (some (72, true))⟩,
    ⟨(some 74), .un .not (.tmp 73), (some (72, true))⟩,
    ⟨(some 75), .val (.tmp 74), (some (72, true))⟩,
    ⟨(some 76), .val (.tmp 11), (some (75, true))⟩,
    ⟨(some 77), .bin .eql (.tmp 76) (.const (.int .i64 0)), (some (75, true))⟩,
    ⟨(some 78), .pick (.tmp 75) (.tmp 77) (.const (.bool false)), (some (72, true))⟩,
    ⟨(some 79), .val (.tmp 78), (some (72, true))⟩,
    ⟨(some 80), .val (.tmp 12), (some (79, false))⟩,
    ⟨(some 81), .val (.tmp 80), (some (79, false))⟩,
    ⟨(some 82), .val (.tmp 11), (some (81, true))⟩,
    ⟨(some 83), .val (.tmp 1), (some (81, true))⟩,
    ⟨(some 84), .val (.tmp 10), (some (81, true))⟩,
    ⟨(some 85), .idxSl 2 (.tmp 83) (.tmp 84), (some (81, true))⟩,
    ⟨(some 86), .fldA 0 (.tmp 85), (some (81, true))⟩,
    ⟨(some 87), .load none (.tmp 86), (some (81, true))⟩,
    ⟨(some 88), .bin .eql (.tmp 82) (.tmp 87), (some (81, true))⟩,
    ⟨(some 89), .pick (.tmp 81) (.tmp 88) (.const (.bool false)), (some (79, false))⟩,
    ⟨(some 90), .pick (.tmp 79) (.const (.bool true)) (.tmp 89), (some (72, true))⟩,
    ⟨(some 91), .pick (.tmp 72) (.tmp 90) (.const (.bool false)), none⟩,
    ⟨(some 6), .val (.tmp 91), none⟩]) (
 .ret))))))))))))
def H13 : Hint := (.two (.reg [1, 2, 0] []) (.two (.reg [1, 2, 0, 8, 7, 9] []) (.two (.two (.reg [1, 2, 0, 58] []) (.two (.two (.reg [6] []) .leaf) .leaf)) (.two (.reg [10, 1, 2, 0] []) (.two (.reg [10, 1, 11, 12] []) (.two (.reg [6] []) .leaf))))))
def R13 : List ARes := [.tmp 6]
theorem code13 : cCode Try.prog 92 H13 (Try.f13.body.getD .skip) = some A13 := by kernel_rfl
theorem ok13 : FunOk Try.prog 13 ⟨R13, A13⟩ := ⟨Try.f13, _, H13, 92, Try.func13, by kernel_rfl, by kernel_rfl, code13, by decide, by kernel_rfl⟩
def A14 : ACode :=
 (.seq (
  .reg [3, 0] [
    ⟨(some 2), .val (.const (.int .i64 0)), none⟩,
    ⟨(some 3), .val (.const (.int .i64 0)), none⟩,
    ⟨(some 4), .val (.const (.bool false)), none⟩]) (
 (.seq (
  (.seq (
   .reg [3, 0, 7] [
     ⟨(some 5), .val (.tmp 0), none⟩,
     ⟨(some 6), .call (.func 11) [(.tmp 5)], none⟩,
     ⟨(some 7), .bin .eql (.tmp 6) (.const (.int .i64 0)), none⟩]) (
  (.cond (.tmp 7) (
   (.seq (
    .reg [2, 3, 4] [
      ⟨(some 8), .val (.tmp 3), none⟩,
      ⟨(some 2), .val (.const (.int .i64 0)), none⟩,
      ⟨(some 3), .val (.tmp 8), none⟩,
      ⟨(some 4), .val (.const (.bool false)), none⟩]) (
   .ret))) (
   .skip))))) (
 (.seq (
  .dreg [2, 3, 4] [
    (⟨(some 9), .val (.tmp 0), none⟩, []),
    (⟨(some 10), .nilck (.tmp 9), none⟩, []),
    (⟨(some 11), .fldA 0 (.tmp 10), none⟩, []),
    (⟨(some 12), .load none (.tmp 11), none⟩, []),
    (⟨(some 13), .idxSl 3 (.tmp 12) (.const (.int .i64 0)), none⟩, []),
    (⟨(some 14), .fldA 0 (.tmp 13), none⟩, []),
    (⟨(some 15), .load none (.tmp 14), none⟩, []),
    (⟨(some 16), .val (.tmp 0), none⟩, []),
    (⟨(some 17), .nilck (.tmp 16), none⟩, []),
    (⟨(some 18), .fldA 0 (.tmp 17), none⟩, []),
    (⟨(some 19), .load none (.tmp 18), none⟩, [3, 6]),
    (⟨(some 20), .idxSl 3 (.tmp 19) (.const (.int .i64 0)), none⟩, []),
    (⟨(some 21), .fldA 2 (.tmp 20), none⟩, []),
    (⟨(some 22), .load none (.tmp 21), none⟩, [3, 6]),
    (⟨(some 2), .val (.tmp 15), none⟩, []),
    (⟨(some 3), .val (.tmp 22), none⟩, []),
    (⟨(some 4), .val (.const (.bool true)), none⟩, [])]) (
 .ret))))))
def H14 : Hint := (.two (.reg [3, 0] []) (.two (.two (.reg [3, 0, 7] []) (.two (.two (.reg [2, 3, 4] []) .leaf) .leaf)) (.two (.reg [2, 3, 4] [(0, [], []), (1, [], [0]), (2, [], [1, 0]), (3, [], [2, 1, 0]), (4, [], [3, 2, 1, 0]), (5, [], [4, 3, 2, 1, 0]), (6, [], [5, 4, 3, 2, 1, 0]), (7, [], []), (8, [], [7]), (9, [], [8, 7]), (10, [3, 6], [9, 8, 7]), (11, [], [10, 9, 8, 7]), (12, [], [11, 10, 9, 8, 7]), (13, [3, 6], [12, 11, 10, 9, 8, 7]), (14, [], [6, 5, 4, 3, 2, 1, 0]), (15, [], [13, 12, 11, 10, 9, 8, 7, 14, 6, 5, 4, 3, 2, 1, 0]), (16, [], [15, 13, 12, 11, 10, 9, 8, 7, 14, 6, 5, 4, 3, 2, 1, 0])]) .leaf)))
def R14 : List ARes := [.tmp 2, .tmp 3, .tmp 4]
theorem code14 : cCode Try.prog 23 H14 (Try.f14.body.getD .skip) = some A14 := by kernel_rfl
theorem ok14 : FunOk Try.prog 14 ⟨R14, A14⟩ := ⟨Try.f14, _, H14, 23, Try.func14, by kernel_rfl, by kernel_rfl, code14, by decide, by kernel_rfl⟩
def A15 : ACode :=
 (.seq (
  .reg [0, 1] [
    ⟨(some 4), .val (.const (.int .i64 0)), none⟩,
    ⟨(some 5), .val (.const (.bool false)), none⟩]) (
 (.seq (
  (.seq (
   .reg [0, 1, 9] [
     ⟨(some 8), .val (.tmp 0), none⟩,
     ⟨(some 9), .eqNil .ptr false (.tmp 8) (.const (.pointer none)), none⟩]) (
  (.cond (.tmp 9) (
   (.seq (
    .reg [4, 5] [
      ⟨(some 4), .val (.const (.int .i64 0)), none⟩,
      ⟨(some 5), .val (.const (.bool false)), none⟩]) (
   .ret))) (
   .skip))))) (
 (.seq (
  .reg [6, 0, 7] [
    ⟨(some 11), .val (.tmp 0), none⟩,
    ⟨(some 12), .nilck (.tmp 11), none⟩,
    ⟨(some 13), .fldA 1 (.tmp 12), none⟩,
    ⟨(some 14), .load none (.tmp 13), none⟩,
    ⟨(some 15), .val (.tmp 1), none⟩,
    ⟨(some 16), .lookup .int (.int .i64 0) (.tmp 14) (.tmp 15) true, none⟩,
    ⟨(some 10), .val (.tmp 16), none⟩,
    ⟨(some 17), .extr (.tmp 10) 0, none⟩,
    ⟨(some 18), .extr (.tmp 10) 1, none⟩,
    ⟨(some 6), .val (.tmp 17), none⟩,
    ⟨(some 7), .val (.tmp 18), none⟩]) (
 (.seq (
  (.seq (
   .reg [6, 0, 20] [
     ⟨(some 19), .val (.tmp 7), none⟩,
     ⟨(some 20), .un .not (.tmp 19), none⟩]) (
  (.cond (.tmp 20) (
   (.seq (
    .reg [4, 5] [
      ⟨(some 4), .val (.const (.int .i64 0)), none⟩,
      ⟨(some 5), .val (.const (.bool false)), none⟩]) (
   .ret))) (
   .skip))))) (
 (.seq (
  .reg [4, 5] [
    ⟨(some 21), .val (.tmp 0), none⟩,
    ⟨(some 22), .nilck (.tmp 21), none⟩,
    ⟨(some 23), .fldA 0 (.tmp 22), none⟩,
    ⟨(some 24), .load none (.tmp 23), none⟩,
    ⟨(some 25), .val (.tmp 6), none⟩,
    ⟨(some 26), .idxSl 3 (.tmp 24) (.tmp 25), none⟩,
    ⟨(some 27), .fldA 0 (.tmp 26), none⟩,
    ⟨(some 28), .load none (.tmp 27), none⟩,
    ⟨(some 4), .val (.tmp 28), none⟩,
    ⟨(some 5), .val (.const (.bool true)), none⟩]) (
 .ret))))))))))
def H15 : Hint := (.two (.reg [0, 1] []) (.two (.two (.reg [0, 1, 9] []) (.two (.two (.reg [4, 5] []) .leaf) .leaf)) (.two (.reg [6, 0, 7] []) (.two (.two (.reg [6, 0, 20] []) (.two (.two (.reg [4, 5] []) .leaf) .leaf)) (.two (.reg [4, 5] []) .leaf)))))
def R15 : List ARes := [.tmp 4, .tmp 5]
theorem code15 : cCode Try.prog 29 H15 (Try.f15.body.getD .skip) = some A15 := by kernel_rfl
theorem ok15 : FunOk Try.prog 15 ⟨R15, A15⟩ := ⟨Try.f15, _, H15, 29, Try.func15, by kernel_rfl, by kernel_rfl, code15, by decide, by kernel_rfl⟩
def A16 : ACode :=
 (.seq (
  .reg [0, 1] [
    ⟨(some 4), .val (.const (.bool false)), none⟩]) (
 (.seq (
  (.seq (
   .reg [0, 1, 8] [
     ⟨(some 7), .val (.tmp 0), none⟩,
     ⟨(some 8), .eqNil .ptr false (.tmp 7) (.const (.pointer none)), none⟩]) (
  (.cond (.tmp 8) (
   (.seq (
    .reg [4] [
      ⟨(some 4), .val (.const (.bool false)), none⟩]) (
   .ret))) (
   .skip))))) (
 (.seq (
  .reg [6, 5, 0] [
    ⟨(some 10), .val (.tmp 0), none⟩,
    ⟨(some 11), .nilck (.tmp 10), none⟩,
    ⟨(some 12), .fldA 1 (.tmp 11), none⟩,
    ⟨(some 13), .load none (.tmp 12), none⟩,
    ⟨(some 14), .val (.tmp 1), none⟩,
    ⟨(some 15), .lookup .int (.int .i64 0) (.tmp 13) (.tmp 14) true, none⟩,
    ⟨(some 9), .val (.tmp 15), none⟩,
    ⟨(some 16), .extr (.tmp 9) 0, none⟩,
    ⟨(some 17), .extr (.tmp 9) 1, none⟩,
    ⟨(some 5), .val (.tmp 16), none⟩,
    ⟨(some 6), .val (.tmp 17), none⟩]) (
 (.seq (
  (.seq (
   .reg [6, 5, 0, 18] [
     ⟨(some 18), .val (.tmp 6), none⟩]) (
  (.cond (.tmp 18) (
   .reg [6] [
     ⟨(some 19), .val (.tmp 0), none⟩,
     ⟨(some 20), .val (.tmp 5), none⟩,
     ⟨(some 21), .call (.func 19) [(.tmp 19), (.tmp 20)], none⟩]) (
   .skip))))) (
 (.seq (
  .reg [4] [
    ⟨(some 22), .val (.tmp 6), none⟩,
    ⟨(some 4), .val (.tmp 22), none⟩]) (
 .ret))))))))))
def H16 : Hint := (.two (.reg [0, 1] []) (.two (.two (.reg [0, 1, 8] []) (.two (.two (.reg [4] []) .leaf) .leaf)) (.two (.reg [6, 5, 0] []) (.two (.two (.reg [6, 5, 0, 18] []) (.two (.reg [6] []) .leaf)) (.two (.reg [4] []) .leaf)))))
def R16 : List ARes := [.tmp 4]
theorem code16 : cCode Try.prog 23 H16 (Try.f16.body.getD .skip) = some A16 := by kernel_rfl
theorem ok16 : FunOk Try.prog 16 ⟨R16, A16⟩ := ⟨Try.f16, _, H16, 23, Try.func16, by kernel_rfl, by kernel_rfl, code16, by decide, by kernel_rfl⟩
def A17 : ACode :=
 (.seq (
  .reg [2, 0] [
    ⟨(some 2), .val (.const (.slice none 0 0)), none⟩]) (
 (.seq (
  (.seq (
   .reg [2, 0, 6] [
     ⟨(some 5), .val (.tmp 0), none⟩,
     ⟨(some 6), .eqNil .ptr false (.tmp 5) (.const (.pointer none)), none⟩]) (
  (.cond (.tmp 6) (
   (.seq (
    .reg [2] [
      ⟨(some 2), .val (.const (.slice none 0 0)), none⟩]) (
   .ret))) (
   .skip))))) (
 (.seq (
  (.seq (
   .reg [14, 2, 12, 13] [
     ⟨(some 7), .val (.tmp 0), none⟩,
     ⟨(some 8), .nilck (.tmp 7), none⟩,
     ⟨(some 9), .fldA 0 (.tmp 8), none⟩,
     ⟨(some 10), .load none (.tmp 9), none⟩,
     ⟨(some 11), .call (.func 29) [(.tmp 10)], none⟩,
     ⟨(some 12), .call (.func 28) [(.tmp 11), (.func 30)], none⟩,
     ⟨(some 13), .len .sl (.tmp 12), none⟩,
     ⟨(some 14), .val (.const (.int .i64 0)), none⟩]) (
  (.block 0 (
   (.loop (
    (.seq (
     .reg [12, 13, 14, 2, 15] [
       ⟨(some 15), .bin .lss (.tmp 14) (.tmp 13), none⟩]) (
    (.seq (
     (.cond (.tmp 15) (
      .skip) (
      .exit 0))) (
    (.seq (
     (.block 1 (
      (.seq (
       .reg [12, 13, 14, 4, 2] [
         ⟨(some 16), .idxSl 3 (.tmp 12) (.tmp 14), none⟩,
         ⟨(some 17), .load (some 3) (.tmp 16), none⟩,
         ⟨(some 4), .new [(.int .i64 0), (.int .i64 0), (.int .i64 0)], none⟩,
         ⟨none, .store 3 (.tmp 4) (.tmp 17), none⟩]) (
      .reg [2, 12, 13, 14] [
        ⟨(some 18), .val (.tmp 2), none⟩,
        ⟨(some 19), .fldA 2 (.tmp 4), none⟩,
        ⟨(some 20), .load none (.tmp 19), none⟩,
        ⟨(some 21), .buildSl 1 [(.int .i64 0)] [(0, 1, (.tmp 20))], none⟩,
        ⟨(some 22), .append 1 8 (.tmp 18) (.tmp 21), none⟩,
        ⟨(some 2), .val (.tmp 22), none⟩]))))) (
    .reg [14, 2, 12, 13] [
      ⟨(some 23), .bin .add (.tmp 14) (.const (.int .i64 1)), none⟩,
      ⟨(some 14), .val (.tmp 23), none⟩]))))))))))))) (
 (.seq (
  .reg [2] [
    ⟨(some 24), .val (.tmp 2), none⟩,
    ⟨(some 2), .val (.tmp 24), none⟩]) (
 .ret))))))))
def H17 : Hint := (.two (.reg [2, 0] []) (.two (.two (.reg [2, 0, 6] []) (.two (.two (.reg [2] []) .leaf) .leaf)) (.two (.two (.reg [14, 2, 12, 13] []) (.one (.one (.two (.reg [12, 13, 14, 2, 15] []) (.two (.two .leaf .leaf) (.two (.one (.two (.reg [12, 13, 14, 4, 2] []) (.reg [2, 12, 13, 14] []))) (.reg [14, 2, 12, 13] []))))))) (.two (.reg [2] []) .leaf))))
def R17 : List ARes := [.tmp 2]
theorem code17 : cCode Try.prog 25 H17 (Try.f17.body.getD .skip) = some A17 := by kernel_rfl
theorem ok17 : FunOk Try.prog 17 ⟨R17, A17⟩ := ⟨Try.f17, _, H17, 25, Try.func17, by kernel_rfl, by kernel_rfl, code17, by decide, by kernel_rfl⟩
def A18 : ACode :=
 (.seq (
  .reg [1, 0, 4] [
    ⟨(some 5), .val (.tmp 0), none⟩,
    ⟨(some 6), .nilck (.tmp 5), none⟩,
    ⟨(some 7), .fldA 0 (.tmp 6), none⟩,
    ⟨(some 8), .load none (.tmp 7), none⟩,
    ⟨(some 9), .val (.tmp 1), none⟩,
    ⟨(some 10), .idxSl 3 (.tmp 8) (.tmp 9), none⟩,
    ⟨(some 11), .load (some 3) (.tmp 10), none⟩,
    ⟨(some 4), .new [(.int .i64 0), (.int .i64 0), (.int .i64 0)], none⟩,
    ⟨none, .store 3 (.tmp 4) (.tmp 11), none⟩]) (
 (.seq (
  (.block 0 (
   (.loop (
    (.seq (
     (.seq (
      .dreg [0, 4, 1, 27] [
        (⟨(some 12), .val (.tmp 1), none⟩, []),
        (⟨(some 13), .bin .gtr (.tmp 12) (.const (.int .i64 0)), none⟩, []),
        (⟨(some 14), .val (.tmp 13), none⟩, []),
        (⟨(some 15), .load (some 3) (.tmp 4), (some (14, true))⟩, []),
        (⟨(some 16), .val (.tmp 0), (some (14, true))⟩, []),
        (⟨(some 17), .nilck (.tmp 16), (some (14, true))⟩, []),
        (⟨(some 18), .fldA 0 (.tmp 17), (some (14, true))⟩, []),
        (⟨(some 19), .load none (.tmp 18), (some (14, true))⟩, [3]),
        (⟨(some 20), .val (.tmp 1), (some (14, true))⟩, []),
        (⟨(some 21), .bin .sub (.tmp 20) (.const (.int .i64 1)), (some (14, true))⟩, []),
        (⟨(some 22), .bin .quo (.tmp 21) (.const (.int .i64 2)), (some (14, true))⟩, []),
        (⟨(some 23), .idxSl 3 (.tmp 19) (.tmp 22), (some (14, true))⟩, []),
        (⟨(some 24), .load (some 3) (.tmp 23), (some (14, true))⟩, [3]),
        (⟨(some 25), .call (.func 30) [(.tmp 15), (.tmp 24)], (some (14, true))⟩, []),
        (⟨(some 26), .bin .lss (.tmp 25) (.const (.int .i64 0)), (some (14, true))⟩, []),
        (⟨(some 27), .pick (.tmp 14) (.tmp 26) (.const (.bool false)), none⟩, [])]) (
     (.cond (.tmp 27) (
      .skip) (
      .exit 0))))) (
    (.block 1 (
     (.seq (
      .reg [0, 4, 1] [
        ⟨(some 28), .val (.tmp 0), none⟩,
        ⟨(some 29), .val (.tmp 1), none⟩,
        ⟨(some 30), .val (.tmp 0), none⟩,
        ⟨(some 31), .nilck (.tmp 30), none⟩,
        ⟨(some 32), .fldA 0 (.tmp 31), none⟩,
        ⟨(some 33), .load none (.tmp 32), none⟩,
        ⟨(some 34), .val (.tmp 1), none⟩,
        ⟨(some 35), .bin .sub (.tmp 34) (.const (.int .i64 1)), none⟩,
        ⟨(some 36), .bin .quo (.tmp 35) (.const (.int .i64 2)), none⟩,
        ⟨(some 37), .idxSl 3 (.tmp 33) (.tmp 36), none⟩,
        ⟨(some 38), .load (some 3) (.tmp 37), none⟩,
        ⟨(some 39), .call (.func 31) [(.tmp 28), (.tmp 29), (.tmp 38)], none⟩]) (
     .reg [1, 0, 4] [
       ⟨(some 40), .val (.tmp 1), none⟩,
       ⟨(some 41), .bin .sub (.tmp 40) (.const (.int .i64 1)), none⟩,
       ⟨(some 42), .bin .quo (.tmp 41) (.const (.int .i64 2)), none⟩,
       ⟨(some 1), .val (.tmp 42), none⟩]))))))))))) (
 .reg [] [
   ⟨(some 43), .val (.tmp 0), none⟩,
   ⟨(some 44), .val (.tmp 1), none⟩,
   ⟨(some 45), .load (some 3) (.tmp 4), none⟩,
   ⟨(some 46), .call (.func 31) [(.tmp 43), (.tmp 44), (.tmp 45)], none⟩]))))
def H18 : Hint := (.two (.reg [1, 0, 4] []) (.two (.one (.one (.two (.two (.reg [0, 4, 1, 27] [(0, [], []), (1, [], [0]), (2, [], [1, 0]), (3, [], [2, 1, 0]), (4, [], [2, 1, 0]), (5, [], [4, 2, 1, 0]), (6, [], [5, 4, 2, 1, 0]), (7, [3], [6, 5, 4, 2, 1, 0]), (8, [], [2, 1, 0]), (9, [], [8, 2, 1, 0]), (10, [], [9, 8, 2, 1, 0]), (11, [], [7, 6, 5, 4, 2, 1, 0, 10, 9, 8]), (12, [3], [11, 7, 6, 5, 4, 2, 1, 0, 10, 9, 8]), (13, [], [3, 2, 1, 0, 12, 11, 7, 6, 5, 4, 10, 9, 8]), (14, [], [13, 3, 2, 1, 0, 12, 11, 7, 6, 5, 4, 10, 9, 8]), (15, [], [2, 1, 0, 14, 13, 3, 12, 11, 7, 6, 5, 4, 10, 9, 8])]) (.two .leaf .leaf)) (.one (.two (.reg [0, 4, 1] []) (.reg [1, 0, 4] [])))))) (.reg [] [])))
def R18 : List ARes := []
theorem code18 : cCode Try.prog 47 H18 (Try.f18.body.getD .skip) = some A18 := by kernel_rfl
theorem ok18 : FunOk Try.prog 18 ⟨R18, A18⟩ := ⟨Try.f18, _, H18, 47, Try.func18, by kernel_rfl, by kernel_rfl, code18, by decide, by kernel_rfl⟩
def A19 : ACode :=
 (.seq (
  .reg [4, 0, 1] [
    ⟨(some 4), .new [(.int .i64 0), (.int .i64 0), (.int .i64 0)], none⟩]) (
 (.seq (
  .reg [4, 5, 0, 1] [
    ⟨(some 8), .val (.tmp 0), none⟩,
    ⟨(some 9), .nilck (.tmp 8), none⟩,
    ⟨(some 10), .fldA 0 (.tmp 9), none⟩,
    ⟨(some 11), .load none (.tmp 10), none⟩,
    ⟨(some 12), .val (.tmp 1), none⟩,
    ⟨(some 13), .idxSl 3 (.tmp 11) (.tmp 12), none⟩,
    ⟨(some 14), .load (some 3) (.tmp 13), none⟩,
    ⟨(some 5), .new [(.int .i64 0), (.int .i64 0), (.int .i64 0)], none⟩,
    ⟨none, .store 3 (.tmp 5) (.tmp 14), none⟩]) (
 (.seq (
  .reg [4, 5, 0, 1, 6] [
    ⟨(some 15), .val (.tmp 0), none⟩,
    ⟨(some 16), .nilck (.tmp 15), none⟩,
    ⟨(some 17), .fldA 0 (.tmp 16), none⟩,
    ⟨(some 18), .load none (.tmp 17), none⟩,
    ⟨(some 19), .len .sl (.tmp 18), none⟩,
    ⟨(some 20), .bin .sub (.tmp 19) (.const (.int .i64 1)), none⟩,
    ⟨(some 6), .val (.tmp 20), none⟩]) (
 (.seq (
  .reg [4, 5, 7, 0, 1, 6] [
    ⟨(some 21), .val (.tmp 0), none⟩,
    ⟨(some 22), .nilck (.tmp 21), none⟩,
    ⟨(some 23), .fldA 0 (.tmp 22), none⟩,
    ⟨(some 24), .load none (.tmp 23), none⟩,
    ⟨(some 25), .val (.tmp 6), none⟩,
    ⟨(some 26), .idxSl 3 (.tmp 24) (.tmp 25), none⟩,
    ⟨(some 27), .load (some 3) (.tmp 26), none⟩,
    ⟨(some 7), .new [(.int .i64 0), (.int .i64 0), (.int .i64 0)], none⟩,
    ⟨none, .store 3 (.tmp 7) (.tmp 27), none⟩]) (
 (.seq (
  .reg [4, 5, 7, 0, 1, 6] [
    ⟨(some 28), .val (.tmp 0), none⟩,
    ⟨(some 29), .val (.tmp 0), none⟩,
    ⟨(some 30), .nilck (.tmp 29), none⟩,
    ⟨(some 31), .fldA 0 (.tmp 30), none⟩,
    ⟨(some 32), .load none (.tmp 31), none⟩,
    ⟨(some 33), .val (.tmp 6), none⟩,
    ⟨(some 34), .slice 3 (.tmp 32) none (some (.tmp 33)) none, none⟩,
    ⟨(some 35), .nilck (.tmp 28), none⟩,
    ⟨(some 36), .fldA 0 (.tmp 35), none⟩,
    ⟨none, .store 1 (.tmp 36) (.tmp 34), none⟩]) (
 (.seq (
  .dreg [4, 5, 7, 0, 1, 6] [
    (⟨(some 37), .val (.tmp 0), none⟩, []),
    (⟨(some 38), .nilck (.tmp 37), none⟩, []),
    (⟨(some 39), .fldA 1 (.tmp 38), none⟩, []),
    (⟨(some 40), .load none (.tmp 39), none⟩, []),
    (⟨(some 41), .fldA 2 (.tmp 5), none⟩, []),
    (⟨(some 42), .load none (.tmp 41), none⟩, [3]),
    (⟨none, .delete .int (.tmp 40) (.tmp 42), none⟩, [])]) (
 (.seq (
  (.seq (
   .reg [4, 5, 7, 0, 1, 45] [
     ⟨(some 43), .val (.tmp 1), none⟩,
     ⟨(some 44), .val (.tmp 6), none⟩,
     ⟨(some 45), .bin .lss (.tmp 43) (.tmp 44), none⟩]) (
  (.cond (.tmp 45) (
   (.seq (
    .reg [4, 5, 7, 0, 1] [
      ⟨(some 46), .val (.tmp 0), none⟩,
      ⟨(some 47), .val (.tmp 1), none⟩,
      ⟨(some 48), .load (some 3) (.tmp 7), none⟩,
      ⟨(some 49), .call (.func 31) [(.tmp 46), (.tmp 47), (.tmp 48)], none⟩]) (
   (.seq (
    .reg [4, 5, 7, 0] [
      ⟨(some 50), .val (.tmp 0), none⟩,
      ⟨(some 51), .val (.tmp 1), none⟩,
      ⟨(some 52), .call (.func 18) [(.tmp 50), (.tmp 51)], none⟩]) (
   .dreg [4, 5] [
     (⟨(some 53), .val (.tmp 0), none⟩, []),
     (⟨(some 54), .val (.tmp 0), none⟩, []),
     (⟨(some 55), .nilck (.tmp 54), none⟩, []),
     (⟨(some 56), .fldA 1 (.tmp 55), none⟩, []),
     (⟨(some 57), .load none (.tmp 56), none⟩, []),
     (⟨(some 58), .fldA 2 (.tmp 7), none⟩, []),
     (⟨(some 59), .load none (.tmp 58), none⟩, [4]),
     (⟨(some 60), .lookup .int (.int .i64 0) (.tmp 57) (.tmp 59) false, none⟩, []),
     (⟨(some 61), .call (.func 32) [(.tmp 53), (.tmp 60)], none⟩, [])]))))) (
   .skip))))) (
 (.seq (
  .reg [4] [
    ⟨(some 62), .load (some 3) (.tmp 5), none⟩,
    ⟨none, .store 3 (.tmp 4) (.tmp 62), none⟩]) (
 .ret))))))))))))))))
def H19 : Hint := (.two (.reg [4, 0, 1] []) (.two (.reg [4, 5, 0, 1] []) (.two (.reg [4, 5, 0, 1, 6] []) (.two (.reg [4, 5, 7, 0, 1, 6] []) (.two (.reg [4, 5, 7, 0, 1, 6] []) (.two (.reg [4, 5, 7, 0, 1, 6] [(0, [], []), (1, [], [0]), (2, [], [1, 0]), (3, [], [2, 1, 0]), (4, [], []), (5, [3], [4]), (6, [], [3, 2, 1, 0, 5, 4])]) (.two (.two (.reg [4, 5, 7, 0, 1, 45] []) (.two (.two (.reg [4, 5, 7, 0, 1] []) (.two (.reg [4, 5, 7, 0] []) (.reg [4, 5] [(0, [], []), (1, [], []), (2, [], [1]), (3, [], [2, 1]), (4, [], [3, 2, 1]), (5, [], []), (6, [4], [5]), (7, [], [4, 3, 2, 1, 6, 5]), (8, [], [0, 7, 4, 3, 2, 1, 6, 5])]))) .leaf)) (.two (.reg [4] []) .leaf))))))))
def R19 : List ARes := [.cell 4 (some 3)]
theorem code19 : cCode Try.prog 63 H19 (Try.f19.body.getD .skip) = some A19 := by kernel_rfl
theorem ok19 : FunOk Try.prog 19 ⟨R19, A19⟩ := ⟨Try.f19, _, H19, 63, Try.func19, by kernel_rfl, by kernel_rfl, code19, by decide, by kernel_rfl⟩
def A20 : ACode :=
 (.seq (
  .reg [0, 2, 1] [
    ⟨(some 6), .val (.const (.bool false)), none⟩]) (
 (.seq (
  (.seq (
   .reg [0, 2, 1, 10] [
     ⟨(some 9), .val (.tmp 0), none⟩,
     ⟨(some 10), .eqNil .ptr false (.tmp 9) (.const (.pointer none)), none⟩]) (
  (.cond (.tmp 10) (
   (.seq (
    .reg [6] [
      ⟨(some 6), .val (.const (.bool false)), none⟩]) (
   .ret))) (
   .skip))))) (
 (.seq (
  (.seq (
   .reg [0, 2, 1, 8] [
     ⟨(some 12), .val (.tmp 0), none⟩,
     ⟨(some 13), .nilck (.tmp 12), none⟩,
     ⟨(some 14), .fldA 1 (.tmp 13), none⟩,
     ⟨(some 15), .load none (.tmp 14), none⟩,
     ⟨(some 16), .val (.tmp 2), none⟩,
     ⟨(some 17), .lookup .str (.int .i64 0) (.tmp 15) (.tmp 16) true, none⟩,
     ⟨(some 11), .val (.tmp 17), none⟩,
     ⟨(some 18), .extr (.tmp 11) 0, none⟩,
     ⟨(some 19), .extr (.tmp 11) 1, none⟩,
     ⟨(some 7), .val (.tmp 18), none⟩,
     ⟨(some 8), .val (.tmp 19), none⟩]) (
  (.seq (
   .reg [0, 2, 1, 20] [
     ⟨(some 20), .val (.tmp 8), none⟩]) (
  (.cond (.tmp 20) (
   (.seq (
    .reg [6] [
      ⟨(some 6), .val (.const (.bool false)), none⟩]) (
   .ret))) (
   .skip))))))) (
 (.seq (
  (.seq (
   .reg [0, 2, 1, 25] [
     ⟨(some 21), .val (.tmp 0), none⟩,
     ⟨(some 22), .nilck (.tmp 21), none⟩,
     ⟨(some 23), .fldA 1 (.tmp 22), none⟩,
     ⟨(some 24), .load none (.tmp 23), none⟩,
     ⟨(some 25), .eqNil .map false (.tmp 24) (.const (.map none)), none⟩]) (
  (.cond (.tmp 25) (
   .reg [0, 2, 1] [
     ⟨(some 26), .val (.tmp 0), none⟩,
     ⟨(some 27), .mkMap, none⟩,
     ⟨(some 28), .nilck (.tmp 26), none⟩,
     ⟨(some 29), .fldA 1 (.tmp 28), none⟩,
     ⟨none, .store 1 (.tmp 29) (.tmp 27), none⟩]) (
   .skip))))) (
 (.seq (
  .dreg [0] [
    (⟨(some 30), .val (.tmp 0), none⟩, []),
    (⟨(some 31), .val (.tmp 0), none⟩, []),
    (⟨(some 32), .nilck (.tmp 31), none⟩, []),
    (⟨(some 33), .fldA 0 (.tmp 32), none⟩, []),
    (⟨(some 34), .load none (.tmp 33), none⟩, []),
    (⟨(some 35), .val (.tmp 1), none⟩, []),
    (⟨(some 36), .val (.tmp 0), none⟩, []),
    (⟨(some 37), .nilck (.tmp 36), none⟩, []),
    (⟨(some 38), .fldA 2 (.tmp 37), none⟩, []),
    (⟨(some 39), .load none (.tmp 38), none⟩, [4]),
    (⟨(some 40), .val (.tmp 2), none⟩, []),
    (⟨(some 41), .build [(.int .i64 0), (.int .i64 0), (.string ⟨#[]⟩)] [(0, 1, (.tmp 35)), (1, 1, (.tmp 39)), (2, 1, (.tmp 40))], none⟩, []),
    (⟨(some 42), .buildSl 1 [(.int .i64 0), (.int .i64 0), (.string ⟨#[]⟩)] [(0, 3, (.tmp 41))], none⟩, [4]),
    (⟨(some 43), .append 3 32 (.tmp 34) (.tmp 42), none⟩, []),
    (⟨(some 44), .nilck (.tmp 30), none⟩, []),
    (⟨(some 45), .fldA 0 (.tmp 44), none⟩, []),
    (⟨none, .store 1 (.tmp 45) (.tmp 43), none⟩, [])]) (
 (.seq (
  .reg [0] [
    ⟨(some 46), .val (.tmp 0), none⟩,
    ⟨(some 47), .nilck (.tmp 46), none⟩,
    ⟨(some 48), .fldA 2 (.tmp 47), none⟩,
    ⟨(some 49), .load none (.tmp 48), none⟩,
    ⟨(some 50), .bin .add (.tmp 49) (.const (.int .i64 1)), none⟩,
    ⟨(some 51), .nilck (.tmp 46), none⟩,
    ⟨(some 52), .fldA 2 (.tmp 51), none⟩,
    ⟨none, .store 1 (.tmp 52) (.tmp 50), none⟩]) (
 (.seq (
  .reg [] [
    ⟨(some 53), .val (.tmp 0), none⟩,
    ⟨(some 54), .val (.tmp 0), none⟩,
    ⟨(some 55), .nilck (.tmp 54), none⟩,
    ⟨(some 56), .fldA 0 (.tmp 55), none⟩,
    ⟨(some 57), .load none (.tmp 56), none⟩,
    ⟨(some 58), .len .sl (.tmp 57), none⟩,
    ⟨(some 59), .bin .sub (.tmp 58) (.const (.int .i64 1)), none⟩,
    ⟨(some 60), .call (.func 33) [(.tmp 53), (.tmp 59)], none⟩]) (
 (.seq (
  .reg [6] [
    ⟨(some 6), .val (.const (.bool true)), none⟩]) (
 .ret))))))))))))))))
def H20 : Hint := (.two (.reg [0, 2, 1] []) (.two (.two (.reg [0, 2, 1, 10] []) (.two (.two (.reg [6] []) .leaf) .leaf)) (.two (.two (.reg [0, 2, 1, 8] []) (.two (.reg [0, 2, 1, 20] []) (.two (.two (.reg [6] []) .leaf) .leaf))) (.two (.two (.reg [0, 2, 1, 25] []) (.two (.reg [0, 2, 1] []) .leaf)) (.two (.reg [0] [(0, [], []), (1, [], []), (2, [], [1]), (3, [], [2, 1]), (4, [], [3, 2, 1]), (5, [], []), (6, [], []), (7, [], [6]), (8, [], [7, 6]), (9, [4], [8, 7, 6]), (10, [], []), (11, [], [5, 9, 8, 7, 6, 10]), (12, [4], [11, 5, 9, 8, 7, 6, 10]), (13, [], [4, 3, 2, 1, 12, 11, 5, 9, 8, 7, 6, 10]), (14, [], [0, 1, 2, 3, 4, 5, 6, 7, 8, 9, 10, 11, 12, 13]), (15, [], [14, 0, 1, 2, 3, 4, 5, 6, 7, 8, 9, 10, 11, 12, 13]), (16, [], [15, 14, 0, 1, 2, 3, 4, 5, 6, 7, 8, 9, 10, 11, 12, 13])]) (.two (.reg [0] []) (.two (.reg [] []) (.two (.reg [6] []) .leaf))))))))
def R20 : List ARes := [.tmp 6]
theorem code20 : cCode Try.prog 61 H20 (Try.f20.body.getD .skip) = some A20 := by kernel_rfl
theorem ok20 : FunOk Try.prog 20 ⟨R20, A20⟩ := ⟨Try.f20, _, H20, 61, Try.func20, by kernel_rfl, by kernel_rfl, code20, by decide, by kernel_rfl⟩
def A21 : ACode :=
 (.seq (
  .reg [4, 0, 1] [
    ⟨(some 4), .val (.const (.slice none 0 0)), none⟩]) (
 (.block 0 (
  (.loop (
   (.block 1 (
    (.seq (
     .reg [4, 0, 1, 5, 7] [
       ⟨(some 12), .val (.tmp 0), none⟩,
       ⟨(some 13), .call (.func 34) [(.tmp 12)], none⟩,
       ⟨(some 11), .val (.tmp 13), none⟩,
       ⟨(some 14), .extr (.tmp 11) 0, none⟩,
       ⟨(some 15), .extr (.tmp 11) 1, none⟩,
       ⟨(some 16), .extr (.tmp 11) 2, none⟩,
       ⟨(some 5), .val (.tmp 14), none⟩,
       ⟨(some 6), .val (.tmp 15), none⟩,
       ⟨(some 7), .val (.tmp 16), none⟩]) (
    (.seq (
     (.seq (
      .reg [4, 0, 1, 23] [
        ⟨(some 17), .val (.tmp 7), none⟩,
        ⟨(some 18), .un .not (.tmp 17), none⟩,
        ⟨(some 19), .val (.tmp 18), none⟩,
        ⟨(some 20), .val (.tmp 5), (some (19, false))⟩,
        ⟨(some 21), .val (.tmp 1), (some (19, false))⟩,
        ⟨(some 22), .bin .gtr (.tmp 20) (.tmp 21), (some (19, false))⟩,
        ⟨(some 23), .pick (.tmp 19) (.const (.bool true)) (.tmp 22), none⟩]) (
     (.cond (.tmp 23) (
      (.seq (
       .reg [4] [
         ⟨(some 24), .val (.tmp 4), none⟩,
         ⟨(some 4), .val (.tmp 24), none⟩]) (
      .ret))) (
      .skip))))) (
    (.seq (
     .reg [0, 1, 9, 4] [
       ⟨(some 26), .val (.tmp 0), none⟩,
       ⟨(some 27), .call (.func 22) [(.tmp 26)], none⟩,
       ⟨(some 25), .val (.tmp 27), none⟩,
       ⟨(some 28), .extr (.tmp 25) 0, none⟩,
       ⟨(some 29), .extr (.tmp 25) 1, none⟩,
       ⟨(some 30), .extr (.tmp 25) 2, none⟩,
       ⟨(some 8), .val (.tmp 28), none⟩,
       ⟨(some 9), .val (.tmp 29), none⟩,
       ⟨(some 10), .val (.tmp 30), none⟩]) (
    .reg [4, 0, 1] [
      ⟨(some 31), .val (.tmp 4), none⟩,
      ⟨(some 32), .val (.tmp 9), none⟩,
      ⟨(some 33), .buildSl 1 [(.string ⟨#[]⟩)] [(0, 1, (.tmp 32))], none⟩,
      ⟨(some 34), .append 1 16 (.tmp 31) (.tmp 33), none⟩,
      ⟨(some 4), .val (.tmp 34), none⟩]))))))))))))))
def H21 : Hint := (.two (.reg [4, 0, 1] []) (.one (.one (.one (.two (.reg [4, 0, 1, 5, 7] []) (.two (.two (.reg [4, 0, 1, 23] []) (.two (.two (.reg [4] []) .leaf) .leaf)) (.two (.reg [0, 1, 9, 4] []) (.reg [4, 0, 1] []))))))))
def R21 : List ARes := [.tmp 4]
theorem code21 : cCode Try.prog 35 H21 (Try.f21.body.getD .skip) = some A21 := by kernel_rfl
theorem ok21 : FunOk Try.prog 21 ⟨R21, A21⟩ := ⟨Try.f21, _, H21, 35, Try.func21, by kernel_rfl, by kernel_rfl, code21, by decide, by kernel_rfl⟩
def A22 : ACode :=
 (.seq (
  .reg [3, 0] [
    ⟨(some 2), .val (.const (.int .i64 0)), none⟩,
    ⟨(some 3), .val (.const (.string ⟨#[]⟩)), none⟩,
    ⟨(some 4), .val (.const (.bool false)), none⟩]) (
 (.seq (
  (.seq (
   .reg [3, 0, 8] [
     ⟨(some 6), .val (.tmp 0), none⟩,
     ⟨(some 7), .call (.func 23) [(.tmp 6)], none⟩,
     ⟨(some 8), .bin .eql (.tmp 7) (.const (.int .i64 0)), none⟩]) (
  (.cond (.tmp 8) (
   (.seq (
    .reg [2, 3, 4] [
      ⟨(some 9), .val (.tmp 3), none⟩,
      ⟨(some 2), .val (.const (.int .i64 0)), none⟩,
      ⟨(some 3), .val (.tmp 9), none⟩,
      ⟨(some 4), .val (.const (.bool false)), none⟩]) (
   .ret))) (
   .skip))))) (
 (.seq (
  .reg [5] [
    ⟨(some 10), .val (.tmp 0), none⟩,
    ⟨(some 11), .call (.func 35) [(.tmp 10), (.const (.int .i64 0))], none⟩,
    ⟨(some 5), .new [(.int .i64 0), (.int .i64 0), (.string ⟨#[]⟩)], none⟩,
    ⟨none, .store 3 (.tmp 5) (.tmp 11), none⟩]) (
 (.seq (
  .dreg [2, 3, 4] [
    (⟨(some 12), .fldA 0 (.tmp 5), none⟩, []),
    (⟨(some 13), .load none (.tmp 12), none⟩, []),
    (⟨(some 14), .fldA 2 (.tmp 5), none⟩, []),
    (⟨(some 15), .load none (.tmp 14), none⟩, [1]),
    (⟨(some 2), .val (.tmp 13), none⟩, []),
    (⟨(some 3), .val (.tmp 15), none⟩, []),
    (⟨(some 4), .val (.const (.bool true)), none⟩, [])]) (
 .ret))))))))
def H22 : Hint := (.two (.reg [3, 0] []) (.two (.two (.reg [3, 0, 8] []) (.two (.two (.reg [2, 3, 4] []) .leaf) .leaf)) (.two (.reg [5] []) (.two (.reg [2, 3, 4] [(0, [], []), (1, [], [0]), (2, [], []), (3, [1], [2]), (4, [], [1, 0]), (5, [], [3, 2, 4, 1, 0]), (6, [], [5, 3, 2, 4, 1, 0])]) .leaf))))
def R22 : List ARes := [.tmp 2, .tmp 3, .tmp 4]
theorem code22 : cCode Try.prog 16 H22 (Try.f22.body.getD .skip) = some A22 := by kernel_rfl
theorem ok22 : FunOk Try.prog 22 ⟨R22, A22⟩ := ⟨Try.f22, _, H22, 16, Try.func22, by kernel_rfl, by kernel_rfl, code22, by decide, by kernel_rfl⟩
def A23 : ACode :=
 (.seq (
  .reg [0] [
    ⟨(some 2), .val (.const (.int .i64 0)), none⟩]) (
 (.seq (
  (.seq (
   .reg [0, 4] [
     ⟨(some 3), .val (.tmp 0), none⟩,
     ⟨(some 4), .eqNil .ptr false (.tmp 3) (.const (.pointer none)), none⟩]) (
  (.cond (.tmp 4) (
   (.seq (
    .reg [2] [
      ⟨(some 2), .val (.const (.int .i64 0)), none⟩]) (
   .ret))) (
   .skip))))) (
 (.seq (
  .reg [2] [
    ⟨(some 5), .val (.tmp 0), none⟩,
    ⟨(some 6), .nilck (.tmp 5), none⟩,
    ⟨(some 7), .fldA 0 (.tmp 6), none⟩,
    ⟨(some 8), .load none (.tmp 7), none⟩,
    ⟨(some 9), .len .sl (.tmp 8), none⟩,
    ⟨(some 2), .val (.tmp 9), none⟩]) (
 .ret))))))
def H23 : Hint := (.two (.reg [0] []) (.two (.two (.reg [0, 4] []) (.two (.two (.reg [2] []) .leaf) .leaf)) (.two (.reg [2] []) .leaf)))
def R23 : List ARes := [.tmp 2]
theorem code23 : cCode Try.prog 10 H23 (Try.f23.body.getD .skip) = some A23 := by kernel_rfl
theorem ok23 : FunOk Try.prog 23 ⟨R23, A23⟩ := ⟨Try.f23, _, H23, 10, Try.func23, by kernel_rfl, by kernel_rfl, code23, by decide, by kernel_rfl⟩
def A24 : ACode :=
 (.seq (
  .reg [1, 0] [
    ⟨(some 4), .val (.const (.int .i64 0)), none⟩]) (
 (.seq (
  (.seq (
   .reg [9, 1, 7, 8] [
     ⟨(some 7), .val (.tmp 0), none⟩,
     ⟨(some 8), .len .sl (.tmp 7), none⟩,
     ⟨(some 9), .val (.const (.int .i64 0)), none⟩]) (
  (.block 0 (
   (.loop (
    (.seq (
     .reg [1, 7, 8, 9, 10] [
       ⟨(some 10), .bin .lss (.tmp 9) (.tmp 8), none⟩]) (
    (.seq (
     (.cond (.tmp 10) (
      .skip) (
      .exit 0))) (
    (.seq (
     (.block 1 (
      (.seq (
       .reg [5, 1, 7, 8, 9, 6] [
         ⟨(some 11), .val (.tmp 9), none⟩,
         ⟨(some 12), .idxSl 2 (.tmp 7) (.tmp 9), none⟩,
         ⟨(some 13), .load (some 2) (.tmp 12), none⟩,
         ⟨(some 6), .new [(.int .i64 0), (.int .i64 0)], none⟩,
         ⟨(some 5), .val (.tmp 11), none⟩,
         ⟨none, .store 2 (.tmp 6) (.tmp 13), none⟩]) (
      (.seq (
       .reg [5, 1, 7, 8, 9, 17] [
         ⟨(some 14), .fldA 1 (.tmp 6), none⟩,
         ⟨(some 15), .load none (.tmp 14), none⟩,
         ⟨(some 16), .val (.tmp 1), none⟩,
         ⟨(some 17), .bin .eql (.tmp 15) (.tmp 16), none⟩]) (
      (.cond (.tmp 17) (
       (.seq (
        .reg [4] [
          ⟨(some 18), .val (.tmp 5), none⟩,
          ⟨(some 4), .val (.tmp 18), none⟩]) (
       .ret))) (
       .skip))))))))) (
    .reg [9, 1, 7, 8] [
      ⟨(some 19), .bin .add (.tmp 9) (.const (.int .i64 1)), none⟩,
      ⟨(some 9), .val (.tmp 19), none⟩]))))))))))))) (
 (.seq (
  .reg [4] [
    ⟨(some 4), .val (.const (.int .i64 (-1))), none⟩]) (
 .ret))))))
def H24 : Hint := (.two (.reg [1, 0] []) (.two (.two (.reg [9, 1, 7, 8] []) (.one (.one (.two (.reg [1, 7, 8, 9, 10] []) (.two (.two .leaf .leaf) (.two (.one (.two (.reg [5, 1, 7, 8, 9, 6] []) (.two (.reg [5, 1, 7, 8, 9, 17] []) (.two (.two (.reg [4] []) .leaf) .leaf)))) (.reg [9, 1, 7, 8] []))))))) (.two (.reg [4] []) .leaf)))
def R24 : List ARes := [.tmp 4]
theorem code24 : cCode Try.prog 20 H24 (Try.f24.body.getD .skip) = some A24 := by kernel_rfl
theorem ok24 : FunOk Try.prog 24 ⟨R24, A24⟩ := ⟨Try.f24, _, H24, 20, Try.func24, by kernel_rfl, by kernel_rfl, code24, by decide, by kernel_rfl⟩
def A25 : ACode :=
 (.seq (
  .reg [1, 0] [
    ⟨(some 4), .val (.const (.slice none 0 0)), none⟩]) (
 (.seq (
  .dreg [4] [
    (⟨(some 5), .buildSl 0 [] [], none⟩, []),
    (⟨(some 6), .val (.tmp 0), none⟩, []),
    (⟨(some 7), .val (.tmp 1), none⟩, []),
    (⟨(some 8), .slice 2 (.tmp 6) none (some (.tmp 7)) none, none⟩, []),
    (⟨(some 9), .append 2 16 (.tmp 5) (.tmp 8), none⟩, []),
    (⟨(some 10), .val (.tmp 0), none⟩, []),
    (⟨(some 11), .val (.tmp 1), none⟩, []),
    (⟨(some 12), .bin .add (.tmp 11) (.const (.int .i64 1)), none⟩, []),
    (⟨(some 13), .slice 2 (.tmp 10) (some (.tmp 12)) none none, none⟩, []),
    (⟨(some 14), .append 2 16 (.tmp 9) (.tmp 13), none⟩, []),
    (⟨(some 4), .val (.tmp 14), none⟩, [])]) (
 .ret))))
def H25 : Hint := (.two (.reg [1, 0] []) (.two (.reg [4] [(0, [], []), (1, [], []), (2, [], []), (3, [], [1, 2]), (4, [], [0, 3, 1, 2]), (5, [], []), (6, [], []), (7, [], [6]), (8, [], [5, 7, 6]), (9, [], [4, 0, 3, 1, 2, 8, 5, 7, 6]), (10, [], [9, 4, 0, 3, 1, 2, 8, 5, 7, 6])]) .leaf))
def R25 : List ARes := [.tmp 4]
theorem code25 : cCode Try.prog 15 H25 (Try.f25.body.getD .skip) = some A25 := by kernel_rfl
theorem ok25 : FunOk Try.prog 25 ⟨R25, A25⟩ := ⟨Try.f25, _, H25, 15, Try.func25, by kernel_rfl, by kernel_rfl, code25, by decide, by kernel_rfl⟩
def A26 : ACode :=
 (.seq (
  .reg [1, 0, 2] [
    ⟨(some 6), .val (.const (.bool false)), none⟩]) (
 (.seq (
  (.seq (
   .reg [1, 0, 11] [
     ⟨(some 8), .val (.tmp 0), none⟩,
     ⟨(some 9), .len .sl (.tmp 8), none⟩,
     ⟨(some 10), .val (.tmp 2), none⟩,
     ⟨(some 11), .bin .neq (.tmp 9) (.tmp 10), none⟩]) (
  (.cond (.tmp 11) (
   (.seq (
    .reg [6] [
      ⟨(some 6), .val (.const (.bool false)), none⟩]) (
   .ret))) (
   .skip))))) (
 (.seq (
  (.seq (
   .reg [14, 1, 0, 13] [
     ⟨(some 12), .val (.tmp 0), none⟩,
     ⟨(some 13), .len .sl (.tmp 12), none⟩,
     ⟨(some 14), .val (.const (.int .i64 0)), none⟩]) (
  (.block 0 (
   (.loop (
    (.seq (
     .reg [1, 0, 13, 14, 15] [
       ⟨(some 15), .bin .lss (.tmp 14) (.tmp 13), none⟩]) (
    (.seq (
     (.cond (.tmp 15) (
      .skip) (
      .exit 0))) (
    (.seq (
     (.block 1 (
      (.seq (
       .reg [1, 0, 13, 14, 7] [
         ⟨(some 16), .val (.tmp 14), none⟩,
         ⟨(some 7), .val (.tmp 16), none⟩]) (
      (.seq (
       .dreg [1, 0, 13, 14, 26] [
         (⟨(some 17), .val (.tmp 0), none⟩, []),
         (⟨(some 18), .val (.tmp 7), none⟩, []),
         (⟨(some 19), .idxSl 1 (.tmp 17) (.tmp 18), none⟩, []),
         (⟨(some 20), .load none (.tmp 19), none⟩, []),
         (⟨(some 21), .val (.tmp 1), none⟩, []),
         (⟨(some 22), .val (.tmp 7), none⟩, []),
         (⟨(some 23), .idxSl 2 (.tmp 21) (.tmp 22), none⟩, []),
         (⟨(some 24), .fldA 1 (.tmp 23), none⟩, []),
         (⟨(some 25), .load none (.tmp 24), none⟩, [3]),
         (⟨(some 26), .bin .neq (.tmp 20) (.tmp 25), none⟩, [])]) (
      (.cond (.tmp 26) (
       (.seq (
        .reg [6] [
          ⟨(some 6), .val (.const (.bool false)), none⟩]) (
       .ret))) (
       .skip))))))))) (
    .reg [14, 1, 0, 13] [
      ⟨(some 27), .bin .add (.tmp 14) (.const (.int .i64 1)), none⟩,
      ⟨(some 14), .val (.tmp 27), none⟩]))))))))))))) (
 (.seq (
  .reg [6] [
    ⟨(some 6), .val (.const (.bool true)), none⟩]) (
 .ret))))))))
def H26 : Hint := (.two (.reg [1, 0, 2] []) (.two (.two (.reg [1, 0, 11] []) (.two (.two (.reg [6] []) .leaf) .leaf)) (.two (.two (.reg [14, 1, 0, 13] []) (.one (.one (.two (.reg [1, 0, 13, 14, 15] []) (.two (.two .leaf .leaf) (.two (.one (.two (.reg [1, 0, 13, 14, 7] []) (.two (.reg [1, 0, 13, 14, 26] [(0, [], []), (1, [], []), (2, [], [0, 1]), (3, [], [2, 0, 1]), (4, [], []), (5, [], []), (6, [], [4, 5]), (7, [], [6, 4, 5]), (8, [3], [7, 6, 4, 5]), (9, [], [3, 2, 0, 1, 8, 7, 6, 4, 5])]) (.two (.two (.reg [6] []) .leaf) .leaf)))) (.reg [14, 1, 0, 13] []))))))) (.two (.reg [6] []) .leaf))))
def R26 : List ARes := [.tmp 6]
theorem code26 : cCode Try.prog 28 H26 (Try.f26.body.getD .skip) = some A26 := by kernel_rfl
theorem ok26 : FunOk Try.prog 26 ⟨R26, A26⟩ := ⟨Try.f26, _, H26, 28, Try.func26, by kernel_rfl, by kernel_rfl, code26, by decide, by kernel_rfl⟩
def A27 : ACode :=
 (.seq (
  .reg [2, 1, 0] [
    ⟨(some 6), .val (.const (.slice none 0 0)), none⟩]) (
 (.seq (
  .reg [2, 1, 7, 0] [
    ⟨(some 7), .val (.const (.slice none 0 0)), none⟩]) (
 (.seq (
  .reg [2, 1, 7, 8, 0] [
    ⟨(some 8), .val (.const (.bool false)), none⟩]) (
 (.seq (
  (.seq (
   .reg [13, 2, 1, 7, 8, 11, 12] [
     ⟨(some 11), .val (.tmp 0), none⟩,
     ⟨(some 12), .len .sl (.tmp 11), none⟩,
     ⟨(some 13), .val (.const (.int .i64 0)), none⟩]) (
  (.block 0 (
   (.loop (
    (.seq (
     .reg [2, 1, 11, 12, 13, 7, 8, 14] [
       ⟨(some 14), .bin .lss (.tmp 13) (.tmp 12), none⟩]) (
    (.seq (
     (.cond (.tmp 14) (
      .skip) (
      .exit 0))) (
    (.seq (
     (.block 1 (
      (.seq (
       .reg [2, 1, 11, 12, 13, 10, 7, 8] [
         ⟨(some 15), .idxSl 2 (.tmp 11) (.tmp 13), none⟩,
         ⟨(some 16), .load (some 2) (.tmp 15), none⟩,
         ⟨(some 10), .new [(.int .i64 0), (.int .i64 0)], none⟩,
         ⟨none, .store 2 (.tmp 10) (.tmp 16), none⟩]) (
      (.seq (
       (.seq (
        .reg [2, 1, 11, 12, 13, 10, 7, 8, 24] [
          ⟨(some 17), .fldA 0 (.tmp 10), none⟩,
          ⟨(some 18), .load none (.tmp 17), none⟩,
          ⟨(some 19), .val (.tmp 1), none⟩,
          ⟨(some 20), .bin .gtr (.tmp 18) (.tmp 19), none⟩,
          ⟨(some 21), .val (.tmp 20), none⟩,
          ⟨(some 22), .val (.tmp 8), (some (21, true))⟩,
          ⟨(some 23), .un .not (.tmp 22), (some (21, true))⟩,
          ⟨(some 24), .pick (.tmp 21) (.tmp 23) (.const (.bool false)), none⟩]) (
       (.cond (.tmp 24) (
        (.seq (
         .reg [2, 1, 11, 12, 13, 10, 7] [
           ⟨(some 25), .val (.tmp 7), none⟩,
           ⟨(some 26), .val (.tmp 1), none⟩,
           ⟨(some 27), .val (.tmp 2), none⟩,
           ⟨(some 28), .build [(.int .i64 0), (.int .i64 0)] [(0, 1, (.tmp 26)), (1, 1, (.tmp 27))], none⟩,
           ⟨(some 29), .buildSl 1 [(.int .i64 0), (.int .i64 0)] [(0, 2, (.tmp 28))], none⟩,
           ⟨(some 30), .append 2 16 (.tmp 25) (.tmp 29), none⟩,
           ⟨(some 7), .val (.tmp 30), none⟩]) (
        .reg [2, 1, 8, 11, 12, 13, 10, 7] [
          ⟨(some 8), .val (.const (.bool true)), none⟩]))) (
        .skip))))) (
      .reg [2, 1, 7, 8, 11, 12, 13] [
        ⟨(some 31), .val (.tmp 7), none⟩,
        ⟨(some 32), .load (some 2) (.tmp 10), none⟩,
        ⟨(some 33), .buildSl 1 [(.int .i64 0), (.int .i64 0)] [(0, 2, (.tmp 32))], none⟩,
        ⟨(some 34), .append 2 16 (.tmp 31) (.tmp 33), none⟩,
        ⟨(some 7), .val (.tmp 34), none⟩]))))))) (
    .reg [13, 2, 1, 7, 8, 11, 12] [
      ⟨(some 35), .bin .add (.tmp 13) (.const (.int .i64 1)), none⟩,
      ⟨(some 13), .val (.tmp 35), none⟩]))))))))))))) (
 (.seq (
  (.seq (
   .reg [2, 1, 7, 37] [
     ⟨(some 36), .val (.tmp 8), none⟩,
     ⟨(some 37), .un .not (.tmp 36), none⟩]) (
  (.cond (.tmp 37) (
   .reg [7] [
     ⟨(some 38), .val (.tmp 7), none⟩,
     ⟨(some 39), .val (.tmp 1), none⟩,
     ⟨(some 40), .val (.tmp 2), none⟩,
     ⟨(some 41), .build [(.int .i64 0), (.int .i64 0)] [(0, 1, (.tmp 39)), (1, 1, (.tmp 40))], none⟩,
     ⟨(some 42), .buildSl 1 [(.int .i64 0), (.int .i64 0)] [(0, 2, (.tmp 41))], none⟩,
     ⟨(some 43), .append 2 16 (.tmp 38) (.tmp 42), none⟩,
     ⟨(some 7), .val (.tmp 43), none⟩]) (
   .skip))))) (
 (.seq (
  .reg [6] [
    ⟨(some 44), .val (.tmp 7), none⟩,
    ⟨(some 6), .val (.tmp 44), none⟩]) (
 .ret))))))))))))
def H27 : Hint := (.two (.reg [2, 1, 0] []) (.two (.reg [2, 1, 7, 0] []) (.two (.reg [2, 1, 7, 8, 0] []) (.two (.two (.reg [13, 2, 1, 7, 8, 11, 12] []) (.one (.one (.two (.reg [2, 1, 11, 12, 13, 7, 8, 14] []) (.two (.two .leaf .leaf) (.two (.one (.two (.reg [2, 1, 11, 12, 13, 10, 7, 8] []) (.two (.two (.reg [2, 1, 11, 12, 13, 10, 7, 8, 24] []) (.two (.two (.reg [2, 1, 11, 12, 13, 10, 7] []) (.reg [2, 1, 8, 11, 12, 13, 10, 7] [])) .leaf)) (.reg [2, 1, 7, 8, 11, 12, 13] [])))) (.reg [13, 2, 1, 7, 8, 11, 12] []))))))) (.two (.two (.reg [2, 1, 7, 37] []) (.two (.reg [7] []) .leaf)) (.two (.reg [6] []) .leaf))))))
def R27 : List ARes := [.tmp 6]
theorem code27 : cCode Try.prog 45 H27 (Try.f27.body.getD .skip) = some A27 := by kernel_rfl
theorem ok27 : FunOk Try.prog 27 ⟨R27, A27⟩ := ⟨Try.f27, _, H27, 45, Try.func27, by kernel_rfl, by kernel_rfl, code27, by decide, by kernel_rfl⟩
def A28 : ACode :=
 (.seq (
  .reg [1, 0] [
    ⟨(some 4), .val (.const (.slice none 0 0)), none⟩]) (
 (.seq (
  .reg [5, 1] [
    ⟨(some 6), .val (.tmp 0), none⟩,
    ⟨(some 7), .call (.func 36) [(.tmp 6)], none⟩,
    ⟨(some 5), .val (.tmp 7), none⟩]) (
 (.seq (
  .reg [5] [
    ⟨(some 8), .val (.tmp 5), none⟩,
    ⟨(some 9), .val (.tmp 1), none⟩,
    ⟨(some 10), .call (.func 37) [(.tmp 8), (.tmp 9)], none⟩]) (
 (.seq (
  .reg [4] [
    ⟨(some 11), .val (.tmp 5), none⟩,
    ⟨(some 4), .val (.tmp 11), none⟩]) (
 .ret))))))))
def H28 : Hint := (.two (.reg [1, 0] []) (.two (.reg [5, 1] []) (.two (.reg [5] []) (.two (.reg [4] []) .leaf))))
def R28 : List ARes := [.tmp 4]
theorem code28 : cCode Try.prog 12 H28 (Try.f28.body.getD .skip) = some A28 := by kernel_rfl
theorem ok28 : FunOk Try.prog 28 ⟨R28, A28⟩ := ⟨Try.f28, _, H28, 12, Try.func28, by kernel_rfl, by kernel_rfl, code28, by decide, by kernel_rfl⟩
def A29 : ACode :=
 (.seq (
  .reg [1] [
    ⟨(some 1), .box (.tmp 0), none⟩,
    ⟨(some 2), .val (.const .nilFunc), none⟩]) (
 (.seq (
  .reg [2] [
    ⟨(some 3), .mkFn (.func 38) [] [(.tmp 1)], none⟩,
    ⟨(some 2), .val (.tmp 3), none⟩]) (
 .ret))))
def H29 : Hint := (.two (.reg [1] []) (.two (.reg [2] []) .leaf))
def R29 : List ARes := [.tmp 2]
theorem code29 : cCode Try.prog 4 H29 (Try.f29.body.getD .skip) = some A29 := by kernel_rfl
theorem ok29 : FunOk Try.prog 29 ⟨R29, A29⟩ := ⟨Try.f29, _, H29, 4, Try.func29, by kernel_rfl, by kernel_rfl, code29, by decide, by kernel_rfl⟩
def A30 : ACode :=
 (.seq (
  .reg [3, 2] [
    ⟨(some 2), .box (.tmp 0), none⟩,
    ⟨(some 3), .box (.tmp 1), none⟩,
    ⟨(some 4), .val (.const (.int .i64 0)), none⟩]) (
 (.seq (
  .dreg [4] [
    (⟨(some 5), .fldA 0 (.tmp 2), none⟩, []),
    (⟨(some 6), .load none (.tmp 5), none⟩, []),
    (⟨(some 7), .fldA 0 (.tmp 3), none⟩, []),
    (⟨(some 8), .load none (.tmp 7), none⟩, [1]),
    (⟨(some 10), .fldA 1 (.tmp 2), none⟩, []),
    (⟨(some 11), .load none (.tmp 10), none⟩, [1, 3]),
    (⟨(some 12), .fldA 1 (.tmp 3), none⟩, []),
    (⟨(some 13), .load none (.tmp 12), none⟩, [1, 3, 5]),
    (⟨(some 9), .call (.func 40) [(.tmp 6), (.tmp 8)], none⟩, [5, 7]),
    (⟨(some 14), .call (.func 40) [(.tmp 11), (.tmp 13)], none⟩, []),
    (⟨(some 15), .buildSl 2 [(.int .i64 0), (.int .i64 0)] [(0, 1, (.tmp 9)), (1, 1, (.tmp 14))], none⟩, []),
    (⟨(some 16), .call (.func 39) [(.tmp 15)], none⟩, []),
    (⟨(some 4), .val (.tmp 16), none⟩, [])]) (
 .ret))))
def H30 : Hint := (.two (.reg [3, 2] []) (.two (.reg [4] [(0, [], []), (1, [], [0]), (2, [], []), (3, [1], [2]), (5, [], []), (6, [1, 3], [5]), (7, [], []), (8, [1, 3, 5], [7]), (4, [5, 7], [1, 0, 3, 2]), (9, [], [6, 5, 8, 7, 4, 1, 0, 3, 2]), (10, [], [4, 1, 0, 3, 2, 9, 6, 5, 8, 7]), (11, [], [10, 4, 1, 0, 3, 2, 9, 6, 5, 8, 7]), (12, [], [11, 10, 4, 1, 0, 3, 2, 9, 6, 5, 8, 7])]) .leaf))
def R30 : List ARes := [.tmp 4]
theorem code30 : cCode Try.prog 17 H30 (Try.f30.body.getD .skip) = some A30 := by kernel_rfl
theorem ok30 : FunOk Try.prog 30 ⟨R30, A30⟩ := ⟨Try.f30, _, H30, 17, Try.func30, by kernel_rfl, by kernel_rfl, code30, by decide, by kernel_rfl⟩
def A31 : ACode :=
 (.seq (
  .reg [1, 5, 0] [
    ⟨(some 5), .box (.tmp 2), none⟩]) (
 (.seq (
  .dreg [1, 5, 0] [
    (⟨(some 6), .val (.tmp 0), none⟩, []),
    (⟨(some 7), .nilck (.tmp 6), none⟩, []),
    (⟨(some 8), .fldA 0 (.tmp 7), none⟩, []),
    (⟨(some 9), .load none (.tmp 8), none⟩, []),
    (⟨(some 10), .val (.tmp 1), none⟩, []),
    (⟨(some 11), .load (some 3) (.tmp 5), none⟩, [3]),
    (⟨(some 12), .idxSl 3 (.tmp 9) (.tmp 10), none⟩, []),
    (⟨none, .store 3 (.tmp 12) (.tmp 11), none⟩, [])]) (
 .dreg [] [
   (⟨(some 13), .val (.tmp 0), none⟩, []),
   (⟨(some 14), .nilck (.tmp 13), none⟩, []),
   (⟨(some 15), .fldA 1 (.tmp 14), none⟩, []),
   (⟨(some 16), .load none (.tmp 15), none⟩, []),
   (⟨(some 17), .fldA 2 (.tmp 5), none⟩, []),
   (⟨(some 18), .load none (.tmp 17), none⟩, [3]),
   (⟨(some 19), .val (.tmp 1), none⟩, []),
   (⟨none, .mapUpd .int (.tmp 16) (.tmp 18) (.tmp 19), none⟩, [])]))))
def H31 : Hint := (.two (.reg [1, 5, 0] []) (.two (.reg [1, 5, 0] [(0, [], []), (1, [], [0]), (2, [], [1, 0]), (3, [], [2, 1, 0]), (4, [], []), (5, [3], []), (6, [], [3, 2, 1, 0, 4, 5]), (7, [], [6, 3, 2, 1, 0, 4, 5])]) (.reg [] [(0, [], []), (1, [], [0]), (2, [], [1, 0]), (3, [], [2, 1, 0]), (4, [], []), (5, [3], [4]), (6, [], []), (7, [], [3, 2, 1, 0, 5, 4, 6])])))
def R31 : List ARes := []
theorem code31 : cCode Try.prog 20 H31 (Try.f31.body.getD .skip) = some A31 := by kernel_rfl
theorem ok31 : FunOk Try.prog 31 ⟨R31, A31⟩ := ⟨Try.f31, _, H31, 20, Try.func31, by kernel_rfl, by kernel_rfl, code31, by decide, by kernel_rfl⟩
def A32 : ACode :=
 (.seq (
  .reg [4, 1, 0] [
    ⟨(some 6), .val (.tmp 0), none⟩,
    ⟨(some 7), .nilck (.tmp 6), none⟩,
    ⟨(some 8), .fldA 0 (.tmp 7), none⟩,
    ⟨(some 9), .load none (.tmp 8), none⟩,
    ⟨(some 10), .val (.tmp 1), none⟩,
    ⟨(some 11), .idxSl 3 (.tmp 9) (.tmp 10), none⟩,
    ⟨(some 12), .load (some 3) (.tmp 11), none⟩,
    ⟨(some 4), .new [(.int .i64 0), (.int .i64 0), (.int .i64 0)], none⟩,
    ⟨none, .store 3 (.tmp 4) (.tmp 12), none⟩]) (
 (.seq (
  (.block 0 (
   (.loop (
    (.seq (
     (.seq (
      .reg [4, 1, 0, 21] [
        ⟨(some 13), .val (.tmp 1), none⟩,
        ⟨(some 14), .bin .mul (.const (.int .i64 2)) (.tmp 13), none⟩,
        ⟨(some 15), .bin .add (.tmp 14) (.const (.int .i64 1)), none⟩,
        ⟨(some 16), .val (.tmp 0), none⟩,
        ⟨(some 17), .nilck (.tmp 16), none⟩,
        ⟨(some 18), .fldA 0 (.tmp 17), none⟩,
        ⟨(some 19), .load none (.tmp 18), none⟩,
        ⟨(some 20), .len .sl (.tmp 19), none⟩,
        ⟨(some 21), .bin .lss (.tmp 15) (.tmp 20), none⟩]) (
     (.cond (.tmp 21) (
      .skip) (
      .exit 0))))) (
    (.block 1 (
     (.seq (
      .reg [4, 1, 0, 5] [
        ⟨(some 22), .val (.tmp 1), none⟩,
        ⟨(some 23), .bin .mul (.const (.int .i64 2)) (.tmp 22), none⟩,
        ⟨(some 24), .bin .add (.tmp 23) (.const (.int .i64 1)), none⟩,
        ⟨(some 5), .val (.tmp 24), none⟩]) (
     (.seq (
      (.seq (
       .dreg [4, 1, 0, 5, 51] [
         (⟨(some 25), .val (.tmp 5), none⟩, []),
         (⟨(some 26), .bin .add (.tmp 25) (.const (.int .i64 1)), none⟩, []),
         (⟨(some 27), .val (.tmp 0), none⟩, []),
         (⟨(some 28), .nilck (.tmp 27), none⟩, []),
         (⟨(some 29), .fldA 0 (.tmp 28), none⟩, []),
         (⟨(some 30), .load none (.tmp 29), none⟩, []),
         (⟨(some 31), .len .sl (.tmp 30), none⟩, []),
         (⟨(some 32), .bin .lss (.tmp 26) (.tmp 31), none⟩, []),
         (⟨(some 33), .val (.tmp 32), none⟩, []),
         (⟨(some 34), .val (.tmp 0), (some (33, true))⟩, []),
         (⟨(some 35), .nilck (.tmp 34), (some (33, true))⟩, []),
         (⟨(some 36), .fldA 0 (.tmp 35), (some (33, true))⟩, []),
         (⟨(some 37), .load none (.tmp 36), (some (33, true))⟩, []),
         (⟨(some 38), .val (.tmp 5), (some (33, true))⟩, []),
         (⟨(some 39), .bin .add (.tmp 38) (.const (.int .i64 1)), (some (33, true))⟩, []),
         (⟨(some 40), .idxSl 3 (.tmp 37) (.tmp 39), (some (33, true))⟩, []),
         (⟨(some 41), .load (some 3) (.tmp 40), (some (33, true))⟩, []),
         (⟨(some 42), .val (.tmp 0), (some (33, true))⟩, []),
         (⟨(some 43), .nilck (.tmp 42), (some (33, true))⟩, []),
         (⟨(some 44), .fldA 0 (.tmp 43), (some (33, true))⟩, []),
         (⟨(some 45), .load none (.tmp 44), (some (33, true))⟩, [12, 16]),
         (⟨(some 46), .val (.tmp 5), (some (33, true))⟩, []),
         (⟨(some 47), .idxSl 3 (.tmp 45) (.tmp 46), (some (33, true))⟩, []),
         (⟨(some 48), .load (some 3) (.tmp 47), (some (33, true))⟩, [12, 16]),
         (⟨(some 49), .call (.func 30) [(.tmp 41), (.tmp 48)], (some (33, true))⟩, []),
         (⟨(some 50), .bin .lss (.tmp 49) (.const (.int .i64 0)), (some (33, true))⟩, []),
         (⟨(some 51), .pick (.tmp 33) (.tmp 50) (.const (.bool false)), none⟩, [])]) (
      (.cond (.tmp 51) (
       .reg [4, 1, 0, 5] [
         ⟨(some 52), .val (.tmp 5), none⟩,
         ⟨(some 53), .bin .add (.tmp 52) (.const (.int .i64 1)), none⟩,
         ⟨(some 5), .val (.tmp 53), none⟩]) (
       .skip))))) (
     (.seq (
      (.seq (
       .dreg [4, 1, 0, 5, 63] [
         (⟨(some 54), .load (some 3) (.tmp 4), none⟩, []),
         (⟨(some 55), .val (.tmp 0), none⟩, []),
         (⟨(some 56), .nilck (.tmp 55), none⟩, []),
         (⟨(some 57), .fldA 0 (.tmp 56), none⟩, []),
         (⟨(some 58), .load none (.tmp 57), none⟩, [0]),
         (⟨(some 59), .val (.tmp 5), none⟩, []),
         (⟨(some 60), .idxSl 3 (.tmp 58) (.tmp 59), none⟩, []),
         (⟨(some 61), .load (some 3) (.tmp 60), none⟩, [0]),
         (⟨(some 62), .call (.func 30) [(.tmp 54), (.tmp 61)], none⟩, []),
         (⟨(some 63), .bin .lss (.tmp 62) (.const (.int .i64 0)), none⟩, [])]) (
      (.cond (.tmp 63) (
       .exit 0) (
       .skip))))) (
     (.seq (
      .reg [4, 0, 5] [
        ⟨(some 64), .val (.tmp 0), none⟩,
        ⟨(some 65), .val (.tmp 1), none⟩,
        ⟨(some 66), .val (.tmp 0), none⟩,
        ⟨(some 67), .nilck (.tmp 66), none⟩,
        ⟨(some 68), .fldA 0 (.tmp 67), none⟩,
        ⟨(some 69), .load none (.tmp 68), none⟩,
        ⟨(some 70), .val (.tmp 5), none⟩,
        ⟨(some 71), .idxSl 3 (.tmp 69) (.tmp 70), none⟩,
        ⟨(some 72), .load (some 3) (.tmp 71), none⟩,
        ⟨(some 73), .call (.func 31) [(.tmp 64), (.tmp 65), (.tmp 72)], none⟩]) (
     .reg [4, 1, 0] [
       ⟨(some 74), .val (.tmp 5), none⟩,
       ⟨(some 1), .val (.tmp 74), none⟩]))))))))))))))))) (
 .reg [] [
   ⟨(some 75), .val (.tmp 0), none⟩,
   ⟨(some 76), .val (.tmp 1), none⟩,
   ⟨(some 77), .load (some 3) (.tmp 4), none⟩,
   ⟨(some 78), .call (.func 31) [(.tmp 75), (.tmp 76), (.tmp 77)], none⟩]))))
def H32 : Hint := (.two (.reg [4, 1, 0] []) (.two (.one (.one (.two (.two (.reg [4, 1, 0, 21] []) (.two .leaf .leaf)) (.one (.two (.reg [4, 1, 0, 5] []) (.two (.two (.reg [4, 1, 0, 5, 51] [(0, [], []), (1, [], [0]), (2, [], []), (3, [], [2]), (4, [], [3, 2]), (5, [], [4, 3, 2]), (6, [], [5, 4, 3, 2]), (7, [], [1, 0, 6, 5, 4, 3, 2]), (8, [], [7, 1, 0, 6, 5, 4, 3, 2]), (9, [], [8, 7, 1, 0, 6, 5, 4, 3, 2]), (10, [], [9, 8, 7, 1, 0, 6, 5, 4, 3, 2]), (11, [], [10, 9, 8, 7, 1, 0, 6, 5, 4, 3, 2]), (12, [], [11, 10, 9, 8, 7, 1, 0, 6, 5, 4, 3, 2]), (13, [], [8, 7, 1, 0, 6, 5, 4, 3, 2]), (14, [], [13, 8, 7, 1, 0, 6, 5, 4, 3, 2]), (15, [], [12, 11, 10, 9, 8, 7, 1, 0, 6, 5, 4, 3, 2, 14, 13]), (16, [], [15, 12, 11, 10, 9, 8, 7, 1, 0, 6, 5, 4, 3, 2, 14, 13]), (17, [], [8, 7, 1, 0, 6, 5, 4, 3, 2]), (18, [], [17, 8, 7, 1, 0, 6, 5, 4, 3, 2]), (19, [], [18, 17, 8, 7, 1, 0, 6, 5, 4, 3, 2]), (20, [12, 16], [19, 18, 17, 8, 7, 1, 0, 6, 5, 4, 3, 2]), (21, [], [8, 7, 1, 0, 6, 5, 4, 3, 2]), (22, [], [20, 19, 18, 17, 8, 7, 1, 0, 6, 5, 4, 3, 2, 21]), (23, [12, 16], [22, 20, 19, 18, 17, 8, 7, 1, 0, 6, 5, 4, 3, 2, 21]), (24, [], [16, 15, 12, 11, 10, 9, 8, 7, 1, 0, 6, 5, 4, 3, 2, 14, 13, 23, 22, 20, 19, 18, 17, 21]), (25, [], [24, 16, 15, 12, 11, 10, 9, 8, 7, 1, 0, 6, 5, 4, 3, 2, 14, 13, 23, 22, 20, 19, 18, 17, 21]), (26, [], [8, 7, 1, 0, 6, 5, 4, 3, 2, 25, 24, 16, 15, 12, 11, 10, 9, 14, 13, 23, 22, 20, 19, 18, 17, 21])]) (.two (.reg [4, 1, 0, 5] []) .leaf)) (.two (.two (.reg [4, 1, 0, 5, 63] [(0, [], []), (1, [], []), (2, [], [1]), (3, [], [2, 1]), (4, [0], [3, 2, 1]), (5, [], []), (6, [], [4, 3, 2, 1, 5]), (7, [0], [6, 4, 3, 2, 1, 5]), (8, [], [0, 7, 6, 4, 3, 2, 1, 5]), (9, [], [8, 0, 7, 6, 4, 3, 2, 1, 5])]) (.two .leaf .leaf)) (.two (.reg [4, 0, 5] []) (.reg [4, 1, 0] []))))))))) (.reg [] [])))
def R32 : List ARes := []
theorem code32 : cCode Try.prog 79 H32 (Try.f32.body.getD .skip) = some A32 := by kernel_rfl
theorem ok32 : FunOk Try.prog 32 ⟨R32, A32⟩ := ⟨Try.f32, _, H32, 79, Try.func32, by kernel_rfl, by kernel_rfl, code32, by decide, by kernel_rfl⟩
def A33 : ACode :=
 (.seq (
  .reg [1, 0, 4] [
    ⟨(some 5), .val (.tmp 0), none⟩,
    ⟨(some 6), .nilck (.tmp 5), none⟩,
    ⟨(some 7), .fldA 0 (.tmp 6), none⟩,
    ⟨(some 8), .load none (.tmp 7), none⟩,
    ⟨(some 9), .val (.tmp 1), none⟩,
    ⟨(some 10), .idxSl 3 (.tmp 8) (.tmp 9), none⟩,
    ⟨(some 11), .load (some 3) (.tmp 10), none⟩,
    ⟨(some 4), .new [(.int .i64 0), (.int .i64 0), (.string ⟨#[]⟩)], none⟩,
    ⟨none, .store 3 (.tmp 4) (.tmp 11), none⟩]) (
 (.seq (
  (.block 0 (
   (.loop (
    (.seq (
     (.seq (
      .dreg [0, 4, 1, 27] [
        (⟨(some 12), .val (.tmp 1), none⟩, []),
        (⟨(some 13), .bin .gtr (.tmp 12) (.const (.int .i64 0)), none⟩, []),
        (⟨(some 14), .val (.tmp 13), none⟩, []),
        (⟨(some 15), .load (some 3) (.tmp 4), (some (14, true))⟩, []),
        (⟨(some 16), .val (.tmp 0), (some (14, true))⟩, []),
        (⟨(some 17), .nilck (.tmp 16), (some (14, true))⟩, []),
        (⟨(some 18), .fldA 0 (.tmp 17), (some (14, true))⟩, []),
        (⟨(some 19), .load none (.tmp 18), (some (14, true))⟩, [3]),
        (⟨(some 20), .val (.tmp 1), (some (14, true))⟩, []),
        (⟨(some 21), .bin .sub (.tmp 20) (.const (.int .i64 1)), (some (14, true))⟩, []),
        (⟨(some 22), .bin .quo (.tmp 21) (.const (.int .i64 2)), (some (14, true))⟩, []),
        (⟨(some 23), .idxSl 3 (.tmp 19) (.tmp 22), (some (14, true))⟩, []),
        (⟨(some 24), .load (some 3) (.tmp 23), (some (14, true))⟩, [3]),
        (⟨(some 25), .call (.func 41) [(.tmp 15), (.tmp 24)], (some (14, true))⟩, []),
        (⟨(some 26), .bin .lss (.tmp 25) (.const (.int .i64 0)), (some (14, true))⟩, []),
        (⟨(some 27), .pick (.tmp 14) (.tmp 26) (.const (.bool false)), none⟩, [])]) (
     (.cond (.tmp 27) (
      .skip) (
      .exit 0))))) (
    (.block 1 (
     (.seq (
      .reg [0, 4, 1] [
        ⟨(some 28), .val (.tmp 0), none⟩,
        ⟨(some 29), .val (.tmp 1), none⟩,
        ⟨(some 30), .val (.tmp 0), none⟩,
        ⟨(some 31), .nilck (.tmp 30), none⟩,
        ⟨(some 32), .fldA 0 (.tmp 31), none⟩,
        ⟨(some 33), .load none (.tmp 32), none⟩,
        ⟨(some 34), .val (.tmp 1), none⟩,
        ⟨(some 35), .bin .sub (.tmp 34) (.const (.int .i64 1)), none⟩,
        ⟨(some 36), .bin .quo (.tmp 35) (.const (.int .i64 2)), none⟩,
        ⟨(some 37), .idxSl 3 (.tmp 33) (.tmp 36), none⟩,
        ⟨(some 38), .load (some 3) (.tmp 37), none⟩,
        ⟨(some 39), .call (.func 42) [(.tmp 28), (.tmp 29), (.tmp 38)], none⟩]) (
     .reg [1, 0, 4] [
       ⟨(some 40), .val (.tmp 1), none⟩,
       ⟨(some 41), .bin .sub (.tmp 40) (.const (.int .i64 1)), none⟩,
       ⟨(some 42), .bin .quo (.tmp 41) (.const (.int .i64 2)), none⟩,
       ⟨(some 1), .val (.tmp 42), none⟩]))))))))))) (
 .reg [] [
   ⟨(some 43), .val (.tmp 0), none⟩,
   ⟨(some 44), .val (.tmp 1), none⟩,
   ⟨(some 45), .load (some 3) (.tmp 4), none⟩,
   ⟨(some 46), .call (.func 42) [(.tmp 43), (.tmp 44), (.tmp 45)], none⟩]))))
def H33 : Hint := (.two (.reg [1, 0, 4] []) (.two (.one (.one (.two (.two (.reg [0, 4, 1, 27] [(0, [], []), (1, [], [0]), (2, [], [1, 0]), (3, [], [2, 1, 0]), (4, [], [2, 1, 0]), (5, [], [4, 2, 1, 0]), (6, [], [5, 4, 2, 1, 0]), (7, [3], [6, 5, 4, 2, 1, 0]), (8, [], [2, 1, 0]), (9, [], [8, 2, 1, 0]), (10, [], [9, 8, 2, 1, 0]), (11, [], [7, 6, 5, 4, 2, 1, 0, 10, 9, 8]), (12, [3], [11, 7, 6, 5, 4, 2, 1, 0, 10, 9, 8]), (13, [], [3, 2, 1, 0, 12, 11, 7, 6, 5, 4, 10, 9, 8]), (14, [], [13, 3, 2, 1, 0, 12, 11, 7, 6, 5, 4, 10, 9, 8]), (15, [], [2, 1, 0, 14, 13, 3, 12, 11, 7, 6, 5, 4, 10, 9, 8])]) (.two .leaf .leaf)) (.one (.two (.reg [0, 4, 1] []) (.reg [1, 0, 4] [])))))) (.reg [] [])))
def R33 : List ARes := []
theorem code33 : cCode Try.prog 47 H33 (Try.f33.body.getD .skip) = some A33 := by kernel_rfl
theorem ok33 : FunOk Try.prog 33 ⟨R33, A33⟩ := ⟨Try.f33, _, H33, 47, Try.func33, by kernel_rfl, by kernel_rfl, code33, by decide, by kernel_rfl⟩
def A34 : ACode :=
 (.seq (
  .reg [3, 0] [
    ⟨(some 2), .val (.const (.int .i64 0)), none⟩,
    ⟨(some 3), .val (.const (.string ⟨#[]⟩)), none⟩,
    ⟨(some 4), .val (.const (.bool false)), none⟩]) (
 (.seq (
  (.seq (
   .reg [3, 0, 7] [
     ⟨(some 5), .val (.tmp 0), none⟩,
     ⟨(some 6), .call (.func 23) [(.tmp 5)], none⟩,
     ⟨(some 7), .bin .eql (.tmp 6) (.const (.int .i64 0)), none⟩]) (
  (.cond (.tmp 7) (
   (.seq (
    .reg [2, 3, 4] [
      ⟨(some 8), .val (.tmp 3), none⟩,
      ⟨(some 2), .val (.const (.int .i64 0)), none⟩,
      ⟨(some 3), .val (.tmp 8), none⟩,
      ⟨(some 4), .val (.const (.bool false)), none⟩]) (
   .ret))) (
   .skip))))) (
 (.seq (
  .dreg [2, 3, 4] [
    (⟨(some 9), .val (.tmp 0), none⟩, []),
    (⟨(some 10), .nilck (.tmp 9), none⟩, []),
    (⟨(some 11), .fldA 0 (.tmp 10), none⟩, []),
    (⟨(some 12), .load none (.tmp 11), none⟩, []),
    (⟨(some 13), .idxSl 3 (.tmp 12) (.const (.int .i64 0)), none⟩, []),
    (⟨(some 14), .fldA 0 (.tmp 13), none⟩, []),
    (⟨(some 15), .load none (.tmp 14), none⟩, []),
    (⟨(some 16), .val (.tmp 0), none⟩, []),
    (⟨(some 17), .nilck (.tmp 16), none⟩, []),
    (⟨(some 18), .fldA 0 (.tmp 17), none⟩, []),
    (⟨(some 19), .load none (.tmp 18), none⟩, [3, 6]),
    (⟨(some 20), .idxSl 3 (.tmp 19) (.const (.int .i64 0)), none⟩, []),
    (⟨(some 21), .fldA 2 (.tmp 20), none⟩, []),
    (⟨(some 22), .load none (.tmp 21), none⟩, [3, 6]),
    (⟨(some 2), .val (.tmp 15), none⟩, []),
    (⟨(some 3), .val (.tmp 22), none⟩, []),
    (⟨(some 4), .val (.const (.bool true)), none⟩, [])]) (
 .ret))))))
def H34 : Hint := (.two (.reg [3, 0] []) (.two (.two (.reg [3, 0, 7] []) (.two (.two (.reg [2, 3, 4] []) .leaf) .leaf)) (.two (.reg [2, 3, 4] [(0, [], []), (1, [], [0]), (2, [], [1, 0]), (3, [], [2, 1, 0]), (4, [], [3, 2, 1, 0]), (5, [], [4, 3, 2, 1, 0]), (6, [], [5, 4, 3, 2, 1, 0]), (7, [], []), (8, [], [7]), (9, [], [8, 7]), (10, [3, 6], [9, 8, 7]), (11, [], [10, 9, 8, 7]), (12, [], [11, 10, 9, 8, 7]), (13, [3, 6], [12, 11, 10, 9, 8, 7]), (14, [], [6, 5, 4, 3, 2, 1, 0]), (15, [], [13, 12, 11, 10, 9, 8, 7, 14, 6, 5, 4, 3, 2, 1, 0]), (16, [], [15, 13, 12, 11, 10, 9, 8, 7, 14, 6, 5, 4, 3, 2, 1, 0])]) .leaf)))
def R34 : List ARes := [.tmp 2, .tmp 3, .tmp 4]
theorem code34 : cCode Try.prog 23 H34 (Try.f34.body.getD .skip) = some A34 := by kernel_rfl
theorem ok34 : FunOk Try.prog 34 ⟨R34, A34⟩ := ⟨Try.f34, _, H34, 23, Try.func34, by kernel_rfl, by kernel_rfl, code34, by decide, by kernel_rfl⟩
def A35 : ACode :=
 (.seq (
  .reg [4, 0, 1] [
    ⟨(some 4), .new [(.int .i64 0), (.int .i64 0), (.string ⟨#[]⟩)], none⟩]) (
 (.seq (
  .reg [4, 5, 0, 1] [
    ⟨(some 8), .val (.tmp 0), none⟩,
    ⟨(some 9), .nilck (.tmp 8), none⟩,
    ⟨(some 10), .fldA 0 (.tmp 9), none⟩,
    ⟨(some 11), .load none (.tmp 10), none⟩,
    ⟨(some 12), .val (.tmp 1), none⟩,
    ⟨(some 13), .idxSl 3 (.tmp 11) (.tmp 12), none⟩,
    ⟨(some 14), .load (some 3) (.tmp 13), none⟩,
    ⟨(some 5), .new [(.int .i64 0), (.int .i64 0), (.string ⟨#[]⟩)], none⟩,
    ⟨none, .store 3 (.tmp 5) (.tmp 14), none⟩]) (
 (.seq (
  .reg [4, 5, 0, 1, 6] [
    ⟨(some 15), .val (.tmp 0), none⟩,
    ⟨(some 16), .nilck (.tmp 15), none⟩,
    ⟨(some 17), .fldA 0 (.tmp 16), none⟩,
    ⟨(some 18), .load none (.tmp 17), none⟩,
    ⟨(some 19), .len .sl (.tmp 18), none⟩,
    ⟨(some 20), .bin .sub (.tmp 19) (.const (.int .i64 1)), none⟩,
    ⟨(some 6), .val (.tmp 20), none⟩]) (
 (.seq (
  .reg [4, 5, 7, 0, 1, 6] [
    ⟨(some 21), .val (.tmp 0), none⟩,
    ⟨(some 22), .nilck (.tmp 21), none⟩,
    ⟨(some 23), .fldA 0 (.tmp 22), none⟩,
    ⟨(some 24), .load none (.tmp 23), none⟩,
    ⟨(some 25), .val (.tmp 6), none⟩,
    ⟨(some 26), .idxSl 3 (.tmp 24) (.tmp 25), none⟩,
    ⟨(some 27), .load (some 3) (.tmp 26), none⟩,
    ⟨(some 7), .new [(.int .i64 0), (.int .i64 0), (.string ⟨#[]⟩)], none⟩,
    ⟨none, .store 3 (.tmp 7) (.tmp 27), none⟩]) (
 (.seq (
  .reg [4, 5, 7, 0, 1, 6] [
    ⟨(some 28), .val (.tmp 0), none⟩,
    ⟨(some 29), .val (.tmp 0), none⟩,
    ⟨(some 30), .nilck (.tmp 29), none⟩,
    ⟨(some 31), .fldA 0 (.tmp 30), none⟩,
    ⟨(some 32), .load none (.tmp 31), none⟩,
    ⟨(some 33), .val (.tmp 6), none⟩,
    ⟨(some 34), .slice 3 (.tmp 32) none (some (.tmp 33)) none, none⟩,
    ⟨(some 35), .nilck (.tmp 28), none⟩,
    ⟨(some 36), .fldA 0 (.tmp 35), none⟩,
    ⟨none, .store 1 (.tmp 36) (.tmp 34), none⟩]) (
 (.seq (
  .dreg [4, 5, 7, 0, 1, 6] [
    (⟨(some 37), .val (.tmp 0), none⟩, []),
    (⟨(some 38), .nilck (.tmp 37), none⟩, []),
    (⟨(some 39), .fldA 1 (.tmp 38), none⟩, []),
    (⟨(some 40), .load none (.tmp 39), none⟩, []),
    (⟨(some 41), .fldA 2 (.tmp 5), none⟩, []),
    (⟨(some 42), .load none (.tmp 41), none⟩, [3]),
    (⟨none, .delete .str (.tmp 40) (.tmp 42), none⟩, [])]) (
 (.seq (
  (.seq (
   .reg [4, 5, 7, 0, 1, 45] [
     ⟨(some 43), .val (.tmp 1), none⟩,
     ⟨(some 44), .val (.tmp 6), none⟩,
     ⟨(some 45), .bin .lss (.tmp 43) (.tmp 44), none⟩]) (
  (.cond (.tmp 45) (
   (.seq (
    .reg [4, 5, 7, 0, 1] [
      ⟨(some 46), .val (.tmp 0), none⟩,
      ⟨(some 47), .val (.tmp 1), none⟩,
      ⟨(some 48), .load (some 3) (.tmp 7), none⟩,
      ⟨(some 49), .call (.func 42) [(.tmp 46), (.tmp 47), (.tmp 48)], none⟩]) (
   (.seq (
    .reg [4, 5, 7, 0] [
      ⟨(some 50), .val (.tmp 0), none⟩,
      ⟨(some 51), .val (.tmp 1), none⟩,
      ⟨(some 52), .call (.func 33) [(.tmp 50), (.tmp 51)], none⟩]) (
   .dreg [4, 5] [
     (⟨(some 53), .val (.tmp 0), none⟩, []),
     (⟨(some 54), .val (.tmp 0), none⟩, []),
     (⟨(some 55), .nilck (.tmp 54), none⟩, []),
     (⟨(some 56), .fldA 1 (.tmp 55), none⟩, []),
     (⟨(some 57), .load none (.tmp 56), none⟩, []),
     (⟨(some 58), .fldA 2 (.tmp 7), none⟩, []),
     (⟨(some 59), .load none (.tmp 58), none⟩, [4]),
     (⟨(some 60), .lookup .str (.int .i64 0) (.tmp 57) (.tmp 59) false, none⟩, []),
     (⟨(some 61), .call (.func 43) [(.tmp 53), (.tmp 60)], none⟩, [])]))))) (
   .skip))))) (
 (.seq (
  .reg [4] [
    ⟨(some 62), .load (some 3) (.tmp 5), none⟩,
    ⟨none, .store 3 (.tmp 4) (.tmp 62), none⟩]) (
 .ret))))))))))))))))
def H35 : Hint := (.two (.reg [4, 0, 1] []) (.two (.reg [4, 5, 0, 1] []) (.two (.reg [4, 5, 0, 1, 6] []) (.two (.reg [4, 5, 7, 0, 1, 6] []) (.two (.reg [4, 5, 7, 0, 1, 6] []) (.two (.reg [4, 5, 7, 0, 1, 6] [(0, [], []), (1, [], [0]), (2, [], [1, 0]), (3, [], [2, 1, 0]), (4, [], []), (5, [3], [4]), (6, [], [3, 2, 1, 0, 5, 4])]) (.two (.two (.reg [4, 5, 7, 0, 1, 45] []) (.two (.two (.reg [4, 5, 7, 0, 1] []) (.two (.reg [4, 5, 7, 0] []) (.reg [4, 5] [(0, [], []), (1, [], []), (2, [], [1]), (3, [], [2, 1]), (4, [], [3, 2, 1]), (5, [], []), (6, [4], [5]), (7, [], [4, 3, 2, 1, 6, 5]), (8, [], [0, 7, 4, 3, 2, 1, 6, 5])]))) .leaf)) (.two (.reg [4] []) .leaf))))))))
def R35 : List ARes := [.cell 4 (some 3)]
theorem code35 : cCode Try.prog 63 H35 (Try.f35.body.getD .skip) = some A35 := by kernel_rfl
theorem ok35 : FunOk Try.prog 35 ⟨R35, A35⟩ := ⟨Try.f35, _, H35, 63, Try.func35, by kernel_rfl, by kernel_rfl, code35, by decide, by kernel_rfl⟩
def A36 : ACode :=
 (.seq (
  .reg [0] [
    ⟨(some 2), .val (.const (.slice none 0 0)), none⟩]) (
 (.seq (
  .reg [2] [
    ⟨(some 3), .val (.tmp 0), none⟩,
    ⟨(some 4), .call (.func 44) [(.const (.slice none 0 0)), (.tmp 3)], none⟩,
    ⟨(some 2), .val (.tmp 4), none⟩]) (
 .ret))))
def H36 : Hint := (.two (.reg [0] []) (.two (.reg [2] []) .leaf))
def R36 : List ARes := [.tmp 2]
theorem code36 : cCode Try.prog 5 H36 (Try.f36.body.getD .skip) = some A36 := by kernel_rfl
theorem ok36 : FunOk Try.prog 36 ⟨R36, A36⟩ := ⟨Try.f36, _, H36, 5, Try.func36, by kernel_rfl, by kernel_rfl, code36, by decide, by kernel_rfl⟩
def A37 : ACode :=
 (.seq (
  .reg [1, 4, 0] [
    ⟨(some 5), .val (.tmp 0), none⟩,
    ⟨(some 6), .len .sl (.tmp 5), none⟩,
    ⟨(some 4), .val (.tmp 6), none⟩]) (
 .reg [] [
   ⟨(some 7), .val (.tmp 0), none⟩,
   ⟨(some 8), .val (.tmp 4), none⟩,
   ⟨(some 9), .val (.tmp 4), none⟩,
   ⟨(some 10), .conv .u64 (.tmp 9), none⟩,
   ⟨(some 11), .call (.func 46) [(.tmp 10)], none⟩,
   ⟨(some 12), .val (.tmp 1), none⟩,
   ⟨(some 13), .call (.func 45) [(.tmp 7), (.const (.int .i64 0)), (.tmp 8), (.tmp 11), (.tmp 12)], none⟩]))
def H37 : Hint := (.two (.reg [1, 4, 0] []) (.reg [] []))
def R37 : List ARes := []
theorem code37 : cCode Try.prog 14 H37 (Try.f37.body.getD .skip) = some A37 := by kernel_rfl
theorem ok37 : FunOk Try.prog 37 ⟨R37, A37⟩ := ⟨Try.f37, _, H37, 14, Try.func37, by kernel_rfl, by kernel_rfl, code37, by decide, by kernel_rfl⟩
def A38 : ACode :=
 (.seq (
  .reg [7, 0, 5, 6] [
    ⟨(some 5), .load none (.tmp 1), none⟩,
    ⟨(some 6), .len .sl (.tmp 5), none⟩,
    ⟨(some 7), .val (.const (.int .i64 0)), none⟩]) (
 (.block 0 (
  (.loop (
   (.seq (
    .reg [0, 5, 6, 7, 8] [
      ⟨(some 8), .bin .lss (.tmp 7) (.tmp 6), none⟩]) (
   (.seq (
    (.cond (.tmp 8) (
     .skip) (
     .exit 0))) (
   (.seq (
    (.block 1 (
     (.seq (
      .reg [0, 5, 6, 7, 4] [
        ⟨(some 9), .idxSl 3 (.tmp 5) (.tmp 7), none⟩,
        ⟨(some 10), .load (some 3) (.tmp 9), none⟩,
        ⟨(some 4), .new [(.int .i64 0), (.int .i64 0), (.int .i64 0)], none⟩,
        ⟨none, .store 3 (.tmp 4) (.tmp 10), none⟩]) (
     (.seq (
      .reg [0, 5, 6, 7, 14] [
        ⟨(some 11), .val (.tmp 0), none⟩,
        ⟨(some 12), .load (some 3) (.tmp 4), none⟩,
        ⟨(some 13), .call (.tmp 11) [(.tmp 12)], none⟩,
        ⟨(some 14), .un .not (.tmp 13), none⟩]) (
     (.cond (.tmp 14) (
      .ret) (
      .skip))))))))) (
   .reg [7, 0, 5, 6] [
     ⟨(some 15), .bin .add (.tmp 7) (.const (.int .i64 1)), none⟩,
     ⟨(some 7), .val (.tmp 15), none⟩]))))))))))))
def H38 : Hint := (.two (.reg [7, 0, 5, 6] []) (.one (.one (.two (.reg [0, 5, 6, 7, 8] []) (.two (.two .leaf .leaf) (.two (.one (.two (.reg [0, 5, 6, 7, 4] []) (.two (.reg [0, 5, 6, 7, 14] []) (.two .leaf .leaf)))) (.reg [7, 0, 5, 6] [])))))))
def R38 : List ARes := []
theorem code38 : cCode Try.prog 16 H38 (Try.f38.body.getD .skip) = some A38 := by kernel_rfl
theorem ok38 : FunOk Try.prog 38 ⟨R38, A38⟩ := ⟨Try.f38, _, H38, 16, Try.func38, by kernel_rfl, by kernel_rfl, code38, by decide, by kernel_rfl⟩
def A39 : ACode :=
 (.seq (
  .reg [0] [
    ⟨(some 2), .val (.const (.int .i64 0)), none⟩]) (
 (.seq (
  .reg [3, 0] [
    ⟨(some 3), .val (.const (.int .i64 0)), none⟩]) (
 (.seq (
  (.seq (
   .reg [8, 3, 6, 7] [
     ⟨(some 6), .val (.tmp 0), none⟩,
     ⟨(some 7), .len .sl (.tmp 6), none⟩,
     ⟨(some 8), .val (.const (.int .i64 0)), none⟩]) (
  (.block 0 (
   (.loop (
    (.seq (
     .reg [3, 6, 7, 8, 9] [
       ⟨(some 9), .bin .lss (.tmp 8) (.tmp 7), none⟩]) (
    (.seq (
     (.cond (.tmp 9) (
      .skip) (
      .exit 0))) (
    (.seq (
     (.block 1 (
      (.seq (
       .reg [5, 3, 6, 7, 8] [
         ⟨(some 10), .idxSl 1 (.tmp 6) (.tmp 8), none⟩,
         ⟨(some 11), .load none (.tmp 10), none⟩,
         ⟨(some 5), .val (.tmp 11), none⟩]) (
      (.seq (
       .reg [5, 3, 6, 7, 8, 14] [
         ⟨(some 12), .val (.tmp 5), none⟩,
         ⟨(some 13), .val (.tmp 3), none⟩,
         ⟨(some 14), .bin .neq (.tmp 12) (.tmp 13), none⟩]) (
      (.cond (.tmp 14) (
       (.seq (
        .reg [2] [
          ⟨(some 15), .val (.tmp 5), none⟩,
          ⟨(some 2), .val (.tmp 15), none⟩]) (
       .ret))) (
       .skip))))))))) (
    .reg [8, 3, 6, 7] [
      ⟨(some 16), .bin .add (.tmp 8) (.const (.int .i64 1)), none⟩,
      ⟨(some 8), .val (.tmp 16), none⟩]))))))))))))) (
 (.seq (
  .reg [2] [
    ⟨(some 17), .val (.tmp 3), none⟩,
    ⟨(some 2), .val (.tmp 17), none⟩]) (
 .ret))))))))
def H39 : Hint := (.two (.reg [0] []) (.two (.reg [3, 0] []) (.two (.two (.reg [8, 3, 6, 7] []) (.one (.one (.two (.reg [3, 6, 7, 8, 9] []) (.two (.two .leaf .leaf) (.two (.one (.two (.reg [5, 3, 6, 7, 8] []) (.two (.reg [5, 3, 6, 7, 8, 14] []) (.two (.two (.reg [2] []) .leaf) .leaf)))) (.reg [8, 3, 6, 7] []))))))) (.two (.reg [2] []) .leaf))))
def R39 : List ARes := [.tmp 2]
theorem code39 : cCode Try.prog 18 H39 (Try.f39.body.getD .skip) = some A39 := by kernel_rfl
theorem ok39 : FunOk Try.prog 39 ⟨R39, A39⟩ := ⟨Try.f39, _, H39, 18, Try.func39, by kernel_rfl, by kernel_rfl, code39, by decide, by kernel_rfl⟩
def A40 : ACode :=
 (.seq (
  .reg [1, 0] [
    ⟨(some 4), .val (.const (.int .i64 0)), none⟩]) (
 (.seq (
  .reg [1, 0, 5] [
    ⟨(some 7), .val (.tmp 0), none⟩,
    ⟨(some 8), .call (.func 47) [(.tmp 7)], none⟩,
    ⟨(some 5), .val (.tmp 8), none⟩]) (
 (.seq (
  .reg [6, 1, 0, 5] [
    ⟨(some 9), .val (.tmp 1), none⟩,
    ⟨(some 10), .call (.func 47) [(.tmp 9)], none⟩,
    ⟨(some 6), .val (.tmp 10), none⟩]) (
 (.seq (
  (.seq (
   .reg [6, 1, 0, 11] [
     ⟨(some 11), .val (.tmp 5), none⟩]) (
  (.cond (.tmp 11) (
   (.seq (
    (.seq (
     .reg [12] [
       ⟨(some 12), .val (.tmp 6), none⟩]) (
    (.cond (.tmp 12) (
     (.seq (
      .reg [4] [
        ⟨(some 4), .val (.const (.int .i64 0)), none⟩]) (
     .ret))) (
     .skip))))) (
   (.seq (
    .reg [4] [
      ⟨(some 4), .val (.const (.int .i64 (-1))), none⟩]) (
   .ret))))) (
   .skip))))) (
 (.seq (
  (.seq (
   .reg [1, 0, 13] [
     ⟨(some 13), .val (.tmp 6), none⟩]) (
  (.cond (.tmp 13) (
   (.seq (
    .reg [4] [
      ⟨(some 4), .val (.const (.int .i64 1)), none⟩]) (
   .ret))) (
   .skip))))) (
 (.seq (
  (.seq (
   .reg [1, 0, 16] [
     ⟨(some 14), .val (.tmp 0), none⟩,
     ⟨(some 15), .val (.tmp 1), none⟩,
     ⟨(some 16), .bin .lss (.tmp 14) (.tmp 15), none⟩]) (
  (.cond (.tmp 16) (
   (.seq (
    .reg [4] [
      ⟨(some 4), .val (.const (.int .i64 (-1))), none⟩]) (
   .ret))) (
   .skip))))) (
 (.seq (
  (.seq (
   .reg [19] [
     ⟨(some 17), .val (.tmp 0), none⟩,
     ⟨(some 18), .val (.tmp 1), none⟩,
     ⟨(some 19), .bin .gtr (.tmp 17) (.tmp 18), none⟩]) (
  (.cond (.tmp 19) (
   (.seq (
    .reg [4] [
      ⟨(some 4), .val (.const (.int .i64 1)), none⟩]) (
   .ret))) (
   .skip))))) (
 (.seq (
  .reg [4] [
    ⟨(some 4), .val (.const (.int .i64 0)), none⟩]) (
 .ret))))))))))))))))
def H40 : Hint := (.two (.reg [1, 0] []) (.two (.reg [1, 0, 5] []) (.two (.reg [6, 1, 0, 5] []) (.two (.two (.reg [6, 1, 0, 11] []) (.two (.two (.two (.reg [12] []) (.two (.two (.reg [4] []) .leaf) .leaf)) (.two (.reg [4] []) .leaf)) .leaf)) (.two (.two (.reg [1, 0, 13] []) (.two (.two (.reg [4] []) .leaf) .leaf)) (.two (.two (.reg [1, 0, 16] []) (.two (.two (.reg [4] []) .leaf) .leaf)) (.two (.two (.reg [19] []) (.two (.two (.reg [4] []) .leaf) .leaf)) (.two (.reg [4] []) .leaf))))))))
def R40 : List ARes := [.tmp 4]
theorem code40 : cCode Try.prog 20 H40 (Try.f40.body.getD .skip) = some A40 := by kernel_rfl
theorem ok40 : FunOk Try.prog 40 ⟨R40, A40⟩ := ⟨Try.f40, _, H40, 20, Try.func40, by kernel_rfl, by kernel_rfl, code40, by decide, by kernel_rfl⟩
def A41 : ACode :=
 (.seq (
  .reg [3, 2] [
    ⟨(some 2), .box (.tmp 0), none⟩,
    ⟨(some 3), .box (.tmp 1), none⟩,
    ⟨(some 4), .val (.const (.int .i64 0)), none⟩]) (
 (.seq (
  .dreg [4] [
    (⟨(some 5), .fldA 0 (.tmp 2), none⟩, []),
    (⟨(some 6), .load none (.tmp 5), none⟩, []),
    (⟨(some 7), .fldA 0 (.tmp 3), none⟩, []),
    (⟨(some 8), .load none (.tmp 7), none⟩, [1]),
    (⟨(some 10), .fldA 1 (.tmp 2), none⟩, []),
    (⟨(some 11), .load none (.tmp 10), none⟩, [1, 3]),
    (⟨(some 12), .fldA 1 (.tmp 3), none⟩, []),
    (⟨(some 13), .load none (.tmp 12), none⟩, [1, 3, 5]),
    (⟨(some 9), .call (.func 40) [(.tmp 6), (.tmp 8)], none⟩, [5, 7]),
    (⟨(some 14), .call (.func 40) [(.tmp 11), (.tmp 13)], none⟩, []),
    (⟨(some 15), .buildSl 2 [(.int .i64 0), (.int .i64 0)] [(0, 1, (.tmp 9)), (1, 1, (.tmp 14))], none⟩, []),
    (⟨(some 16), .call (.func 39) [(.tmp 15)], none⟩, []),
    (⟨(some 4), .val (.tmp 16), none⟩, [])]) (
 .ret))))
def H41 : Hint := (.two (.reg [3, 2] []) (.two (.reg [4] [(0, [], []), (1, [], [0]), (2, [], []), (3, [1], [2]), (5, [], []), (6, [1, 3], [5]), (7, [], []), (8, [1, 3, 5], [7]), (4, [5, 7], [1, 0, 3, 2]), (9, [], [6, 5, 8, 7, 4, 1, 0, 3, 2]), (10, [], [4, 1, 0, 3, 2, 9, 6, 5, 8, 7]), (11, [], [10, 4, 1, 0, 3, 2, 9, 6, 5, 8, 7]), (12, [], [11, 10, 4, 1, 0, 3, 2, 9, 6, 5, 8, 7])]) .leaf))
def R41 : List ARes := [.tmp 4]
theorem code41 : cCode Try.prog 17 H41 (Try.f41.body.getD .skip) = some A41 := by kernel_rfl
theorem ok41 : FunOk Try.prog 41 ⟨R41, A41⟩ := ⟨Try.f41, _, H41, 17, Try.func41, by kernel_rfl, by kernel_rfl, code41, by decide, by kernel_rfl⟩
def A42 : ACode :=
 (.seq (
  .reg [1, 5, 0] [
    ⟨(some 5), .box (.tmp 2), none⟩]) (
 (.seq (
  .dreg [1, 5, 0] [
    (⟨(some 6), .val (.tmp 0), none⟩, []),
    (⟨(some 7), .nilck (.tmp 6), none⟩, []),
    (⟨(some 8), .fldA 0 (.tmp 7), none⟩, []),
    (⟨(some 9), .load none (.tmp 8), none⟩, []),
    (⟨(some 10), .val (.tmp 1), none⟩, []),
    (⟨(some 11), .load (some 3) (.tmp 5), none⟩, [3]),
    (⟨(some 12), .idxSl 3 (.tmp 9) (.tmp 10), none⟩, []),
    (⟨none, .store 3 (.tmp 12) (.tmp 11), none⟩, [])]) (
 .dreg [] [
   (⟨(some 13), .val (.tmp 0), none⟩, []),
   (⟨(some 14), .nilck (.tmp 13), none⟩, []),
   (⟨(some 15), .fldA 1 (.tmp 14), none⟩, []),
   (⟨(some 16), .load none (.tmp 15), none⟩, []),
   (⟨(some 17), .fldA 2 (.tmp 5), none⟩, []),
   (⟨(some 18), .load none (.tmp 17), none⟩, [3]),
   (⟨(some 19), .val (.tmp 1), none⟩, []),
   (⟨none, .mapUpd .str (.tmp 16) (.tmp 18) (.tmp 19), none⟩, [])]))))
def H42 : Hint := (.two (.reg [1, 5, 0] []) (.two (.reg [1, 5, 0] [(0, [], []), (1, [], [0]), (2, [], [1, 0]), (3, [], [2, 1, 0]), (4, [], []), (5, [3], []), (6, [], [3, 2, 1, 0, 4, 5]), (7, [], [6, 3, 2, 1, 0, 4, 5])]) (.reg [] [(0, [], []), (1, [], [0]), (2, [], [1, 0]), (3, [], [2, 1, 0]), (4, [], []), (5, [3], [4]), (6, [], []), (7, [], [3, 2, 1, 0, 5, 4, 6])])))
def R42 : List ARes := []
theorem code42 : cCode Try.prog 20 H42 (Try.f42.body.getD .skip) = some A42 := by kernel_rfl
theorem ok42 : FunOk Try.prog 42 ⟨R42, A42⟩ := ⟨Try.f42, _, H42, 20, Try.func42, by kernel_rfl, by kernel_rfl, code42, by decide, by kernel_rfl⟩
def A43 : ACode :=
 (.seq (
  .reg [4, 1, 0] [
    ⟨(some 6), .val (.tmp 0), none⟩,
    ⟨(some 7), .nilck (.tmp 6), none⟩,
    ⟨(some 8), .fldA 0 (.tmp 7), none⟩,
    ⟨(some 9), .load none (.tmp 8), none⟩,
    ⟨(some 10), .val (.tmp 1), none⟩,
    ⟨(some 11), .idxSl 3 (.tmp 9) (.tmp 10), none⟩,
    ⟨(some 12), .load (some 3) (.tmp 11), none⟩,
    ⟨(some 4), .new [(.int .i64 0), (.int .i64 0), (.string ⟨#[]⟩)], none⟩,
    ⟨none, .store 3 (.tmp 4) (.tmp 12), none⟩]) (
 (.seq (
  (.block 0 (
   (.loop (
    (.seq (
     (.seq (
      .reg [4, 1, 0, 21] [
        ⟨(some 13), .val (.tmp 1), none⟩,
        ⟨(some 14), .bin .mul (.const (.int .i64 2)) (.tmp 13), none⟩,
        ⟨(some 15), .bin .add (.tmp 14) (.const (.int .i64 1)), none⟩,
        ⟨(some 16), .val (.tmp 0), none⟩,
        ⟨(some 17), .nilck (.tmp 16), none⟩,
        ⟨(some 18), .fldA 0 (.tmp 17), none⟩,
        ⟨(some 19), .load none (.tmp 18), none⟩,
        ⟨(some 20), .len .sl (.tmp 19), none⟩,
        ⟨(some 21), .bin .lss (.tmp 15) (.tmp 20), none⟩]) (
     (.cond (.tmp 21) (
      .skip) (
      .exit 0))))) (
    (.block 1 (
     (.seq (
      .reg [4, 1, 0, 5] [
        ⟨(some 22), .val (.tmp 1), none⟩,
        ⟨(some 23), .bin .mul (.const (.int .i64 2)) (.tmp 22), none⟩,
        ⟨(some 24), .bin .add (.tmp 23) (.const (.int .i64 1)), none⟩,
        ⟨(some 5), .val (.tmp 24), none⟩]) (
     (.seq (
      (.seq (
       .dreg [4, 1, 0, 5, 51] [
         (⟨(some 25), .val (.tmp 5), none⟩, []),
         (⟨(some 26), .bin .add (.tmp 25) (.const (.int .i64 1)), none⟩, []),
         (⟨(some 27), .val (.tmp 0), none⟩, []),
         (⟨(some 28), .nilck (.tmp 27), none⟩, []),
         (⟨(some 29), .fldA 0 (.tmp 28), none⟩, []),
         (⟨(some 30), .load none (.tmp 29), none⟩, []),
         (⟨(some 31), .len .sl (.tmp 30), none⟩, []),
         (⟨(some 32), .bin .lss (.tmp 26) (.tmp 31), none⟩, []),
         (⟨(some 33), .val (.tmp 32), none⟩, []),
         (⟨(some 34), .val (.tmp 0), (some (33, true))⟩, []),
         (⟨(some 35), .nilck (.tmp 34), (some (33, true))⟩, []),
         (⟨(some 36), .fldA 0 (.tmp 35), (some (33, true))⟩, []),
         (⟨(some 37), .load none (.tmp 36), (some (33, true))⟩, []),
         (⟨(some 38), .val (.tmp 5), (some (33, true))⟩, []),
         (⟨(some 39), .bin .add (.tmp 38) (.const (.int .i64 1)), (some (33, true))⟩, []),
         (⟨(some 40), .idxSl 3 (.tmp 37) (.tmp 39), (some (33, true))⟩, []),
         (⟨(some 41), .load (some 3) (.tmp 40), (some (33, true))⟩, []),
         (⟨(some 42), .val (.tmp 0), (some (33, true))⟩, []),
         (⟨(some 43), .nilck (.tmp 42), (some (33, true))⟩, []),
         (⟨(some 44), .fldA 0 (.tmp 43), (some (33, true))⟩, []),
         (⟨(some 45), .load none (.tmp 44), (some (33, true))⟩, [12, 16]),
         (⟨(some 46), .val (.tmp 5), (some (33, true))⟩, []),
         (⟨(some 47), .idxSl 3 (.tmp 45) (.tmp 46), (some (33, true))⟩, []),
         (⟨(some 48), .load (some 3) (.tmp 47), (some (33, true))⟩, [12, 16]),
         (⟨(some 49), .call (.func 41) [(.tmp 41), (.tmp 48)], (some (33, true))⟩, []),
         (⟨(some 50), .bin .lss (.tmp 49) (.const (.int .i64 0)), (some (33, true))⟩, []),
         (⟨(some 51), .pick (.tmp 33) (.tmp 50) (.const (.bool false)), none⟩, [])]) (
      (.cond (.tmp 51) (
       .reg [4, 1, 0, 5] [
         ⟨(some 52), .val (.tmp 5), none⟩,
         ⟨(some 53), .bin .add (.tmp 52) (.const (.int .i64 1)), none⟩,
         ⟨(some 5), .val (.tmp 53), none⟩]) (
       .skip))))) (
     (.seq (
      (.seq (
       .dreg [4, 1, 0, 5, 63] [
         (⟨(some 54), .load (some 3) (.tmp 4), none⟩, []),
         (⟨(some 55), .val (.tmp 0), none⟩, []),
         (⟨(some 56), .nilck (.tmp 55), none⟩, []),
         (⟨(some 57), .fldA 0 (.tmp 56), none⟩, []),
         (⟨(some 58), .load none (.tmp 57), none⟩, [0]),
         (⟨(some 59), .val (.tmp 5), none⟩, []),
         (⟨(some 60), .idxSl 3 (.tmp 58) (.tmp 59), none⟩, []),
         (⟨(some 61), .load (some 3) (.tmp 60), none⟩, [0]),
         (⟨(some 62), .call (.func 41) [(.tmp 54), (.tmp 61)], none⟩, []),
         (⟨(some 63), .bin .lss (.tmp 62) (.const (.int .i64 0)), none⟩, [])]) (
      (.cond (.tmp 63) (
       .exit 0) (
       .skip))))) (
     (.seq (
      .reg [4, 0, 5] [
        ⟨(some 64), .val (.tmp 0), none⟩,
        ⟨(some 65), .val (.tmp 1), none⟩,
        ⟨(some 66), .val (.tmp 0), none⟩,
        ⟨(some 67), .nilck (.tmp 66), none⟩,
        ⟨(some 68), .fldA 0 (.tmp 67), none⟩,
        ⟨(some 69), .load none (.tmp 68), none⟩,
        ⟨(some 70), .val (.tmp 5), none⟩,
        ⟨(some 71), .idxSl 3 (.tmp 69) (.tmp 70), none⟩,
        ⟨(some 72), .load (some 3) (.tmp 71), none⟩,
        ⟨(some 73), .call (.func 42) [(.tmp 64), (.tmp 65), (.tmp 72)], none⟩]) (
     .reg [4, 1, 0] [
       ⟨(some 74), .val (.tmp 5), none⟩,
       ⟨(some 1), .val (.tmp 74), none⟩]))))))))))))))))) (
 .reg [] [
   ⟨(some 75), .val (.tmp 0), none⟩,
   ⟨(some 76), .val (.tmp 1), none⟩,
   ⟨(some 77), .load (some 3) (.tmp 4), none⟩,
   ⟨(some 78), .call (.func 42) [(.tmp 75), (.tmp 76), (.tmp 77)], none⟩]))))
def H43 : Hint := (.two (.reg [4, 1, 0] []) (.two (.one (.one (.two (.two (.reg [4, 1, 0, 21] []) (.two .leaf .leaf)) (.one (.two (.reg [4, 1, 0, 5] []) (.two (.two (.reg [4, 1, 0, 5, 51] [(0, [], []), (1, [], [0]), (2, [], []), (3, [], [2]), (4, [], [3, 2]), (5, [], [4, 3, 2]), (6, [], [5, 4, 3, 2]), (7, [], [1, 0, 6, 5, 4, 3, 2]), (8, [], [7, 1, 0, 6, 5, 4, 3, 2]), (9, [], [8, 7, 1, 0, 6, 5, 4, 3, 2]), (10, [], [9, 8, 7, 1, 0, 6, 5, 4, 3, 2]), (11, [], [10, 9, 8, 7, 1, 0, 6, 5, 4, 3, 2]), (12, [], [11, 10, 9, 8, 7, 1, 0, 6, 5, 4, 3, 2]), (13, [], [8, 7, 1, 0, 6, 5, 4, 3, 2]), (14, [], [13, 8, 7, 1, 0, 6, 5, 4, 3, 2]), (15, [], [12, 11, 10, 9, 8, 7, 1, 0, 6, 5, 4, 3, 2, 14, 13]), (16, [], [15, 12, 11, 10, 9, 8, 7, 1, 0, 6, 5, 4, 3, 2, 14, 13]), (17, [], [8, 7, 1, 0, 6, 5, 4, 3, 2]), (18, [], [17, 8, 7, 1, 0, 6, 5, 4, 3, 2]), (19, [], [18, 17, 8, 7, 1, 0, 6, 5, 4, 3, 2]), (20, [12, 16], [19, 18, 17, 8, 7, 1, 0, 6, 5, 4, 3, 2]), (21, [], [8, 7, 1, 0, 6, 5, 4, 3, 2]), (22, [], [20, 19, 18, 17, 8, 7, 1, 0, 6, 5, 4, 3, 2, 21]), (23, [12, 16], [22, 20, 19, 18, 17, 8, 7, 1, 0, 6, 5, 4, 3, 2, 21]), (24, [], [16, 15, 12, 11, 10, 9, 8, 7, 1, 0, 6, 5, 4, 3, 2, 14, 13, 23, 22, 20, 19, 18, 17, 21]), (25, [], [24, 16, 15, 12, 11, 10, 9, 8, 7, 1, 0, 6, 5, 4, 3, 2, 14, 13, 23, 22, 20, 19, 18, 17, 21]), (26, [], [8, 7, 1, 0, 6, 5, 4, 3, 2, 25, 24, 16, 15, 12, 11, 10, 9, 14, 13, 23, 22, 20, 19, 18, 17, 21])]) (.two (.reg [4, 1, 0, 5] []) .leaf)) (.two (.two (.reg [4, 1, 0, 5, 63] [(0, [], []), (1, [], []), (2, [], [1]), (3, [], [2, 1]), (4, [0], [3, 2, 1]), (5, [], []), (6, [], [4, 3, 2, 1, 5]), (7, [0], [6, 4, 3, 2, 1, 5]), (8, [], [0, 7, 6, 4, 3, 2, 1, 5]), (9, [], [8, 0, 7, 6, 4, 3, 2, 1, 5])]) (.two .leaf .leaf)) (.two (.reg [4, 0, 5] []) (.reg [4, 1, 0] []))))))))) (.reg [] [])))
def R43 : List ARes := []
theorem code43 : cCode Try.prog 79 H43 (Try.f43.body.getD .skip) = some A43 := by kernel_rfl
theorem ok43 : FunOk Try.prog 43 ⟨R43, A43⟩ := ⟨Try.f43, _, H43, 79, Try.func43, by kernel_rfl, by kernel_rfl, code43, by decide, by kernel_rfl⟩
def A45 : ACode :=
 (.seq (
  .reg [4, 2, 1, 0, 10, 3] [
    ⟨(some 10), .val (.const (.bool true)), none⟩]) (
 (.seq (
  .reg [4, 2, 1, 0, 11, 10, 3] [
    ⟨(some 11), .val (.const (.bool true)), none⟩]) (
 (.block 0 (
  (.loop (
   (.block 1 (
    (.seq (
     .reg [4, 2, 1, 0, 11, 10, 12, 3] [
       ⟨(some 21), .val (.tmp 2), none⟩,
       ⟨(some 22), .val (.tmp 1), none⟩,
       ⟨(some 23), .bin .sub (.tmp 21) (.tmp 22), none⟩,
       ⟨(some 12), .val (.tmp 23), none⟩]) (
    (.seq (
     (.seq (
      .reg [4, 2, 1, 0, 11, 10, 12, 3, 25] [
        ⟨(some 24), .val (.tmp 12), none⟩,
        ⟨(some 25), .bin .leq (.tmp 24) (.const (.int .i64 12)), none⟩]) (
     (.cond (.tmp 25) (
      (.seq (
       .reg [] [
         ⟨(some 26), .val (.tmp 0), none⟩,
         ⟨(some 27), .val (.tmp 1), none⟩,
         ⟨(some 28), .val (.tmp 2), none⟩,
         ⟨(some 29), .val (.tmp 4), none⟩,
         ⟨(some 30), .call (.func 48) [(.tmp 26), (.tmp 27), (.tmp 28), (.tmp 29)], none⟩]) (
      .ret))) (
      .skip))))) (
    (.seq (
     (.seq (
      .reg [4, 2, 1, 0, 11, 10, 12, 3, 32] [
        ⟨(some 31), .val (.tmp 3), none⟩,
        ⟨(some 32), .bin .eql (.tmp 31) (.const (.int .i64 0)), none⟩]) (
     (.cond (.tmp 32) (
      (.seq (
       .reg [] [
         ⟨(some 33), .val (.tmp 0), none⟩,
         ⟨(some 34), .val (.tmp 1), none⟩,
         ⟨(some 35), .val (.tmp 2), none⟩,
         ⟨(some 36), .val (.tmp 4), none⟩,
         ⟨(some 37), .call (.func 49) [(.tmp 33), (.tmp 34), (.tmp 35), (.tmp 36)], none⟩]) (
      .ret))) (
      .skip))))) (
    (.seq (
     (.seq (
      .reg [4, 2, 0, 11, 10, 1, 12, 3, 39] [
        ⟨(some 38), .val (.tmp 10), none⟩,
        ⟨(some 39), .un .not (.tmp 38), none⟩]) (
     (.cond (.tmp 39) (
      (.seq (
       .reg [4, 2, 0, 11, 10, 1, 12, 3] [
         ⟨(some 40), .val (.tmp 0), none⟩,
         ⟨(some 41), .val (.tmp 1), none⟩,
         ⟨(some 42), .val (.tmp 2), none⟩,
         ⟨(some 43), .val (.tmp 4), none⟩,
         ⟨(some 44), .call (.func 50) [(.tmp 40), (.tmp 41), (.tmp 42), (.tmp 43)], none⟩]) (
      .reg [4, 2, 0, 11, 10, 3, 1, 12] [
        ⟨(some 45), .val (.tmp 3), none⟩,
        ⟨(some 46), .bin .sub (.tmp 45) (.const (.int .i64 1)), none⟩,
        ⟨(some 3), .val (.tmp 46), none⟩]))) (
      .skip))))) (
    (.seq (
     .reg [4, 2, 0, 11, 10, 3, 1, 12, 13, 14] [
       ⟨(some 48), .val (.tmp 0), none⟩,
       ⟨(some 49), .val (.tmp 1), none⟩,
       ⟨(some 50), .val (.tmp 2), none⟩,
       ⟨(some 51), .val (.tmp 4), none⟩,
       ⟨(some 52), .call (.func 51) [(.tmp 48), (.tmp 49), (.tmp 50), (.tmp 51)], none⟩,
       ⟨(some 47), .val (.tmp 52), none⟩,
       ⟨(some 53), .extr (.tmp 47) 0, none⟩,
       ⟨(some 54), .extr (.tmp 47) 1, none⟩,
       ⟨(some 13), .val (.tmp 53), none⟩,
       ⟨(some 14), .val (.tmp 54), none⟩]) (
    (.seq (
     (.seq (
      .reg [4, 2, 0, 11, 10, 3, 1, 12, 13, 14, 56] [
        ⟨(some 55), .val (.tmp 14), none⟩,
        ⟨(some 56), .bin .eql (.tmp 55) (.const (.int .i64 2)), none⟩]) (
     (.cond (.tmp 56) (
      (.seq (
       .reg [4, 2, 0, 11, 10, 3, 1, 12, 13] [
         ⟨(some 57), .val (.tmp 0), none⟩,
         ⟨(some 58), .val (.tmp 1), none⟩,
         ⟨(some 59), .val (.tmp 2), none⟩,
         ⟨(some 60), .val (.tmp 4), none⟩,
         ⟨(some 61), .call (.func 52) [(.tmp 57), (.tmp 58), (.tmp 59), (.tmp 60)], none⟩]) (
      (.seq (
       .reg [4, 2, 0, 11, 10, 3, 13, 1, 12] [
         ⟨(some 62), .val (.tmp 2), none⟩,
         ⟨(some 63), .bin .sub (.tmp 62) (.const (.int .i64 1)), none⟩,
         ⟨(some 64), .val (.tmp 13), none⟩,
         ⟨(some 65), .val (.tmp 1), none⟩,
         ⟨(some 66), .bin .sub (.tmp 64) (.tmp 65), none⟩,
         ⟨(some 67), .bin .sub (.tmp 63) (.tmp 66), none⟩,
         ⟨(some 13), .val (.tmp 67), none⟩]) (
      .reg [4, 2, 0, 11, 10, 3, 13, 1, 12, 14] [
        ⟨(some 14), .val (.const (.int .i64 1)), none⟩]))))) (
      .skip))))) (
    (.seq (
     (.seq (
      .reg [4, 2, 0, 11, 10, 3, 13, 1, 12, 75] [
        ⟨(some 68), .val (.tmp 10), none⟩,
        ⟨(some 69), .val (.tmp 68), none⟩,
        ⟨(some 70), .val (.tmp 11), (some (69, true))⟩,
        ⟨(some 71), .pick (.tmp 69) (.tmp 70) (.const (.bool false)), none⟩,
        ⟨(some 72), .val (.tmp 71), none⟩,
        ⟨(some 73), .val (.tmp 14), (some (72, true))⟩,
        ⟨(some 74), .bin .eql (.tmp 73) (.const (.int .i64 1)), (some (72, true))⟩,
        ⟨(some 75), .pick (.tmp 72) (.tmp 74) (.const (.bool false)), none⟩]) (
     (.cond (.tmp 75) (
      (.seq (
       .reg [4, 2, 0, 11, 10, 3, 13, 1, 12, 80] [
         ⟨(some 76), .val (.tmp 0), none⟩,
         ⟨(some 77), .val (.tmp 1), none⟩,
         ⟨(some 78), .val (.tmp 2), none⟩,
         ⟨(some 79), .val (.tmp 4), none⟩,
         ⟨(some 80), .call (.func 53) [(.tmp 76), (.tmp 77), (.tmp 78), (.tmp 79)], none⟩]) (
      (.cond (.tmp 80) (
       .ret) (
       .skip))))) (
      .skip))))) (
    (.seq (
     (.seq (
      .dreg [4, 2, 0, 11, 10, 3, 13, 1, 12, 97] [
        (⟨(some 81), .val (.tmp 1), none⟩, []),
        (⟨(some 82), .bin .gtr (.tmp 81) (.const (.int .i64 0)), none⟩, []),
        (⟨(some 83), .val (.tmp 82), none⟩, []),
        (⟨(some 84), .val (.tmp 4), (some (83, true))⟩, []),
        (⟨(some 85), .val (.tmp 0), (some (83, true))⟩, []),
        (⟨(some 86), .val (.tmp 1), (some (83, true))⟩, []),
        (⟨(some 87), .bin .sub (.tmp 86) (.const (.int .i64 1)), (some (83, true))⟩, []),
        (⟨(some 88), .idxSl 3 (.tmp 85) (.tmp 87), (some (83, true))⟩, []),
        (⟨(some 89), .load (some 3) (.tmp 88), (some (83, true))⟩, []),
        (⟨(some 90), .val (.tmp 0), (some (83, true))⟩, []),
        (⟨(some 91), .val (.tmp 13), (some (83, true))⟩, []),
        (⟨(some 92), .idxSl 3 (.tmp 90) (.tmp 91), (some (83, true))⟩, []),
        (⟨(some 93), .load (some 3) (.tmp 92), (some (83, true))⟩, [8]),
        (⟨(some 94), .call (.tmp 84) [(.tmp 89), (.tmp 93)], (some (83, true))⟩, []),
        (⟨(some 95), .bin .lss (.tmp 94) (.const (.int .i64 0)), (some (83, true))⟩, []),
        (⟨(some 96), .un .not (.tmp 95), (some (83, true))⟩, []),
        (⟨(some 97), .pick (.tmp 83) (.tmp 96) (.const (.bool false)), none⟩, [])]) (
     (.cond (.tmp 97) (
      (.seq (
       .reg [4, 2, 0, 11, 10, 3, 15] [
         ⟨(some 98), .val (.tmp 0), none⟩,
         ⟨(some 99), .val (.tmp 1), none⟩,
         ⟨(some 100), .val (.tmp 2), none⟩,
         ⟨(some 101), .val (.tmp 13), none⟩,
         ⟨(some 102), .val (.tmp 4), none⟩,
         ⟨(some 103), .call (.func 54) [(.tmp 98), (.tmp 99), (.tmp 100), (.tmp 101), (.tmp 102)], none⟩,
         ⟨(some 15), .val (.tmp 103), none⟩]) (
      (.seq (
       .reg [4, 2, 1, 0, 11, 10, 3] [
         ⟨(some 104), .val (.tmp 15), none⟩,
         ⟨(some 1), .val (.tmp 104), none⟩]) (
      .exit 1))))) (
      .skip))))) (
    (.seq (
     .reg [4, 2, 0, 3, 16, 1, 12, 17] [
       ⟨(some 106), .val (.tmp 0), none⟩,
       ⟨(some 107), .val (.tmp 1), none⟩,
       ⟨(some 108), .val (.tmp 2), none⟩,
       ⟨(some 109), .val (.tmp 13), none⟩,
       ⟨(some 110), .val (.tmp 4), none⟩,
       ⟨(some 111), .call (.func 55) [(.tmp 106), (.tmp 107), (.tmp 108), (.tmp 109), (.tmp 110)], none⟩,
       ⟨(some 105), .val (.tmp 111), none⟩,
       ⟨(some 112), .extr (.tmp 105) 0, none⟩,
       ⟨(some 113), .extr (.tmp 105) 1, none⟩,
       ⟨(some 16), .val (.tmp 112), none⟩,
       ⟨(some 17), .val (.tmp 113), none⟩]) (
    (.seq (
     .reg [4, 2, 0, 11, 3, 16, 1, 12] [
       ⟨(some 114), .val (.tmp 17), none⟩,
       ⟨(some 11), .val (.tmp 114), none⟩]) (
    (.seq (
     .reg [4, 2, 0, 11, 3, 16, 1, 18, 19, 12] [
       ⟨(some 115), .val (.tmp 16), none⟩,
       ⟨(some 116), .val (.tmp 1), none⟩,
       ⟨(some 117), .bin .sub (.tmp 115) (.tmp 116), none⟩,
       ⟨(some 118), .val (.tmp 2), none⟩,
       ⟨(some 119), .val (.tmp 16), none⟩,
       ⟨(some 120), .bin .sub (.tmp 118) (.tmp 119), none⟩,
       ⟨(some 18), .val (.tmp 117), none⟩,
       ⟨(some 19), .val (.tmp 120), none⟩]) (
    (.seq (
     .reg [4, 2, 0, 11, 3, 16, 1, 20, 18, 19] [
       ⟨(some 121), .val (.tmp 12), none⟩,
       ⟨(some 122), .bin .quo (.tmp 121) (.const (.int .i64 8)), none⟩,
       ⟨(some 20), .val (.tmp 122), none⟩]) (
    (.seq (
     .reg [4, 2, 0, 11, 3, 16, 1, 20, 18, 19, 125] [
       ⟨(some 123), .val (.tmp 18), none⟩,
       ⟨(some 124), .val (.tmp 19), none⟩,
       ⟨(some 125), .bin .lss (.tmp 123) (.tmp 124), none⟩]) (
    (.cond (.tmp 125) (
     (.seq (
      .reg [4, 2, 0, 11, 10, 3, 16, 1] [
        ⟨(some 126), .val (.tmp 18), none⟩,
        ⟨(some 127), .val (.tmp 20), none⟩,
        ⟨(some 128), .bin .geq (.tmp 126) (.tmp 127), none⟩,
        ⟨(some 10), .val (.tmp 128), none⟩]) (
     (.seq (
      .reg [4, 2, 0, 11, 10, 3, 16] [
        ⟨(some 129), .val (.tmp 0), none⟩,
        ⟨(some 130), .val (.tmp 1), none⟩,
        ⟨(some 131), .val (.tmp 16), none⟩,
        ⟨(some 132), .val (.tmp 3), none⟩,
        ⟨(some 133), .val (.tmp 4), none⟩,
        ⟨(some 134), .call (.func 45) [(.tmp 129), (.tmp 130), (.tmp 131), (.tmp 132), (.tmp 133)], none⟩]) (
     .reg [4, 2, 1, 0, 11, 10, 3] [
       ⟨(some 135), .val (.tmp 16), none⟩,
       ⟨(some 136), .bin .add (.tmp 135) (.const (.int .i64 1)), none⟩,
       ⟨(some 1), .val (.tmp 136), none⟩]))))) (
     (.seq (
      .reg [4, 1, 0, 11, 10, 3, 16, 2] [
        ⟨(some 137), .val (.tmp 19), none⟩,
        ⟨(some 138), .val (.tmp 20), none⟩,
        ⟨(some 139), .bin .geq (.tmp 137) (.tmp 138), none⟩,
        ⟨(some 10), .val (.tmp 139), none⟩]) (
     (.seq (
      .reg [4, 1, 0, 11, 10, 3, 16] [
        ⟨(some 140), .val (.tmp 0), none⟩,
        ⟨(some 141), .val (.tmp 16), none⟩,
        ⟨(some 142), .bin .add (.tmp 141) (.const (.int .i64 1)), none⟩,
        ⟨(some 143), .val (.tmp 2), none⟩,
        ⟨(some 144), .val (.tmp 3), none⟩,
        ⟨(some 145), .val (.tmp 4), none⟩,
        ⟨(some 146), .call (.func 45) [(.tmp 140), (.tmp 142), (.tmp 143), (.tmp 144), (.tmp 145)], none⟩]) (
     .reg [4, 2, 1, 0, 11, 10, 3] [
       ⟨(some 147), .val (.tmp 16), none⟩,
       ⟨(some 2), .val (.tmp 147), none⟩]))))))))))))))))))))))))))))))))))))))))))
def H45 : Hint := (.two (.reg [4, 2, 1, 0, 10, 3] []) (.two (.reg [4, 2, 1, 0, 11, 10, 3] []) (.one (.one (.one (.two (.reg [4, 2, 1, 0, 11, 10, 12, 3] []) (.two (.two (.reg [4, 2, 1, 0, 11, 10, 12, 3, 25] []) (.two (.two (.reg [] []) .leaf) .leaf)) (.two (.two (.reg [4, 2, 1, 0, 11, 10, 12, 3, 32] []) (.two (.two (.reg [] []) .leaf) .leaf)) (.two (.two (.reg [4, 2, 0, 11, 10, 1, 12, 3, 39] []) (.two (.two (.reg [4, 2, 0, 11, 10, 1, 12, 3] []) (.reg [4, 2, 0, 11, 10, 3, 1, 12] [])) .leaf)) (.two (.reg [4, 2, 0, 11, 10, 3, 1, 12, 13, 14] []) (.two (.two (.reg [4, 2, 0, 11, 10, 3, 1, 12, 13, 14, 56] []) (.two (.two (.reg [4, 2, 0, 11, 10, 3, 1, 12, 13] []) (.two (.reg [4, 2, 0, 11, 10, 3, 13, 1, 12] []) (.reg [4, 2, 0, 11, 10, 3, 13, 1, 12, 14] []))) .leaf)) (.two (.two (.reg [4, 2, 0, 11, 10, 3, 13, 1, 12, 75] []) (.two (.two (.reg [4, 2, 0, 11, 10, 3, 13, 1, 12, 80] []) (.two .leaf .leaf)) .leaf)) (.two (.two (.reg [4, 2, 0, 11, 10, 3, 13, 1, 12, 97] [(0, [], []), (1, [], [0]), (2, [], [1, 0]), (3, [], [2, 1, 0]), (4, [], [2, 1, 0]), (5, [], [2, 1, 0]), (6, [], [5, 2, 1, 0]), (7, [], [4, 2, 1, 0, 6, 5]), (8, [], [7, 4, 2, 1, 0, 6, 5]), (9, [], [2, 1, 0]), (10, [], [2, 1, 0]), (11, [], [9, 2, 1, 0, 10]), (12, [8], [11, 9, 2, 1, 0, 10]), (13, [], [3, 2, 1, 0, 8, 7, 4, 6, 5, 12, 11, 9, 10]), (14, [], [13, 3, 2, 1, 0, 8, 7, 4, 6, 5, 12, 11, 9, 10]), (15, [], [14, 13, 3, 2, 1, 0, 8, 7, 4, 6, 5, 12, 11, 9, 10]), (16, [], [2, 1, 0, 15, 14, 13, 3, 8, 7, 4, 6, 5, 12, 11, 9, 10])]) (.two (.two (.reg [4, 2, 0, 11, 10, 3, 15] []) (.two (.reg [4, 2, 1, 0, 11, 10, 3] []) .leaf)) .leaf)) (.two (.reg [4, 2, 0, 3, 16, 1, 12, 17] []) (.two (.reg [4, 2, 0, 11, 3, 16, 1, 12] []) (.two (.reg [4, 2, 0, 11, 3, 16, 1, 18, 19, 12] []) (.two (.reg [4, 2, 0, 11, 3, 16, 1, 20, 18, 19] []) (.two (.reg [4, 2, 0, 11, 3, 16, 1, 20, 18, 19, 125] []) (.two (.two (.reg [4, 2, 0, 11, 10, 3, 16, 1] []) (.two (.reg [4, 2, 0, 11, 10, 3, 16] []) (.reg [4, 2, 1, 0, 11, 10, 3] []))) (.two (.reg [4, 1, 0, 11, 10, 3, 16, 2] []) (.two (.reg [4, 1, 0, 11, 10, 3, 16] []) (.reg [4, 2, 1, 0, 11, 10, 3] []))))))))))))))))))))))
def R45 : List ARes := []
theorem code45 : cCode Try.prog 148 H45 (Try.f45.body.getD .skip) = some A45 := by kernel_rfl
theorem ok45 : FunOk Try.prog 45 ⟨R45, A45⟩ := ⟨Try.f45, _, H45, 148, Try.func45, by kernel_rfl, by kernel_rfl, code45, by decide, by kernel_rfl⟩
def A46 : ACode :=
 (.seq (
  .reg [0] [
    ⟨(some 2), .val (.const (.int .i64 0)), none⟩]) (
 (.seq (
  (.cond (.const (.bool false)) (
   (.seq (
    .reg [2] [
      ⟨(some 3), .val (.tmp 0), none⟩,
      ⟨(some 4), .conv .u32 (.tmp 3), none⟩,
      ⟨(some 5), .call (.func 56) [(.tmp 4)], none⟩,
      ⟨(some 2), .val (.tmp 5), none⟩]) (
   .ret))) (
   .skip))) (
 (.seq (
  .reg [2] [
    ⟨(some 6), .val (.tmp 0), none⟩,
    ⟨(some 7), .call (.func 57) [(.tmp 6)], none⟩,
    ⟨(some 2), .val (.tmp 7), none⟩]) (
 .ret))))))
def H46 : Hint := (.two (.reg [0] []) (.two (.two (.two (.reg [2] []) .leaf) .leaf) (.two (.reg [2] []) .leaf)))
def R46 : List ARes := [.tmp 2]
theorem code46 : cCode Try.prog 8 H46 (Try.f46.body.getD .skip) = some A46 := by kernel_rfl
theorem ok46 : FunOk Try.prog 46 ⟨R46, A46⟩ := ⟨Try.f46, _, H46, 8, Try.func46, by kernel_rfl, by kernel_rfl, code46, by decide, by kernel_rfl⟩
def A47 : ACode :=
 (.seq (
  .reg [0] [
    ⟨(some 2), .val (.const (.bool false)), none⟩]) (
 (.seq (
  .reg [2] [
    ⟨(some 3), .val (.tmp 0), none⟩,
    ⟨(some 4), .val (.tmp 0), none⟩,
    ⟨(some 5), .bin .neq (.tmp 3) (.tmp 4), none⟩,
    ⟨(some 2), .val (.tmp 5), none⟩]) (
 .ret))))
def H47 : Hint := (.two (.reg [0] []) (.two (.reg [2] []) .leaf))
def R47 : List ARes := [.tmp 2]
theorem code47 : cCode Try.prog 6 H47 (Try.f47.body.getD .skip) = some A47 := by kernel_rfl
theorem ok47 : FunOk Try.prog 47 ⟨R47, A47⟩ := ⟨Try.f47, _, H47, 6, Try.func47, by kernel_rfl, by kernel_rfl, code47, by decide, by kernel_rfl⟩
def A48 : ACode :=
 (.seq (
  .reg [0, 8, 3, 1, 2] [
    ⟨(some 10), .val (.tmp 1), none⟩,
    ⟨(some 11), .bin .add (.tmp 10) (.const (.int .i64 1)), none⟩,
    ⟨(some 8), .val (.tmp 11), none⟩]) (
 (.block 0 (
  (.loop (
   (.seq (
    (.seq (
     .reg [0, 3, 1, 2, 8, 14] [
       ⟨(some 12), .val (.tmp 8), none⟩,
       ⟨(some 13), .val (.tmp 2), none⟩,
       ⟨(some 14), .bin .lss (.tmp 12) (.tmp 13), none⟩]) (
    (.cond (.tmp 14) (
     .skip) (
     .exit 0))))) (
   (.seq (
    (.block 1 (
     (.seq (
      .reg [9, 0, 3, 1, 2, 8] [
        ⟨(some 17), .val (.tmp 8), none⟩,
        ⟨(some 9), .val (.tmp 17), none⟩]) (
     (.block 2 (
      (.loop (
       (.seq (
        (.seq (
         .dreg [0, 3, 1, 2, 8, 9, 34] [
           (⟨(some 18), .val (.tmp 9), none⟩, []),
           (⟨(some 19), .val (.tmp 1), none⟩, []),
           (⟨(some 20), .bin .gtr (.tmp 18) (.tmp 19), none⟩, []),
           (⟨(some 21), .val (.tmp 20), none⟩, []),
           (⟨(some 22), .val (.tmp 3), (some (21, true))⟩, []),
           (⟨(some 23), .val (.tmp 0), (some (21, true))⟩, []),
           (⟨(some 24), .val (.tmp 9), (some (21, true))⟩, []),
           (⟨(some 25), .idxSl 3 (.tmp 23) (.tmp 24), (some (21, true))⟩, []),
           (⟨(some 26), .load (some 3) (.tmp 25), (some (21, true))⟩, []),
           (⟨(some 27), .val (.tmp 0), (some (21, true))⟩, []),
           (⟨(some 28), .val (.tmp 9), (some (21, true))⟩, []),
           (⟨(some 29), .bin .sub (.tmp 28) (.const (.int .i64 1)), (some (21, true))⟩, []),
           (⟨(some 30), .idxSl 3 (.tmp 27) (.tmp 29), (some (21, true))⟩, []),
           (⟨(some 31), .load (some 3) (.tmp 30), (some (21, true))⟩, [8]),
           (⟨(some 32), .call (.tmp 22) [(.tmp 26), (.tmp 31)], (some (21, true))⟩, []),
           (⟨(some 33), .bin .lss (.tmp 32) (.const (.int .i64 0)), (some (21, true))⟩, []),
           (⟨(some 34), .pick (.tmp 21) (.tmp 33) (.const (.bool false)), none⟩, [])]) (
        (.cond (.tmp 34) (
         .skip) (
         .exit 2))))) (
       (.seq (
        (.block 3 (
         .dreg [0, 3, 1, 2, 8, 9] [
           (⟨(some 37), .val (.tmp 0), none⟩, []),
           (⟨(some 38), .val (.tmp 9), none⟩, []),
           (⟨(some 39), .val (.tmp 0), none⟩, []),
           (⟨(some 40), .val (.tmp 9), none⟩, []),
           (⟨(some 41), .bin .sub (.tmp 40) (.const (.int .i64 1)), none⟩, []),
           (⟨(some 42), .val (.tmp 0), none⟩, []),
           (⟨(some 43), .val (.tmp 9), none⟩, []),
           (⟨(some 44), .bin .sub (.tmp 43) (.const (.int .i64 1)), none⟩, []),
           (⟨(some 45), .idxSl 3 (.tmp 42) (.tmp 44), none⟩, []),
           (⟨(some 46), .load (some 3) (.tmp 45), none⟩, []),
           (⟨(some 47), .val (.tmp 0), none⟩, []),
           (⟨(some 48), .val (.tmp 9), none⟩, []),
           (⟨(some 49), .idxSl 3 (.tmp 47) (.tmp 48), none⟩, []),
           (⟨(some 50), .load (some 3) (.tmp 49), none⟩, [9]),
           (⟨(some 51), .idxSl 3 (.tmp 37) (.tmp 38), none⟩, []),
           (⟨none, .store 3 (.tmp 51) (.tmp 46), none⟩, []),
           (⟨(some 52), .idxSl 3 (.tmp 39) (.tmp 41), none⟩, []),
           (⟨none, .store 3 (.tmp 52) (.tmp 50), none⟩, [])]))) (
       .reg [9, 0, 3, 1, 2, 8] [
         ⟨(some 35), .val (.tmp 9), none⟩,
         ⟨(some 36), .bin .sub (.tmp 35) (.const (.int .i64 1)), none⟩,
         ⟨(some 9), .val (.tmp 36), none⟩]))))))))))))) (
   .reg [0, 8, 3, 1, 2] [
     ⟨(some 15), .val (.tmp 8), none⟩,
     ⟨(some 16), .bin .add (.tmp 15) (.const (.int .i64 1)), none⟩,
     ⟨(some 8), .val (.tmp 16), none⟩]))))))))))
def H48 : Hint := (.two (.reg [0, 8, 3, 1, 2] []) (.one (.one (.two (.two (.reg [0, 3, 1, 2, 8, 14] []) (.two .leaf .leaf)) (.two (.one (.two (.reg [9, 0, 3, 1, 2, 8] []) (.one (.one (.two (.two (.reg [0, 3, 1, 2, 8, 9, 34] [(0, [], []), (1, [], []), (2, [], [0, 1]), (3, [], [2, 0, 1]), (4, [], [3, 2, 0, 1]), (5, [], [3, 2, 0, 1]), (6, [], [3, 2, 0, 1]), (7, [], [5, 3, 2, 0, 1, 6]), (8, [], [7, 5, 3, 2, 0, 1, 6]), (9, [], [3, 2, 0, 1]), (10, [], [3, 2, 0, 1]), (11, [], [10, 3, 2, 0, 1]), (12, [], [9, 3, 2, 0, 1, 11, 10]), (13, [8], [12, 9, 3, 2, 0, 1, 11, 10]), (14, [], [4, 3, 2, 0, 1, 8, 7, 5, 6, 13, 12, 9, 11, 10]), (15, [], [14, 4, 3, 2, 0, 1, 8, 7, 5, 6, 13, 12, 9, 11, 10]), (16, [], [3, 2, 0, 1, 15, 14, 4, 8, 7, 5, 6, 13, 12, 9, 11, 10])]) (.two .leaf .leaf)) (.two (.one (.reg [0, 3, 1, 2, 8, 9] [(0, [], []), (1, [], []), (2, [], []), (3, [], []), (4, [], [3]), (5, [], []), (6, [], []), (7, [], [6]), (8, [], [5, 7, 6]), (9, [], [8, 5, 7, 6]), (10, [], []), (11, [], []), (12, [], [10, 11]), (13, [9], [12, 10, 11]), (14, [], [0, 1, 5, 6, 7, 8, 9, 13, 12, 10, 11]), (15, [], [14, 0, 1, 5, 6, 7, 8, 9, 13, 12, 10, 11]), (16, [], [2, 4, 3, 0, 1, 5, 6, 7, 8, 9, 10, 11, 12, 13, 14, 15]), (17, [], [16, 2, 4, 3, 0, 1, 5, 6, 7, 8, 9, 10, 11, 12, 13, 14, 15])])) (.reg [9, 0, 3, 1, 2, 8] []))))))) (.reg [0, 8, 3, 1, 2] []))))))
def R48 : List ARes := []
theorem code48 : cCode Try.prog 53 H48 (Try.f48.body.getD .skip) = some A48 := by kernel_rfl
theorem ok48 : FunOk Try.prog 48 ⟨R48, A48⟩ := ⟨Try.f48, _, H48, 53, Try.func48, by kernel_rfl, by kernel_rfl, code48, by decide, by kernel_rfl⟩
def A49 : ACode :=
 (.seq (
  .reg [3, 8, 0, 1, 2] [
    ⟨(some 13), .val (.tmp 1), none⟩,
    ⟨(some 8), .val (.tmp 13), none⟩]) (
 (.seq (
  .reg [3, 8, 0, 9, 1, 2] [
    ⟨(some 9), .val (.const (.int .i64 0)), none⟩]) (
 (.seq (
  .reg [3, 8, 10, 0, 9] [
    ⟨(some 14), .val (.tmp 2), none⟩,
    ⟨(some 15), .val (.tmp 1), none⟩,
    ⟨(some 16), .bin .sub (.tmp 14) (.tmp 15), none⟩,
    ⟨(some 10), .val (.tmp 16), none⟩]) (
 (.seq (
  (.seq (
   .reg [11, 3, 8, 10, 0, 9] [
     ⟨(some 17), .val (.tmp 10), none⟩,
     ⟨(some 18), .bin .sub (.tmp 17) (.const (.int .i64 1)), none⟩,
     ⟨(some 19), .bin .quo (.tmp 18) (.const (.int .i64 2)), none⟩,
     ⟨(some 11), .val (.tmp 19), none⟩]) (
  (.block 0 (
   (.loop (
    (.seq (
     (.seq (
      .reg [3, 8, 10, 0, 9, 11, 21] [
        ⟨(some 20), .val (.tmp 11), none⟩,
        ⟨(some 21), .bin .geq (.tmp 20) (.const (.int .i64 0)), none⟩]) (
     (.cond (.tmp 21) (
      .skip) (
      .exit 0))))) (
    (.seq (
     (.block 1 (
      .reg [3, 8, 10, 0, 9, 11] [
        ⟨(some 24), .val (.tmp 0), none⟩,
        ⟨(some 25), .val (.tmp 11), none⟩,
        ⟨(some 26), .val (.tmp 10), none⟩,
        ⟨(some 27), .val (.tmp 8), none⟩,
        ⟨(some 28), .val (.tmp 3), none⟩,
        ⟨(some 29), .call (.func 58) [(.tmp 24), (.tmp 25), (.tmp 26), (.tmp 27), (.tmp 28)], none⟩]))) (
    .reg [11, 3, 8, 10, 0, 9] [
      ⟨(some 22), .val (.tmp 11), none⟩,
      ⟨(some 23), .bin .sub (.tmp 22) (.const (.int .i64 1)), none⟩,
      ⟨(some 11), .val (.tmp 23), none⟩]))))))))))) (
 (.seq (
  .reg [12, 3, 8, 9, 0] [
    ⟨(some 30), .val (.tmp 10), none⟩,
    ⟨(some 31), .bin .sub (.tmp 30) (.const (.int .i64 1)), none⟩,
    ⟨(some 12), .val (.tmp 31), none⟩]) (
 (.block 2 (
  (.loop (
   (.seq (
    (.seq (
     .reg [3, 8, 9, 0, 12, 33] [
       ⟨(some 32), .val (.tmp 12), none⟩,
       ⟨(some 33), .bin .geq (.tmp 32) (.const (.int .i64 0)), none⟩]) (
    (.cond (.tmp 33) (
     .skip) (
     .exit 2))))) (
   (.seq (
    (.block 3 (
     (.seq (
      .dreg [3, 8, 9, 0, 12] [
        (⟨(some 36), .val (.tmp 0), none⟩, []),
        (⟨(some 37), .val (.tmp 8), none⟩, []),
        (⟨(some 38), .val (.tmp 0), none⟩, []),
        (⟨(some 39), .val (.tmp 8), none⟩, []),
        (⟨(some 40), .val (.tmp 12), none⟩, []),
        (⟨(some 41), .bin .add (.tmp 39) (.tmp 40), none⟩, []),
        (⟨(some 42), .val (.tmp 0), none⟩, []),
        (⟨(some 43), .val (.tmp 8), none⟩, []),
        (⟨(some 44), .val (.tmp 12), none⟩, []),
        (⟨(some 45), .bin .add (.tmp 43) (.tmp 44), none⟩, []),
        (⟨(some 46), .idxSl 3 (.tmp 42) (.tmp 45), none⟩, []),
        (⟨(some 47), .load (some 3) (.tmp 46), none⟩, []),
        (⟨(some 48), .val (.tmp 0), none⟩, []),
        (⟨(some 49), .val (.tmp 8), none⟩, []),
        (⟨(some 50), .idxSl 3 (.tmp 48) (.tmp 49), none⟩, []),
        (⟨(some 51), .load (some 3) (.tmp 50), none⟩, [11]),
        (⟨(some 52), .idxSl 3 (.tmp 36) (.tmp 37), none⟩, []),
        (⟨none, .store 3 (.tmp 52) (.tmp 47), none⟩, []),
        (⟨(some 53), .idxSl 3 (.tmp 38) (.tmp 41), none⟩, []),
        (⟨none, .store 3 (.tmp 53) (.tmp 51), none⟩, [])]) (
     .reg [3, 8, 9, 0, 12] [
       ⟨(some 54), .val (.tmp 0), none⟩,
       ⟨(some 55), .val (.tmp 9), none⟩,
       ⟨(some 56), .val (.tmp 12), none⟩,
       ⟨(some 57), .val (.tmp 8), none⟩,
       ⟨(some 58), .val (.tmp 3), none⟩,
       ⟨(some 59), .call (.func 58) [(.tmp 54), (.tmp 55), (.tmp 56), (.tmp 57), (.tmp 58)], none⟩]))))) (
   .reg [12, 3, 8, 9, 0] [
     ⟨(some 34), .val (.tmp 12), none⟩,
     ⟨(some 35), .bin .sub (.tmp 34) (.const (.int .i64 1)), none⟩,
     ⟨(some 12), .val (.tmp 35), none⟩]))))))))))))))))))
def H49 : Hint := (.two (.reg [3, 8, 0, 1, 2] []) (.two (.reg [3, 8, 0, 9, 1, 2] []) (.two (.reg [3, 8, 10, 0, 9] []) (.two (.two (.reg [11, 3, 8, 10, 0, 9] []) (.one (.one (.two (.two (.reg [3, 8, 10, 0, 9, 11, 21] []) (.two .leaf .leaf)) (.two (.one (.reg [3, 8, 10, 0, 9, 11] [])) (.reg [11, 3, 8, 10, 0, 9] [])))))) (.two (.reg [12, 3, 8, 9, 0] []) (.one (.one (.two (.two (.reg [3, 8, 9, 0, 12, 33] []) (.two .leaf .leaf)) (.two (.one (.two (.reg [3, 8, 9, 0, 12] [(0, [], []), (1, [], []), (2, [], []), (3, [], []), (4, [], []), (5, [], [3, 4]), (6, [], []), (7, [], []), (8, [], []), (9, [], [7, 8]), (10, [], [6, 9, 7, 8]), (11, [], [10, 6, 9, 7, 8]), (12, [], []), (13, [], []), (14, [], [12, 13]), (15, [11], [14, 12, 13]), (16, [], [0, 1, 6, 7, 8, 9, 10, 11, 15, 14, 12, 13]), (17, [], [16, 0, 1, 6, 7, 8, 9, 10, 11, 15, 14, 12, 13]), (18, [], [2, 5, 3, 4, 0, 1, 6, 7, 8, 9, 10, 11, 12, 13, 14, 15, 16, 17]), (19, [], [18, 2, 5, 3, 4, 0, 1, 6, 7, 8, 9, 10, 11, 12, 13, 14, 15, 16, 17])]) (.reg [3, 8, 9, 0, 12] []))) (.reg [12, 3, 8, 9, 0] []))))))))))
def R49 : List ARes := []
theorem code49 : cCode Try.prog 60 H49 (Try.f49.body.getD .skip) = some A49 := by kernel_rfl
theorem ok49 : FunOk Try.prog 49 ⟨R49, A49⟩ := ⟨Try.f49, _, H49, 60, Try.func49, by kernel_rfl, by kernel_rfl, code49, by decide, by kernel_rfl⟩
def A50 : ACode :=
 (.seq (
  .reg [0, 1, 8] [
    ⟨(some 13), .val (.tmp 2), none⟩,
    ⟨(some 14), .val (.tmp 1), none⟩,
    ⟨(some 15), .bin .sub (.tmp 13) (.tmp 14), none⟩,
    ⟨(some 8), .val (.tmp 15), none⟩]) (
 (.seq (
  .reg [0, 1, 8, 17] [
    ⟨(some 16), .val (.tmp 8), none⟩,
    ⟨(some 17), .bin .geq (.tmp 16) (.const (.int .i64 8)), none⟩]) (
 (.cond (.tmp 17) (
  (.seq (
   .reg [0, 1, 8, 9] [
     ⟨(some 18), .val (.tmp 8), none⟩,
     ⟨(some 19), .conv .u64 (.tmp 18), none⟩,
     ⟨(some 9), .new [(.int .u64 0)], none⟩,
     ⟨none, .store 1 (.tmp 9) (.tmp 19), none⟩]) (
  (.seq (
   .reg [0, 1, 8, 10, 9] [
     ⟨(some 20), .val (.tmp 8), none⟩,
     ⟨(some 21), .call (.func 59) [(.tmp 20)], none⟩,
     ⟨(some 10), .val (.tmp 21), none⟩]) (
  (.seq (
   .reg [11, 0, 1, 8, 10, 9] [
     ⟨(some 22), .val (.tmp 1), none⟩,
     ⟨(some 23), .val (.tmp 8), none⟩,
     ⟨(some 24), .bin .quo (.tmp 23) (.const (.int .i64 4)), none⟩,
     ⟨(some 25), .bin .mul (.tmp 24) (.const (.int .i64 2)), none⟩,
     ⟨(some 26), .bin .add (.tmp 22) (.tmp 25), none⟩,
     ⟨(some 27), .bin .sub (.tmp 26) (.const (.int .i64 1)), none⟩,
     ⟨(some 11), .val (.tmp 27), none⟩]) (
  (.block 0 (
   (.loop (
    (.seq (
     (.seq (
      .reg [0, 1, 8, 10, 9, 11, 35] [
        ⟨(some 28), .val (.tmp 11), none⟩,
        ⟨(some 29), .val (.tmp 1), none⟩,
        ⟨(some 30), .val (.tmp 8), none⟩,
        ⟨(some 31), .bin .quo (.tmp 30) (.const (.int .i64 4)), none⟩,
        ⟨(some 32), .bin .mul (.tmp 31) (.const (.int .i64 2)), none⟩,
        ⟨(some 33), .bin .add (.tmp 29) (.tmp 32), none⟩,
        ⟨(some 34), .bin .add (.tmp 33) (.const (.int .i64 1)), none⟩,
        ⟨(some 35), .bin .leq (.tmp 28) (.tmp 34), none⟩]) (
     (.cond (.tmp 35) (
      .skip) (
      .exit 0))))) (
    (.seq (
     (.block 1 (
      (.seq (
       .reg [0, 1, 8, 10, 9, 11, 12] [
         ⟨(some 38), .call (.func 60) [(.tmp 9)], none⟩,
         ⟨(some 39), .val (.tmp 10), none⟩,
         ⟨(some 40), .bin .sub (.tmp 39) (.const (.int .u64 1)), none⟩,
         ⟨(some 41), .bin .and (.tmp 38) (.tmp 40), none⟩,
         ⟨(some 42), .conv .i64 (.tmp 41), none⟩,
         ⟨(some 12), .val (.tmp 42), none⟩]) (
      (.seq (
       (.seq (
        .reg [0, 1, 8, 10, 9, 11, 12, 45] [
          ⟨(some 43), .val (.tmp 12), none⟩,
          ⟨(some 44), .val (.tmp 8), none⟩,
          ⟨(some 45), .bin .geq (.tmp 43) (.tmp 44), none⟩]) (
       (.cond (.tmp 45) (
        .reg [0, 1, 8, 10, 9, 11, 12] [
          ⟨(some 46), .val (.tmp 12), none⟩,
          ⟨(some 47), .val (.tmp 8), none⟩,
          ⟨(some 48), .bin .sub (.tmp 46) (.tmp 47), none⟩,
          ⟨(some 12), .val (.tmp 48), none⟩]) (
        .skip))))) (
      .dreg [0, 1, 8, 10, 9, 11] [
        (⟨(some 49), .val (.tmp 0), none⟩, []),
        (⟨(some 50), .val (.tmp 11), none⟩, []),
        (⟨(some 51), .val (.tmp 0), none⟩, []),
        (⟨(some 52), .val (.tmp 1), none⟩, []),
        (⟨(some 53), .val (.tmp 12), none⟩, []),
        (⟨(some 54), .bin .add (.tmp 52) (.tmp 53), none⟩, []),
        (⟨(some 55), .val (.tmp 0), none⟩, []),
        (⟨(some 56), .val (.tmp 1), none⟩, []),
        (⟨(some 57), .val (.tmp 12), none⟩, []),
        (⟨(some 58), .bin .add (.tmp 56) (.tmp 57), none⟩, []),
        (⟨(some 59), .idxSl 3 (.tmp 55) (.tmp 58), none⟩, []),
        (⟨(some 60), .load (some 3) (.tmp 59), none⟩, []),
        (⟨(some 61), .val (.tmp 0), none⟩, []),
        (⟨(some 62), .val (.tmp 11), none⟩, []),
        (⟨(some 63), .idxSl 3 (.tmp 61) (.tmp 62), none⟩, []),
        (⟨(some 64), .load (some 3) (.tmp 63), none⟩, [11]),
        (⟨(some 65), .idxSl 3 (.tmp 49) (.tmp 50), none⟩, []),
        (⟨none, .store 3 (.tmp 65) (.tmp 60), none⟩, []),
        (⟨(some 66), .idxSl 3 (.tmp 51) (.tmp 54), none⟩, []),
        (⟨none, .store 3 (.tmp 66) (.tmp 64), none⟩, [])]))))))) (
    .reg [11, 0, 1, 8, 10, 9] [
      ⟨(some 36), .val (.tmp 11), none⟩,
      ⟨(some 37), .bin .add (.tmp 36) (.const (.int .i64 1)), none⟩,
      ⟨(some 11), .val (.tmp 37), none⟩]))))))))))))))) (
  .skip))))))
def H50 : Hint := (.two (.reg [0, 1, 8] []) (.two (.reg [0, 1, 8, 17] []) (.two (.two (.reg [0, 1, 8, 9] []) (.two (.reg [0, 1, 8, 10, 9] []) (.two (.reg [11, 0, 1, 8, 10, 9] []) (.one (.one (.two (.two (.reg [0, 1, 8, 10, 9, 11, 35] []) (.two .leaf .leaf)) (.two (.one (.two (.reg [0, 1, 8, 10, 9, 11, 12] []) (.two (.two (.reg [0, 1, 8, 10, 9, 11, 12, 45] []) (.two (.reg [0, 1, 8, 10, 9, 11, 12] []) .leaf)) (.reg [0, 1, 8, 10, 9, 11] [(0, [], []), (1, [], []), (2, [], []), (3, [], []), (4, [], []), (5, [], [3, 4]), (6, [], []), (7, [], []), (8, [], []), (9, [], [7, 8]), (10, [], [6, 9, 7, 8]), (11, [], [10, 6, 9, 7, 8]), (12, [], []), (13, [], []), (14, [], [12, 13]), (15, [11], [14, 12, 13]), (16, [], [0, 1, 6, 7, 8, 9, 10, 11, 15, 14, 12, 13]), (17, [], [16, 0, 1, 6, 7, 8, 9, 10, 11, 15, 14, 12, 13]), (18, [], [2, 5, 3, 4, 0, 1, 6, 7, 8, 9, 10, 11, 12, 13, 14, 15, 16, 17]), (19, [], [18, 2, 5, 3, 4, 0, 1, 6, 7, 8, 9, 10, 11, 12, 13, 14, 15, 16, 17])])))) (.reg [11, 0, 1, 8, 10, 9] [])))))))) .leaf)))
def R50 : List ARes := []
theorem code50 : cCode Try.prog 67 H50 (Try.f50.body.getD .skip) = some A50 := by kernel_rfl
theorem ok50 : FunOk Try.prog 50 ⟨R50, A50⟩ := ⟨Try.f50, _, H50, 67, Try.func50, by kernel_rfl, by kernel_rfl, code50, by decide, by kernel_rfl⟩
def A51 : ACode :=
 (.seq (
  .reg [3, 0, 1, 2] [
    ⟨(some 8), .val (.const (.int .i64 0)), none⟩,
    ⟨(some 9), .val (.const (.int .i64 0)), none⟩]) (
 (.seq (
  .reg [3, 0, 10, 1] [
    ⟨(some 15), .val (.tmp 2), none⟩,
    ⟨(some 16), .val (.tmp 1), none⟩,
    ⟨(some 17), .bin .sub (.tmp 15) (.tmp 16), none⟩,
    ⟨(some 10), .val (.tmp 17), none⟩]) (
 (.seq (
  .reg [11, 3, 0, 10, 1] [
    ⟨(some 11), .new [(.int .i64 0)], none⟩]) (
 (.seq (
  .reg [11, 3, 0, 12, 10, 1] [
    ⟨(some 18), .val (.tmp 1), none⟩,
    ⟨(some 19), .val (.tmp 10), none⟩,
    ⟨(some 20), .bin .quo (.tmp 19) (.const (.int .i64 4)), none⟩,
    ⟨(some 21), .bin .mul (.tmp 20) (.const (.int .i64 1)), none⟩,
    ⟨(some 22), .bin .add (.tmp 18) (.tmp 21), none⟩,
    ⟨(some 12), .val (.tmp 22), none⟩]) (
 (.seq (
  .reg [11, 3, 0, 13, 12, 10, 1] [
    ⟨(some 23), .val (.tmp 1), none⟩,
    ⟨(some 24), .val (.tmp 10), none⟩,
    ⟨(some 25), .bin .quo (.tmp 24) (.const (.int .i64 4)), none⟩,
    ⟨(some 26), .bin .mul (.tmp 25) (.const (.int .i64 2)), none⟩,
    ⟨(some 27), .bin .add (.tmp 23) (.tmp 26), none⟩,
    ⟨(some 13), .val (.tmp 27), none⟩]) (
 (.seq (
  .reg [11, 3, 0, 14, 13, 12, 10] [
    ⟨(some 28), .val (.tmp 1), none⟩,
    ⟨(some 29), .val (.tmp 10), none⟩,
    ⟨(some 30), .bin .quo (.tmp 29) (.const (.int .i64 4)), none⟩,
    ⟨(some 31), .bin .mul (.tmp 30) (.const (.int .i64 3)), none⟩,
    ⟨(some 32), .bin .add (.tmp 28) (.tmp 31), none⟩,
    ⟨(some 14), .val (.tmp 32), none⟩]) (
 (.seq (
  (.seq (
   .reg [11, 3, 0, 14, 13, 12, 10, 34] [
     ⟨(some 33), .val (.tmp 10), none⟩,
     ⟨(some 34), .bin .geq (.tmp 33) (.const (.int .i64 8)), none⟩]) (
  (.cond (.tmp 34) (
   (.seq (
    (.seq (
     .reg [11, 3, 0, 14, 13, 12, 36] [
       ⟨(some 35), .val (.tmp 10), none⟩,
       ⟨(some 36), .bin .geq (.tmp 35) (.const (.int .i64 50)), none⟩]) (
    (.cond (.tmp 36) (
     (.seq (
      .reg [11, 3, 12, 0, 14, 13] [
        ⟨(some 37), .val (.tmp 0), none⟩,
        ⟨(some 38), .val (.tmp 12), none⟩,
        ⟨(some 39), .val (.tmp 3), none⟩,
        ⟨(some 40), .call (.func 61) [(.tmp 37), (.tmp 38), (.tmp 11), (.tmp 39)], none⟩,
        ⟨(some 12), .val (.tmp 40), none⟩]) (
     (.seq (
      .reg [11, 3, 13, 12, 0, 14] [
        ⟨(some 41), .val (.tmp 0), none⟩,
        ⟨(some 42), .val (.tmp 13), none⟩,
        ⟨(some 43), .val (.tmp 3), none⟩,
        ⟨(some 44), .call (.func 61) [(.tmp 41), (.tmp 42), (.tmp 11), (.tmp 43)], none⟩,
        ⟨(some 13), .val (.tmp 44), none⟩]) (
     .reg [11, 3, 14, 13, 12, 0] [
       ⟨(some 45), .val (.tmp 0), none⟩,
       ⟨(some 46), .val (.tmp 14), none⟩,
       ⟨(some 47), .val (.tmp 3), none⟩,
       ⟨(some 48), .call (.func 61) [(.tmp 45), (.tmp 46), (.tmp 11), (.tmp 47)], none⟩,
       ⟨(some 14), .val (.tmp 48), none⟩]))))) (
     .skip))))) (
   .reg [13, 11] [
     ⟨(some 49), .val (.tmp 0), none⟩,
     ⟨(some 50), .val (.tmp 12), none⟩,
     ⟨(some 51), .val (.tmp 13), none⟩,
     ⟨(some 52), .val (.tmp 14), none⟩,
     ⟨(some 53), .val (.tmp 3), none⟩,
     ⟨(some 54), .call (.func 62) [(.tmp 49), (.tmp 50), (.tmp 51), (.tmp 52), (.tmp 11), (.tmp 53)], none⟩,
     ⟨(some 13), .val (.tmp 54), none⟩]))) (
   .skip))))) (
 (.seq (
  .reg [13, 55] [
    ⟨(some 55), .load none (.tmp 11), none⟩]) (
 (.block 0 (
  (.seq (
   .reg [13, 55, 57] [
     ⟨(some 58), .bin .eql (.tmp 55) (.const (.int .i64 0)), none⟩,
     ⟨(some 57), .val (.tmp 58), none⟩]) (
  (.cond (.tmp 57) (
   (.seq (
    .reg [8, 9] [
      ⟨(some 59), .val (.tmp 13), none⟩,
      ⟨(some 8), .val (.tmp 59), none⟩,
      ⟨(some 9), .val (.const (.int .i64 1)), none⟩]) (
   .ret))) (
   (.seq (
    .reg [13, 60] [
      ⟨(some 61), .bin .eql (.tmp 55) (.const (.int .i64 12)), none⟩,
      ⟨(some 60), .val (.tmp 61), none⟩]) (
   (.cond (.tmp 60) (
    (.seq (
     .reg [8, 9] [
       ⟨(some 62), .val (.tmp 13), none⟩,
       ⟨(some 8), .val (.tmp 62), none⟩,
       ⟨(some 9), .val (.const (.int .i64 2)), none⟩]) (
    .ret))) (
    (.seq (
     .reg [8, 9] [
       ⟨(some 56), .val (.tmp 13), none⟩,
       ⟨(some 8), .val (.tmp 56), none⟩,
       ⟨(some 9), .val (.const (.int .i64 0)), none⟩]) (
    .ret))))))))))))))))))))))))))))
def H51 : Hint := (.two (.reg [3, 0, 1, 2] []) (.two (.reg [3, 0, 10, 1] []) (.two (.reg [11, 3, 0, 10, 1] []) (.two (.reg [11, 3, 0, 12, 10, 1] []) (.two (.reg [11, 3, 0, 13, 12, 10, 1] []) (.two (.reg [11, 3, 0, 14, 13, 12, 10] []) (.two (.two (.reg [11, 3, 0, 14, 13, 12, 10, 34] []) (.two (.two (.two (.reg [11, 3, 0, 14, 13, 12, 36] []) (.two (.two (.reg [11, 3, 12, 0, 14, 13] []) (.two (.reg [11, 3, 13, 12, 0, 14] []) (.reg [11, 3, 14, 13, 12, 0] []))) .leaf)) (.reg [13, 11] [])) .leaf)) (.two (.reg [13, 55] []) (.one (.two (.reg [13, 55, 57] []) (.two (.two (.reg [8, 9] []) .leaf) (.two (.reg [13, 60] []) (.two (.two (.reg [8, 9] []) .leaf) (.two (.reg [8, 9] []) .leaf))))))))))))))
def R51 : List ARes := [.tmp 8, .tmp 9]
theorem code51 : cCode Try.prog 63 H51 (Try.f51.body.getD .skip) = some A51 := by kernel_rfl
theorem ok51 : FunOk Try.prog 51 ⟨R51, A51⟩ := ⟨Try.f51, _, H51, 63, Try.func51, by kernel_rfl, by kernel_rfl, code51, by decide, by kernel_rfl⟩
def A52 : ACode :=
 (.seq (
  .reg [8, 0, 2] [
    ⟨(some 10), .val (.tmp 1), none⟩,
    ⟨(some 8), .val (.tmp 10), none⟩]) (
 (.seq (
  .reg [9, 8, 0] [
    ⟨(some 11), .val (.tmp 2), none⟩,
    ⟨(some 12), .bin .sub (.tmp 11) (.const (.int .i64 1)), none⟩,
    ⟨(some 9), .val (.tmp 12), none⟩]) (
 (.block 0 (
  (.loop (
   (.seq (
    (.seq (
     .reg [0, 9, 8, 15] [
       ⟨(some 13), .val (.tmp 8), none⟩,
       ⟨(some 14), .val (.tmp 9), none⟩,
       ⟨(some 15), .bin .lss (.tmp 13) (.tmp 14), none⟩]) (
    (.cond (.tmp 15) (
     .skip) (
     .exit 0))))) (
   (.block 1 (
    (.seq (
     .dreg [0, 9, 8] [
       (⟨(some 16), .val (.tmp 0), none⟩, []),
       (⟨(some 17), .val (.tmp 8), none⟩, []),
       (⟨(some 18), .val (.tmp 0), none⟩, []),
       (⟨(some 19), .val (.tmp 9), none⟩, []),
       (⟨(some 20), .val (.tmp 0), none⟩, []),
       (⟨(some 21), .val (.tmp 9), none⟩, []),
       (⟨(some 22), .idxSl 3 (.tmp 20) (.tmp 21), none⟩, []),
       (⟨(some 23), .load (some 3) (.tmp 22), none⟩, []),
       (⟨(some 24), .val (.tmp 0), none⟩, []),
       (⟨(some 25), .val (.tmp 8), none⟩, []),
       (⟨(some 26), .idxSl 3 (.tmp 24) (.tmp 25), none⟩, []),
       (⟨(some 27), .load (some 3) (.tmp 26), none⟩, [7]),
       (⟨(some 28), .idxSl 3 (.tmp 16) (.tmp 17), none⟩, []),
       (⟨none, .store 3 (.tmp 28) (.tmp 23), none⟩, []),
       (⟨(some 29), .idxSl 3 (.tmp 18) (.tmp 19), none⟩, []),
       (⟨none, .store 3 (.tmp 29) (.tmp 27), none⟩, [])]) (
    (.seq (
     .reg [8, 0, 9] [
       ⟨(some 30), .val (.tmp 8), none⟩,
       ⟨(some 31), .bin .add (.tmp 30) (.const (.int .i64 1)), none⟩,
       ⟨(some 8), .val (.tmp 31), none⟩]) (
    .reg [9, 8, 0] [
      ⟨(some 32), .val (.tmp 9), none⟩,
      ⟨(some 33), .bin .sub (.tmp 32) (.const (.int .i64 1)), none⟩,
      ⟨(some 9), .val (.tmp 33), none⟩]))))))))))))))))
def H52 : Hint := (.two (.reg [8, 0, 2] []) (.two (.reg [9, 8, 0] []) (.one (.one (.two (.two (.reg [0, 9, 8, 15] []) (.two .leaf .leaf)) (.one (.two (.reg [0, 9, 8] [(0, [], []), (1, [], []), (2, [], []), (3, [], []), (4, [], []), (5, [], []), (6, [], [4, 5]), (7, [], [6, 4, 5]), (8, [], []), (9, [], []), (10, [], [8, 9]), (11, [7], [10, 8, 9]), (12, [], [0, 1, 4, 5, 6, 7, 11, 10, 8, 9]), (13, [], [12, 0, 1, 4, 5, 6, 7, 11, 10, 8, 9]), (14, [], [2, 3, 0, 1, 4, 5, 6, 7, 8, 9, 10, 11, 12, 13]), (15, [], [14, 2, 3, 0, 1, 4, 5, 6, 7, 8, 9, 10, 11, 12, 13])]) (.two (.reg [8, 0, 9] []) (.reg [9, 8, 0] [])))))))))
def R52 : List ARes := []
theorem code52 : cCode Try.prog 34 H52 (Try.f52.body.getD .skip) = some A52 := by kernel_rfl
theorem ok52 : FunOk Try.prog 52 ⟨R52, A52⟩ := ⟨Try.f52, _, H52, 34, Try.func52, by kernel_rfl, by kernel_rfl, code52, by decide, by kernel_rfl⟩
def A53 : ACode :=
 (.seq (
  .reg [0, 3, 2, 1] [
    ⟨(some 8), .val (.const (.bool false)), none⟩]) (
 (.seq (
  .reg [9, 0, 3, 2, 1] [
    ⟨(some 13), .val (.tmp 1), none⟩,
    ⟨(some 14), .bin .add (.tmp 13) (.const (.int .i64 1)), none⟩,
    ⟨(some 9), .val (.tmp 14), none⟩]) (
 (.seq (
  (.seq (
   .reg [9, 10, 0, 3, 2, 1] [
     ⟨(some 10), .val (.const (.int .i64 0)), none⟩]) (
  (.block 0 (
   (.loop (
    (.seq (
     (.seq (
      .reg [9, 0, 3, 2, 1, 10, 16] [
        ⟨(some 15), .val (.tmp 10), none⟩,
        ⟨(some 16), .bin .lss (.tmp 15) (.const (.int .i64 5)), none⟩]) (
     (.cond (.tmp 16) (
      .skip) (
      .exit 0))))) (
    (.seq (
     (.block 1 (
      (.seq (
       (.block 2 (
        (.loop (
         (.seq (
          (.seq (
           .dreg [0, 3, 2, 1, 10, 9, 36] [
             (⟨(some 19), .val (.tmp 9), none⟩, []),
             (⟨(some 20), .val (.tmp 2), none⟩, []),
             (⟨(some 21), .bin .lss (.tmp 19) (.tmp 20), none⟩, []),
             (⟨(some 22), .val (.tmp 21), none⟩, []),
             (⟨(some 23), .val (.tmp 3), (some (22, true))⟩, []),
             (⟨(some 24), .val (.tmp 0), (some (22, true))⟩, []),
             (⟨(some 25), .val (.tmp 9), (some (22, true))⟩, []),
             (⟨(some 26), .idxSl 3 (.tmp 24) (.tmp 25), (some (22, true))⟩, []),
             (⟨(some 27), .load (some 3) (.tmp 26), (some (22, true))⟩, []),
             (⟨(some 28), .val (.tmp 0), (some (22, true))⟩, []),
             (⟨(some 29), .val (.tmp 9), (some (22, true))⟩, []),
             (⟨(some 30), .bin .sub (.tmp 29) (.const (.int .i64 1)), (some (22, true))⟩, []),
             (⟨(some 31), .idxSl 3 (.tmp 28) (.tmp 30), (some (22, true))⟩, []),
             (⟨(some 32), .load (some 3) (.tmp 31), (some (22, true))⟩, [8]),
             (⟨(some 33), .call (.tmp 23) [(.tmp 27), (.tmp 32)], (some (22, true))⟩, []),
             (⟨(some 34), .bin .lss (.tmp 33) (.const (.int .i64 0)), (some (22, true))⟩, []),
             (⟨(some 35), .un .not (.tmp 34), (some (22, true))⟩, []),
             (⟨(some 36), .pick (.tmp 22) (.tmp 35) (.const (.bool false)), none⟩, [])]) (
          (.cond (.tmp 36) (
           .skip) (
           .exit 2))))) (
         (.block 3 (
          .reg [9, 0, 3, 2, 1, 10] [
            ⟨(some 37), .val (.tmp 9), none⟩,
            ⟨(some 38), .bin .add (.tmp 37) (.const (.int .i64 1)), none⟩,
            ⟨(some 9), .val (.tmp 38), none⟩]))))))))) (
      (.seq (
       (.seq (
        .reg [9, 0, 3, 2, 1, 10, 41] [
          ⟨(some 39), .val (.tmp 9), none⟩,
          ⟨(some 40), .val (.tmp 2), none⟩,
          ⟨(some 41), .bin .eql (.tmp 39) (.tmp 40), none⟩]) (
       (.cond (.tmp 41) (
        (.seq (
         .reg [8] [
           ⟨(some 8), .val (.const (.bool true)), none⟩]) (
        .ret))) (
        .skip))))) (
      (.seq (
       (.seq (
        .reg [9, 0, 3, 2, 1, 10, 45] [
          ⟨(some 42), .val (.tmp 2), none⟩,
          ⟨(some 43), .val (.tmp 1), none⟩,
          ⟨(some 44), .bin .sub (.tmp 42) (.tmp 43), none⟩,
          ⟨(some 45), .bin .lss (.tmp 44) (.const (.int .i64 50)), none⟩]) (
       (.cond (.tmp 45) (
        (.seq (
         .reg [8] [
           ⟨(some 8), .val (.const (.bool false)), none⟩]) (
        .ret))) (
        .skip))))) (
      (.seq (
       .dreg [9, 0, 3, 2, 1, 10] [
         (⟨(some 46), .val (.tmp 0), none⟩, []),
         (⟨(some 47), .val (.tmp 9), none⟩, []),
         (⟨(some 48), .val (.tmp 0), none⟩, []),
         (⟨(some 49), .val (.tmp 9), none⟩, []),
         (⟨(some 50), .bin .sub (.tmp 49) (.const (.int .i64 1)), none⟩, []),
         (⟨(some 51), .val (.tmp 0), none⟩, []),
         (⟨(some 52), .val (.tmp 9), none⟩, []),
         (⟨(some 53), .bin .sub (.tmp 52) (.const (.int .i64 1)), none⟩, []),
         (⟨(some 54), .idxSl 3 (.tmp 51) (.tmp 53), none⟩, []),
         (⟨(some 55), .load (some 3) (.tmp 54), none⟩, []),
         (⟨(some 56), .val (.tmp 0), none⟩, []),
         (⟨(some 57), .val (.tmp 9), none⟩, []),
         (⟨(some 58), .idxSl 3 (.tmp 56) (.tmp 57), none⟩, []),
         (⟨(some 59), .load (some 3) (.tmp 58), none⟩, [9]),
         (⟨(some 60), .idxSl 3 (.tmp 46) (.tmp 47), none⟩, []),
         (⟨none, .store 3 (.tmp 60) (.tmp 55), none⟩, []),
         (⟨(some 61), .idxSl 3 (.tmp 48) (.tmp 50), none⟩, []),
         (⟨none, .store 3 (.tmp 61) (.tmp 59), none⟩, [])]) (
      (.seq (
       (.seq (
        .reg [9, 0, 3, 2, 1, 10, 65] [
          ⟨(some 62), .val (.tmp 9), none⟩,
          ⟨(some 63), .val (.tmp 1), none⟩,
          ⟨(some 64), .bin .sub (.tmp 62) (.tmp 63), none⟩,
          ⟨(some 65), .bin .geq (.tmp 64) (.const (.int .i64 2)), none⟩]) (
       (.cond (.tmp 65) (
        (.seq (
         .reg [9, 0, 3, 2, 1, 10, 11] [
           ⟨(some 66), .val (.tmp 9), none⟩,
           ⟨(some 67), .bin .sub (.tmp 66) (.const (.int .i64 1)), none⟩,
           ⟨(some 11), .val (.tmp 67), none⟩]) (
        (.block 4 (
         (.loop (
          (.seq (
           (.seq (
            .reg [9, 0, 3, 2, 1, 10, 11, 69] [
              ⟨(some 68), .val (.tmp 11), none⟩,
              ⟨(some 69), .bin .geq (.tmp 68) (.const (.int .i64 1)), none⟩]) (
           (.cond (.tmp 69) (
            .skip) (
            .exit 4))))) (
          (.seq (
           (.block 5 (
            (.seq (
             (.seq (
              .dreg [9, 0, 3, 2, 1, 10, 11, 84] [
                (⟨(some 72), .val (.tmp 3), none⟩, []),
                (⟨(some 73), .val (.tmp 0), none⟩, []),
                (⟨(some 74), .val (.tmp 11), none⟩, []),
                (⟨(some 75), .idxSl 3 (.tmp 73) (.tmp 74), none⟩, []),
                (⟨(some 76), .load (some 3) (.tmp 75), none⟩, []),
                (⟨(some 77), .val (.tmp 0), none⟩, []),
                (⟨(some 78), .val (.tmp 11), none⟩, []),
                (⟨(some 79), .bin .sub (.tmp 78) (.const (.int .i64 1)), none⟩, []),
                (⟨(some 80), .idxSl 3 (.tmp 77) (.tmp 79), none⟩, []),
                (⟨(some 81), .load (some 3) (.tmp 80), none⟩, [4]),
                (⟨(some 82), .call (.tmp 72) [(.tmp 76), (.tmp 81)], none⟩, []),
                (⟨(some 83), .bin .lss (.tmp 82) (.const (.int .i64 0)), none⟩, []),
                (⟨(some 84), .un .not (.tmp 83), none⟩, [])]) (
             (.cond (.tmp 84) (
              .exit 4) (
              .skip))))) (
            .dreg [9, 0, 3, 2, 1, 10, 11] [
              (⟨(some 85), .val (.tmp 0), none⟩, []),
              (⟨(some 86), .val (.tmp 11), none⟩, []),
              (⟨(some 87), .val (.tmp 0), none⟩, []),
              (⟨(some 88), .val (.tmp 11), none⟩, []),
              (⟨(some 89), .bin .sub (.tmp 88) (.const (.int .i64 1)), none⟩, []),
              (⟨(some 90), .val (.tmp 0), none⟩, []),
              (⟨(some 91), .val (.tmp 11), none⟩, []),
              (⟨(some 92), .bin .sub (.tmp 91) (.const (.int .i64 1)), none⟩, []),
              (⟨(some 93), .idxSl 3 (.tmp 90) (.tmp 92), none⟩, []),
              (⟨(some 94), .load (some 3) (.tmp 93), none⟩, []),
              (⟨(some 95), .val (.tmp 0), none⟩, []),
              (⟨(some 96), .val (.tmp 11), none⟩, []),
              (⟨(some 97), .idxSl 3 (.tmp 95) (.tmp 96), none⟩, []),
              (⟨(some 98), .load (some 3) (.tmp 97), none⟩, [9]),
              (⟨(some 99), .idxSl 3 (.tmp 85) (.tmp 86), none⟩, []),
              (⟨none, .store 3 (.tmp 99) (.tmp 94), none⟩, []),
              (⟨(some 100), .idxSl 3 (.tmp 87) (.tmp 89), none⟩, []),
              (⟨none, .store 3 (.tmp 100) (.tmp 98), none⟩, [])]))))) (
          .reg [9, 0, 3, 2, 1, 10, 11] [
            ⟨(some 70), .val (.tmp 11), none⟩,
            ⟨(some 71), .bin .sub (.tmp 70) (.const (.int .i64 1)), none⟩,
            ⟨(some 11), .val (.tmp 71), none⟩]))))))))))) (
        .skip))))) (
      (.seq (
       .reg [9, 0, 3, 2, 1, 10, 104] [
         ⟨(some 101), .val (.tmp 2), none⟩,
         ⟨(some 102), .val (.tmp 9), none⟩,
         ⟨(some 103), .bin .sub (.tmp 101) (.tmp 102), none⟩,
         ⟨(some 104), .bin .geq (.tmp 103) (.const (.int .i64 2)), none⟩]) (
      (.cond (.tmp 104) (
       (.seq (
        .reg [9, 0, 3, 2, 1, 10, 12] [
          ⟨(some 105), .val (.tmp 9), none⟩,
          ⟨(some 106), .bin .add (.tmp 105) (.const (.int .i64 1)), none⟩,
          ⟨(some 12), .val (.tmp 106), none⟩]) (
       (.block 6 (
        (.loop (
         (.seq (
          (.seq (
           .reg [9, 0, 3, 2, 1, 10, 12, 109] [
             ⟨(some 107), .val (.tmp 12), none⟩,
             ⟨(some 108), .val (.tmp 2), none⟩,
             ⟨(some 109), .bin .lss (.tmp 107) (.tmp 108), none⟩]) (
          (.cond (.tmp 109) (
           .skip) (
           .exit 6))))) (
         (.seq (
          (.block 7 (
           (.seq (
            (.seq (
             .dreg [9, 0, 3, 2, 1, 10, 12, 124] [
               (⟨(some 112), .val (.tmp 3), none⟩, []),
               (⟨(some 113), .val (.tmp 0), none⟩, []),
               (⟨(some 114), .val (.tmp 12), none⟩, []),
               (⟨(some 115), .idxSl 3 (.tmp 113) (.tmp 114), none⟩, []),
               (⟨(some 116), .load (some 3) (.tmp 115), none⟩, []),
               (⟨(some 117), .val (.tmp 0), none⟩, []),
               (⟨(some 118), .val (.tmp 12), none⟩, []),
               (⟨(some 119), .bin .sub (.tmp 118) (.const (.int .i64 1)), none⟩, []),
               (⟨(some 120), .idxSl 3 (.tmp 117) (.tmp 119), none⟩, []),
               (⟨(some 121), .load (some 3) (.tmp 120), none⟩, [4]),
               (⟨(some 122), .call (.tmp 112) [(.tmp 116), (.tmp 121)], none⟩, []),
               (⟨(some 123), .bin .lss (.tmp 122) (.const (.int .i64 0)), none⟩, []),
               (⟨(some 124), .un .not (.tmp 123), none⟩, [])]) (
            (.cond (.tmp 124) (
             .exit 6) (
             .skip))))) (
           .dreg [9, 0, 3, 2, 1, 10, 12] [
             (⟨(some 125), .val (.tmp 0), none⟩, []),
             (⟨(some 126), .val (.tmp 12), none⟩, []),
             (⟨(some 127), .val (.tmp 0), none⟩, []),
             (⟨(some 128), .val (.tmp 12), none⟩, []),
             (⟨(some 129), .bin .sub (.tmp 128) (.const (.int .i64 1)), none⟩, []),
             (⟨(some 130), .val (.tmp 0), none⟩, []),
             (⟨(some 131), .val (.tmp 12), none⟩, []),
             (⟨(some 132), .bin .sub (.tmp 131) (.const (.int .i64 1)), none⟩, []),
             (⟨(some 133), .idxSl 3 (.tmp 130) (.tmp 132), none⟩, []),
             (⟨(some 134), .load (some 3) (.tmp 133), none⟩, []),
             (⟨(some 135), .val (.tmp 0), none⟩, []),
             (⟨(some 136), .val (.tmp 12), none⟩, []),
             (⟨(some 137), .idxSl 3 (.tmp 135) (.tmp 136), none⟩, []),
             (⟨(some 138), .load (some 3) (.tmp 137), none⟩, [9]),
             (⟨(some 139), .idxSl 3 (.tmp 125) (.tmp 126), none⟩, []),
             (⟨none, .store 3 (.tmp 139) (.tmp 134), none⟩, []),
             (⟨(some 140), .idxSl 3 (.tmp 127) (.tmp 129), none⟩, []),
             (⟨none, .store 3 (.tmp 140) (.tmp 138), none⟩, [])]))))) (
         .reg [9, 0, 3, 2, 1, 10, 12] [
           ⟨(some 110), .val (.tmp 12), none⟩,
           ⟨(some 111), .bin .add (.tmp 110) (.const (.int .i64 1)), none⟩,
           ⟨(some 12), .val (.tmp 111), none⟩]))))))))))) (
       .skip))))))))))))))))) (
    .reg [9, 10, 0, 3, 2, 1] [
      ⟨(some 17), .val (.tmp 10), none⟩,
      ⟨(some 18), .bin .add (.tmp 17) (.const (.int .i64 1)), none⟩,
      ⟨(some 10), .val (.tmp 18), none⟩]))))))))))) (
 (.seq (
  .reg [8] [
    ⟨(some 8), .val (.const (.bool false)), none⟩]) (
 .ret))))))))
def H53 : Hint := (.two (.reg [0, 3, 2, 1] []) (.two (.reg [9, 0, 3, 2, 1] []) (.two (.two (.reg [9, 10, 0, 3, 2, 1] []) (.one (.one (.two (.two (.reg [9, 0, 3, 2, 1, 10, 16] []) (.two .leaf .leaf)) (.two (.one (.two (.one (.one (.two (.two (.reg [0, 3, 2, 1, 10, 9, 36] [(0, [], []), (1, [], []), (2, [], [0, 1]), (3, [], [2, 0, 1]), (4, [], [3, 2, 0, 1]), (5, [], [3, 2, 0, 1]), (6, [], [3, 2, 0, 1]), (7, [], [5, 3, 2, 0, 1, 6]), (8, [], [7, 5, 3, 2, 0, 1, 6]), (9, [], [3, 2, 0, 1]), (10, [], [3, 2, 0, 1]), (11, [], [10, 3, 2, 0, 1]), (12, [], [9, 3, 2, 0, 1, 11, 10]), (13, [8], [12, 9, 3, 2, 0, 1, 11, 10]), (14, [], [4, 3, 2, 0, 1, 8, 7, 5, 6, 13, 12, 9, 11, 10]), (15, [], [14, 4, 3, 2, 0, 1, 8, 7, 5, 6, 13, 12, 9, 11, 10]), (16, [], [15, 14, 4, 3, 2, 0, 1, 8, 7, 5, 6, 13, 12, 9, 11, 10]), (17, [], [3, 2, 0, 1, 16, 15, 14, 4, 8, 7, 5, 6, 13, 12, 9, 11, 10])]) (.two .leaf .leaf)) (.one (.reg [9, 0, 3, 2, 1, 10] []))))) (.two (.two (.reg [9, 0, 3, 2, 1, 10, 41] []) (.two (.two (.reg [8] []) .leaf) .leaf)) (.two (.two (.reg [9, 0, 3, 2, 1, 10, 45] []) (.two (.two (.reg [8] []) .leaf) .leaf)) (.two (.reg [9, 0, 3, 2, 1, 10] [(0, [], []), (1, [], []), (2, [], []), (3, [], []), (4, [], [3]), (5, [], []), (6, [], []), (7, [], [6]), (8, [], [5, 7, 6]), (9, [], [8, 5, 7, 6]), (10, [], []), (11, [], []), (12, [], [10, 11]), (13, [9], [12, 10, 11]), (14, [], [0, 1, 5, 6, 7, 8, 9, 13, 12, 10, 11]), (15, [], [14, 0, 1, 5, 6, 7, 8, 9, 13, 12, 10, 11]), (16, [], [2, 4, 3, 0, 1, 5, 6, 7, 8, 9, 10, 11, 12, 13, 14, 15]), (17, [], [16, 2, 4, 3, 0, 1, 5, 6, 7, 8, 9, 10, 11, 12, 13, 14, 15])]) (.two (.two (.reg [9, 0, 3, 2, 1, 10, 65] []) (.two (.two (.reg [9, 0, 3, 2, 1, 10, 11] []) (.one (.one (.two (.two (.reg [9, 0, 3, 2, 1, 10, 11, 69] []) (.two .leaf .leaf)) (.two (.one (.two (.two (.reg [9, 0, 3, 2, 1, 10, 11, 84] [(0, [], []), (1, [], []), (2, [], []), (3, [], [1, 2]), (4, [], [3, 1, 2]), (5, [], []), (6, [], []), (7, [], [6]), (8, [], [5, 7, 6]), (9, [4], [8, 5, 7, 6]), (10, [], [0, 4, 3, 1, 2, 9, 8, 5, 7, 6]), (11, [], [10, 0, 4, 3, 1, 2, 9, 8, 5, 7, 6]), (12, [], [11, 10, 0, 4, 3, 1, 2, 9, 8, 5, 7, 6])]) (.two .leaf .leaf)) (.reg [9, 0, 3, 2, 1, 10, 11] [(0, [], []), (1, [], []), (2, [], []), (3, [], []), (4, [], [3]), (5, [], []), (6, [], []), (7, [], [6]), (8, [], [5, 7, 6]), (9, [], [8, 5, 7, 6]), (10, [], []), (11, [], []), (12, [], [10, 11]), (13, [9], [12, 10, 11]), (14, [], [0, 1, 5, 6, 7, 8, 9, 13, 12, 10, 11]), (15, [], [14, 0, 1, 5, 6, 7, 8, 9, 13, 12, 10, 11]), (16, [], [2, 4, 3, 0, 1, 5, 6, 7, 8, 9, 10, 11, 12, 13, 14, 15]), (17, [], [16, 2, 4, 3, 0, 1, 5, 6, 7, 8, 9, 10, 11, 12, 13, 14, 15])]))) (.reg [9, 0, 3, 2, 1, 10, 11] [])))))) .leaf)) (.two (.reg [9, 0, 3, 2, 1, 10, 104] []) (.two (.two (.reg [9, 0, 3, 2, 1, 10, 12] []) (.one (.one (.two (.two (.reg [9, 0, 3, 2, 1, 10, 12, 109] []) (.two .leaf .leaf)) (.two (.one (.two (.two (.reg [9, 0, 3, 2, 1, 10, 12, 124] [(0, [], []), (1, [], []), (2, [], []), (3, [], [1, 2]), (4, [], [3, 1, 2]), (5, [], []), (6, [], []), (7, [], [6]), (8, [], [5, 7, 6]), (9, [4], [8, 5, 7, 6]), (10, [], [0, 4, 3, 1, 2, 9, 8, 5, 7, 6]), (11, [], [10, 0, 4, 3, 1, 2, 9, 8, 5, 7, 6]), (12, [], [11, 10, 0, 4, 3, 1, 2, 9, 8, 5, 7, 6])]) (.two .leaf .leaf)) (.reg [9, 0, 3, 2, 1, 10, 12] [(0, [], []), (1, [], []), (2, [], []), (3, [], []), (4, [], [3]), (5, [], []), (6, [], []), (7, [], [6]), (8, [], [5, 7, 6]), (9, [], [8, 5, 7, 6]), (10, [], []), (11, [], []), (12, [], [10, 11]), (13, [9], [12, 10, 11]), (14, [], [0, 1, 5, 6, 7, 8, 9, 13, 12, 10, 11]), (15, [], [14, 0, 1, 5, 6, 7, 8, 9, 13, 12, 10, 11]), (16, [], [2, 4, 3, 0, 1, 5, 6, 7, 8, 9, 10, 11, 12, 13, 14, 15]), (17, [], [16, 2, 4, 3, 0, 1, 5, 6, 7, 8, 9, 10, 11, 12, 13, 14, 15])]))) (.reg [9, 0, 3, 2, 1, 10, 12] [])))))) .leaf)))))))) (.reg [9, 10, 0, 3, 2, 1] [])))))) (.two (.reg [8] []) .leaf))))
def R53 : List ARes := [.tmp 8]
theorem code53 : cCode Try.prog 141 H53 (Try.f53.body.getD .skip) = some A53 := by kernel_rfl
theorem ok53 : FunOk Try.prog 53 ⟨R53, A53⟩ := ⟨Try.f53, _, H53, 141, Try.func53, by kernel_rfl, by kernel_rfl, code53, by decide, by kernel_rfl⟩
def A54 : ACode :=
 (.seq (
  .reg [0, 1, 4, 2, 3] [
    ⟨(some 10), .val (.const (.int .i64 0)), none⟩]) (
 (.seq (
  .dreg [0, 1, 4, 2] [
    (⟨(some 13), .val (.tmp 0), none⟩, []),
    (⟨(some 14), .val (.tmp 1), none⟩, []),
    (⟨(some 15), .val (.tmp 0), none⟩, []),
    (⟨(some 16), .val (.tmp 3), none⟩, []),
    (⟨(some 17), .val (.tmp 0), none⟩, []),
    (⟨(some 18), .val (.tmp 3), none⟩, []),
    (⟨(some 19), .idxSl 3 (.tmp 17) (.tmp 18), none⟩, []),
    (⟨(some 20), .load (some 3) (.tmp 19), none⟩, []),
    (⟨(some 21), .val (.tmp 0), none⟩, []),
    (⟨(some 22), .val (.tmp 1), none⟩, []),
    (⟨(some 23), .idxSl 3 (.tmp 21) (.tmp 22), none⟩, []),
    (⟨(some 24), .load (some 3) (.tmp 23), none⟩, [7]),
    (⟨(some 25), .idxSl 3 (.tmp 13) (.tmp 14), none⟩, []),
    (⟨none, .store 3 (.tmp 25) (.tmp 20), none⟩, []),
    (⟨(some 26), .idxSl 3 (.tmp 15) (.tmp 16), none⟩, []),
    (⟨none, .store 3 (.tmp 26) (.tmp 24), none⟩, [])]) (
 (.seq (
  .reg [11, 12, 0, 1, 4] [
    ⟨(some 27), .val (.tmp 1), none⟩,
    ⟨(some 28), .bin .add (.tmp 27) (.const (.int .i64 1)), none⟩,
    ⟨(some 29), .val (.tmp 2), none⟩,
    ⟨(some 30), .bin .sub (.tmp 29) (.const (.int .i64 1)), none⟩,
    ⟨(some 11), .val (.tmp 28), none⟩,
    ⟨(some 12), .val (.tmp 30), none⟩]) (
 (.seq (
  (.block 0 (
   (.loop (
    (.block 1 (
     (.seq (
      (.block 2 (
       (.loop (
        (.seq (
         (.seq (
          .dreg [12, 0, 1, 4, 11, 47] [
            (⟨(some 31), .val (.tmp 11), none⟩, []),
            (⟨(some 32), .val (.tmp 12), none⟩, []),
            (⟨(some 33), .bin .leq (.tmp 31) (.tmp 32), none⟩, []),
            (⟨(some 34), .val (.tmp 33), none⟩, []),
            (⟨(some 35), .val (.tmp 4), (some (34, true))⟩, []),
            (⟨(some 36), .val (.tmp 0), (some (34, true))⟩, []),
            (⟨(some 37), .val (.tmp 1), (some (34, true))⟩, []),
            (⟨(some 38), .idxSl 3 (.tmp 36) (.tmp 37), (some (34, true))⟩, []),
            (⟨(some 39), .load (some 3) (.tmp 38), (some (34, true))⟩, []),
            (⟨(some 40), .val (.tmp 0), (some (34, true))⟩, []),
            (⟨(some 41), .val (.tmp 11), (some (34, true))⟩, []),
            (⟨(some 42), .idxSl 3 (.tmp 40) (.tmp 41), (some (34, true))⟩, []),
            (⟨(some 43), .load (some 3) (.tmp 42), (some (34, true))⟩, [8]),
            (⟨(some 44), .call (.tmp 35) [(.tmp 39), (.tmp 43)], (some (34, true))⟩, []),
            (⟨(some 45), .bin .lss (.tmp 44) (.const (.int .i64 0)), (some (34, true))⟩, []),
            (⟨(some 46), .un .not (.tmp 45), (some (34, true))⟩, []),
            (⟨(some 47), .pick (.tmp 34) (.tmp 46) (.const (.bool false)), none⟩, [])]) (
         (.cond (.tmp 47) (
          .skip) (
          .exit 2))))) (
        (.block 3 (
         .reg [11, 12, 0, 1, 4] [
           ⟨(some 48), .val (.tmp 11), none⟩,
           ⟨(some 49), .bin .add (.tmp 48) (.const (.int .i64 1)), none⟩,
           ⟨(some 11), .val (.tmp 49), none⟩]))))))))) (
     (.seq (
      (.block 4 (
       (.loop (
        (.seq (
         (.seq (
          .dreg [11, 0, 1, 4, 12, 65] [
            (⟨(some 50), .val (.tmp 11), none⟩, []),
            (⟨(some 51), .val (.tmp 12), none⟩, []),
            (⟨(some 52), .bin .leq (.tmp 50) (.tmp 51), none⟩, []),
            (⟨(some 53), .val (.tmp 52), none⟩, []),
            (⟨(some 54), .val (.tmp 4), (some (53, true))⟩, []),
            (⟨(some 55), .val (.tmp 0), (some (53, true))⟩, []),
            (⟨(some 56), .val (.tmp 1), (some (53, true))⟩, []),
            (⟨(some 57), .idxSl 3 (.tmp 55) (.tmp 56), (some (53, true))⟩, []),
            (⟨(some 58), .load (some 3) (.tmp 57), (some (53, true))⟩, []),
            (⟨(some 59), .val (.tmp 0), (some (53, true))⟩, []),
            (⟨(some 60), .val (.tmp 12), (some (53, true))⟩, []),
            (⟨(some 61), .idxSl 3 (.tmp 59) (.tmp 60), (some (53, true))⟩, []),
            (⟨(some 62), .load (some 3) (.tmp 61), (some (53, true))⟩, [8]),
            (⟨(some 63), .call (.tmp 54) [(.tmp 58), (.tmp 62)], (some (53, true))⟩, []),
            (⟨(some 64), .bin .lss (.tmp 63) (.const (.int .i64 0)), (some (53, true))⟩, []),
            (⟨(some 65), .pick (.tmp 53) (.tmp 64) (.const (.bool false)), none⟩, [])]) (
         (.cond (.tmp 65) (
          .skip) (
          .exit 4))))) (
        (.block 5 (
         .reg [12, 11, 0, 1, 4] [
           ⟨(some 66), .val (.tmp 12), none⟩,
           ⟨(some 67), .bin .sub (.tmp 66) (.const (.int .i64 1)), none⟩,
           ⟨(some 12), .val (.tmp 67), none⟩]))))))))) (
     (.seq (
      (.seq (
       .reg [11, 0, 1, 4, 12, 70] [
         ⟨(some 68), .val (.tmp 11), none⟩,
         ⟨(some 69), .val (.tmp 12), none⟩,
         ⟨(some 70), .bin .gtr (.tmp 68) (.tmp 69), none⟩]) (
      (.cond (.tmp 70) (
       .exit 0) (
       .skip))))) (
     (.seq (
      .dreg [0, 1, 4, 12, 11] [
        (⟨(some 71), .val (.tmp 0), none⟩, []),
        (⟨(some 72), .val (.tmp 11), none⟩, []),
        (⟨(some 73), .val (.tmp 0), none⟩, []),
        (⟨(some 74), .val (.tmp 12), none⟩, []),
        (⟨(some 75), .val (.tmp 0), none⟩, []),
        (⟨(some 76), .val (.tmp 12), none⟩, []),
        (⟨(some 77), .idxSl 3 (.tmp 75) (.tmp 76), none⟩, []),
        (⟨(some 78), .load (some 3) (.tmp 77), none⟩, []),
        (⟨(some 79), .val (.tmp 0), none⟩, []),
        (⟨(some 80), .val (.tmp 11), none⟩, []),
        (⟨(some 81), .idxSl 3 (.tmp 79) (.tmp 80), none⟩, []),
        (⟨(some 82), .load (some 3) (.tmp 81), none⟩, [7]),
        (⟨(some 83), .idxSl 3 (.tmp 71) (.tmp 72), none⟩, []),
        (⟨none, .store 3 (.tmp 83) (.tmp 78), none⟩, []),
        (⟨(some 84), .idxSl 3 (.tmp 73) (.tmp 74), none⟩, []),
        (⟨none, .store 3 (.tmp 84) (.tmp 82), none⟩, [])]) (
     (.seq (
      .reg [11, 0, 1, 4, 12] [
        ⟨(some 85), .val (.tmp 11), none⟩,
        ⟨(some 86), .bin .add (.tmp 85) (.const (.int .i64 1)), none⟩,
        ⟨(some 11), .val (.tmp 86), none⟩]) (
     .reg [11, 12, 0, 1, 4] [
       ⟨(some 87), .val (.tmp 12), none⟩,
       ⟨(some 88), .bin .sub (.tmp 87) (.const (.int .i64 1)), none⟩,
       ⟨(some 12), .val (.tmp 88), none⟩]))))))))))))))))) (
 (.seq (
  .reg [10] [
    ⟨(some 89), .val (.tmp 11), none⟩,
    ⟨(some 10), .val (.tmp 89), none⟩]) (
 .ret))))))))))
def H54 : Hint := (.two (.reg [0, 1, 4, 2, 3] []) (.two (.reg [0, 1, 4, 2] [(0, [], []), (1, [], []), (2, [], []), (3, [], []), (4, [], []), (5, [], []), (6, [], [4, 5]), (7, [], [6, 4, 5]), (8, [], []), (9, [], []), (10, [], [8, 9]), (11, [7], [10, 8, 9]), (12, [], [0, 1, 4, 5, 6, 7, 11, 10, 8, 9]), (13, [], [12, 0, 1, 4, 5, 6, 7, 11, 10, 8, 9]), (14, [], [2, 3, 0, 1, 4, 5, 6, 7, 8, 9, 10, 11, 12, 13]), (15, [], [14, 2, 3, 0, 1, 4, 5, 6, 7, 8, 9, 10, 11, 12, 13])]) (.two (.reg [11, 12, 0, 1, 4] []) (.two (.one (.one (.one (.two (.one (.one (.two (.two (.reg [12, 0, 1, 4, 11, 47] [(0, [], []), (1, [], []), (2, [], [0, 1]), (3, [], [2, 0, 1]), (4, [], [3, 2, 0, 1]), (5, [], [3, 2, 0, 1]), (6, [], [3, 2, 0, 1]), (7, [], [5, 3, 2, 0, 1, 6]), (8, [], [7, 5, 3, 2, 0, 1, 6]), (9, [], [3, 2, 0, 1]), (10, [], [3, 2, 0, 1]), (11, [], [9, 3, 2, 0, 1, 10]), (12, [8], [11, 9, 3, 2, 0, 1, 10]), (13, [], [4, 3, 2, 0, 1, 8, 7, 5, 6, 12, 11, 9, 10]), (14, [], [13, 4, 3, 2, 0, 1, 8, 7, 5, 6, 12, 11, 9, 10]), (15, [], [14, 13, 4, 3, 2, 0, 1, 8, 7, 5, 6, 12, 11, 9, 10]), (16, [], [3, 2, 0, 1, 15, 14, 13, 4, 8, 7, 5, 6, 12, 11, 9, 10])]) (.two .leaf .leaf)) (.one (.reg [11, 12, 0, 1, 4] []))))) (.two (.one (.one (.two (.two (.reg [11, 0, 1, 4, 12, 65] [(0, [], []), (1, [], []), (2, [], [0, 1]), (3, [], [2, 0, 1]), (4, [], [3, 2, 0, 1]), (5, [], [3, 2, 0, 1]), (6, [], [3, 2, 0, 1]), (7, [], [5, 3, 2, 0, 1, 6]), (8, [], [7, 5, 3, 2, 0, 1, 6]), (9, [], [3, 2, 0, 1]), (10, [], [3, 2, 0, 1]), (11, [], [9, 3, 2, 0, 1, 10]), (12, [8], [11, 9, 3, 2, 0, 1, 10]), (13, [], [4, 3, 2, 0, 1, 8, 7, 5, 6, 12, 11, 9, 10]), (14, [], [13, 4, 3, 2, 0, 1, 8, 7, 5, 6, 12, 11, 9, 10]), (15, [], [3, 2, 0, 1, 14, 13, 4, 8, 7, 5, 6, 12, 11, 9, 10])]) (.two .leaf .leaf)) (.one (.reg [12, 11, 0, 1, 4] []))))) (.two (.two (.reg [11, 0, 1, 4, 12, 70] []) (.two .leaf .leaf)) (.two (.reg [0, 1, 4, 12, 11] [(0, [], []), (1, [], []), (2, [], []), (3, [], []), (4, [], []), (5, [], []), (6, [], [4, 5]), (7, [], [6, 4, 5]), (8, [], []), (9, [], []), (10, [], [8, 9]), (11, [7], [10, 8, 9]), (12, [], [0, 1, 4, 5, 6, 7, 11, 10, 8, 9]), (13, [], [12, 0, 1, 4, 5, 6, 7, 11, 10, 8, 9]), (14, [], [2, 3, 0, 1, 4, 5, 6, 7, 8, 9, 10, 11, 12, 13]), (15, [], [14, 2, 3, 0, 1, 4, 5, 6, 7, 8, 9, 10, 11, 12, 13])]) (.two (.reg [11, 0, 1, 4, 12] []) (.reg [11, 12, 0, 1, 4] []))))))))) (.two (.reg [10] []) .leaf)))))
def R54 : List ARes := [.tmp 10]
theorem code54 : cCode Try.prog 90 H54 (Try.f54.body.getD .skip) = some A54 := by kernel_rfl
theorem ok54 : FunOk Try.prog 54 ⟨R54, A54⟩ := ⟨Try.f54, _, H54, 90, Try.func54, by kernel_rfl, by kernel_rfl, code54, by decide, by kernel_rfl⟩
def A55 : ACode :=
 (.seq (
  .reg [0, 1, 4, 2, 3] [
    ⟨(some 10), .val (.const (.int .i64 0)), none⟩,
    ⟨(some 11), .val (.const (.bool false)), none⟩]) (
 (.seq (
  .dreg [0, 1, 4, 2] [
    (⟨(some 14), .val (.tmp 0), none⟩, []),
    (⟨(some 15), .val (.tmp 1), none⟩, []),
    (⟨(some 16), .val (.tmp 0), none⟩, []),
    (⟨(some 17), .val (.tmp 3), none⟩, []),
    (⟨(some 18), .val (.tmp 0), none⟩, []),
    (⟨(some 19), .val (.tmp 3), none⟩, []),
    (⟨(some 20), .idxSl 3 (.tmp 18) (.tmp 19), none⟩, []),
    (⟨(some 21), .load (some 3) (.tmp 20), none⟩, []),
    (⟨(some 22), .val (.tmp 0), none⟩, []),
    (⟨(some 23), .val (.tmp 1), none⟩, []),
    (⟨(some 24), .idxSl 3 (.tmp 22) (.tmp 23), none⟩, []),
    (⟨(some 25), .load (some 3) (.tmp 24), none⟩, [7]),
    (⟨(some 26), .idxSl 3 (.tmp 14) (.tmp 15), none⟩, []),
    (⟨none, .store 3 (.tmp 26) (.tmp 21), none⟩, []),
    (⟨(some 27), .idxSl 3 (.tmp 16) (.tmp 17), none⟩, []),
    (⟨none, .store 3 (.tmp 27) (.tmp 25), none⟩, [])]) (
 (.seq (
  .reg [12, 13, 0, 1, 4] [
    ⟨(some 28), .val (.tmp 1), none⟩,
    ⟨(some 29), .bin .add (.tmp 28) (.const (.int .i64 1)), none⟩,
    ⟨(some 30), .val (.tmp 2), none⟩,
    ⟨(some 31), .bin .sub (.tmp 30) (.const (.int .i64 1)), none⟩,
    ⟨(some 12), .val (.tmp 29), none⟩,
    ⟨(some 13), .val (.tmp 31), none⟩]) (
 (.seq (
  (.block 0 (
   (.loop (
    (.seq (
     (.seq (
      .dreg [13, 0, 1, 4, 12, 47] [
        (⟨(some 32), .val (.tmp 12), none⟩, []),
        (⟨(some 33), .val (.tmp 13), none⟩, []),
        (⟨(some 34), .bin .leq (.tmp 32) (.tmp 33), none⟩, []),
        (⟨(some 35), .val (.tmp 34), none⟩, []),
        (⟨(some 36), .val (.tmp 4), (some (35, true))⟩, []),
        (⟨(some 37), .val (.tmp 0), (some (35, true))⟩, []),
        (⟨(some 38), .val (.tmp 12), (some (35, true))⟩, []),
        (⟨(some 39), .idxSl 3 (.tmp 37) (.tmp 38), (some (35, true))⟩, []),
        (⟨(some 40), .load (some 3) (.tmp 39), (some (35, true))⟩, []),
        (⟨(some 41), .val (.tmp 0), (some (35, true))⟩, []),
        (⟨(some 42), .val (.tmp 1), (some (35, true))⟩, []),
        (⟨(some 43), .idxSl 3 (.tmp 41) (.tmp 42), (some (35, true))⟩, []),
        (⟨(some 44), .load (some 3) (.tmp 43), (some (35, true))⟩, [8]),
        (⟨(some 45), .call (.tmp 36) [(.tmp 40), (.tmp 44)], (some (35, true))⟩, []),
        (⟨(some 46), .bin .lss (.tmp 45) (.const (.int .i64 0)), (some (35, true))⟩, []),
        (⟨(some 47), .pick (.tmp 35) (.tmp 46) (.const (.bool false)), none⟩, [])]) (
     (.cond (.tmp 47) (
      .skip) (
      .exit 0))))) (
    (.block 1 (
     .reg [12, 13, 0, 1, 4] [
       ⟨(some 48), .val (.tmp 12), none⟩,
       ⟨(some 49), .bin .add (.tmp 48) (.const (.int .i64 1)), none⟩,
       ⟨(some 12), .val (.tmp 49), none⟩]))))))))) (
 (.seq (
  (.block 2 (
   (.loop (
    (.seq (
     (.seq (
      .dreg [0, 1, 4, 12, 13, 66] [
        (⟨(some 50), .val (.tmp 12), none⟩, []),
        (⟨(some 51), .val (.tmp 13), none⟩, []),
        (⟨(some 52), .bin .leq (.tmp 50) (.tmp 51), none⟩, []),
        (⟨(some 53), .val (.tmp 52), none⟩, []),
        (⟨(some 54), .val (.tmp 4), (some (53, true))⟩, []),
        (⟨(some 55), .val (.tmp 0), (some (53, true))⟩, []),
        (⟨(some 56), .val (.tmp 13), (some (53, true))⟩, []),
        (⟨(some 57), .idxSl 3 (.tmp 55) (.tmp 56), (some (53, true))⟩, []),
        (⟨(some 58), .load (some 3) (.tmp 57), (some (53, true))⟩, []),
        (⟨(some 59), .val (.tmp 0), (some (53, true))⟩, []),
        (⟨(some 60), .val (.tmp 1), (some (53, true))⟩, []),
        (⟨(some 61), .idxSl 3 (.tmp 59) (.tmp 60), (some (53, true))⟩, []),
        (⟨(some 62), .load (some 3) (.tmp 61), (some (53, true))⟩, [8]),
        (⟨(some 63), .call (.tmp 54) [(.tmp 58), (.tmp 62)], (some (53, true))⟩, []),
        (⟨(some 64), .bin .lss (.tmp 63) (.const (.int .i64 0)), (some (53, true))⟩, []),
        (⟨(some 65), .un .not (.tmp 64), (some (53, true))⟩, []),
        (⟨(some 66), .pick (.tmp 53) (.tmp 65) (.const (.bool false)), none⟩, [])]) (
     (.cond (.tmp 66) (
      .skip) (
      .exit 2))))) (
    (.block 3 (
     .reg [13, 0, 1, 4, 12] [
       ⟨(some 67), .val (.tmp 13), none⟩,
       ⟨(some 68), .bin .sub (.tmp 67) (.const (.int .i64 1)), none⟩,
       ⟨(some 13), .val (.tmp 68), none⟩]))))))))) (
 (.seq (
  (.seq (
   .reg [13, 0, 1, 4, 12, 71] [
     ⟨(some 69), .val (.tmp 12), none⟩,
     ⟨(some 70), .val (.tmp 13), none⟩,
     ⟨(some 71), .bin .gtr (.tmp 69) (.tmp 70), none⟩]) (
  (.cond (.tmp 71) (
   (.seq (
    .dreg [13] [
      (⟨(some 72), .val (.tmp 0), none⟩, []),
      (⟨(some 73), .val (.tmp 13), none⟩, []),
      (⟨(some 74), .val (.tmp 0), none⟩, []),
      (⟨(some 75), .val (.tmp 1), none⟩, []),
      (⟨(some 76), .val (.tmp 0), none⟩, []),
      (⟨(some 77), .val (.tmp 1), none⟩, []),
      (⟨(some 78), .idxSl 3 (.tmp 76) (.tmp 77), none⟩, []),
      (⟨(some 79), .load (some 3) (.tmp 78), none⟩, []),
      (⟨(some 80), .val (.tmp 0), none⟩, []),
      (⟨(some 81), .val (.tmp 13), none⟩, []),
      (⟨(some 82), .idxSl 3 (.tmp 80) (.tmp 81), none⟩, []),
      (⟨(some 83), .load (some 3) (.tmp 82), none⟩, [7]),
      (⟨(some 84), .idxSl 3 (.tmp 72) (.tmp 73), none⟩, []),
      (⟨none, .store 3 (.tmp 84) (.tmp 79), none⟩, []),
      (⟨(some 85), .idxSl 3 (.tmp 74) (.tmp 75), none⟩, []),
      (⟨none, .store 3 (.tmp 85) (.tmp 83), none⟩, [])]) (
   (.seq (
    .reg [10, 11] [
      ⟨(some 86), .val (.tmp 13), none⟩,
      ⟨(some 10), .val (.tmp 86), none⟩,
      ⟨(some 11), .val (.const (.bool true)), none⟩]) (
   .ret))))) (
   .skip))))) (
 (.seq (
  .dreg [0, 1, 4, 13, 12] [
    (⟨(some 87), .val (.tmp 0), none⟩, []),
    (⟨(some 88), .val (.tmp 12), none⟩, []),
    (⟨(some 89), .val (.tmp 0), none⟩, []),
    (⟨(some 90), .val (.tmp 13), none⟩, []),
    (⟨(some 91), .val (.tmp 0), none⟩, []),
    (⟨(some 92), .val (.tmp 13), none⟩, []),
    (⟨(some 93), .idxSl 3 (.tmp 91) (.tmp 92), none⟩, []),
    (⟨(some 94), .load (some 3) (.tmp 93), none⟩, []),
    (⟨(some 95), .val (.tmp 0), none⟩, []),
    (⟨(some 96), .val (.tmp 12), none⟩, []),
    (⟨(some 97), .idxSl 3 (.tmp 95) (.tmp 96), none⟩, []),
    (⟨(some 98), .load (some 3) (.tmp 97), none⟩, [7]),
    (⟨(some 99), .idxSl 3 (.tmp 87) (.tmp 88), none⟩, []),
    (⟨none, .store 3 (.tmp 99) (.tmp 94), none⟩, []),
    (⟨(some 100), .idxSl 3 (.tmp 89) (.tmp 90), none⟩, []),
    (⟨none, .store 3 (.tmp 100) (.tmp 98), none⟩, [])]) (
 (.seq (
  .reg [12, 0, 1, 4, 13] [
    ⟨(some 101), .val (.tmp 12), none⟩,
    ⟨(some 102), .bin .add (.tmp 101) (.const (.int .i64 1)), none⟩,
    ⟨(some 12), .val (.tmp 102), none⟩]) (
 (.seq (
  .reg [12, 13, 0, 1, 4] [
    ⟨(some 103), .val (.tmp 13), none⟩,
    ⟨(some 104), .bin .sub (.tmp 103) (.const (.int .i64 1)), none⟩,
    ⟨(some 13), .val (.tmp 104), none⟩]) (
 (.seq (
  (.block 4 (
   (.loop (
    (.block 5 (
     (.seq (
      (.block 6 (
       (.loop (
        (.seq (
         (.seq (
          .dreg [13, 0, 1, 4, 12, 120] [
            (⟨(some 105), .val (.tmp 12), none⟩, []),
            (⟨(some 106), .val (.tmp 13), none⟩, []),
            (⟨(some 107), .bin .leq (.tmp 105) (.tmp 106), none⟩, []),
            (⟨(some 108), .val (.tmp 107), none⟩, []),
            (⟨(some 109), .val (.tmp 4), (some (108, true))⟩, []),
            (⟨(some 110), .val (.tmp 0), (some (108, true))⟩, []),
            (⟨(some 111), .val (.tmp 12), (some (108, true))⟩, []),
            (⟨(some 112), .idxSl 3 (.tmp 110) (.tmp 111), (some (108, true))⟩, []),
            (⟨(some 113), .load (some 3) (.tmp 112), (some (108, true))⟩, []),
            (⟨(some 114), .val (.tmp 0), (some (108, true))⟩, []),
            (⟨(some 115), .val (.tmp 1), (some (108, true))⟩, []),
            (⟨(some 116), .idxSl 3 (.tmp 114) (.tmp 115), (some (108, true))⟩, []),
            (⟨(some 117), .load (some 3) (.tmp 116), (some (108, true))⟩, [8]),
            (⟨(some 118), .call (.tmp 109) [(.tmp 113), (.tmp 117)], (some (108, true))⟩, []),
            (⟨(some 119), .bin .lss (.tmp 118) (.const (.int .i64 0)), (some (108, true))⟩, []),
            (⟨(some 120), .pick (.tmp 108) (.tmp 119) (.const (.bool false)), none⟩, [])]) (
         (.cond (.tmp 120) (
          .skip) (
          .exit 6))))) (
        (.block 7 (
         .reg [12, 13, 0, 1, 4] [
           ⟨(some 121), .val (.tmp 12), none⟩,
           ⟨(some 122), .bin .add (.tmp 121) (.const (.int .i64 1)), none⟩,
           ⟨(some 12), .val (.tmp 122), none⟩]))))))))) (
     (.seq (
      (.block 8 (
       (.loop (
        (.seq (
         (.seq (
          .dreg [0, 1, 4, 12, 13, 139] [
            (⟨(some 123), .val (.tmp 12), none⟩, []),
            (⟨(some 124), .val (.tmp 13), none⟩, []),
            (⟨(some 125), .bin .leq (.tmp 123) (.tmp 124), none⟩, []),
            (⟨(some 126), .val (.tmp 125), none⟩, []),
            (⟨(some 127), .val (.tmp 4), (some (126, true))⟩, []),
            (⟨(some 128), .val (.tmp 0), (some (126, true))⟩, []),
            (⟨(some 129), .val (.tmp 13), (some (126, true))⟩, []),
            (⟨(some 130), .idxSl 3 (.tmp 128) (.tmp 129), (some (126, true))⟩, []),
            (⟨(some 131), .load (some 3) (.tmp 130), (some (126, true))⟩, []),
            (⟨(some 132), .val (.tmp 0), (some (126, true))⟩, []),
            (⟨(some 133), .val (.tmp 1), (some (126, true))⟩, []),
            (⟨(some 134), .idxSl 3 (.tmp 132) (.tmp 133), (some (126, true))⟩, []),
            (⟨(some 135), .load (some 3) (.tmp 134), (some (126, true))⟩, [8]),
            (⟨(some 136), .call (.tmp 127) [(.tmp 131), (.tmp 135)], (some (126, true))⟩, []),
            (⟨(some 137), .bin .lss (.tmp 136) (.const (.int .i64 0)), (some (126, true))⟩, []),
            (⟨(some 138), .un .not (.tmp 137), (some (126, true))⟩, []),
            (⟨(some 139), .pick (.tmp 126) (.tmp 138) (.const (.bool false)), none⟩, [])]) (
         (.cond (.tmp 139) (
          .skip) (
          .exit 8))))) (
        (.block 9 (
         .reg [13, 0, 1, 4, 12] [
           ⟨(some 140), .val (.tmp 13), none⟩,
           ⟨(some 141), .bin .sub (.tmp 140) (.const (.int .i64 1)), none⟩,
           ⟨(some 13), .val (.tmp 141), none⟩]))))))))) (
     (.seq (
      (.seq (
       .reg [13, 0, 1, 4, 12, 144] [
         ⟨(some 142), .val (.tmp 12), none⟩,
         ⟨(some 143), .val (.tmp 13), none⟩,
         ⟨(some 144), .bin .gtr (.tmp 142) (.tmp 143), none⟩]) (
      (.cond (.tmp 144) (
       .exit 4) (
       .skip))))) (
     (.seq (
      .dreg [0, 1, 4, 13, 12] [
        (⟨(some 145), .val (.tmp 0), none⟩, []),
        (⟨(some 146), .val (.tmp 12), none⟩, []),
        (⟨(some 147), .val (.tmp 0), none⟩, []),
        (⟨(some 148), .val (.tmp 13), none⟩, []),
        (⟨(some 149), .val (.tmp 0), none⟩, []),
        (⟨(some 150), .val (.tmp 13), none⟩, []),
        (⟨(some 151), .idxSl 3 (.tmp 149) (.tmp 150), none⟩, []),
        (⟨(some 152), .load (some 3) (.tmp 151), none⟩, []),
        (⟨(some 153), .val (.tmp 0), none⟩, []),
        (⟨(some 154), .val (.tmp 12), none⟩, []),
        (⟨(some 155), .idxSl 3 (.tmp 153) (.tmp 154), none⟩, []),
        (⟨(some 156), .load (some 3) (.tmp 155), none⟩, [7]),
        (⟨(some 157), .idxSl 3 (.tmp 145) (.tmp 146), none⟩, []),
        (⟨none, .store 3 (.tmp 157) (.tmp 152), none⟩, []),
        (⟨(some 158), .idxSl 3 (.tmp 147) (.tmp 148), none⟩, []),
        (⟨none, .store 3 (.tmp 158) (.tmp 156), none⟩, [])]) (
     (.seq (
      .reg [12, 0, 1, 4, 13] [
        ⟨(some 159), .val (.tmp 12), none⟩,
        ⟨(some 160), .bin .add (.tmp 159) (.const (.int .i64 1)), none⟩,
        ⟨(some 12), .val (.tmp 160), none⟩]) (
     .reg [12, 13, 0, 1, 4] [
       ⟨(some 161), .val (.tmp 13), none⟩,
       ⟨(some 162), .bin .sub (.tmp 161) (.const (.int .i64 1)), none⟩,
       ⟨(some 13), .val (.tmp 162), none⟩]))))))))))))))))) (
 (.seq (
  .dreg [13] [
    (⟨(some 163), .val (.tmp 0), none⟩, []),
    (⟨(some 164), .val (.tmp 13), none⟩, []),
    (⟨(some 165), .val (.tmp 0), none⟩, []),
    (⟨(some 166), .val (.tmp 1), none⟩, []),
    (⟨(some 167), .val (.tmp 0), none⟩, []),
    (⟨(some 168), .val (.tmp 1), none⟩, []),
    (⟨(some 169), .idxSl 3 (.tmp 167) (.tmp 168), none⟩, []),
    (⟨(some 170), .load (some 3) (.tmp 169), none⟩, []),
    (⟨(some 171), .val (.tmp 0), none⟩, []),
    (⟨(some 172), .val (.tmp 13), none⟩, []),
    (⟨(some 173), .idxSl 3 (.tmp 171) (.tmp 172), none⟩, []),
    (⟨(some 174), .load (some 3) (.tmp 173), none⟩, [7]),
    (⟨(some 175), .idxSl 3 (.tmp 163) (.tmp 164), none⟩, []),
    (⟨none, .store 3 (.tmp 175) (.tmp 170), none⟩, []),
    (⟨(some 176), .idxSl 3 (.tmp 165) (.tmp 166), none⟩, []),
    (⟨none, .store 3 (.tmp 176) (.tmp 174), none⟩, [])]) (
 (.seq (
  .reg [10, 11] [
    ⟨(some 177), .val (.tmp 13), none⟩,
    ⟨(some 10), .val (.tmp 177), none⟩,
    ⟨(some 11), .val (.const (.bool false)), none⟩]) (
 .ret))))))))))))))))))))))))
def H55 : Hint := (.two (.reg [0, 1, 4, 2, 3] []) (.two (.reg [0, 1, 4, 2] [(0, [], []), (1, [], []), (2, [], []), (3, [], []), (4, [], []), (5, [], []), (6, [], [4, 5]), (7, [], [6, 4, 5]), (8, [], []), (9, [], []), (10, [], [8, 9]), (11, [7], [10, 8, 9]), (12, [], [0, 1, 4, 5, 6, 7, 11, 10, 8, 9]), (13, [], [12, 0, 1, 4, 5, 6, 7, 11, 10, 8, 9]), (14, [], [2, 3, 0, 1, 4, 5, 6, 7, 8, 9, 10, 11, 12, 13]), (15, [], [14, 2, 3, 0, 1, 4, 5, 6, 7, 8, 9, 10, 11, 12, 13])]) (.two (.reg [12, 13, 0, 1, 4] []) (.two (.one (.one (.two (.two (.reg [13, 0, 1, 4, 12, 47] [(0, [], []), (1, [], []), (2, [], [0, 1]), (3, [], [2, 0, 1]), (4, [], [3, 2, 0, 1]), (5, [], [3, 2, 0, 1]), (6, [], [3, 2, 0, 1]), (7, [], [5, 3, 2, 0, 1, 6]), (8, [], [7, 5, 3, 2, 0, 1, 6]), (9, [], [3, 2, 0, 1]), (10, [], [3, 2, 0, 1]), (11, [], [9, 3, 2, 0, 1, 10]), (12, [8], [11, 9, 3, 2, 0, 1, 10]), (13, [], [4, 3, 2, 0, 1, 8, 7, 5, 6, 12, 11, 9, 10]), (14, [], [13, 4, 3, 2, 0, 1, 8, 7, 5, 6, 12, 11, 9, 10]), (15, [], [3, 2, 0, 1, 14, 13, 4, 8, 7, 5, 6, 12, 11, 9, 10])]) (.two .leaf .leaf)) (.one (.reg [12, 13, 0, 1, 4] []))))) (.two (.one (.one (.two (.two (.reg [0, 1, 4, 12, 13, 66] [(0, [], []), (1, [], []), (2, [], [0, 1]), (3, [], [2, 0, 1]), (4, [], [3, 2, 0, 1]), (5, [], [3, 2, 0, 1]), (6, [], [3, 2, 0, 1]), (7, [], [5, 3, 2, 0, 1, 6]), (8, [], [7, 5, 3, 2, 0, 1, 6]), (9, [], [3, 2, 0, 1]), (10, [], [3, 2, 0, 1]), (11, [], [9, 3, 2, 0, 1, 10]), (12, [8], [11, 9, 3, 2, 0, 1, 10]), (13, [], [4, 3, 2, 0, 1, 8, 7, 5, 6, 12, 11, 9, 10]), (14, [], [13, 4, 3, 2, 0, 1, 8, 7, 5, 6, 12, 11, 9, 10]), (15, [], [14, 13, 4, 3, 2, 0, 1, 8, 7, 5, 6, 12, 11, 9, 10]), (16, [], [3, 2, 0, 1, 15, 14, 13, 4, 8, 7, 5, 6, 12, 11, 9, 10])]) (.two .leaf .leaf)) (.one (.reg [13, 0, 1, 4, 12] []))))) (.two (.two (.reg [13, 0, 1, 4, 12, 71] []) (.two (.two (.reg [13] [(0, [], []), (1, [], []), (2, [], []), (3, [], []), (4, [], []), (5, [], []), (6, [], [4, 5]), (7, [], [6, 4, 5]), (8, [], []), (9, [], []), (10, [], [8, 9]), (11, [7], [10, 8, 9]), (12, [], [0, 1, 4, 5, 6, 7, 11, 10, 8, 9]), (13, [], [12, 0, 1, 4, 5, 6, 7, 11, 10, 8, 9]), (14, [], [2, 3, 0, 1, 4, 5, 6, 7, 8, 9, 10, 11, 12, 13]), (15, [], [14, 2, 3, 0, 1, 4, 5, 6, 7, 8, 9, 10, 11, 12, 13])]) (.two (.reg [10, 11] []) .leaf)) .leaf)) (.two (.reg [0, 1, 4, 13, 12] [(0, [], []), (1, [], []), (2, [], []), (3, [], []), (4, [], []), (5, [], []), (6, [], [4, 5]), (7, [], [6, 4, 5]), (8, [], []), (9, [], []), (10, [], [8, 9]), (11, [7], [10, 8, 9]), (12, [], [0, 1, 4, 5, 6, 7, 11, 10, 8, 9]), (13, [], [12, 0, 1, 4, 5, 6, 7, 11, 10, 8, 9]), (14, [], [2, 3, 0, 1, 4, 5, 6, 7, 8, 9, 10, 11, 12, 13]), (15, [], [14, 2, 3, 0, 1, 4, 5, 6, 7, 8, 9, 10, 11, 12, 13])]) (.two (.reg [12, 0, 1, 4, 13] []) (.two (.reg [12, 13, 0, 1, 4] []) (.two (.one (.one (.one (.two (.one (.one (.two (.two (.reg [13, 0, 1, 4, 12, 120] [(0, [], []), (1, [], []), (2, [], [0, 1]), (3, [], [2, 0, 1]), (4, [], [3, 2, 0, 1]), (5, [], [3, 2, 0, 1]), (6, [], [3, 2, 0, 1]), (7, [], [5, 3, 2, 0, 1, 6]), (8, [], [7, 5, 3, 2, 0, 1, 6]), (9, [], [3, 2, 0, 1]), (10, [], [3, 2, 0, 1]), (11, [], [9, 3, 2, 0, 1, 10]), (12, [8], [11, 9, 3, 2, 0, 1, 10]), (13, [], [4, 3, 2, 0, 1, 8, 7, 5, 6, 12, 11, 9, 10]), (14, [], [13, 4, 3, 2, 0, 1, 8, 7, 5, 6, 12, 11, 9, 10]), (15, [], [3, 2, 0, 1, 14, 13, 4, 8, 7, 5, 6, 12, 11, 9, 10])]) (.two .leaf .leaf)) (.one (.reg [12, 13, 0, 1, 4] []))))) (.two (.one (.one (.two (.two (.reg [0, 1, 4, 12, 13, 139] [(0, [], []), (1, [], []), (2, [], [0, 1]), (3, [], [2, 0, 1]), (4, [], [3, 2, 0, 1]), (5, [], [3, 2, 0, 1]), (6, [], [3, 2, 0, 1]), (7, [], [5, 3, 2, 0, 1, 6]), (8, [], [7, 5, 3, 2, 0, 1, 6]), (9, [], [3, 2, 0, 1]), (10, [], [3, 2, 0, 1]), (11, [], [9, 3, 2, 0, 1, 10]), (12, [8], [11, 9, 3, 2, 0, 1, 10]), (13, [], [4, 3, 2, 0, 1, 8, 7, 5, 6, 12, 11, 9, 10]), (14, [], [13, 4, 3, 2, 0, 1, 8, 7, 5, 6, 12, 11, 9, 10]), (15, [], [14, 13, 4, 3, 2, 0, 1, 8, 7, 5, 6, 12, 11, 9, 10]), (16, [], [3, 2, 0, 1, 15, 14, 13, 4, 8, 7, 5, 6, 12, 11, 9, 10])]) (.two .leaf .leaf)) (.one (.reg [13, 0, 1, 4, 12] []))))) (.two (.two (.reg [13, 0, 1, 4, 12, 144] []) (.two .leaf .leaf)) (.two (.reg [0, 1, 4, 13, 12] [(0, [], []), (1, [], []), (2, [], []), (3, [], []), (4, [], []), (5, [], []), (6, [], [4, 5]), (7, [], [6, 4, 5]), (8, [], []), (9, [], []), (10, [], [8, 9]), (11, [7], [10, 8, 9]), (12, [], [0, 1, 4, 5, 6, 7, 11, 10, 8, 9]), (13, [], [12, 0, 1, 4, 5, 6, 7, 11, 10, 8, 9]), (14, [], [2, 3, 0, 1, 4, 5, 6, 7, 8, 9, 10, 11, 12, 13]), (15, [], [14, 2, 3, 0, 1, 4, 5, 6, 7, 8, 9, 10, 11, 12, 13])]) (.two (.reg [12, 0, 1, 4, 13] []) (.reg [12, 13, 0, 1, 4] []))))))))) (.two (.reg [13] [(0, [], []), (1, [], []), (2, [], []), (3, [], []), (4, [], []), (5, [], []), (6, [], [4, 5]), (7, [], [6, 4, 5]), (8, [], []), (9, [], []), (10, [], [8, 9]), (11, [7], [10, 8, 9]), (12, [], [0, 1, 4, 5, 6, 7, 11, 10, 8, 9]), (13, [], [12, 0, 1, 4, 5, 6, 7, 11, 10, 8, 9]), (14, [], [2, 3, 0, 1, 4, 5, 6, 7, 8, 9, 10, 11, 12, 13]), (15, [], [14, 2, 3, 0, 1, 4, 5, 6, 7, 8, 9, 10, 11, 12, 13])]) (.two (.reg [10, 11] []) .leaf))))))))))))
def R55 : List ARes := [.tmp 10, .tmp 11]
theorem code55 : cCode Try.prog 178 H55 (Try.f55.body.getD .skip) = some A55 := by kernel_rfl
theorem ok55 : FunOk Try.prog 55 ⟨R55, A55⟩ := ⟨Try.f55, _, H55, 178, Try.func55, by kernel_rfl, by kernel_rfl, code55, by decide, by kernel_rfl⟩
def A56 : ACode :=
 (.seq (
  .reg [0, 2] [
    ⟨(some 2), .val (.const (.int .i64 0)), none⟩]) (
 (.seq (
  (.seq (
   .reg [0, 2, 4] [
     ⟨(some 3), .val (.tmp 0), none⟩,
     ⟨(some 4), .bin .geq (.tmp 3) (.const (.int .u32 65536)), none⟩]) (
  (.cond (.tmp 4) (
   (.seq (
    .reg [0] [
      ⟨(some 5), .val (.tmp 0), none⟩,
      ⟨(some 6), .bin .shr (.tmp 5) (.const (.int .u64 16)), none⟩,
      ⟨(some 0), .val (.tmp 6), none⟩]) (
   .reg [2, 0] [
     ⟨(some 2), .val (.const (.int .i64 16)), none⟩]))) (
   .skip))))) (
 (.seq (
  (.seq (
   .reg [2, 0, 8] [
     ⟨(some 7), .val (.tmp 0), none⟩,
     ⟨(some 8), .bin .geq (.tmp 7) (.const (.int .u32 256)), none⟩]) (
  (.cond (.tmp 8) (
   (.seq (
    .reg [0, 2] [
      ⟨(some 9), .val (.tmp 0), none⟩,
      ⟨(some 10), .bin .shr (.tmp 9) (.const (.int .u64 8)), none⟩,
      ⟨(some 0), .val (.tmp 10), none⟩]) (
   .reg [0, 2] [
     ⟨(some 11), .val (.tmp 2), none⟩,
     ⟨(some 12), .bin .add (.tmp 11) (.const (.int .i64 8)), none⟩,
     ⟨(some 2), .val (.tmp 12), none⟩]))) (
   .skip))))) (
 (.seq (
  .reg [2] [
    ⟨(some 13), .val (.tmp 2), none⟩,
    ⟨(some 14), .val (.tmp 0), none⟩,
    ⟨(some 15), .conv .u8 (.tmp 14), none⟩,
    ⟨(some 16), .idxStr (.const (.string ⟨#[0, 1, 2, 2, 3, 3, 3, 3, 4, 4, 4, 4, 4, 4, 4, 4, 5, 5, 5, 5, 5, 5, 5, 5, 5, 5, 5, 5, 5, 5, 5, 5, 6, 6, 6, 6, 6, 6, 6, 6, 6, 6, 6, 6, 6, 6, 6, 6, 6, 6, 6, 6, 6, 6, 6, 6, 6, 6, 6, 6, 6, 6, 6, 6, 7, 7, 7, 7, 7, 7, 7, 7, 7, 7, 7, 7, 7, 7, 7, 7, 7, 7, 7, 7, 7, 7, 7, 7, 7, 7, 7, 7, 7, 7, 7, 7, 7, 7, 7, 7, 7, 7, 7, 7, 7, 7, 7, 7, 7, 7, 7, 7, 7, 7, 7, 7, 7, 7, 7, 7, 7, 7, 7, 7, 7, 7, 7, 7, 8, 8, 8, 8, 8, 8, 8, 8, 8, 8, 8, 8, 8, 8, 8, 8, 8, 8, 8, 8, 8, 8, 8, 8, 8, 8, 8, 8, 8, 8, 8, 8, 8, 8, 8, 8, 8, 8, 8, 8, 8, 8, 8, 8, 8, 8, 8, 8, 8, 8, 8, 8, 8, 8, 8, 8, 8, 8, 8, 8, 8, 8, 8, 8, 8, 8, 8, 8, 8, 8, 8, 8, 8, 8, 8, 8, 8, 8, 8, 8, 8, 8, 8, 8, 8, 8, 8, 8, 8, 8, 8, 8, 8, 8, 8, 8, 8, 8, 8, 8, 8, 8, 8, 8, 8, 8, 8, 8, 8, 8, 8, 8, 8, 8, 8, 8, 8, 8, 8, 8, 8, 8, 8, 8, 8, 8, 8, 8]⟩)) (.tmp 15), none⟩,
    ⟨(some 17), .conv .i64 (.tmp 16), none⟩,
    ⟨(some 18), .bin .add (.tmp 13) (.tmp 17), none⟩,
    ⟨(some 2), .val (.tmp 18), none⟩]) (
 .ret))))))))
def H56 : Hint := (.two (.reg [0, 2] []) (.two (.two (.reg [0, 2, 4] []) (.two (.two (.reg [0] []) (.reg [2, 0] [])) .leaf)) (.two (.two (.reg [2, 0, 8] []) (.two (.two (.reg [0, 2] []) (.reg [0, 2] [])) .leaf)) (.two (.reg [2] []) .leaf))))
def R56 : List ARes := [.tmp 2]
theorem code56 : cCode Try.prog 19 H56 (Try.f56.body.getD .skip) = some A56 := by kernel_rfl
theorem ok56 : FunOk Try.prog 56 ⟨R56, A56⟩ := ⟨Try.f56, _, H56, 19, Try.func56, by kernel_rfl, by kernel_rfl, code56, by decide, by kernel_rfl⟩
def A57 : ACode :=
 (.seq (
  .reg [0, 2] [
    ⟨(some 2), .val (.const (.int .i64 0)), none⟩]) (
 (.seq (
  (.seq (
   .reg [0, 2, 4] [
     ⟨(some 3), .val (.tmp 0), none⟩,
     ⟨(some 4), .bin .geq (.tmp 3) (.const (.int .u64 4294967296)), none⟩]) (
  (.cond (.tmp 4) (
   (.seq (
    .reg [0] [
      ⟨(some 5), .val (.tmp 0), none⟩,
      ⟨(some 6), .bin .shr (.tmp 5) (.const (.int .u64 32)), none⟩,
      ⟨(some 0), .val (.tmp 6), none⟩]) (
   .reg [2, 0] [
     ⟨(some 2), .val (.const (.int .i64 32)), none⟩]))) (
   .skip))))) (
 (.seq (
  (.seq (
   .reg [2, 0, 8] [
     ⟨(some 7), .val (.tmp 0), none⟩,
     ⟨(some 8), .bin .geq (.tmp 7) (.const (.int .u64 65536)), none⟩]) (
  (.cond (.tmp 8) (
   (.seq (
    .reg [0, 2] [
      ⟨(some 9), .val (.tmp 0), none⟩,
      ⟨(some 10), .bin .shr (.tmp 9) (.const (.int .u64 16)), none⟩,
      ⟨(some 0), .val (.tmp 10), none⟩]) (
   .reg [2, 0] [
     ⟨(some 11), .val (.tmp 2), none⟩,
     ⟨(some 12), .bin .add (.tmp 11) (.const (.int .i64 16)), none⟩,
     ⟨(some 2), .val (.tmp 12), none⟩]))) (
   .skip))))) (
 (.seq (
  (.seq (
   .reg [2, 0, 14] [
     ⟨(some 13), .val (.tmp 0), none⟩,
     ⟨(some 14), .bin .geq (.tmp 13) (.const (.int .u64 256)), none⟩]) (
  (.cond (.tmp 14) (
   (.seq (
    .reg [0, 2] [
      ⟨(some 15), .val (.tmp 0), none⟩,
      ⟨(some 16), .bin .shr (.tmp 15) (.const (.int .u64 8)), none⟩,
      ⟨(some 0), .val (.tmp 16), none⟩]) (
   .reg [0, 2] [
     ⟨(some 17), .val (.tmp 2), none⟩,
     ⟨(some 18), .bin .add (.tmp 17) (.const (.int .i64 8)), none⟩,
     ⟨(some 2), .val (.tmp 18), none⟩]))) (
   .skip))))) (
 (.seq (
  .reg [2] [
    ⟨(some 19), .val (.tmp 2), none⟩,
    ⟨(some 20), .val (.tmp 0), none⟩,
    ⟨(some 21), .conv .u8 (.tmp 20), none⟩,
    ⟨(some 22), .idxStr (.const (.string ⟨#[0, 1, 2, 2, 3, 3, 3, 3, 4, 4, 4, 4, 4, 4, 4, 4, 5, 5, 5, 5, 5, 5, 5, 5, 5, 5, 5, 5, 5, 5, 5, 5, 6, 6, 6, 6, 6, 6, 6, 6, 6, 6, 6, 6, 6, 6, 6, 6, 6, 6, 6, 6, 6, 6, 6, 6, 6, 6, 6, 6, 6, 6, 6, 6, 7, 7, 7, 7, 7, 7, 7, 7, 7, 7, 7, 7, 7, 7, 7, 7, 7, 7, 7, 7, 7, 7, 7, 7, 7, 7, 7, 7, 7, 7, 7, 7, 7, 7, 7, 7, 7, 7, 7, 7, 7, 7, 7, 7, 7, 7, 7, 7, 7, 7, 7, 7, 7, 7, 7, 7, 7, 7, 7, 7, 7, 7, 7, 7, 8, 8, 8, 8, 8, 8, 8, 8, 8, 8, 8, 8, 8, 8, 8, 8, 8, 8, 8, 8, 8, 8, 8, 8, 8, 8, 8, 8, 8, 8, 8, 8, 8, 8, 8, 8, 8, 8, 8, 8, 8, 8, 8, 8, 8, 8, 8, 8, 8, 8, 8, 8, 8, 8, 8, 8, 8, 8, 8, 8, 8, 8, 8, 8, 8, 8, 8, 8, 8, 8, 8, 8, 8, 8, 8, 8, 8, 8, 8, 8, 8, 8, 8, 8, 8, 8, 8, 8, 8, 8, 8, 8, 8, 8, 8, 8, 8, 8, 8, 8, 8, 8, 8, 8, 8, 8, 8, 8, 8, 8, 8, 8, 8, 8, 8, 8, 8, 8, 8, 8, 8, 8, 8, 8, 8, 8, 8, 8]⟩)) (.tmp 21), none⟩,
    ⟨(some 23), .conv .i64 (.tmp 22), none⟩,
    ⟨(some 24), .bin .add (.tmp 19) (.tmp 23), none⟩,
    ⟨(some 2), .val (.tmp 24), none⟩]) (
 .ret))))))))))
def H57 : Hint := (.two (.reg [0, 2] []) (.two (.two (.reg [0, 2, 4] []) (.two (.two (.reg [0] []) (.reg [2, 0] [])) .leaf)) (.two (.two (.reg [2, 0, 8] []) (.two (.two (.reg [0, 2] []) (.reg [2, 0] [])) .leaf)) (.two (.two (.reg [2, 0, 14] []) (.two (.two (.reg [0, 2] []) (.reg [0, 2] [])) .leaf)) (.two (.reg [2] []) .leaf)))))
def R57 : List ARes := [.tmp 2]
theorem code57 : cCode Try.prog 25 H57 (Try.f57.body.getD .skip) = some A57 := by kernel_rfl
theorem ok57 : FunOk Try.prog 57 ⟨R57, A57⟩ := ⟨Try.f57, _, H57, 25, Try.func57, by kernel_rfl, by kernel_rfl, code57, by decide, by kernel_rfl⟩
def A58 : ACode :=
 (.seq (
  .reg [10, 3, 0, 4, 2] [
    ⟨(some 12), .val (.tmp 1), none⟩,
    ⟨(some 10), .val (.tmp 12), none⟩]) (
 (.block 0 (
  (.loop (
   (.block 1 (
    (.seq (
     .reg [3, 0, 4, 2, 10, 11] [
       ⟨(some 13), .val (.tmp 10), none⟩,
       ⟨(some 14), .bin .mul (.const (.int .i64 2)) (.tmp 13), none⟩,
       ⟨(some 15), .bin .add (.tmp 14) (.const (.int .i64 1)), none⟩,
       ⟨(some 11), .val (.tmp 15), none⟩]) (
    (.seq (
     (.seq (
      .reg [3, 0, 4, 2, 10, 11, 18] [
        ⟨(some 16), .val (.tmp 11), none⟩,
        ⟨(some 17), .val (.tmp 2), none⟩,
        ⟨(some 18), .bin .geq (.tmp 16) (.tmp 17), none⟩]) (
     (.cond (.tmp 18) (
      .exit 0) (
      .skip))))) (
    (.seq (
     (.seq (
      .dreg [3, 0, 4, 2, 10, 11, 40] [
        (⟨(some 19), .val (.tmp 11), none⟩, []),
        (⟨(some 20), .bin .add (.tmp 19) (.const (.int .i64 1)), none⟩, []),
        (⟨(some 21), .val (.tmp 2), none⟩, []),
        (⟨(some 22), .bin .lss (.tmp 20) (.tmp 21), none⟩, []),
        (⟨(some 23), .val (.tmp 22), none⟩, []),
        (⟨(some 24), .val (.tmp 4), (some (23, true))⟩, []),
        (⟨(some 25), .val (.tmp 0), (some (23, true))⟩, []),
        (⟨(some 26), .val (.tmp 3), (some (23, true))⟩, []),
        (⟨(some 27), .val (.tmp 11), (some (23, true))⟩, []),
        (⟨(some 28), .bin .add (.tmp 26) (.tmp 27), (some (23, true))⟩, []),
        (⟨(some 29), .idxSl 3 (.tmp 25) (.tmp 28), (some (23, true))⟩, []),
        (⟨(some 30), .load (some 3) (.tmp 29), (some (23, true))⟩, []),
        (⟨(some 31), .val (.tmp 0), (some (23, true))⟩, []),
        (⟨(some 32), .val (.tmp 3), (some (23, true))⟩, []),
        (⟨(some 33), .val (.tmp 11), (some (23, true))⟩, []),
        (⟨(some 34), .bin .add (.tmp 32) (.tmp 33), (some (23, true))⟩, []),
        (⟨(some 35), .bin .add (.tmp 34) (.const (.int .i64 1)), (some (23, true))⟩, []),
        (⟨(some 36), .idxSl 3 (.tmp 31) (.tmp 35), (some (23, true))⟩, []),
        (⟨(some 37), .load (some 3) (.tmp 36), (some (23, true))⟩, [11]),
        (⟨(some 38), .call (.tmp 24) [(.tmp 30), (.tmp 37)], (some (23, true))⟩, []),
        (⟨(some 39), .bin .lss (.tmp 38) (.const (.int .i64 0)), (some (23, true))⟩, []),
        (⟨(some 40), .pick (.tmp 23) (.tmp 39) (.const (.bool false)), none⟩, [])]) (
     (.cond (.tmp 40) (
      .reg [3, 0, 4, 2, 11, 10] [
        ⟨(some 41), .val (.tmp 11), none⟩,
        ⟨(some 42), .bin .add (.tmp 41) (.const (.int .i64 1)), none⟩,
        ⟨(some 11), .val (.tmp 42), none⟩]) (
      .skip))))) (
    (.seq (
     (.seq (
      .dreg [3, 0, 4, 2, 11, 10, 58] [
        (⟨(some 43), .val (.tmp 4), none⟩, []),
        (⟨(some 44), .val (.tmp 0), none⟩, []),
        (⟨(some 45), .val (.tmp 3), none⟩, []),
        (⟨(some 46), .val (.tmp 10), none⟩, []),
        (⟨(some 47), .bin .add (.tmp 45) (.tmp 46), none⟩, []),
        (⟨(some 48), .idxSl 3 (.tmp 44) (.tmp 47), none⟩, []),
        (⟨(some 49), .load (some 3) (.tmp 48), none⟩, []),
        (⟨(some 50), .val (.tmp 0), none⟩, []),
        (⟨(some 51), .val (.tmp 3), none⟩, []),
        (⟨(some 52), .val (.tmp 11), none⟩, []),
        (⟨(some 53), .bin .add (.tmp 51) (.tmp 52), none⟩, []),
        (⟨(some 54), .idxSl 3 (.tmp 50) (.tmp 53), none⟩, []),
        (⟨(some 55), .load (some 3) (.tmp 54), none⟩, [6]),
        (⟨(some 56), .call (.tmp 43) [(.tmp 49), (.tmp 55)], none⟩, []),
        (⟨(some 57), .bin .lss (.tmp 56) (.const (.int .i64 0)), none⟩, []),
        (⟨(some 58), .un .not (.tmp 57), none⟩, [])]) (
     (.cond (.tmp 58) (
      .ret) (
      .skip))))) (
    (.seq (
     .dreg [3, 0, 4, 2, 11] [
       (⟨(some 59), .val (.tmp 0), none⟩, []),
       (⟨(some 60), .val (.tmp 3), none⟩, []),
       (⟨(some 61), .val (.tmp 10), none⟩, []),
       (⟨(some 62), .bin .add (.tmp 60) (.tmp 61), none⟩, []),
       (⟨(some 63), .val (.tmp 0), none⟩, []),
       (⟨(some 64), .val (.tmp 3), none⟩, []),
       (⟨(some 65), .val (.tmp 11), none⟩, []),
       (⟨(some 66), .bin .add (.tmp 64) (.tmp 65), none⟩, []),
       (⟨(some 67), .val (.tmp 0), none⟩, []),
       (⟨(some 68), .val (.tmp 3), none⟩, []),
       (⟨(some 69), .val (.tmp 11), none⟩, []),
       (⟨(some 70), .bin .add (.tmp 68) (.tmp 69), none⟩, []),
       (⟨(some 71), .idxSl 3 (.tmp 67) (.tmp 70), none⟩, []),
       (⟨(some 72), .load (some 3) (.tmp 71), none⟩, []),
       (⟨(some 73), .val (.tmp 0), none⟩, []),
       (⟨(some 74), .val (.tmp 3), none⟩, []),
       (⟨(some 75), .val (.tmp 10), none⟩, []),
       (⟨(some 76), .bin .add (.tmp 74) (.tmp 75), none⟩, []),
       (⟨(some 77), .idxSl 3 (.tmp 73) (.tmp 76), none⟩, []),
       (⟨(some 78), .load (some 3) (.tmp 77), none⟩, [13]),
       (⟨(some 79), .idxSl 3 (.tmp 59) (.tmp 62), none⟩, []),
       (⟨none, .store 3 (.tmp 79) (.tmp 72), none⟩, []),
       (⟨(some 80), .idxSl 3 (.tmp 63) (.tmp 66), none⟩, []),
       (⟨none, .store 3 (.tmp 80) (.tmp 78), none⟩, [])]) (
    .reg [10, 3, 0, 4, 2] [
      ⟨(some 81), .val (.tmp 11), none⟩,
      ⟨(some 10), .val (.tmp 81), none⟩]))))))))))))))))))
def H58 : Hint := (.two (.reg [10, 3, 0, 4, 2] []) (.one (.one (.one (.two (.reg [3, 0, 4, 2, 10, 11] []) (.two (.two (.reg [3, 0, 4, 2, 10, 11, 18] []) (.two .leaf .leaf)) (.two (.two (.reg [3, 0, 4, 2, 10, 11, 40] [(0, [], []), (1, [], [0]), (2, [], []), (3, [], [1, 0, 2]), (4, [], [3, 1, 0, 2]), (5, [], [4, 3, 1, 0, 2]), (6, [], [4, 3, 1, 0, 2]), (7, [], [4, 3, 1, 0, 2]), (8, [], [4, 3, 1, 0, 2]), (9, [], [7, 4, 3, 1, 0, 2, 8]), (10, [], [6, 4, 3, 1, 0, 2, 9, 7, 8]), (11, [], [10, 6, 4, 3, 1, 0, 2, 9, 7, 8]), (12, [], [4, 3, 1, 0, 2]), (13, [], [4, 3, 1, 0, 2]), (14, [], [4, 3, 1, 0, 2]), (15, [], [13, 4, 3, 1, 0, 2, 14]), (16, [], [15, 13, 4, 3, 1, 0, 2, 14]), (17, [], [12, 4, 3, 1, 0, 2, 16, 15, 13, 14]), (18, [11], [17, 12, 4, 3, 1, 0, 2, 16, 15, 13, 14]), (19, [], [5, 4, 3, 1, 0, 2, 11, 10, 6, 9, 7, 8, 18, 17, 12, 16, 15, 13, 14]), (20, [], [19, 5, 4, 3, 1, 0, 2, 11, 10, 6, 9, 7, 8, 18, 17, 12, 16, 15, 13, 14]), (21, [], [4, 3, 1, 0, 2, 20, 19, 5, 11, 10, 6, 9, 7, 8, 18, 17, 12, 16, 15, 13, 14])]) (.two (.reg [3, 0, 4, 2, 11, 10] []) .leaf)) (.two (.two (.reg [3, 0, 4, 2, 11, 10, 58] [(0, [], []), (1, [], []), (2, [], []), (3, [], []), (4, [], [2, 3]), (5, [], [1, 4, 2, 3]), (6, [], [5, 1, 4, 2, 3]), (7, [], []), (8, [], []), (9, [], []), (10, [], [8, 9]), (11, [], [7, 10, 8, 9]), (12, [6], [11, 7, 10, 8, 9]), (13, [], [0, 6, 5, 1, 4, 2, 3, 12, 11, 7, 10, 8, 9]), (14, [], [13, 0, 6, 5, 1, 4, 2, 3, 12, 11, 7, 10, 8, 9]), (15, [], [14, 13, 0, 6, 5, 1, 4, 2, 3, 12, 11, 7, 10, 8, 9])]) (.two .leaf .leaf)) (.two (.reg [3, 0, 4, 2, 11] [(0, [], []), (1, [], []), (2, [], []), (3, [], [1, 2]), (4, [], []), (5, [], []), (6, [], []), (7, [], [5, 6]), (8, [], []), (9, [], []), (10, [], []), (11, [], [9, 10]), (12, [], [8, 11, 9, 10]), (13, [], [12, 8, 11, 9, 10]), (14, [], []), (15, [], []), (16, [], []), (17, [], [15, 16]), (18, [], [14, 17, 15, 16]), (19, [13], [18, 14, 17, 15, 16]), (20, [], [0, 3, 1, 2, 8, 9, 10, 11, 12, 13, 19, 18, 14, 17, 15, 16]), (21, [], [20, 0, 3, 1, 2, 8, 9, 10, 11, 12, 13, 19, 18, 14, 17, 15, 16]), (22, [], [4, 7, 5, 6, 0, 1, 2, 3, 8, 9, 10, 11, 12, 13, 14, 15, 16, 17, 18, 19, 20, 21]), (23, [], [22, 4, 7, 5, 6, 0, 1, 2, 3, 8, 9, 10, 11, 12, 13, 14, 15, 16, 17, 18, 19, 20, 21])]) (.reg [10, 3, 0, 4, 2] []))))))))))
def R58 : List ARes := []
theorem code58 : cCode Try.prog 82 H58 (Try.f58.body.getD .skip) = some A58 := by kernel_rfl
theorem ok58 : FunOk Try.prog 58 ⟨R58, A58⟩ := ⟨Try.f58, _, H58, 82, Try.func58, by kernel_rfl, by kernel_rfl, code58, by decide, by kernel_rfl⟩
def A59 : ACode :=
 (.seq (
  .reg [0] [
    ⟨(some 2), .val (.const (.int .u64 0)), none⟩]) (
 (.seq (
  .reg [2] [
    ⟨(some 3), .val (.tmp 0), none⟩,
    ⟨(some 4), .conv .u64 (.tmp 3), none⟩,
    ⟨(some 5), .call (.func 46) [(.tmp 4)], none⟩,
    ⟨(some 6), .bin .shl (.const (.int .u64 1)) (.tmp 5), none⟩,
    ⟨(some 2), .val (.tmp 6), none⟩]) (
 .ret))))
def H59 : Hint := (.two (.reg [0] []) (.two (.reg [2] []) .leaf))
def R59 : List ARes := [.tmp 2]
theorem code59 : cCode Try.prog 7 H59 (Try.f59.body.getD .skip) = some A59 := by kernel_rfl
theorem ok59 : FunOk Try.prog 59 ⟨R59, A59⟩ := ⟨Try.f59, _, H59, 7, Try.func59, by kernel_rfl, by kernel_rfl, code59, by decide, by kernel_rfl⟩
def A60 : ACode :=
 (.seq (
  .reg [0] [
    ⟨(some 2), .val (.const (.int .u64 0)), none⟩]) (
 (.seq (
  .dreg [0] [
    (⟨(some 3), .val (.tmp 0), none⟩, []),
    (⟨(some 4), .nilck (.tmp 3), none⟩, []),
    (⟨(some 5), .load none (.tmp 4), none⟩, []),
    (⟨(some 6), .val (.tmp 0), none⟩, []),
    (⟨(some 7), .nilck (.tmp 6), none⟩, []),
    (⟨(some 8), .load none (.tmp 7), none⟩, [2]),
    (⟨(some 9), .bin .shl (.tmp 8) (.const (.int .u64 13)), none⟩, []),
    (⟨(some 10), .bin .xor (.tmp 5) (.tmp 9), none⟩, []),
    (⟨(some 11), .nilck (.tmp 3), none⟩, []),
    (⟨none, .store 1 (.tmp 11) (.tmp 10), none⟩, [])]) (
 (.seq (
  .dreg [0] [
    (⟨(some 12), .val (.tmp 0), none⟩, []),
    (⟨(some 13), .nilck (.tmp 12), none⟩, []),
    (⟨(some 14), .load none (.tmp 13), none⟩, []),
    (⟨(some 15), .val (.tmp 0), none⟩, []),
    (⟨(some 16), .nilck (.tmp 15), none⟩, []),
    (⟨(some 17), .load none (.tmp 16), none⟩, [2]),
    (⟨(some 18), .bin .shr (.tmp 17) (.const (.int .u64 7)), none⟩, []),
    (⟨(some 19), .bin .xor (.tmp 14) (.tmp 18), none⟩, []),
    (⟨(some 20), .nilck (.tmp 12), none⟩, []),
    (⟨none, .store 1 (.tmp 20) (.tmp 19), none⟩, [])]) (
 (.seq (
  .dreg [0] [
    (⟨(some 21), .val (.tmp 0), none⟩, []),
    (⟨(some 22), .nilck (.tmp 21), none⟩, []),
    (⟨(some 23), .load none (.tmp 22), none⟩, []),
    (⟨(some 24), .val (.tmp 0), none⟩, []),
    (⟨(some 25), .nilck (.tmp 24), none⟩, []),
    (⟨(some 26), .load none (.tmp 25), none⟩, [2]),
    (⟨(some 27), .bin .shl (.tmp 26) (.const (.int .u64 17)), none⟩, []),
    (⟨(some 28), .bin .xor (.tmp 23) (.tmp 27), none⟩, []),
    (⟨(some 29), .nilck (.tmp 21), none⟩, []),
    (⟨none, .store 1 (.tmp 29) (.tmp 28), none⟩, [])]) (
 (.seq (
  .reg [2] [
    ⟨(some 30), .val (.tmp 0), none⟩,
    ⟨(some 31), .nilck (.tmp 30), none⟩,
    ⟨(some 32), .load none (.tmp 31), none⟩,
    ⟨(some 2), .val (.tmp 32), none⟩]) (
 .ret))))))))))
def H60 : Hint := (.two (.reg [0] []) (.two (.reg [0] [(0, [], []), (1, [], [0]), (2, [], [1, 0]), (3, [], []), (4, [], [3]), (5, [2], [4, 3]), (6, [], [5, 4, 3]), (7, [], [2, 1, 0, 6, 5, 4, 3]), (8, [], [0, 1, 2, 3, 4, 5, 6, 7]), (9, [], [8, 0, 1, 2, 3, 4, 5, 6, 7])]) (.two (.reg [0] [(0, [], []), (1, [], [0]), (2, [], [1, 0]), (3, [], []), (4, [], [3]), (5, [2], [4, 3]), (6, [], [5, 4, 3]), (7, [], [2, 1, 0, 6, 5, 4, 3]), (8, [], [0, 1, 2, 3, 4, 5, 6, 7]), (9, [], [8, 0, 1, 2, 3, 4, 5, 6, 7])]) (.two (.reg [0] [(0, [], []), (1, [], [0]), (2, [], [1, 0]), (3, [], []), (4, [], [3]), (5, [2], [4, 3]), (6, [], [5, 4, 3]), (7, [], [2, 1, 0, 6, 5, 4, 3]), (8, [], [0, 1, 2, 3, 4, 5, 6, 7]), (9, [], [8, 0, 1, 2, 3, 4, 5, 6, 7])]) (.two (.reg [2] []) .leaf)))))
def R60 : List ARes := [.tmp 2]
theorem code60 : cCode Try.prog 33 H60 (Try.f60.body.getD .skip) = some A60 := by kernel_rfl
theorem ok60 : FunOk Try.prog 60 ⟨R60, A60⟩ := ⟨Try.f60, _, H60, 33, Try.func60, by kernel_rfl, by kernel_rfl, code60, by decide, by kernel_rfl⟩
def A61 : ACode :=
 (.seq (
  .reg [3, 2, 1, 0] [
    ⟨(some 8), .val (.const (.int .i64 0)), none⟩]) (
 (.seq (
  .reg [8] [
    ⟨(some 9), .val (.tmp 0), none⟩,
    ⟨(some 10), .val (.tmp 1), none⟩,
    ⟨(some 11), .bin .sub (.tmp 10) (.const (.int .i64 1)), none⟩,
    ⟨(some 12), .val (.tmp 1), none⟩,
    ⟨(some 13), .val (.tmp 1), none⟩,
    ⟨(some 14), .bin .add (.tmp 13) (.const (.int .i64 1)), none⟩,
    ⟨(some 15), .val (.tmp 2), none⟩,
    ⟨(some 16), .val (.tmp 3), none⟩,
    ⟨(some 17), .call (.func 62) [(.tmp 9), (.tmp 11), (.tmp 12), (.tmp 14), (.tmp 15), (.tmp 16)], none⟩,
    ⟨(some 8), .val (.tmp 17), none⟩]) (
 .ret))))
def H61 : Hint := (.two (.reg [3, 2, 1, 0] []) (.two (.reg [8] []) .leaf))
def R61 : List ARes := [.tmp 8]
theorem code61 : cCode Try.prog 18 H61 (Try.f61.body.getD .skip) = some A61 := by kernel_rfl
theorem ok61 : FunOk Try.prog 61 ⟨R61, A61⟩ := ⟨Try.f61, _, H61, 18, Try.func61, by kernel_rfl, by kernel_rfl, code61, by decide, by kernel_rfl⟩
def A62 : ACode :=
 (.seq (
  .reg [5, 4, 0, 3, 2, 1] [
    ⟨(some 12), .val (.const (.int .i64 0)), none⟩]) (
 (.seq (
  .reg [5, 4, 1, 0, 3, 2] [
    ⟨(some 14), .val (.tmp 0), none⟩,
    ⟨(some 15), .val (.tmp 1), none⟩,
    ⟨(some 16), .val (.tmp 2), none⟩,
    ⟨(some 17), .val (.tmp 4), none⟩,
    ⟨(some 18), .val (.tmp 5), none⟩,
    ⟨(some 19), .call (.func 63) [(.tmp 14), (.tmp 15), (.tmp 16), (.tmp 17), (.tmp 18)], none⟩,
    ⟨(some 13), .val (.tmp 19), none⟩,
    ⟨(some 20), .extr (.tmp 13) 0, none⟩,
    ⟨(some 21), .extr (.tmp 13) 1, none⟩,
    ⟨(some 1), .val (.tmp 20), none⟩,
    ⟨(some 2), .val (.tmp 21), none⟩]) (
 (.seq (
  .reg [5, 4, 2, 1, 0] [
    ⟨(some 23), .val (.tmp 0), none⟩,
    ⟨(some 24), .val (.tmp 2), none⟩,
    ⟨(some 25), .val (.tmp 3), none⟩,
    ⟨(some 26), .val (.tmp 4), none⟩,
    ⟨(some 27), .val (.tmp 5), none⟩,
    ⟨(some 28), .call (.func 63) [(.tmp 23), (.tmp 24), (.tmp 25), (.tmp 26), (.tmp 27)], none⟩,
    ⟨(some 22), .val (.tmp 28), none⟩,
    ⟨(some 29), .extr (.tmp 22) 0, none⟩,
    ⟨(some 30), .extr (.tmp 22) 1, none⟩,
    ⟨(some 2), .val (.tmp 29), none⟩,
    ⟨(some 3), .val (.tmp 30), none⟩]) (
 (.seq (
  .reg [2] [
    ⟨(some 32), .val (.tmp 0), none⟩,
    ⟨(some 33), .val (.tmp 1), none⟩,
    ⟨(some 34), .val (.tmp 2), none⟩,
    ⟨(some 35), .val (.tmp 4), none⟩,
    ⟨(some 36), .val (.tmp 5), none⟩,
    ⟨(some 37), .call (.func 63) [(.tmp 32), (.tmp 33), (.tmp 34), (.tmp 35), (.tmp 36)], none⟩,
    ⟨(some 31), .val (.tmp 37), none⟩,
    ⟨(some 38), .extr (.tmp 31) 0, none⟩,
    ⟨(some 39), .extr (.tmp 31) 1, none⟩,
    ⟨(some 1), .val (.tmp 38), none⟩,
    ⟨(some 2), .val (.tmp 39), none⟩]) (
 (.seq (
  .reg [12] [
    ⟨(some 40), .val (.tmp 2), none⟩,
    ⟨(some 12), .val (.tmp 40), none⟩]) (
 .ret))))))))))
def H62 : Hint := (.two (.reg [5, 4, 0, 3, 2, 1] []) (.two (.reg [5, 4, 1, 0, 3, 2] []) (.two (.reg [5, 4, 2, 1, 0] []) (.two (.reg [2] []) (.two (.reg [12] []) .leaf)))))
def R62 : List ARes := [.tmp 12]
theorem code62 : cCode Try.prog 41 H62 (Try.f62.body.getD .skip) = some A62 := by kernel_rfl
theorem ok62 : FunOk Try.prog 62 ⟨R62, A62⟩ := ⟨Try.f62, _, H62, 41, Try.func62, by kernel_rfl, by kernel_rfl, code62, by decide, by kernel_rfl⟩
def A63 : ACode :=
 (.seq (
  .reg [1, 2, 3, 0, 4] [
    ⟨(some 10), .val (.const (.int .i64 0)), none⟩,
    ⟨(some 11), .val (.const (.int .i64 0)), none⟩]) (
 (.seq (
  (.seq (
   .dreg [1, 2, 3, 22] [
     (⟨(some 12), .val (.tmp 4), none⟩, []),
     (⟨(some 13), .val (.tmp 0), none⟩, []),
     (⟨(some 14), .val (.tmp 2), none⟩, []),
     (⟨(some 15), .idxSl 3 (.tmp 13) (.tmp 14), none⟩, []),
     (⟨(some 16), .load (some 3) (.tmp 15), none⟩, []),
     (⟨(some 17), .val (.tmp 0), none⟩, []),
     (⟨(some 18), .val (.tmp 1), none⟩, []),
     (⟨(some 19), .idxSl 3 (.tmp 17) (.tmp 18), none⟩, []),
     (⟨(some 20), .load (some 3) (.tmp 19), none⟩, [4]),
     (⟨(some 21), .call (.tmp 12) [(.tmp 16), (.tmp 20)], none⟩, []),
     (⟨(some 22), .bin .lss (.tmp 21) (.const (.int .i64 0)), none⟩, [])]) (
  (.cond (.tmp 22) (
   (.seq (
    .reg [1, 2] [
      ⟨(some 23), .val (.tmp 3), none⟩,
      ⟨(some 24), .nilck (.tmp 23), none⟩,
      ⟨(some 25), .load none (.tmp 24), none⟩,
      ⟨(some 26), .bin .add (.tmp 25) (.const (.int .i64 1)), none⟩,
      ⟨(some 27), .nilck (.tmp 23), none⟩,
      ⟨none, .store 1 (.tmp 27) (.tmp 26), none⟩]) (
   (.seq (
    .reg [10, 11] [
      ⟨(some 28), .val (.tmp 2), none⟩,
      ⟨(some 29), .val (.tmp 1), none⟩,
      ⟨(some 10), .val (.tmp 28), none⟩,
      ⟨(some 11), .val (.tmp 29), none⟩]) (
   .ret))))) (
   .skip))))) (
 (.seq (
  .reg [10, 11] [
    ⟨(some 30), .val (.tmp 1), none⟩,
    ⟨(some 31), .val (.tmp 2), none⟩,
    ⟨(some 10), .val (.tmp 30), none⟩,
    ⟨(some 11), .val (.tmp 31), none⟩]) (
 .ret))))))
def H63 : Hint := (.two (.reg [1, 2, 3, 0, 4] []) (.two (.two (.reg [1, 2, 3, 22] [(0, [], []), (1, [], []), (2, [], []), (3, [], [1, 2]), (4, [], [3, 1, 2]), (5, [], []), (6, [], []), (7, [], [5, 6]), (8, [4], [7, 5, 6]), (9, [], [0, 4, 3, 1, 2, 8, 7, 5, 6]), (10, [], [9, 0, 4, 3, 1, 2, 8, 7, 5, 6])]) (.two (.two (.reg [1, 2] []) (.two (.reg [10, 11] []) .leaf)) .leaf)) (.two (.reg [10, 11] []) .leaf)))
def R63 : List ARes := [.tmp 10, .tmp 11]
theorem code63 : cCode Try.prog 32 H63 (Try.f63.body.getD .skip) = some A63 := by kernel_rfl
theorem ok63 : FunOk Try.prog 63 ⟨R63, A63⟩ := ⟨Try.f63, _, H63, 32, Try.func63, by kernel_rfl, by kernel_rfl, code63, by decide, by kernel_rfl⟩
def tab : List (Nat × AFun) := [(3, ⟨R3, A3⟩), (4, ⟨R4, A4⟩), (5, ⟨R5, A5⟩), (6, ⟨R6, A6⟩), (7, ⟨R7, A7⟩), (8, ⟨R8, A8⟩), (9, ⟨R9, A9⟩), (10, ⟨R10, A10⟩), (11, ⟨R11, A11⟩), (12, ⟨R12, A12⟩), (13, ⟨R13, A13⟩), (14, ⟨R14, A14⟩), (15, ⟨R15, A15⟩), (16, ⟨R16, A16⟩), (17, ⟨R17, A17⟩), (18, ⟨R18, A18⟩), (19, ⟨R19, A19⟩), (20, ⟨R20, A20⟩), (21, ⟨R21, A21⟩), (22, ⟨R22, A22⟩), (23, ⟨R23, A23⟩), (24, ⟨R24, A24⟩), (25, ⟨R25, A25⟩), (26, ⟨R26, A26⟩), (27, ⟨R27, A27⟩), (28, ⟨R28, A28⟩), (29, ⟨R29, A29⟩), (30, ⟨R30, A30⟩), (31, ⟨R31, A31⟩), (32, ⟨R32, A32⟩), (33, ⟨R33, A33⟩), (34, ⟨R34, A34⟩), (35, ⟨R35, A35⟩), (36, ⟨R36, A36⟩), (37, ⟨R37, A37⟩), (38, ⟨R38, A38⟩), (39, ⟨R39, A39⟩), (40, ⟨R40, A40⟩), (41, ⟨R41, A41⟩), (42, ⟨R42, A42⟩), (43, ⟨R43, A43⟩), (45, ⟨R45, A45⟩), (46, ⟨R46, A46⟩), (47, ⟨R47, A47⟩), (48, ⟨R48, A48⟩), (49, ⟨R49, A49⟩), (50, ⟨R50, A50⟩), (51, ⟨R51, A51⟩), (52, ⟨R52, A52⟩), (53, ⟨R53, A53⟩), (54, ⟨R54, A54⟩), (55, ⟨R55, A55⟩), (56, ⟨R56, A56⟩), (57, ⟨R57, A57⟩), (58, ⟨R58, A58⟩), (59, ⟨R59, A59⟩), (60, ⟨R60, A60⟩), (61, ⟨R61, A61⟩), (62, ⟨R62, A62⟩), (63, ⟨R63, A63⟩)]
def GA (f : Nat) : Option AFun := (tab.find? (fun x => x.1 == f)).map (·.2)
theorem tab_ok : ∀ p ∈ tab, FunOk Try.prog p.1 p.2 := by
  simp only [tab, List.forall_mem_cons, List.not_mem_nil, false_imp_iff, implies_true, and_true]
  exact ⟨ok3, ok4, ok5, ok6, ok7, ok8, ok9, ok10, ok11, ok12, ok13, ok14, ok15, ok16, ok17, ok18, ok19, ok20, ok21, ok22, ok23, ok24, ok25, ok26, ok27, ok28, ok29, ok30, ok31, ok32, ok33, ok34, ok35, ok36, ok37, ok38, ok39, ok40, ok41, ok42, ok43, ok45, ok46, ok47, ok48, ok49, ok50, ok51, ok52, ok53, ok54, ok55, ok56, ok57, ok58, ok59, ok60, ok61, ok62, ok63⟩
theorem GA_ok (f : Nat) (af : AFun) (h : GA f = some af) : FunOk Try.prog f af := by
  unfold GA at h
  cases hf : tab.find? (fun x => x.1 == f) with
  | none => rw [hf] at h; cases h
  | some p =>
    rw [hf] at h
    cases h
    have h1 := List.find?_some hf
    simp only [beq_iff_eq] at h1
    rw [← h1]
    exact tab_ok p (List.mem_of_find?_eq_some hf)
/-- All but the closed example, which is run once and for all. -/
def G (f : Nat) : Option AFun := if f = 9 then none else GA f
theorem G_ok (f : Nat) (af : AFun) (h : G f = some af) : FunOk Try.prog f af := by
  unfold G at h
  split at h
  · cases h
  · exact GA_ok f af h
def XL (f : Nat) (args : List Value) : Option Value := if f = 9 ∧ args.isEmpty then some (.bool true) else none
theorem G_live : G 9 = none := rfl
theorem X_live : XL 9 [] = some (.bool true) := rfl
theorem lives_run : wpF GA (fun _ _ => none) 30 9 [] S0 (fun v _ => v = .bool true) = (Value.bool true = .bool true) := by kernel_rfl
theorem XL_ok : XOk Try.prog XL := xok_of_run (X := fun _ _ => none) (by kernel_rfl) GA_ok (fun f args v h => by cases h) (k := 30) (f := 9) (b := true) (by rw [lives_run])
end Go.Proofs.Ytboclpaokecalaa
