/- The code of the functions, resolved; and that it is theirs. -/
import Derived.Test.YtgnjkkppahhhfaaAx3
import Derived.Test.YtgnjkkppahhhfaaProg
namespace Go.Proofs.Ytgnjkkppahhhfaa
open Go Go.Ax

def A3 : ACode :=
 (.seq (
  .reg [0] [
    ⟨(some 2), .val (.const (.bool false)), none⟩]) (
 (.seq (
  .reg [0] [
    ⟨(some 25), .val (.tmp 0), none⟩,
    ⟨(some 26), .val (.tmp 0), none⟩,
    ⟨(some 27), .len .sl (.tmp 26), none⟩,
    ⟨(some 28), .min (.tmp 27) (.const (.int .i64 80)), none⟩,
    ⟨(some 29), .slice 4 (.tmp 25) none (some (.tmp 28)) none, none⟩,
    ⟨(some 0), .val (.tmp 29), none⟩]) (
 (.seq (
  .reg [3, 0] [
    ⟨(some 30), .call (.func 7) [(.const (.int .i64 1))], none⟩,
    ⟨(some 3), .val (.tmp 30), none⟩]) (
 (.seq (
  .reg [4, 3, 0] [
    ⟨(some 4), .val (.const (.slice none 0 0)), none⟩]) (
 (.seq (
  .reg [5, 4, 3, 0] [
    ⟨(some 5), .val (.const (.slice none 0 0)), none⟩]) (
 (.seq (
  (.seq (
   .reg [33, 5, 4, 3, 31, 32] [
     ⟨(some 31), .val (.tmp 0), none⟩,
     ⟨(some 32), .len .sl (.tmp 31), none⟩,
     ⟨(some 33), .val (.const (.int .i64 0)), none⟩]) (
  (.block 0 (
   (.loop (
    (.seq (
     .reg [3, 31, 32, 33, 5, 4, 34] [
       ⟨(some 34), .bin .lss (.tmp 33) (.tmp 32), none⟩]) (
    (.seq (
     (.cond (.tmp 34) (
      .skip) (
      .exit 0))) (
    (.seq (
     (.block 1 (
      (.seq (
       .reg [3, 31, 32, 33, 5, 4, 7] [
         ⟨(some 35), .idxSl 4 (.tmp 31) (.tmp 33), none⟩,
         ⟨(some 36), .load (some 4) (.tmp 35), none⟩,
         ⟨(some 7), .new [(.int .u64 0), (.int .i64 0), (.int .i64 0), (.int .i64 0)], none⟩,
         ⟨none, .store 4 (.tmp 7) (.tmp 36), none⟩]) (
      (.seq (
       (.seq (
        .reg [3, 31, 32, 33, 5, 4, 7, 40] [
          ⟨(some 37), .fldA 0 (.tmp 7), none⟩,
          ⟨(some 38), .load none (.tmp 37), none⟩,
          ⟨(some 39), .bin .rem (.tmp 38) (.const (.int .u64 2)), none⟩,
          ⟨(some 40), .bin .eql (.tmp 39) (.const (.int .u64 0)), none⟩]) (
       (.cond (.tmp 40) (
        (.seq (
         .dreg [9, 3, 31, 32, 33, 5, 8, 4] [
           (⟨(some 41), .fldA 2 (.tmp 7), none⟩, []),
           (⟨(some 42), .load none (.tmp 41), none⟩, []),
           (⟨(some 43), .min (.tmp 42) (.const (.int .i64 30)), none⟩, []),
           (⟨(some 44), .max (.const (.int .i64 0)) (.tmp 43), none⟩, []),
           (⟨(some 45), .fldA 3 (.tmp 7), none⟩, []),
           (⟨(some 46), .load none (.tmp 45), none⟩, [1]),
           (⟨(some 47), .min (.tmp 46) (.const (.int .i64 5)), none⟩, []),
           (⟨(some 48), .max (.const (.int .i64 0)) (.tmp 47), none⟩, []),
           (⟨(some 8), .val (.tmp 44), none⟩, []),
           (⟨(some 9), .val (.tmp 48), none⟩, [])]) (
        (.seq (
         .reg [9, 3, 31, 32, 33, 5, 8, 4, 10, 11] [
           ⟨(some 50), .val (.tmp 3), none⟩,
           ⟨(some 51), .val (.tmp 8), none⟩,
           ⟨(some 52), .val (.tmp 9), none⟩,
           ⟨(some 53), .call (.func 8) [(.tmp 50), (.const (.int .i64 0)), (.tmp 51), (.tmp 52)], none⟩,
           ⟨(some 49), .val (.tmp 53), none⟩,
           ⟨(some 54), .extr (.tmp 49) 0, none⟩,
           ⟨(some 55), .extr (.tmp 49) 1, none⟩,
           ⟨(some 10), .val (.tmp 54), none⟩,
           ⟨(some 11), .val (.tmp 55), none⟩]) (
        (.seq (
         (.seq (
          .reg [9, 3, 31, 32, 33, 5, 8, 4, 61] [
            ⟨(some 56), .val (.tmp 11), none⟩,
            ⟨(some 57), .bin .eql (.tmp 56) (.const (.int .i64 0)), none⟩,
            ⟨(some 58), .val (.tmp 57), none⟩,
            ⟨(some 59), .val (.tmp 10), (some (58, true))⟩,
            ⟨(some 60), .un .not (.tmp 59), (some (58, true))⟩,
            ⟨(some 61), .pick (.tmp 58) (.tmp 60) (.const (.bool false)), none⟩]) (
         (.cond (.tmp 61) (
          (.seq (
           .reg [12, 9, 3, 31, 32, 33, 5, 8, 4] [
             ⟨(some 12), .val (.const (.int .i64 0)), none⟩]) (
          (.seq (
           (.seq (
            .reg [64, 12, 9, 62, 3, 31, 32, 33, 5, 8, 4, 63] [
              ⟨(some 62), .val (.tmp 4), none⟩,
              ⟨(some 63), .len .sl (.tmp 62), none⟩,
              ⟨(some 64), .val (.const (.int .i64 0)), none⟩]) (
           (.block 2 (
            (.loop (
             (.seq (
              .reg [9, 62, 3, 31, 32, 33, 5, 8, 4, 63, 64, 12, 65] [
                ⟨(some 65), .bin .lss (.tmp 64) (.tmp 63), none⟩]) (
             (.seq (
              (.cond (.tmp 65) (
               .skip) (
               .exit 2))) (
             (.seq (
              (.block 3 (
               (.seq (
                .reg [9, 62, 3, 31, 32, 33, 5, 8, 4, 63, 64, 12, 14] [
                  ⟨(some 66), .idxSl 2 (.tmp 62) (.tmp 64), none⟩,
                  ⟨(some 67), .load (some 2) (.tmp 66), none⟩,
                  ⟨(some 14), .new [(.int .i64 0), (.int .i64 0)], none⟩,
                  ⟨none, .store 2 (.tmp 14) (.tmp 67), none⟩]) (
               (.seq (
                .reg [9, 62, 3, 31, 32, 33, 5, 8, 4, 63, 64, 12, 71] [
                  ⟨(some 68), .fldA 1 (.tmp 14), none⟩,
                  ⟨(some 69), .load none (.tmp 68), none⟩,
                  ⟨(some 70), .val (.tmp 9), none⟩,
                  ⟨(some 71), .bin .eql (.tmp 69) (.tmp 70), none⟩]) (
               (.cond (.tmp 71) (
                .reg [12, 9, 62, 3, 31, 32, 33, 5, 8, 4, 63, 64] [
                  ⟨(some 72), .val (.tmp 12), none⟩,
                  ⟨(some 73), .bin .add (.tmp 72) (.const (.int .i64 1)), none⟩,
                  ⟨(some 12), .val (.tmp 73), none⟩]) (
                .skip))))))))) (
             .reg [64, 12, 9, 62, 3, 31, 32, 33, 5, 8, 4, 63] [
               ⟨(some 74), .bin .add (.tmp 64) (.const (.int .i64 1)), none⟩,
               ⟨(some 64), .val (.tmp 74), none⟩]))))))))))))) (
          (.seq (
           .reg [4, 3, 31, 32, 33, 12, 5] [
             ⟨(some 75), .val (.tmp 4), none⟩,
             ⟨(some 76), .val (.tmp 8), none⟩,
             ⟨(some 77), .val (.tmp 9), none⟩,
             ⟨(some 78), .build [(.int .i64 0), (.int .i64 0)] [(0, 1, (.tmp 76)), (1, 1, (.tmp 77))], none⟩,
             ⟨(some 79), .buildSl 1 [(.int .i64 0), (.int .i64 0)] [(0, 2, (.tmp 78))], none⟩,
             ⟨(some 80), .append 2 16 (.tmp 75) (.tmp 79), none⟩,
             ⟨(some 4), .val (.tmp 80), none⟩]) (
          .reg [5, 4, 3, 31, 32, 33] [
            ⟨(some 81), .val (.tmp 5), none⟩,
            ⟨(some 82), .val (.tmp 12), none⟩,
            ⟨(some 83), .bin .add (.tmp 82) (.const (.int .i64 1)), none⟩,
            ⟨(some 84), .bin .mul (.tmp 83) (.const (.int .i64 6)), none⟩,
            ⟨(some 85), .bin .mul (.tmp 84) (.const (.int .i64 4)), none⟩,
            ⟨(some 86), .buildSl 1 [(.int .i64 0)] [(0, 1, (.tmp 85))], none⟩,
            ⟨(some 87), .append 1 8 (.tmp 81) (.tmp 86), none⟩,
            ⟨(some 5), .val (.tmp 87), none⟩]))))))) (
          .skip))))) (
        .exit 1))))))) (
        .skip))))) (
      (.seq (
       .reg [5, 4, 3, 31, 32, 33, 15, 16] [
         ⟨(some 89), .val (.tmp 3), none⟩,
         ⟨(some 90), .call (.func 9) [(.tmp 89), (.const (.int .i64 0))], none⟩,
         ⟨(some 88), .val (.tmp 90), none⟩,
         ⟨(some 91), .extr (.tmp 88) 0, none⟩,
         ⟨(some 92), .extr (.tmp 88) 1, none⟩,
         ⟨(some 15), .val (.tmp 91), none⟩,
         ⟨(some 16), .val (.tmp 92), none⟩]) (
      (.seq (
       (.seq (
        .reg [5, 4, 3, 31, 32, 33, 15, 94] [
          ⟨(some 93), .val (.tmp 16), none⟩,
          ⟨(some 94), .un .not (.tmp 93), none⟩]) (
       (.cond (.tmp 94) (
        .exit 1) (
        .skip))))) (
      (.seq (
       .reg [5, 4, 3, 31, 32, 33, 17, 18] [
         ⟨(some 96), .val (.tmp 3), none⟩,
         ⟨(some 97), .val (.tmp 15), none⟩,
         ⟨(some 98), .call (.func 10) [(.tmp 96), (.const (.int .i64 0)), (.tmp 97)], none⟩,
         ⟨(some 95), .val (.tmp 98), none⟩,
         ⟨(some 99), .extr (.tmp 95) 0, none⟩,
         ⟨(some 100), .extr (.tmp 95) 1, none⟩,
         ⟨(some 101), .extr (.tmp 95) 2, none⟩,
         ⟨(some 17), .val (.tmp 99), none⟩,
         ⟨(some 18), .val (.tmp 100), none⟩,
         ⟨(some 19), .val (.tmp 101), none⟩]) (
      (.seq (
       (.seq (
        .reg [5, 4, 3, 31, 32, 33, 17, 103] [
          ⟨(some 102), .val (.tmp 18), none⟩,
          ⟨(some 103), .un .not (.tmp 102), none⟩]) (
       (.cond (.tmp 103) (
        .exit 1) (
        .skip))))) (
      (.seq (
       .reg [17, 5, 20, 4, 3, 31, 32, 33] [
         ⟨(some 20), .val (.const (.int .i64 (-1))), none⟩]) (
      (.seq (
       (.seq (
        .reg [106, 17, 104, 5, 20, 4, 3, 31, 32, 33, 105] [
          ⟨(some 104), .val (.tmp 4), none⟩,
          ⟨(some 105), .len .sl (.tmp 104), none⟩,
          ⟨(some 106), .val (.const (.int .i64 0)), none⟩]) (
       (.block 4 (
        (.loop (
         (.seq (
          .reg [17, 104, 5, 4, 3, 31, 32, 33, 105, 106, 20, 107] [
            ⟨(some 107), .bin .lss (.tmp 106) (.tmp 105), none⟩]) (
         (.seq (
          (.cond (.tmp 107) (
           .skip) (
           .exit 4))) (
         (.seq (
          (.block 5 (
           (.seq (
            .reg [17, 104, 5, 4, 3, 31, 32, 33, 105, 106, 21, 20, 22] [
              ⟨(some 108), .val (.tmp 106), none⟩,
              ⟨(some 109), .idxSl 2 (.tmp 104) (.tmp 106), none⟩,
              ⟨(some 110), .load (some 2) (.tmp 109), none⟩,
              ⟨(some 22), .new [(.int .i64 0), (.int .i64 0)], none⟩,
              ⟨(some 21), .val (.tmp 108), none⟩,
              ⟨none, .store 2 (.tmp 22) (.tmp 110), none⟩]) (
           (.seq (
            .reg [17, 104, 5, 4, 3, 31, 32, 33, 105, 106, 21, 20, 114] [
              ⟨(some 111), .fldA 0 (.tmp 22), none⟩,
              ⟨(some 112), .load none (.tmp 111), none⟩,
              ⟨(some 113), .val (.tmp 17), none⟩,
              ⟨(some 114), .bin .eql (.tmp 112) (.tmp 113), none⟩]) (
           (.cond (.tmp 114) (
            .reg [17, 104, 5, 20, 4, 3, 31, 32, 33, 105, 106] [
              ⟨(some 115), .val (.tmp 21), none⟩,
              ⟨(some 20), .val (.tmp 115), none⟩]) (
            .skip))))))))) (
         .reg [106, 17, 104, 5, 20, 4, 3, 31, 32, 33, 105] [
           ⟨(some 116), .bin .add (.tmp 106) (.const (.int .i64 1)), none⟩,
           ⟨(some 106), .val (.tmp 116), none⟩]))))))))))))) (
      (.seq (
       (.seq (
        .reg [5, 20, 4, 3, 31, 32, 33, 118] [
          ⟨(some 117), .val (.tmp 20), none⟩,
          ⟨(some 118), .bin .lss (.tmp 117) (.const (.int .i64 0)), none⟩]) (
       (.cond (.tmp 118) (
        (.seq (
         .reg [2] [
           ⟨(some 2), .val (.const (.bool false)), none⟩]) (
        .ret))) (
        .skip))))) (
      (.seq (
       (.seq (
        .reg [121, 5, 20, 4, 119, 3, 31, 32, 33, 120] [
          ⟨(some 119), .val (.tmp 4), none⟩,
          ⟨(some 120), .len .sl (.tmp 119), none⟩,
          ⟨(some 121), .val (.const (.int .i64 0)), none⟩]) (
       (.block 6 (
        (.loop (
         (.seq (
          .reg [5, 20, 4, 119, 3, 31, 32, 33, 120, 121, 122] [
            ⟨(some 122), .bin .lss (.tmp 121) (.tmp 120), none⟩]) (
         (.seq (
          (.cond (.tmp 122) (
           .skip) (
           .exit 6))) (
         (.seq (
          (.block 7 (
           (.seq (
            .reg [5, 20, 4, 119, 3, 31, 32, 33, 120, 121, 23, 24] [
              ⟨(some 123), .val (.tmp 121), none⟩,
              ⟨(some 124), .idxSl 2 (.tmp 119) (.tmp 121), none⟩,
              ⟨(some 125), .load (some 2) (.tmp 124), none⟩,
              ⟨(some 24), .new [(.int .i64 0), (.int .i64 0)], none⟩,
              ⟨(some 23), .val (.tmp 123), none⟩,
              ⟨none, .store 2 (.tmp 24) (.tmp 125), none⟩]) (
           (.seq (
            (.seq (
             .dreg [5, 20, 4, 119, 3, 31, 32, 33, 120, 121, 23, 138] [
               (⟨(some 126), .val (.tmp 23), none⟩, []),
               (⟨(some 127), .val (.tmp 20), none⟩, []),
               (⟨(some 128), .bin .lss (.tmp 126) (.tmp 127), none⟩, []),
               (⟨(some 129), .val (.tmp 128), none⟩, []),
               (⟨(some 130), .fldA 1 (.tmp 24), (some (129, true))⟩, []),
               (⟨(some 131), .load none (.tmp 130), (some (129, true))⟩, []),
               (⟨(some 132), .val (.tmp 4), (some (129, true))⟩, []),
               (⟨(some 133), .val (.tmp 20), (some (129, true))⟩, []),
               (⟨(some 134), .idxSl 2 (.tmp 132) (.tmp 133), (some (129, true))⟩, []),
               (⟨(some 135), .fldA 1 (.tmp 134), (some (129, true))⟩, []),
               (⟨(some 136), .load none (.tmp 135), (some (129, true))⟩, [5]),
               (⟨(some 137), .bin .eql (.tmp 131) (.tmp 136), (some (129, true))⟩, []),
               (⟨(some 138), .pick (.tmp 129) (.tmp 137) (.const (.bool false)), none⟩, [])]) (
            (.cond (.tmp 138) (
             (.seq (
              .reg [2] [
                ⟨(some 2), .val (.const (.bool false)), none⟩]) (
             .ret))) (
             .skip))))) (
           (.seq (
            .reg [5, 20, 4, 119, 3, 31, 32, 33, 120, 121, 23] [
              ⟨(some 139), .val (.tmp 5), none⟩,
              ⟨(some 140), .val (.tmp 23), none⟩,
              ⟨(some 141), .idxSl 1 (.tmp 139) (.tmp 140), none⟩,
              ⟨(some 142), .load none (.tmp 141), none⟩,
              ⟨(some 143), .bin .sub (.tmp 142) (.const (.int .i64 1)), none⟩,
              ⟨(some 144), .idxSl 1 (.tmp 139) (.tmp 140), none⟩,
              ⟨none, .store 1 (.tmp 144) (.tmp 143), none⟩]) (
           (.seq (
            .reg [5, 20, 4, 119, 3, 31, 32, 33, 120, 121, 149] [
              ⟨(some 145), .val (.tmp 5), none⟩,
              ⟨(some 146), .val (.tmp 23), none⟩,
              ⟨(some 147), .idxSl 1 (.tmp 145) (.tmp 146), none⟩,
              ⟨(some 148), .load none (.tmp 147), none⟩,
              ⟨(some 149), .bin .lss (.tmp 148) (.const (.int .i64 0)), none⟩]) (
           (.cond (.tmp 149) (
            (.seq (
             .reg [2] [
               ⟨(some 2), .val (.const (.bool false)), none⟩]) (
            .ret))) (
            .skip))))))))))))) (
         .reg [121, 5, 20, 4, 119, 3, 31, 32, 33, 120] [
           ⟨(some 150), .bin .add (.tmp 121) (.const (.int .i64 1)), none⟩,
           ⟨(some 121), .val (.tmp 150), none⟩]))))))))))))) (
      (.seq (
       .dreg [4, 3, 31, 32, 33, 20, 5] [
         (⟨(some 151), .buildSl 0 [] [], none⟩, []),
         (⟨(some 152), .val (.tmp 4), none⟩, []),
         (⟨(some 153), .val (.tmp 20), none⟩, []),
         (⟨(some 154), .slice 2 (.tmp 152) none (some (.tmp 153)) none, none⟩, []),
         (⟨(some 155), .append 2 16 (.tmp 151) (.tmp 154), none⟩, []),
         (⟨(some 156), .val (.tmp 4), none⟩, []),
         (⟨(some 157), .val (.tmp 20), none⟩, []),
         (⟨(some 158), .bin .add (.tmp 157) (.const (.int .i64 1)), none⟩, []),
         (⟨(some 159), .slice 2 (.tmp 156) (some (.tmp 158)) none none, none⟩, []),
         (⟨(some 160), .append 2 16 (.tmp 155) (.tmp 159), none⟩, []),
         (⟨(some 4), .val (.tmp 160), none⟩, [])]) (
      .dreg [5, 4, 3, 31, 32, 33] [
        (⟨(some 161), .buildSl 0 [] [], none⟩, []),
        (⟨(some 162), .val (.tmp 5), none⟩, []),
        (⟨(some 163), .val (.tmp 20), none⟩, []),
        (⟨(some 164), .slice 1 (.tmp 162) none (some (.tmp 163)) none, none⟩, []),
        (⟨(some 165), .append 1 8 (.tmp 161) (.tmp 164), none⟩, []),
        (⟨(some 166), .val (.tmp 5), none⟩, []),
        (⟨(some 167), .val (.tmp 20), none⟩, []),
        (⟨(some 168), .bin .add (.tmp 167) (.const (.int .i64 1)), none⟩, []),
        (⟨(some 169), .slice 1 (.tmp 166) (some (.tmp 168)) none none, none⟩, []),
        (⟨(some 170), .append 1 8 (.tmp 165) (.tmp 169), none⟩, []),
        (⟨(some 5), .val (.tmp 170), none⟩, [])]))))))))))))))))))))))))) (
    .reg [33, 5, 4, 3, 31, 32] [
      ⟨(some 171), .bin .add (.tmp 33) (.const (.int .i64 1)), none⟩,
      ⟨(some 33), .val (.tmp 171), none⟩]))))))))))))) (
 (.seq (
  .reg [2] [
    ⟨(some 172), .call (.func 11) [], none⟩,
    ⟨(some 2), .val (.tmp 172), none⟩]) (
 .ret))))))))))))))
def H3 : Hint := (.two (.reg [0] []) (.two (.reg [0] []) (.two (.reg [3, 0] []) (.two (.reg [4, 3, 0] []) (.two (.reg [5, 4, 3, 0] []) (.two (.two (.reg [33, 5, 4, 3, 31, 32] []) (.one (.one (.two (.reg [3, 31, 32, 33, 5, 4, 34] []) (.two (.two .leaf .leaf) (.two (.one (.two (.reg [3, 31, 32, 33, 5, 4, 7] []) (.two (.two (.reg [3, 31, 32, 33, 5, 4, 7, 40] []) (.two (.two (.reg [9, 3, 31, 32, 33, 5, 8, 4] [(0, [], []), (1, [], [0]), (2, [], [1, 0]), (3, [], [2, 1, 0]), (4, [], []), (5, [1], [4]), (6, [], [5, 4]), (7, [], [6, 5, 4]), (8, [], [3, 2, 1, 0]), (9, [], [7, 6, 5, 4, 8, 3, 2, 1, 0])]) (.two (.reg [9, 3, 31, 32, 33, 5, 8, 4, 10, 11] []) (.two (.two (.reg [9, 3, 31, 32, 33, 5, 8, 4, 61] []) (.two (.two (.reg [12, 9, 3, 31, 32, 33, 5, 8, 4] []) (.two (.two (.reg [64, 12, 9, 62, 3, 31, 32, 33, 5, 8, 4, 63] []) (.one (.one (.two (.reg [9, 62, 3, 31, 32, 33, 5, 8, 4, 63, 64, 12, 65] []) (.two (.two .leaf .leaf) (.two (.one (.two (.reg [9, 62, 3, 31, 32, 33, 5, 8, 4, 63, 64, 12, 14] []) (.two (.reg [9, 62, 3, 31, 32, 33, 5, 8, 4, 63, 64, 12, 71] []) (.two (.reg [12, 9, 62, 3, 31, 32, 33, 5, 8, 4, 63, 64] []) .leaf)))) (.reg [64, 12, 9, 62, 3, 31, 32, 33, 5, 8, 4, 63] []))))))) (.two (.reg [4, 3, 31, 32, 33, 12, 5] []) (.reg [5, 4, 3, 31, 32, 33] [])))) .leaf)) .leaf))) .leaf)) (.two (.reg [5, 4, 3, 31, 32, 33, 15, 16] []) (.two (.two (.reg [5, 4, 3, 31, 32, 33, 15, 94] []) (.two .leaf .leaf)) (.two (.reg [5, 4, 3, 31, 32, 33, 17, 18] []) (.two (.two (.reg [5, 4, 3, 31, 32, 33, 17, 103] []) (.two .leaf .leaf)) (.two (.reg [17, 5, 20, 4, 3, 31, 32, 33] []) (.two (.two (.reg [106, 17, 104, 5, 20, 4, 3, 31, 32, 33, 105] []) (.one (.one (.two (.reg [17, 104, 5, 4, 3, 31, 32, 33, 105, 106, 20, 107] []) (.two (.two .leaf .leaf) (.two (.one (.two (.reg [17, 104, 5, 4, 3, 31, 32, 33, 105, 106, 21, 20, 22] []) (.two (.reg [17, 104, 5, 4, 3, 31, 32, 33, 105, 106, 21, 20, 114] []) (.two (.reg [17, 104, 5, 20, 4, 3, 31, 32, 33, 105, 106] []) .leaf)))) (.reg [106, 17, 104, 5, 20, 4, 3, 31, 32, 33, 105] []))))))) (.two (.two (.reg [5, 20, 4, 3, 31, 32, 33, 118] []) (.two (.two (.reg [2] []) .leaf) .leaf)) (.two (.two (.reg [121, 5, 20, 4, 119, 3, 31, 32, 33, 120] []) (.one (.one (.two (.reg [5, 20, 4, 119, 3, 31, 32, 33, 120, 121, 122] []) (.two (.two .leaf .leaf) (.two (.one (.two (.reg [5, 20, 4, 119, 3, 31, 32, 33, 120, 121, 23, 24] []) (.two (.two (.reg [5, 20, 4, 119, 3, 31, 32, 33, 120, 121, 23, 138] [(0, [], []), (1, [], []), (2, [], [0, 1]), (3, [], [2, 0, 1]), (4, [], [3, 2, 0, 1]), (5, [], [4, 3, 2, 0, 1]), (6, [], [3, 2, 0, 1]), (7, [], [3, 2, 0, 1]), (8, [], [6, 3, 2, 0, 1, 7]), (9, [], [8, 6, 3, 2, 0, 1, 7]), (10, [5], [9, 8, 6, 3, 2, 0, 1, 7]), (11, [], [5, 4, 3, 2, 0, 1, 10, 9, 8, 6, 7]), (12, [], [3, 2, 0, 1, 11, 5, 4, 10, 9, 8, 6, 7])]) (.two (.two (.reg [2] []) .leaf) .leaf)) (.two (.reg [5, 20, 4, 119, 3, 31, 32, 33, 120, 121, 23] []) (.two (.reg [5, 20, 4, 119, 3, 31, 32, 33, 120, 121, 149] []) (.two (.two (.reg [2] []) .leaf) .leaf)))))) (.reg [121, 5, 20, 4, 119, 3, 31, 32, 33, 120] []))))))) (.two (.reg [4, 3, 31, 32, 33, 20, 5] [(0, [], []), (1, [], []), (2, [], []), (3, [], [1, 2]), (4, [], [0, 3, 1, 2]), (5, [], []), (6, [], []), (7, [], [6]), (8, [], [5, 7, 6]), (9, [], [4, 0, 3, 1, 2, 8, 5, 7, 6]), (10, [], [9, 4, 0, 3, 1, 2, 8, 5, 7, 6])]) (.reg [5, 4, 3, 31, 32, 33] [(0, [], []), (1, [], []), (2, [], []), (3, [], [1, 2]), (4, [], [0, 3, 1, 2]), (5, [], []), (6, [], []), (7, [], [6]), (8, [], [5, 7, 6]), (9, [], [4, 0, 3, 1, 2, 8, 5, 7, 6]), (10, [], [9, 4, 0, 3, 1, 2, 8, 5, 7, 6])]))))))))))))) (.reg [33, 5, 4, 3, 31, 32] []))))))) (.two (.reg [2] []) .leaf)))))))
def R3 : List ARes := [.tmp 2]
theorem code3 : cCode Try.prog 173 H3 (Try.f3.body.getD .skip) = some A3 := by kernel_rfl
theorem ok3 : FunOk Try.prog 3 ⟨R3, A3⟩ := ⟨Try.f3, _, H3, 173, Try.func3, by kernel_rfl, by kernel_rfl, code3, by decide, by kernel_rfl⟩
def A4 : ACode :=
 (.seq (
  .reg [0] [
    ⟨(some 2), .val (.const (.bool false)), none⟩]) (
 (.seq (
  .reg [0] [
    ⟨(some 21), .val (.tmp 0), none⟩,
    ⟨(some 22), .val (.tmp 0), none⟩,
    ⟨(some 23), .len .sl (.tmp 22), none⟩,
    ⟨(some 24), .min (.tmp 23) (.const (.int .i64 80)), none⟩,
    ⟨(some 25), .slice 4 (.tmp 21) none (some (.tmp 24)) none, none⟩,
    ⟨(some 0), .val (.tmp 25), none⟩]) (
 (.seq (
  .reg [3, 0] [
    ⟨(some 26), .call (.func 7) [(.const (.int .i64 1))], none⟩,
    ⟨(some 3), .val (.tmp 26), none⟩]) (
 (.seq (
  .reg [4, 3, 0] [
    ⟨(some 27), .mkMap, none⟩,
    ⟨(some 4), .val (.tmp 27), none⟩]) (
 (.seq (
  .reg [4, 3, 5, 0] [
    ⟨(some 5), .val (.const (.int .i64 0)), none⟩]) (
 (.seq (
  (.seq (
   .reg [30, 4, 3, 5, 28, 29] [
     ⟨(some 28), .val (.tmp 0), none⟩,
     ⟨(some 29), .len .sl (.tmp 28), none⟩,
     ⟨(some 30), .val (.const (.int .i64 0)), none⟩]) (
  (.block 0 (
   (.loop (
    (.seq (
     .reg [4, 3, 28, 29, 30, 5, 31] [
       ⟨(some 31), .bin .lss (.tmp 30) (.tmp 29), none⟩]) (
    (.seq (
     (.cond (.tmp 31) (
      .skip) (
      .exit 0))) (
    (.seq (
     (.block 1 (
      (.seq (
       .reg [4, 3, 28, 29, 30, 5, 7] [
         ⟨(some 32), .idxSl 4 (.tmp 28) (.tmp 30), none⟩,
         ⟨(some 33), .load (some 4) (.tmp 32), none⟩,
         ⟨(some 7), .new [(.int .u64 0), (.int .i64 0), (.int .i64 0), (.int .i64 0)], none⟩,
         ⟨none, .store 4 (.tmp 7) (.tmp 33), none⟩]) (
      (.seq (
       (.seq (
        .reg [4, 3, 28, 29, 30, 5, 7, 37] [
          ⟨(some 34), .fldA 0 (.tmp 7), none⟩,
          ⟨(some 35), .load none (.tmp 34), none⟩,
          ⟨(some 36), .bin .rem (.tmp 35) (.const (.int .u64 2)), none⟩,
          ⟨(some 37), .bin .eql (.tmp 36) (.const (.int .u64 0)), none⟩]) (
       (.cond (.tmp 37) (
        (.seq (
         .dreg [4, 3, 28, 29, 30, 5, 9, 8] [
           (⟨(some 38), .fldA 2 (.tmp 7), none⟩, []),
           (⟨(some 39), .load none (.tmp 38), none⟩, []),
           (⟨(some 40), .min (.tmp 39) (.const (.int .i64 1000)), none⟩, []),
           (⟨(some 41), .max (.const (.int .i64 0)) (.tmp 40), none⟩, []),
           (⟨(some 42), .fldA 3 (.tmp 7), none⟩, []),
           (⟨(some 43), .load none (.tmp 42), none⟩, [1]),
           (⟨(some 44), .min (.tmp 43) (.const (.int .i64 1000)), none⟩, []),
           (⟨(some 45), .max (.const (.int .i64 0)) (.tmp 44), none⟩, []),
           (⟨(some 8), .val (.tmp 41), none⟩, []),
           (⟨(some 9), .val (.tmp 45), none⟩, [])]) (
        (.seq (
         .reg [4, 3, 28, 29, 30, 5, 10, 9, 8, 11] [
           ⟨(some 47), .val (.tmp 3), none⟩,
           ⟨(some 48), .val (.tmp 8), none⟩,
           ⟨(some 49), .val (.tmp 9), none⟩,
           ⟨(some 50), .call (.func 8) [(.tmp 47), (.const (.int .i64 0)), (.tmp 48), (.tmp 49)], none⟩,
           ⟨(some 46), .val (.tmp 50), none⟩,
           ⟨(some 51), .extr (.tmp 46) 0, none⟩,
           ⟨(some 52), .extr (.tmp 46) 1, none⟩,
           ⟨(some 10), .val (.tmp 51), none⟩,
           ⟨(some 11), .val (.tmp 52), none⟩]) (
        (.seq (
         (.seq (
          .reg [4, 3, 28, 29, 30, 5, 10, 9, 8, 54] [
            ⟨(some 53), .val (.tmp 11), none⟩,
            ⟨(some 54), .bin .eql (.tmp 53) (.const (.int .i64 0)), none⟩]) (
         (.cond (.tmp 54) (
          .reg [4, 3, 28, 29, 30, 5, 10] [
            ⟨(some 55), .val (.tmp 4), none⟩,
            ⟨(some 56), .val (.tmp 8), none⟩,
            ⟨(some 57), .val (.tmp 9), none⟩,
            ⟨none, .mapUpd .int (.tmp 55) (.tmp 56) (.tmp 57), none⟩]) (
          .skip))))) (
        (.seq (
         (.seq (
          .reg [4, 3, 28, 29, 30, 5, 58] [
            ⟨(some 58), .val (.tmp 10), none⟩]) (
         (.cond (.tmp 58) (
          .reg [4, 3, 5, 28, 29, 30] [
            ⟨(some 5), .val (.const (.int .i64 0)), none⟩]) (
          .skip))))) (
        .exit 1))))))))) (
        .skip))))) (
      (.seq (
       .reg [4, 3, 5, 28, 29, 30, 12, 13] [
         ⟨(some 60), .val (.tmp 3), none⟩,
         ⟨(some 61), .call (.func 9) [(.tmp 60), (.const (.int .i64 0))], none⟩,
         ⟨(some 59), .val (.tmp 61), none⟩,
         ⟨(some 62), .extr (.tmp 59) 0, none⟩,
         ⟨(some 63), .extr (.tmp 59) 1, none⟩,
         ⟨(some 12), .val (.tmp 62), none⟩,
         ⟨(some 13), .val (.tmp 63), none⟩]) (
      (.seq (
       (.seq (
        .reg [4, 3, 5, 28, 29, 30, 12, 65] [
          ⟨(some 64), .val (.tmp 13), none⟩,
          ⟨(some 65), .un .not (.tmp 64), none⟩]) (
       (.cond (.tmp 65) (
        .exit 1) (
        .skip))))) (
      (.seq (
       .reg [14, 4, 3, 28, 29, 30, 5, 12] [
         ⟨(some 66), .val (.tmp 3), none⟩,
         ⟨(some 67), .call (.func 12) [(.tmp 66), (.const (.int .i64 0))], none⟩,
         ⟨(some 14), .val (.tmp 67), none⟩]) (
      (.seq (
       .reg [14, 4, 15, 3, 28, 29, 30, 5, 12] [
         ⟨(some 15), .val (.const (.bool false)), none⟩]) (
      (.seq (
       (.seq (
        .reg [71, 14, 4, 15, 69, 3, 28, 29, 30, 5, 12, 70] [
          ⟨(some 68), .val (.tmp 3), none⟩,
          ⟨(some 69), .call (.func 13) [(.tmp 68), (.const (.int .i64 0))], none⟩,
          ⟨(some 70), .len .sl (.tmp 69), none⟩,
          ⟨(some 71), .val (.const (.int .i64 0)), none⟩]) (
       (.block 2 (
        (.loop (
         (.seq (
          .reg [14, 4, 69, 3, 28, 29, 30, 5, 12, 70, 71, 15, 72] [
            ⟨(some 72), .bin .lss (.tmp 71) (.tmp 70), none⟩]) (
         (.seq (
          (.cond (.tmp 72) (
           .skip) (
           .exit 2))) (
         (.seq (
          (.block 3 (
           (.seq (
            .reg [14, 4, 69, 3, 28, 29, 30, 5, 12, 70, 71, 17, 15] [
              ⟨(some 73), .idxSl 1 (.tmp 69) (.tmp 71), none⟩,
              ⟨(some 74), .load none (.tmp 73), none⟩,
              ⟨(some 17), .val (.tmp 74), none⟩]) (
           .reg [14, 4, 15, 69, 3, 28, 29, 30, 5, 12, 70, 71] [
             ⟨(some 75), .val (.tmp 15), none⟩,
             ⟨(some 76), .val (.tmp 75), none⟩,
             ⟨(some 77), .val (.tmp 4), (some (76, false))⟩,
             ⟨(some 78), .val (.tmp 17), (some (76, false))⟩,
             ⟨(some 79), .lookup .int (.int .i64 0) (.tmp 77) (.tmp 78) false, (some (76, false))⟩,
             ⟨(some 80), .val (.tmp 14), (some (76, false))⟩,
             ⟨(some 81), .bin .neq (.tmp 79) (.tmp 80), (some (76, false))⟩,
             ⟨(some 82), .pick (.tmp 76) (.const (.bool true)) (.tmp 81), none⟩,
             ⟨(some 15), .val (.tmp 82), none⟩]))))) (
         .reg [71, 14, 4, 15, 69, 3, 28, 29, 30, 5, 12, 70] [
           ⟨(some 83), .bin .add (.tmp 71) (.const (.int .i64 1)), none⟩,
           ⟨(some 71), .val (.tmp 83), none⟩]))))))))))))) (
      (.seq (
       .reg [4, 3, 28, 29, 30, 15, 5, 14, 18, 19, 20] [
         ⟨(some 85), .val (.tmp 3), none⟩,
         ⟨(some 86), .val (.tmp 12), none⟩,
         ⟨(some 87), .call (.func 10) [(.tmp 85), (.const (.int .i64 0)), (.tmp 86)], none⟩,
         ⟨(some 84), .val (.tmp 87), none⟩,
         ⟨(some 88), .extr (.tmp 84) 0, none⟩,
         ⟨(some 89), .extr (.tmp 84) 1, none⟩,
         ⟨(some 90), .extr (.tmp 84) 2, none⟩,
         ⟨(some 18), .val (.tmp 88), none⟩,
         ⟨(some 19), .val (.tmp 89), none⟩,
         ⟨(some 20), .val (.tmp 90), none⟩]) (
      (.seq (
       (.seq (
        .dreg [4, 3, 28, 29, 30, 15, 5, 14, 18, 19, 103] [
          (⟨(some 91), .val (.tmp 20), none⟩, []),
          (⟨(some 92), .bin .neq (.tmp 91) (.const (.int .i64 0)), none⟩, []),
          (⟨(some 93), .val (.tmp 92), none⟩, []),
          (⟨(some 94), .val (.tmp 19), (some (93, false))⟩, []),
          (⟨(some 95), .val (.tmp 94), (some (93, false))⟩, []),
          (⟨(some 96), .val (.tmp 3), (some (95, true))⟩, []),
          (⟨(some 98), .val (.tmp 4), (some (95, true))⟩, []),
          (⟨(some 99), .val (.tmp 18), (some (95, true))⟩, []),
          (⟨(some 100), .lookup .int (.int .i64 0) (.tmp 98) (.tmp 99) false, (some (95, true))⟩, []),
          (⟨(some 97), .call (.func 12) [(.tmp 96), (.const (.int .i64 0))], (some (95, true))⟩, [8]),
          (⟨(some 101), .bin .neq (.tmp 97) (.tmp 100), (some (95, true))⟩, []),
          (⟨(some 102), .pick (.tmp 95) (.tmp 101) (.const (.bool false)), (some (93, false))⟩, []),
          (⟨(some 103), .pick (.tmp 93) (.const (.bool true)) (.tmp 102), none⟩, [])]) (
       (.cond (.tmp 103) (
        (.seq (
         .reg [2] [
           ⟨(some 2), .val (.const (.bool false)), none⟩]) (
        .ret))) (
        .skip))))) (
      (.seq (
       .reg [4, 3, 28, 29, 30, 15, 5, 111] [
         ⟨(some 104), .val (.tmp 19), none⟩,
         ⟨(some 105), .val (.tmp 104), none⟩,
         ⟨(some 106), .val (.tmp 4), (some (105, true))⟩,
         ⟨(some 107), .val (.tmp 18), (some (105, true))⟩,
         ⟨(some 108), .lookup .int (.int .i64 0) (.tmp 106) (.tmp 107) false, (some (105, true))⟩,
         ⟨(some 109), .val (.tmp 14), (some (105, true))⟩,
         ⟨(some 110), .bin .eql (.tmp 108) (.tmp 109), (some (105, true))⟩,
         ⟨(some 111), .pick (.tmp 105) (.tmp 110) (.const (.bool false)), none⟩]) (
      (.cond (.tmp 111) (
       (.seq (
        .reg [4, 3, 5, 28, 29, 30, 15] [
          ⟨(some 112), .val (.tmp 5), none⟩,
          ⟨(some 113), .bin .add (.tmp 112) (.const (.int .i64 1)), none⟩,
          ⟨(some 5), .val (.tmp 113), none⟩]) (
       (.seq (
        .reg [4, 3, 5, 28, 29, 30, 118] [
          ⟨(some 114), .val (.tmp 15), none⟩,
          ⟨(some 115), .val (.tmp 114), none⟩,
          ⟨(some 116), .val (.tmp 5), (some (115, true))⟩,
          ⟨(some 117), .bin .gtr (.tmp 116) (.const (.int .i64 3)), (some (115, true))⟩,
          ⟨(some 118), .pick (.tmp 115) (.tmp 117) (.const (.bool false)), none⟩]) (
       (.cond (.tmp 118) (
        (.seq (
         .reg [2] [
           ⟨(some 2), .val (.const (.bool false)), none⟩]) (
        .ret))) (
        .skip))))))) (
       .reg [4, 3, 5, 28, 29, 30] [
         ⟨(some 5), .val (.const (.int .i64 0)), none⟩]))))))))))))))))))))))))) (
    .reg [30, 4, 3, 5, 28, 29] [
      ⟨(some 119), .bin .add (.tmp 30) (.const (.int .i64 1)), none⟩,
      ⟨(some 30), .val (.tmp 119), none⟩]))))))))))))) (
 (.seq (
  .reg [2] [
    ⟨(some 120), .call (.func 11) [], none⟩,
    ⟨(some 2), .val (.tmp 120), none⟩]) (
 .ret))))))))))))))
def H4 : Hint := (.two (.reg [0] []) (.two (.reg [0] []) (.two (.reg [3, 0] []) (.two (.reg [4, 3, 0] []) (.two (.reg [4, 3, 5, 0] []) (.two (.two (.reg [30, 4, 3, 5, 28, 29] []) (.one (.one (.two (.reg [4, 3, 28, 29, 30, 5, 31] []) (.two (.two .leaf .leaf) (.two (.one (.two (.reg [4, 3, 28, 29, 30, 5, 7] []) (.two (.two (.reg [4, 3, 28, 29, 30, 5, 7, 37] []) (.two (.two (.reg [4, 3, 28, 29, 30, 5, 9, 8] [(0, [], []), (1, [], [0]), (2, [], [1, 0]), (3, [], [2, 1, 0]), (4, [], []), (5, [1], [4]), (6, [], [5, 4]), (7, [], [6, 5, 4]), (8, [], [3, 2, 1, 0]), (9, [], [7, 6, 5, 4, 8, 3, 2, 1, 0])]) (.two (.reg [4, 3, 28, 29, 30, 5, 10, 9, 8, 11] []) (.two (.two (.reg [4, 3, 28, 29, 30, 5, 10, 9, 8, 54] []) (.two (.reg [4, 3, 28, 29, 30, 5, 10] []) .leaf)) (.two (.two (.reg [4, 3, 28, 29, 30, 5, 58] []) (.two (.reg [4, 3, 5, 28, 29, 30] []) .leaf)) .leaf)))) .leaf)) (.two (.reg [4, 3, 5, 28, 29, 30, 12, 13] []) (.two (.two (.reg [4, 3, 5, 28, 29, 30, 12, 65] []) (.two .leaf .leaf)) (.two (.reg [14, 4, 3, 28, 29, 30, 5, 12] []) (.two (.reg [14, 4, 15, 3, 28, 29, 30, 5, 12] []) (.two (.two (.reg [71, 14, 4, 15, 69, 3, 28, 29, 30, 5, 12, 70] []) (.one (.one (.two (.reg [14, 4, 69, 3, 28, 29, 30, 5, 12, 70, 71, 15, 72] []) (.two (.two .leaf .leaf) (.two (.one (.two (.reg [14, 4, 69, 3, 28, 29, 30, 5, 12, 70, 71, 17, 15] []) (.reg [14, 4, 15, 69, 3, 28, 29, 30, 5, 12, 70, 71] []))) (.reg [71, 14, 4, 15, 69, 3, 28, 29, 30, 5, 12, 70] []))))))) (.two (.reg [4, 3, 28, 29, 30, 15, 5, 14, 18, 19, 20] []) (.two (.two (.reg [4, 3, 28, 29, 30, 15, 5, 14, 18, 19, 103] [(0, [], []), (1, [], [0]), (2, [], [1, 0]), (3, [], [2, 1, 0]), (4, [], [3, 2, 1, 0]), (5, [], [4, 3, 2, 1, 0]), (7, [], [4, 3, 2, 1, 0]), (8, [], [4, 3, 2, 1, 0]), (9, [], [7, 4, 3, 2, 1, 0, 8]), (6, [8], [5, 4, 3, 2, 1, 0]), (10, [], [6, 5, 4, 3, 2, 1, 0, 9, 7, 8]), (11, [], [4, 3, 2, 1, 0, 10, 6, 5, 9, 7, 8]), (12, [], [2, 1, 0, 11, 4, 3, 10, 6, 5, 9, 7, 8])]) (.two (.two (.reg [2] []) .leaf) .leaf)) (.two (.reg [4, 3, 28, 29, 30, 15, 5, 111] []) (.two (.two (.reg [4, 3, 5, 28, 29, 30, 15] []) (.two (.reg [4, 3, 5, 28, 29, 30, 118] []) (.two (.two (.reg [2] []) .leaf) .leaf))) (.reg [4, 3, 5, 28, 29, 30] []))))))))))))) (.reg [30, 4, 3, 5, 28, 29] []))))))) (.two (.reg [2] []) .leaf)))))))
def R4 : List ARes := [.tmp 2]
theorem code4 : cCode Try.prog 121 H4 (Try.f4.body.getD .skip) = some A4 := by kernel_rfl
theorem ok4 : FunOk Try.prog 4 ⟨R4, A4⟩ := ⟨Try.f4, _, H4, 121, Try.func4, by kernel_rfl, by kernel_rfl, code4, by decide, by kernel_rfl⟩
def A5 : ACode :=
 (.seq (
  .reg [0, 1] [
    ⟨(some 4), .val (.const (.bool false)), none⟩]) (
 (.seq (
  .reg [1, 0] [
    ⟨(some 9), .val (.tmp 1), none⟩,
    ⟨(some 10), .val (.tmp 1), none⟩,
    ⟨(some 11), .len .sl (.tmp 10), none⟩,
    ⟨(some 12), .min (.tmp 11) (.const (.int .i64 60)), none⟩,
    ⟨(some 13), .slice 4 (.tmp 9) none (some (.tmp 12)) none, none⟩,
    ⟨(some 1), .val (.tmp 13), none⟩]) (
 (.seq (
  .reg [5, 1, 0] [
    ⟨(some 14), .val (.tmp 0), none⟩,
    ⟨(some 15), .call (.func 7) [(.tmp 14)], none⟩,
    ⟨(some 5), .val (.tmp 15), none⟩]) (
 (.seq (
  .reg [6, 5, 1] [
    ⟨(some 16), .val (.tmp 0), none⟩,
    ⟨(some 17), .min (.tmp 16) (.const (.int .i64 16)), none⟩,
    ⟨(some 18), .max (.const (.int .i64 0)) (.tmp 17), none⟩,
    ⟨(some 19), .mkSl [(.bool false), (.int .i64 0), (.int .i64 0), (.int .i64 0), (.slice none 0 0), (.slice none 0 0)] 80 (.tmp 18) (.tmp 18), none⟩,
    ⟨(some 6), .val (.tmp 19), none⟩]) (
 (.seq (
  (.seq (
   .reg [6, 5, 1, 27] [
     ⟨(some 20), .val (.tmp 5), none⟩,
     ⟨(some 21), .eqNil .ptr false (.tmp 20) (.const (.pointer none)), none⟩,
     ⟨(some 22), .val (.tmp 21), none⟩,
     ⟨(some 23), .val (.tmp 5), (some (22, false))⟩,
     ⟨(some 24), .val (.tmp 6), (some (22, false))⟩,
     ⟨(some 25), .call (.func 14) [(.tmp 23), (.tmp 24), (.const (.int .i64 0))], (some (22, false))⟩,
     ⟨(some 26), .un .not (.tmp 25), (some (22, false))⟩,
     ⟨(some 27), .pick (.tmp 22) (.const (.bool true)) (.tmp 26), none⟩]) (
  (.cond (.tmp 27) (
   (.seq (
    .reg [4] [
      ⟨(some 4), .val (.const (.bool false)), none⟩]) (
   .ret))) (
   .skip))))) (
 (.seq (
  (.seq (
   .reg [30, 6, 5, 28, 29] [
     ⟨(some 28), .val (.tmp 1), none⟩,
     ⟨(some 29), .len .sl (.tmp 28), none⟩,
     ⟨(some 30), .val (.const (.int .i64 0)), none⟩]) (
  (.block 0 (
   (.loop (
    (.seq (
     .reg [6, 5, 28, 29, 30, 31] [
       ⟨(some 31), .bin .lss (.tmp 30) (.tmp 29), none⟩]) (
    (.seq (
     (.cond (.tmp 31) (
      .skip) (
      .exit 0))) (
    (.seq (
     (.block 1 (
      (.seq (
       .reg [6, 5, 28, 29, 30, 8] [
         ⟨(some 32), .idxSl 4 (.tmp 28) (.tmp 30), none⟩,
         ⟨(some 33), .load (some 4) (.tmp 32), none⟩,
         ⟨(some 8), .new [(.int .u64 0), (.int .i64 0), (.int .i64 0), (.int .i64 0)], none⟩,
         ⟨none, .store 4 (.tmp 8) (.tmp 33), none⟩]) (
      (.seq (
       .reg [6, 5, 28, 29, 30, 46] [
         ⟨(some 34), .val (.tmp 5), none⟩,
         ⟨(some 35), .val (.tmp 6), none⟩,
         ⟨(some 36), .load (some 4) (.tmp 8), none⟩,
         ⟨(some 37), .call (.func 15) [(.tmp 34), (.tmp 35), (.tmp 36)], none⟩,
         ⟨(some 38), .un .not (.tmp 37), none⟩,
         ⟨(some 39), .val (.tmp 38), none⟩,
         ⟨(some 40), .val (.tmp 5), (some (39, false))⟩,
         ⟨(some 41), .val (.tmp 6), (some (39, false))⟩,
         ⟨(some 42), .fldA 2 (.tmp 8), (some (39, false))⟩,
         ⟨(some 43), .load none (.tmp 42), (some (39, false))⟩,
         ⟨(some 44), .call (.func 14) [(.tmp 40), (.tmp 41), (.tmp 43)], (some (39, false))⟩,
         ⟨(some 45), .un .not (.tmp 44), (some (39, false))⟩,
         ⟨(some 46), .pick (.tmp 39) (.const (.bool true)) (.tmp 45), none⟩]) (
      (.cond (.tmp 46) (
       (.seq (
        .reg [4] [
          ⟨(some 4), .val (.const (.bool false)), none⟩]) (
       .ret))) (
       .skip))))))))) (
    .reg [30, 6, 5, 28, 29] [
      ⟨(some 47), .bin .add (.tmp 30) (.const (.int .i64 1)), none⟩,
      ⟨(some 30), .val (.tmp 47), none⟩]))))))))))))) (
 (.seq (
  .reg [4] [
    ⟨(some 48), .call (.func 11) [], none⟩,
    ⟨(some 4), .val (.tmp 48), none⟩]) (
 .ret))))))))))))))
def H5 : Hint := (.two (.reg [0, 1] []) (.two (.reg [1, 0] []) (.two (.reg [5, 1, 0] []) (.two (.reg [6, 5, 1] []) (.two (.two (.reg [6, 5, 1, 27] []) (.two (.two (.reg [4] []) .leaf) .leaf)) (.two (.two (.reg [30, 6, 5, 28, 29] []) (.one (.one (.two (.reg [6, 5, 28, 29, 30, 31] []) (.two (.two .leaf .leaf) (.two (.one (.two (.reg [6, 5, 28, 29, 30, 8] []) (.two (.reg [6, 5, 28, 29, 30, 46] []) (.two (.two (.reg [4] []) .leaf) .leaf)))) (.reg [30, 6, 5, 28, 29] []))))))) (.two (.reg [4] []) .leaf)))))))
def R5 : List ARes := [.tmp 4]
theorem code5 : cCode Try.prog 49 H5 (Try.f5.body.getD .skip) = some A5 := by kernel_rfl
theorem ok5 : FunOk Try.prog 5 ⟨R5, A5⟩ := ⟨Try.f5, _, H5, 49, Try.func5, by kernel_rfl, by kernel_rfl, code5, by decide, by kernel_rfl⟩
def A6 : ACode :=
 (.seq (
  .reg [0, 2, 1] [
    ⟨(some 6), .val (.const (.bool false)), none⟩]) (
 (.seq (
  (.seq (
   .reg [0, 2, 1, 44] [
     ⟨(some 30), .val (.tmp 0), none⟩,
     ⟨(some 31), .bin .lss (.tmp 30) (.const (.int .i64 0)), none⟩,
     ⟨(some 32), .val (.tmp 31), none⟩,
     ⟨(some 33), .val (.tmp 1), (some (32, false))⟩,
     ⟨(some 34), .bin .lss (.tmp 33) (.const (.int .i64 0)), (some (32, false))⟩,
     ⟨(some 35), .pick (.tmp 32) (.const (.bool true)) (.tmp 34), none⟩,
     ⟨(some 36), .val (.tmp 35), none⟩,
     ⟨(some 37), .val (.tmp 2), (some (36, false))⟩,
     ⟨(some 38), .bin .lss (.tmp 37) (.const (.int .i64 0)), (some (36, false))⟩,
     ⟨(some 39), .pick (.tmp 36) (.const (.bool true)) (.tmp 38), none⟩,
     ⟨(some 40), .val (.tmp 39), none⟩,
     ⟨(some 41), .val (.tmp 0), (some (40, false))⟩,
     ⟨(some 42), .val (.tmp 1), (some (40, false))⟩,
     ⟨(some 43), .bin .eql (.tmp 41) (.tmp 42), (some (40, false))⟩,
     ⟨(some 44), .pick (.tmp 40) (.const (.bool true)) (.tmp 43), none⟩]) (
  (.cond (.tmp 44) (
   (.seq (
    .reg [6] [
      ⟨(some 45), .call (.func 11) [], none⟩,
      ⟨(some 6), .val (.tmp 45), none⟩]) (
   .ret))) (
   .skip))))) (
 (.seq (
  .reg [0, 2, 1, 7] [
    ⟨(some 46), .call (.func 7) [(.const (.int .i64 1))], none⟩,
    ⟨(some 7), .val (.tmp 46), none⟩]) (
 (.seq (
  .reg [0, 2, 1, 9, 8, 7] [
    ⟨(some 48), .val (.tmp 7), none⟩,
    ⟨(some 49), .val (.tmp 0), none⟩,
    ⟨(some 50), .val (.tmp 2), none⟩,
    ⟨(some 51), .call (.func 8) [(.tmp 48), (.const (.int .i64 0)), (.tmp 49), (.tmp 50)], none⟩,
    ⟨(some 47), .val (.tmp 51), none⟩,
    ⟨(some 52), .extr (.tmp 47) 0, none⟩,
    ⟨(some 53), .extr (.tmp 47) 1, none⟩,
    ⟨(some 8), .val (.tmp 52), none⟩,
    ⟨(some 9), .val (.tmp 53), none⟩]) (
 (.seq (
  .reg [0, 2, 1, 11, 10, 9, 8, 7] [
    ⟨(some 55), .val (.tmp 7), none⟩,
    ⟨(some 56), .val (.tmp 0), none⟩,
    ⟨(some 57), .val (.tmp 2), none⟩,
    ⟨(some 58), .call (.func 8) [(.tmp 55), (.const (.int .i64 0)), (.tmp 56), (.tmp 57)], none⟩,
    ⟨(some 54), .val (.tmp 58), none⟩,
    ⟨(some 59), .extr (.tmp 54) 0, none⟩,
    ⟨(some 60), .extr (.tmp 54) 1, none⟩,
    ⟨(some 10), .val (.tmp 59), none⟩,
    ⟨(some 11), .val (.tmp 60), none⟩]) (
 (.seq (
  .reg [0, 2, 1, 14, 13, 11, 10, 9, 8, 7] [
    ⟨(some 62), .val (.tmp 7), none⟩,
    ⟨(some 63), .val (.tmp 1), none⟩,
    ⟨(some 64), .call (.func 10) [(.tmp 62), (.const (.int .i64 0)), (.tmp 63)], none⟩,
    ⟨(some 61), .val (.tmp 64), none⟩,
    ⟨(some 65), .extr (.tmp 61) 0, none⟩,
    ⟨(some 66), .extr (.tmp 61) 1, none⟩,
    ⟨(some 67), .extr (.tmp 61) 2, none⟩,
    ⟨(some 12), .val (.tmp 65), none⟩,
    ⟨(some 13), .val (.tmp 66), none⟩,
    ⟨(some 14), .val (.tmp 67), none⟩]) (
 (.seq (
  .reg [0, 2, 1, 16, 15, 14, 13, 11, 10, 9, 8, 7] [
    ⟨(some 69), .val (.tmp 7), none⟩,
    ⟨(some 70), .val (.tmp 1), none⟩,
    ⟨(some 71), .val (.tmp 2), none⟩,
    ⟨(some 72), .call (.func 8) [(.tmp 69), (.const (.int .i64 0)), (.tmp 70), (.tmp 71)], none⟩,
    ⟨(some 68), .val (.tmp 72), none⟩,
    ⟨(some 73), .extr (.tmp 68) 0, none⟩,
    ⟨(some 74), .extr (.tmp 68) 1, none⟩,
    ⟨(some 15), .val (.tmp 73), none⟩,
    ⟨(some 16), .val (.tmp 74), none⟩]) (
 (.seq (
  .reg [0, 2, 1, 18, 16, 15, 14, 13, 11, 10, 9, 8, 7] [
    ⟨(some 76), .val (.tmp 7), none⟩,
    ⟨(some 77), .val (.tmp 1), none⟩,
    ⟨(some 78), .val (.tmp 2), none⟩,
    ⟨(some 79), .call (.func 8) [(.tmp 76), (.const (.int .i64 0)), (.tmp 77), (.tmp 78)], none⟩,
    ⟨(some 75), .val (.tmp 79), none⟩,
    ⟨(some 80), .extr (.tmp 75) 0, none⟩,
    ⟨(some 81), .extr (.tmp 75) 1, none⟩,
    ⟨(some 17), .val (.tmp 80), none⟩,
    ⟨(some 18), .val (.tmp 81), none⟩]) (
 (.seq (
  .reg [0, 2, 21, 20, 1, 19, 18, 16, 15, 14, 13, 11, 10, 9, 8] [
    ⟨(some 83), .val (.tmp 7), none⟩,
    ⟨(some 84), .val (.tmp 0), none⟩,
    ⟨(some 85), .call (.func 10) [(.tmp 83), (.const (.int .i64 0)), (.tmp 84)], none⟩,
    ⟨(some 82), .val (.tmp 85), none⟩,
    ⟨(some 86), .extr (.tmp 82) 0, none⟩,
    ⟨(some 87), .extr (.tmp 82) 1, none⟩,
    ⟨(some 88), .extr (.tmp 82) 2, none⟩,
    ⟨(some 19), .val (.tmp 86), none⟩,
    ⟨(some 20), .val (.tmp 87), none⟩,
    ⟨(some 21), .val (.tmp 88), none⟩]) (
 (.seq (
  (.seq (
   .reg [0, 2, 132] [
     ⟨(some 89), .val (.tmp 8), none⟩,
     ⟨(some 90), .un .not (.tmp 89), none⟩,
     ⟨(some 91), .val (.tmp 90), none⟩,
     ⟨(some 92), .val (.tmp 9), (some (91, false))⟩,
     ⟨(some 93), .bin .neq (.tmp 92) (.const (.int .i64 0)), (some (91, false))⟩,
     ⟨(some 94), .pick (.tmp 91) (.const (.bool true)) (.tmp 93), none⟩,
     ⟨(some 95), .val (.tmp 94), none⟩,
     ⟨(some 96), .val (.tmp 10), (some (95, false))⟩,
     ⟨(some 97), .pick (.tmp 95) (.const (.bool true)) (.tmp 96), none⟩,
     ⟨(some 98), .val (.tmp 97), none⟩,
     ⟨(some 99), .val (.tmp 11), (some (98, false))⟩,
     ⟨(some 100), .bin .neq (.tmp 99) (.const (.int .i64 8)), (some (98, false))⟩,
     ⟨(some 101), .pick (.tmp 98) (.const (.bool true)) (.tmp 100), none⟩,
     ⟨(some 102), .val (.tmp 101), none⟩,
     ⟨(some 103), .val (.tmp 13), (some (102, false))⟩,
     ⟨(some 104), .pick (.tmp 102) (.const (.bool true)) (.tmp 103), none⟩,
     ⟨(some 105), .val (.tmp 104), none⟩,
     ⟨(some 106), .val (.tmp 14), (some (105, false))⟩,
     ⟨(some 107), .bin .neq (.tmp 106) (.const (.int .i64 8)), (some (105, false))⟩,
     ⟨(some 108), .pick (.tmp 105) (.const (.bool true)) (.tmp 107), none⟩,
     ⟨(some 109), .val (.tmp 108), none⟩,
     ⟨(some 110), .val (.tmp 15), (some (109, false))⟩,
     ⟨(some 111), .pick (.tmp 109) (.const (.bool true)) (.tmp 110), none⟩,
     ⟨(some 112), .val (.tmp 111), none⟩,
     ⟨(some 113), .val (.tmp 16), (some (112, false))⟩,
     ⟨(some 114), .bin .neq (.tmp 113) (.const (.int .i64 0)), (some (112, false))⟩,
     ⟨(some 115), .pick (.tmp 112) (.const (.bool true)) (.tmp 114), none⟩,
     ⟨(some 116), .val (.tmp 115), none⟩,
     ⟨(some 117), .val (.tmp 18), (some (116, false))⟩,
     ⟨(some 118), .bin .neq (.tmp 117) (.const (.int .i64 9)), (some (116, false))⟩,
     ⟨(some 119), .pick (.tmp 116) (.const (.bool true)) (.tmp 118), none⟩,
     ⟨(some 120), .val (.tmp 119), none⟩,
     ⟨(some 121), .val (.tmp 19), (some (120, false))⟩,
     ⟨(some 122), .val (.tmp 1), (some (120, false))⟩,
     ⟨(some 123), .bin .neq (.tmp 121) (.tmp 122), (some (120, false))⟩,
     ⟨(some 124), .pick (.tmp 120) (.const (.bool true)) (.tmp 123), none⟩,
     ⟨(some 125), .val (.tmp 124), none⟩,
     ⟨(some 126), .val (.tmp 20), (some (125, false))⟩,
     ⟨(some 127), .un .not (.tmp 126), (some (125, false))⟩,
     ⟨(some 128), .pick (.tmp 125) (.const (.bool true)) (.tmp 127), none⟩,
     ⟨(some 129), .val (.tmp 128), none⟩,
     ⟨(some 130), .val (.tmp 21), (some (129, false))⟩,
     ⟨(some 131), .bin .neq (.tmp 130) (.const (.int .i64 0)), (some (129, false))⟩,
     ⟨(some 132), .pick (.tmp 129) (.const (.bool true)) (.tmp 131), none⟩]) (
  (.cond (.tmp 132) (
   (.seq (
    .reg [6] [
      ⟨(some 6), .val (.const (.bool false)), none⟩]) (
   .ret))) (
   .skip))))) (
 (.seq (
  .reg [0, 22, 2] [
    ⟨(some 22), .val (.const (.pointer none)), none⟩]) (
 (.seq (
  .reg [0, 22, 24] [
    ⟨(some 134), .val (.tmp 22), none⟩,
    ⟨(some 135), .val (.tmp 0), none⟩,
    ⟨(some 136), .val (.tmp 2), none⟩,
    ⟨(some 137), .call (.func 8) [(.tmp 134), (.const (.int .i64 0)), (.tmp 135), (.tmp 136)], none⟩,
    ⟨(some 133), .val (.tmp 137), none⟩,
    ⟨(some 138), .extr (.tmp 133) 0, none⟩,
    ⟨(some 139), .extr (.tmp 133) 1, none⟩,
    ⟨(some 23), .val (.tmp 138), none⟩,
    ⟨(some 24), .val (.tmp 139), none⟩]) (
 (.seq (
  .reg [0, 22, 27, 24] [
    ⟨(some 141), .val (.tmp 22), none⟩,
    ⟨(some 142), .val (.tmp 0), none⟩,
    ⟨(some 143), .call (.func 10) [(.tmp 141), (.const (.int .i64 0)), (.tmp 142)], none⟩,
    ⟨(some 140), .val (.tmp 143), none⟩,
    ⟨(some 144), .extr (.tmp 140) 0, none⟩,
    ⟨(some 145), .extr (.tmp 140) 1, none⟩,
    ⟨(some 146), .extr (.tmp 140) 2, none⟩,
    ⟨(some 25), .val (.tmp 144), none⟩,
    ⟨(some 26), .val (.tmp 145), none⟩,
    ⟨(some 27), .val (.tmp 146), none⟩]) (
 (.seq (
  .reg [0, 22, 29, 27, 24] [
    ⟨(some 148), .val (.tmp 22), none⟩,
    ⟨(some 149), .call (.func 9) [(.tmp 148), (.const (.int .i64 0))], none⟩,
    ⟨(some 147), .val (.tmp 149), none⟩,
    ⟨(some 150), .extr (.tmp 147) 0, none⟩,
    ⟨(some 151), .extr (.tmp 147) 1, none⟩,
    ⟨(some 28), .val (.tmp 150), none⟩,
    ⟨(some 29), .val (.tmp 151), none⟩]) (
 (.seq (
  .reg [6] [
    ⟨(some 152), .val (.tmp 24), none⟩,
    ⟨(some 153), .bin .eql (.tmp 152) (.const (.int .i64 3)), none⟩,
    ⟨(some 154), .val (.tmp 153), none⟩,
    ⟨(some 155), .val (.tmp 27), (some (154, true))⟩,
    ⟨(some 156), .bin .eql (.tmp 155) (.const (.int .i64 3)), (some (154, true))⟩,
    ⟨(some 157), .pick (.tmp 154) (.tmp 156) (.const (.bool false)), none⟩,
    ⟨(some 158), .val (.tmp 157), none⟩,
    ⟨(some 159), .val (.tmp 29), (some (158, true))⟩,
    ⟨(some 160), .un .not (.tmp 159), (some (158, true))⟩,
    ⟨(some 161), .pick (.tmp 158) (.tmp 160) (.const (.bool false)), none⟩,
    ⟨(some 162), .val (.tmp 161), none⟩,
    ⟨(some 163), .val (.tmp 22), (some (162, true))⟩,
    ⟨(some 164), .call (.func 16) [(.tmp 163)], (some (162, true))⟩,
    ⟨(some 165), .val (.tmp 22), (some (162, true))⟩,
    ⟨(some 166), .call (.func 13) [(.tmp 165), (.const (.int .i64 0))], (some (162, true))⟩,
    ⟨(some 167), .len .sl (.tmp 166), (some (162, true))⟩,
    ⟨(some 168), .bin .add (.tmp 164) (.tmp 167), (some (162, true))⟩,
    ⟨(some 169), .val (.tmp 22), (some (162, true))⟩,
    ⟨(some 170), .val (.tmp 0), (some (162, true))⟩,
    ⟨(some 171), .call (.func 17) [(.tmp 169), (.tmp 170)], (some (162, true))⟩,
    ⟨(some 172), .len .sl (.tmp 171), (some (162, true))⟩,
    ⟨(some 173), .bin .add (.tmp 168) (.tmp 172), (some (162, true))⟩,
    ⟨(some 174), .bin .eql (.tmp 173) (.const (.int .i64 0)), (some (162, true))⟩,
    ⟨(some 175), .pick (.tmp 162) (.tmp 174) (.const (.bool false)), none⟩,
    ⟨(some 176), .val (.tmp 175), none⟩,
    ⟨(some 177), .call (.func 11) [], (some (176, true))⟩,
    ⟨(some 178), .pick (.tmp 176) (.tmp 177) (.const (.bool false)), none⟩,
    ⟨(some 6), .val (.tmp 178), none⟩]) (
 .ret))))))))))))))))))))))))))))))
def H6 : Hint := (.two (.reg [0, 2, 1] []) (.two (.two (.reg [0, 2, 1, 44] []) (.two (.two (.reg [6] []) .leaf) .leaf)) (.two (.reg [0, 2, 1, 7] []) (.two (.reg [0, 2, 1, 9, 8, 7] []) (.two (.reg [0, 2, 1, 11, 10, 9, 8, 7] []) (.two (.reg [0, 2, 1, 14, 13, 11, 10, 9, 8, 7] []) (.two (.reg [0, 2, 1, 16, 15, 14, 13, 11, 10, 9, 8, 7] []) (.two (.reg [0, 2, 1, 18, 16, 15, 14, 13, 11, 10, 9, 8, 7] []) (.two (.reg [0, 2, 21, 20, 1, 19, 18, 16, 15, 14, 13, 11, 10, 9, 8] []) (.two (.two (.reg [0, 2, 132] []) (.two (.two (.reg [6] []) .leaf) .leaf)) (.two (.reg [0, 22, 2] []) (.two (.reg [0, 22, 24] []) (.two (.reg [0, 22, 27, 24] []) (.two (.reg [0, 22, 29, 27, 24] []) (.two (.reg [6] []) .leaf)))))))))))))))
def R6 : List ARes := [.tmp 6]
theorem code6 : cCode Try.prog 179 H6 (Try.f6.body.getD .skip) = some A6 := by kernel_rfl
theorem ok6 : FunOk Try.prog 6 ⟨R6, A6⟩ := ⟨Try.f6, _, H6, 179, Try.func6, by kernel_rfl, by kernel_rfl, code6, by decide, by kernel_rfl⟩
def A7 : ACode :=
 (.seq (
  .reg [0] [
    ⟨(some 2), .val (.const (.pointer none)), none⟩]) (
 (.seq (
  .reg [2] [
    ⟨(some 3), .val (.tmp 0), none⟩,
    ⟨(some 4), .min (.tmp 3) (.const (.int .i64 16)), none⟩,
    ⟨(some 5), .max (.const (.int .i64 0)) (.tmp 4), none⟩,
    ⟨(some 6), .mkSl [(.bool false), (.int .i64 0), (.int .i64 0), (.int .i64 0), (.slice none 0 0)] 56 (.tmp 5) (.tmp 5), none⟩,
    ⟨(some 7), .build [(.slice none 0 0)] [(0, 1, (.tmp 6))], none⟩,
    ⟨(some 8), .box (.tmp 7), none⟩,
    ⟨(some 2), .val (.tmp 8), none⟩]) (
 .ret))))
def H7 : Hint := (.two (.reg [0] []) (.two (.reg [2] []) .leaf))
def R7 : List ARes := [.tmp 2]
theorem code7 : cCode Try.prog 9 H7 (Try.f7.body.getD .skip) = some A7 := by kernel_rfl
theorem ok7 : FunOk Try.prog 7 ⟨R7, A7⟩ := ⟨Try.f7, _, H7, 9, Try.func7, by kernel_rfl, by kernel_rfl, code7, by decide, by kernel_rfl⟩
def A8 : ACode :=
 (.seq (
  .reg [3, 2, 1, 0] [
    ⟨(some 8), .val (.const (.bool false)), none⟩,
    ⟨(some 9), .val (.const (.int .i64 0)), none⟩]) (
 (.seq (
  .reg [3, 2, 10] [
    ⟨(some 12), .val (.tmp 0), none⟩,
    ⟨(some 13), .val (.tmp 1), none⟩,
    ⟨(some 14), .call (.func 18) [(.tmp 12), (.tmp 13)], none⟩,
    ⟨(some 10), .val (.tmp 14), none⟩]) (
 (.seq (
  (.block 0 (
   (.seq (
    .reg [3, 2, 10, 15] [
      ⟨(some 16), .val (.tmp 10), none⟩,
      ⟨(some 17), .eqNil .ptr false (.tmp 16) (.const (.pointer none)), none⟩,
      ⟨(some 15), .val (.tmp 17), none⟩]) (
   (.cond (.tmp 15) (
    (.seq (
     .reg [8, 9] [
       ⟨(some 8), .val (.const (.bool false)), none⟩,
       ⟨(some 9), .val (.const (.int .i64 3)), none⟩]) (
    .ret))) (
    (.seq (
     .reg [3, 2, 10, 18] [
       ⟨(some 19), .val (.tmp 2), none⟩,
       ⟨(some 20), .bin .lss (.tmp 19) (.const (.int .i64 0)), none⟩,
       ⟨(some 21), .val (.tmp 20), none⟩,
       ⟨(some 22), .val (.tmp 3), (some (21, false))⟩,
       ⟨(some 23), .bin .lss (.tmp 22) (.const (.int .i64 0)), (some (21, false))⟩,
       ⟨(some 24), .pick (.tmp 21) (.const (.bool true)) (.tmp 23), none⟩,
       ⟨(some 18), .val (.tmp 24), none⟩]) (
    (.cond (.tmp 18) (
     (.seq (
      .reg [8, 9] [
        ⟨(some 8), .val (.const (.bool false)), none⟩,
        ⟨(some 9), .val (.const (.int .i64 1)), none⟩]) (
     .ret))) (
     (.seq (
      .reg [3, 2, 10, 25] [
        ⟨(some 26), .val (.tmp 10), none⟩,
        ⟨(some 27), .nilck (.tmp 26), none⟩,
        ⟨(some 28), .fldA 0 (.tmp 27), none⟩,
        ⟨(some 29), .load none (.tmp 28), none⟩,
        ⟨(some 30), .val (.tmp 29), none⟩,
        ⟨(some 31), .val (.tmp 10), (some (30, true))⟩,
        ⟨(some 32), .nilck (.tmp 31), (some (30, true))⟩,
        ⟨(some 33), .fldA 1 (.tmp 32), (some (30, true))⟩,
        ⟨(some 34), .load none (.tmp 33), (some (30, true))⟩,
        ⟨(some 35), .val (.tmp 2), (some (30, true))⟩,
        ⟨(some 36), .bin .eql (.tmp 34) (.tmp 35), (some (30, true))⟩,
        ⟨(some 37), .pick (.tmp 30) (.tmp 36) (.const (.bool false)), none⟩,
        ⟨(some 25), .val (.tmp 37), none⟩]) (
     (.cond (.tmp 25) (
      (.seq (
       .reg [8, 9] [
         ⟨(some 8), .val (.const (.bool false)), none⟩,
         ⟨(some 9), .val (.const (.int .i64 8)), none⟩]) (
      .ret))) (
      (.seq (
       .reg [3, 2, 10, 38] [
         ⟨(some 39), .val (.tmp 10), none⟩,
         ⟨(some 40), .val (.tmp 2), none⟩,
         ⟨(some 41), .call (.func 19) [(.tmp 39), (.tmp 40)], none⟩,
         ⟨(some 38), .val (.tmp 41), none⟩]) (
      (.cond (.tmp 38) (
       (.seq (
        .reg [8, 9] [
          ⟨(some 8), .val (.const (.bool false)), none⟩,
          ⟨(some 9), .val (.const (.int .i64 9)), none⟩]) (
       .ret))) (
       (.seq (
        .reg [3, 2, 10, 42] [
          ⟨(some 43), .val (.tmp 10), none⟩,
          ⟨(some 44), .nilck (.tmp 43), none⟩,
          ⟨(some 45), .fldA 0 (.tmp 44), none⟩,
          ⟨(some 46), .load none (.tmp 45), none⟩,
          ⟨(some 47), .un .not (.tmp 46), none⟩,
          ⟨(some 42), .val (.tmp 47), none⟩]) (
       (.cond (.tmp 42) (
        (.seq (
         .reg [] [
           ⟨(some 48), .val (.tmp 10), none⟩,
           ⟨(some 49), .val (.tmp 10), none⟩,
           ⟨(some 50), .val (.tmp 10), none⟩,
           ⟨(some 51), .val (.tmp 10), none⟩,
           ⟨(some 52), .val (.tmp 2), none⟩,
           ⟨(some 53), .val (.tmp 3), none⟩,
           ⟨(some 54), .nilck (.tmp 48), none⟩,
           ⟨(some 55), .fldA 0 (.tmp 54), none⟩,
           ⟨none, .store 1 (.tmp 55) (.const (.bool true)), none⟩,
           ⟨(some 56), .nilck (.tmp 49), none⟩,
           ⟨(some 57), .fldA 1 (.tmp 56), none⟩,
           ⟨none, .store 1 (.tmp 57) (.tmp 52), none⟩,
           ⟨(some 58), .nilck (.tmp 50), none⟩,
           ⟨(some 59), .fldA 2 (.tmp 58), none⟩,
           ⟨none, .store 1 (.tmp 59) (.tmp 53), none⟩,
           ⟨(some 60), .nilck (.tmp 51), none⟩,
           ⟨(some 61), .fldA 3 (.tmp 60), none⟩,
           ⟨none, .store 1 (.tmp 61) (.const (.int .i64 0)), none⟩]) (
        (.seq (
         .reg [8, 9] [
           ⟨(some 8), .val (.const (.bool true)), none⟩,
           ⟨(some 9), .val (.const (.int .i64 0)), none⟩]) (
        .ret))))) (
        .skip))))))))))))))))))))))) (
 (.seq (
  .reg [2, 10, 3, 11] [
    ⟨(some 62), .val (.tmp 10), none⟩,
    ⟨(some 63), .val (.tmp 3), none⟩,
    ⟨(some 64), .call (.func 20) [(.tmp 62), (.tmp 63)], none⟩,
    ⟨(some 11), .val (.tmp 64), none⟩]) (
 (.seq (
  (.seq (
   .reg [2, 10, 3, 11, 66] [
     ⟨(some 65), .val (.tmp 11), none⟩,
     ⟨(some 66), .bin .lss (.tmp 65) (.const (.int .i64 0)), none⟩]) (
  (.cond (.tmp 66) (
   (.seq (
    .reg [2, 11, 10, 3] [
      ⟨(some 67), .val (.tmp 10), none⟩,
      ⟨(some 68), .nilck (.tmp 67), none⟩,
      ⟨(some 69), .fldA 4 (.tmp 68), none⟩,
      ⟨(some 70), .load none (.tmp 69), none⟩,
      ⟨(some 71), .len .sl (.tmp 70), none⟩,
      ⟨(some 11), .val (.tmp 71), none⟩]) (
   .reg [2, 11, 10] [
     ⟨(some 72), .val (.tmp 10), none⟩,
     ⟨(some 73), .val (.tmp 10), none⟩,
     ⟨(some 74), .nilck (.tmp 73), none⟩,
     ⟨(some 75), .fldA 4 (.tmp 74), none⟩,
     ⟨(some 76), .load none (.tmp 75), none⟩,
     ⟨(some 77), .val (.tmp 3), none⟩,
     ⟨(some 78), .build [(.int .i64 0), (.slice none 0 0)] [(0, 1, (.tmp 77))], none⟩,
     ⟨(some 79), .buildSl 1 [(.int .i64 0), (.slice none 0 0)] [(0, 2, (.tmp 78))], none⟩,
     ⟨(some 80), .append 2 32 (.tmp 76) (.tmp 79), none⟩,
     ⟨(some 81), .nilck (.tmp 72), none⟩,
     ⟨(some 82), .fldA 4 (.tmp 81), none⟩,
     ⟨none, .store 1 (.tmp 82) (.tmp 80), none⟩]))) (
   .skip))))) (
 (.seq (
  .dreg [] [
    (⟨(some 83), .val (.tmp 10), none⟩, []),
    (⟨(some 84), .nilck (.tmp 83), none⟩, []),
    (⟨(some 85), .fldA 4 (.tmp 84), none⟩, []),
    (⟨(some 86), .load none (.tmp 85), none⟩, []),
    (⟨(some 87), .val (.tmp 11), none⟩, []),
    (⟨(some 88), .val (.tmp 10), none⟩, []),
    (⟨(some 89), .nilck (.tmp 88), none⟩, []),
    (⟨(some 90), .fldA 4 (.tmp 89), none⟩, []),
    (⟨(some 91), .load none (.tmp 90), none⟩, [3]),
    (⟨(some 92), .val (.tmp 11), none⟩, []),
    (⟨(some 93), .idxSl 2 (.tmp 91) (.tmp 92), none⟩, []),
    (⟨(some 94), .fldA 1 (.tmp 93), none⟩, []),
    (⟨(some 95), .load none (.tmp 94), none⟩, [3]),
    (⟨(some 96), .val (.tmp 2), none⟩, []),
    (⟨(some 97), .buildSl 1 [(.int .i64 0)] [(0, 1, (.tmp 96))], none⟩, [3, 8, 12]),
    (⟨(some 98), .append 1 8 (.tmp 95) (.tmp 97), none⟩, [3]),
    (⟨(some 99), .idxSl 2 (.tmp 86) (.tmp 87), none⟩, []),
    (⟨(some 100), .fldA 1 (.tmp 99), none⟩, []),
    (⟨none, .store 1 (.tmp 100) (.tmp 98), none⟩, [])]) (
 (.seq (
  .reg [8, 9] [
    ⟨(some 8), .val (.const (.bool false)), none⟩,
    ⟨(some 9), .val (.const (.int .i64 0)), none⟩]) (
 .ret))))))))))))))
def H8 : Hint := (.two (.reg [3, 2, 1, 0] []) (.two (.reg [3, 2, 10] []) (.two (.one (.two (.reg [3, 2, 10, 15] []) (.two (.two (.reg [8, 9] []) .leaf) (.two (.reg [3, 2, 10, 18] []) (.two (.two (.reg [8, 9] []) .leaf) (.two (.reg [3, 2, 10, 25] []) (.two (.two (.reg [8, 9] []) .leaf) (.two (.reg [3, 2, 10, 38] []) (.two (.two (.reg [8, 9] []) .leaf) (.two (.reg [3, 2, 10, 42] []) (.two (.two (.reg [] []) (.two (.reg [8, 9] []) .leaf)) .leaf))))))))))) (.two (.reg [2, 10, 3, 11] []) (.two (.two (.reg [2, 10, 3, 11, 66] []) (.two (.two (.reg [2, 11, 10, 3] []) (.reg [2, 11, 10] [])) .leaf)) (.two (.reg [] [(0, [], []), (1, [], [0]), (2, [], [1, 0]), (3, [], [2, 1, 0]), (4, [], []), (5, [], []), (6, [], [5]), (7, [], [6, 5]), (8, [3], [7, 6, 5]), (9, [], []), (10, [], [8, 7, 6, 5, 9]), (11, [], [10, 8, 7, 6, 5, 9]), (12, [3], [11, 10, 8, 7, 6, 5, 9]), (13, [], []), (14, [3, 8, 12], [13]), (15, [3], [12, 11, 10, 8, 7, 6, 5, 9, 14, 13]), (16, [], [3, 2, 1, 0, 4, 5, 6, 7, 8, 9, 10, 11, 12, 13, 14, 15]), (17, [], [16, 3, 2, 1, 0, 4, 5, 6, 7, 8, 9, 10, 11, 12, 13, 14, 15]), (18, [], [17, 16, 3, 2, 1, 0, 4, 5, 6, 7, 8, 9, 10, 11, 12, 13, 14, 15])]) (.two (.reg [8, 9] []) .leaf)))))))
def R8 : List ARes := [.tmp 8, .tmp 9]
theorem code8 : cCode Try.prog 101 H8 (Try.f8.body.getD .skip) = some A8 := by kernel_rfl
theorem ok8 : FunOk Try.prog 8 ⟨R8, A8⟩ := ⟨Try.f8, _, H8, 101, Try.func8, by kernel_rfl, by kernel_rfl, code8, by decide, by kernel_rfl⟩
def A9 : ACode :=
 (.seq (
  .reg [1, 0] [
    ⟨(some 4), .val (.const (.int .i64 0)), none⟩,
    ⟨(some 5), .val (.const (.bool false)), none⟩]) (
 (.seq (
  .reg [6] [
    ⟨(some 7), .val (.tmp 0), none⟩,
    ⟨(some 8), .val (.tmp 1), none⟩,
    ⟨(some 9), .call (.func 18) [(.tmp 7), (.tmp 8)], none⟩,
    ⟨(some 6), .val (.tmp 9), none⟩]) (
 (.seq (
  (.seq (
   .reg [6, 18] [
     ⟨(some 10), .val (.tmp 6), none⟩,
     ⟨(some 11), .eqNil .ptr false (.tmp 10) (.const (.pointer none)), none⟩,
     ⟨(some 12), .val (.tmp 11), none⟩,
     ⟨(some 13), .val (.tmp 6), (some (12, false))⟩,
     ⟨(some 14), .nilck (.tmp 13), (some (12, false))⟩,
     ⟨(some 15), .fldA 0 (.tmp 14), (some (12, false))⟩,
     ⟨(some 16), .load none (.tmp 15), (some (12, false))⟩,
     ⟨(some 17), .un .not (.tmp 16), (some (12, false))⟩,
     ⟨(some 18), .pick (.tmp 12) (.const (.bool true)) (.tmp 17), none⟩]) (
  (.cond (.tmp 18) (
   (.seq (
    .reg [4, 5] [
      ⟨(some 4), .val (.const (.int .i64 0)), none⟩,
      ⟨(some 5), .val (.const (.bool false)), none⟩]) (
   .ret))) (
   .skip))))) (
 (.seq (
  .reg [4, 5] [
    ⟨(some 19), .val (.tmp 6), none⟩,
    ⟨(some 20), .nilck (.tmp 19), none⟩,
    ⟨(some 21), .fldA 1 (.tmp 20), none⟩,
    ⟨(some 22), .load none (.tmp 21), none⟩,
    ⟨(some 4), .val (.tmp 22), none⟩,
    ⟨(some 5), .val (.const (.bool true)), none⟩]) (
 .ret))))))))
def H9 : Hint := (.two (.reg [1, 0] []) (.two (.reg [6] []) (.two (.two (.reg [6, 18] []) (.two (.two (.reg [4, 5] []) .leaf) .leaf)) (.two (.reg [4, 5] []) .leaf))))
def R9 : List ARes := [.tmp 4, .tmp 5]
theorem code9 : cCode Try.prog 23 H9 (Try.f9.body.getD .skip) = some A9 := by kernel_rfl
theorem ok9 : FunOk Try.prog 9 ⟨R9, A9⟩ := ⟨Try.f9, _, H9, 23, Try.func9, by kernel_rfl, by kernel_rfl, code9, by decide, by kernel_rfl⟩
def A10 : ACode :=
 (.seq (
  .reg [2, 1, 0] [
    ⟨(some 6), .val (.const (.int .i64 0)), none⟩,
    ⟨(some 7), .val (.const (.bool false)), none⟩,
    ⟨(some 8), .val (.const (.int .i64 0)), none⟩]) (
 (.seq (
  .reg [9, 2] [
    ⟨(some 11), .val (.tmp 0), none⟩,
    ⟨(some 12), .val (.tmp 1), none⟩,
    ⟨(some 13), .call (.func 18) [(.tmp 11), (.tmp 12)], none⟩,
    ⟨(some 9), .val (.tmp 13), none⟩]) (
 (.seq (
  (.block 0 (
   (.seq (
    .reg [9, 2, 14] [
      ⟨(some 15), .val (.tmp 9), none⟩,
      ⟨(some 16), .eqNil .ptr false (.tmp 15) (.const (.pointer none)), none⟩,
      ⟨(some 14), .val (.tmp 16), none⟩]) (
   (.cond (.tmp 14) (
    (.seq (
     .reg [6, 7, 8] [
       ⟨(some 6), .val (.const (.int .i64 0)), none⟩,
       ⟨(some 7), .val (.const (.bool false)), none⟩,
       ⟨(some 8), .val (.const (.int .i64 3)), none⟩]) (
    .ret))) (
    (.seq (
     .reg [9, 17] [
       ⟨(some 18), .val (.tmp 9), none⟩,
       ⟨(some 19), .nilck (.tmp 18), none⟩,
       ⟨(some 20), .fldA 0 (.tmp 19), none⟩,
       ⟨(some 21), .load none (.tmp 20), none⟩,
       ⟨(some 22), .un .not (.tmp 21), none⟩,
       ⟨(some 23), .val (.tmp 22), none⟩,
       ⟨(some 24), .val (.tmp 9), (some (23, false))⟩,
       ⟨(some 25), .nilck (.tmp 24), (some (23, false))⟩,
       ⟨(some 26), .fldA 1 (.tmp 25), (some (23, false))⟩,
       ⟨(some 27), .load none (.tmp 26), (some (23, false))⟩,
       ⟨(some 28), .val (.tmp 2), (some (23, false))⟩,
       ⟨(some 29), .bin .neq (.tmp 27) (.tmp 28), (some (23, false))⟩,
       ⟨(some 30), .pick (.tmp 23) (.const (.bool true)) (.tmp 29), none⟩,
       ⟨(some 17), .val (.tmp 30), none⟩]) (
    (.cond (.tmp 17) (
     (.seq (
      .reg [6, 7, 8] [
        ⟨(some 6), .val (.const (.int .i64 0)), none⟩,
        ⟨(some 7), .val (.const (.bool false)), none⟩,
        ⟨(some 8), .val (.const (.int .i64 8)), none⟩]) (
     .ret))) (
     (.seq (
      .reg [9, 31] [
        ⟨(some 32), .val (.tmp 9), none⟩,
        ⟨(some 33), .nilck (.tmp 32), none⟩,
        ⟨(some 34), .fldA 4 (.tmp 33), none⟩,
        ⟨(some 35), .load none (.tmp 34), none⟩,
        ⟨(some 36), .len .sl (.tmp 35), none⟩,
        ⟨(some 37), .bin .eql (.tmp 36) (.const (.int .i64 0)), none⟩,
        ⟨(some 31), .val (.tmp 37), none⟩]) (
     (.cond (.tmp 31) (
      (.seq (
       .reg [] [
         ⟨(some 38), .val (.tmp 9), none⟩,
         ⟨(some 39), .build [(.bool false), (.int .i64 0), (.int .i64 0), (.int .i64 0), (.slice none 0 0)] [], none⟩,
         ⟨(some 40), .nilck (.tmp 38), none⟩,
         ⟨none, .store 5 (.tmp 40) (.tmp 39), none⟩]) (
      (.seq (
       .reg [6, 7, 8] [
         ⟨(some 6), .val (.const (.int .i64 0)), none⟩,
         ⟨(some 7), .val (.const (.bool false)), none⟩,
         ⟨(some 8), .val (.const (.int .i64 0)), none⟩]) (
      .ret))))) (
      .skip))))))))))))))) (
 (.seq (
  (.seq (
   .reg [9, 10] [
     ⟨(some 41), .val (.tmp 9), none⟩,
     ⟨(some 42), .val (.tmp 9), none⟩,
     ⟨(some 43), .nilck (.tmp 42), none⟩,
     ⟨(some 44), .fldA 2 (.tmp 43), none⟩,
     ⟨(some 45), .load none (.tmp 44), none⟩,
     ⟨(some 46), .call (.func 20) [(.tmp 41), (.tmp 45)], none⟩,
     ⟨(some 10), .val (.tmp 46), none⟩]) (
  (.seq (
   .reg [9, 10, 63] [
     ⟨(some 47), .val (.tmp 10), none⟩,
     ⟨(some 48), .bin .geq (.tmp 47) (.const (.int .i64 0)), none⟩,
     ⟨(some 49), .val (.tmp 48), none⟩,
     ⟨(some 50), .val (.tmp 9), (some (49, true))⟩,
     ⟨(some 51), .nilck (.tmp 50), (some (49, true))⟩,
     ⟨(some 52), .fldA 3 (.tmp 51), (some (49, true))⟩,
     ⟨(some 53), .load none (.tmp 52), (some (49, true))⟩,
     ⟨(some 54), .bin .lss (.tmp 53) (.const (.int .i64 3)), (some (49, true))⟩,
     ⟨(some 55), .val (.tmp 54), (some (49, true))⟩,
     ⟨(some 56), .val (.tmp 9), (some (55, false))⟩,
     ⟨(some 57), .nilck (.tmp 56), (some (55, false))⟩,
     ⟨(some 58), .fldA 4 (.tmp 57), (some (55, false))⟩,
     ⟨(some 59), .load none (.tmp 58), (some (55, false))⟩,
     ⟨(some 60), .len .sl (.tmp 59), (some (55, false))⟩,
     ⟨(some 61), .bin .eql (.tmp 60) (.const (.int .i64 1)), (some (55, false))⟩,
     ⟨(some 62), .pick (.tmp 55) (.const (.bool true)) (.tmp 61), (some (49, true))⟩,
     ⟨(some 63), .pick (.tmp 49) (.tmp 62) (.const (.bool false)), none⟩]) (
  (.cond (.tmp 63) (
   (.seq (
    .reg [9, 10] [
      ⟨(some 64), .val (.tmp 9), none⟩,
      ⟨(some 65), .nilck (.tmp 64), none⟩,
      ⟨(some 66), .fldA 3 (.tmp 65), none⟩,
      ⟨(some 67), .load none (.tmp 66), none⟩,
      ⟨(some 68), .bin .add (.tmp 67) (.const (.int .i64 1)), none⟩,
      ⟨(some 69), .nilck (.tmp 64), none⟩,
      ⟨(some 70), .fldA 3 (.tmp 69), none⟩,
      ⟨none, .store 1 (.tmp 70) (.tmp 68), none⟩]) (
   .reg [9] [
     ⟨(some 71), .val (.tmp 9), none⟩,
     ⟨(some 72), .val (.tmp 9), none⟩,
     ⟨(some 73), .val (.tmp 10), none⟩,
     ⟨(some 74), .call (.func 21) [(.tmp 72), (.tmp 73)], none⟩,
     ⟨(some 75), .nilck (.tmp 71), none⟩,
     ⟨(some 76), .fldA 1 (.tmp 75), none⟩,
     ⟨none, .store 1 (.tmp 76) (.tmp 74), none⟩]))) (
   .reg [9] [
     ⟨(some 77), .val (.tmp 9), none⟩,
     ⟨(some 78), .val (.tmp 9), none⟩,
     ⟨(some 79), .call (.func 22) [(.tmp 78)], none⟩,
     ⟨(some 80), .nilck (.tmp 77), none⟩,
     ⟨(some 81), .fldA 1 (.tmp 80), none⟩,
     ⟨none, .store 1 (.tmp 81) (.tmp 79), none⟩]))))))) (
 (.seq (
  .reg [6, 7, 8] [
    ⟨(some 82), .val (.tmp 9), none⟩,
    ⟨(some 83), .nilck (.tmp 82), none⟩,
    ⟨(some 84), .fldA 1 (.tmp 83), none⟩,
    ⟨(some 85), .load none (.tmp 84), none⟩,
    ⟨(some 6), .val (.tmp 85), none⟩,
    ⟨(some 7), .val (.const (.bool true)), none⟩,
    ⟨(some 8), .val (.const (.int .i64 0)), none⟩]) (
 .ret))))))))))
def H10 : Hint := (.two (.reg [2, 1, 0] []) (.two (.reg [9, 2] []) (.two (.one (.two (.reg [9, 2, 14] []) (.two (.two (.reg [6, 7, 8] []) .leaf) (.two (.reg [9, 17] []) (.two (.two (.reg [6, 7, 8] []) .leaf) (.two (.reg [9, 31] []) (.two (.two (.reg [] []) (.two (.reg [6, 7, 8] []) .leaf)) .leaf))))))) (.two (.two (.reg [9, 10] []) (.two (.reg [9, 10, 63] []) (.two (.two (.reg [9, 10] []) (.reg [9] [])) (.reg [9] [])))) (.two (.reg [6, 7, 8] []) .leaf)))))
def R10 : List ARes := [.tmp 6, .tmp 7, .tmp 8]
theorem code10 : cCode Try.prog 86 H10 (Try.f10.body.getD .skip) = some A10 := by kernel_rfl
theorem ok10 : FunOk Try.prog 10 ⟨R10, A10⟩ := ⟨Try.f10, _, H10, 86, Try.func10, by kernel_rfl, by kernel_rfl, code10, by decide, by kernel_rfl⟩
def A11 : ACode :=
 (.seq (
  .reg [] [
    ⟨(some 0), .val (.const (.bool false)), none⟩]) (
 (.seq (
  .reg [1] [
    ⟨(some 14), .call (.func 7) [(.const (.int .i64 1))], none⟩,
    ⟨(some 1), .val (.tmp 14), none⟩]) (
 (.seq (
  .reg [1, 2] [
    ⟨(some 16), .val (.tmp 1), none⟩,
    ⟨(some 17), .call (.func 8) [(.tmp 16), (.const (.int .i64 0)), (.const (.int .i64 1)), (.const (.int .i64 0))], none⟩,
    ⟨(some 15), .val (.tmp 17), none⟩,
    ⟨(some 18), .extr (.tmp 15) 0, none⟩,
    ⟨(some 19), .extr (.tmp 15) 1, none⟩,
    ⟨(some 2), .val (.tmp 18), none⟩,
    ⟨(some 3), .val (.tmp 19), none⟩]) (
 (.seq (
  .reg [1, 4, 2] [
    ⟨(some 21), .val (.tmp 1), none⟩,
    ⟨(some 22), .call (.func 8) [(.tmp 21), (.const (.int .i64 0)), (.const (.int .i64 2)), (.const (.int .i64 1))], none⟩,
    ⟨(some 20), .val (.tmp 22), none⟩,
    ⟨(some 23), .extr (.tmp 20) 0, none⟩,
    ⟨(some 24), .extr (.tmp 20) 1, none⟩,
    ⟨(some 4), .val (.tmp 23), none⟩,
    ⟨(some 5), .val (.tmp 24), none⟩]) (
 (.seq (
  .reg [1, 6, 4, 2] [
    ⟨(some 26), .val (.tmp 1), none⟩,
    ⟨(some 27), .call (.func 8) [(.tmp 26), (.const (.int .i64 0)), (.const (.int .i64 3)), (.const (.int .i64 0))], none⟩,
    ⟨(some 25), .val (.tmp 27), none⟩,
    ⟨(some 28), .extr (.tmp 25) 0, none⟩,
    ⟨(some 29), .extr (.tmp 25) 1, none⟩,
    ⟨(some 6), .val (.tmp 28), none⟩,
    ⟨(some 7), .val (.tmp 29), none⟩]) (
 (.seq (
  .reg [1, 8, 6, 4, 2] [
    ⟨(some 31), .val (.tmp 1), none⟩,
    ⟨(some 32), .call (.func 10) [(.tmp 31), (.const (.int .i64 0)), (.const (.int .i64 1))], none⟩,
    ⟨(some 30), .val (.tmp 32), none⟩,
    ⟨(some 33), .extr (.tmp 30) 0, none⟩,
    ⟨(some 34), .extr (.tmp 30) 1, none⟩,
    ⟨(some 35), .extr (.tmp 30) 2, none⟩,
    ⟨(some 8), .val (.tmp 33), none⟩,
    ⟨(some 9), .val (.tmp 34), none⟩,
    ⟨(some 10), .val (.tmp 35), none⟩]) (
 (.seq (
  .reg [1, 11, 8, 6, 4, 2] [
    ⟨(some 37), .val (.tmp 1), none⟩,
    ⟨(some 38), .call (.func 10) [(.tmp 37), (.const (.int .i64 0)), (.const (.int .i64 3))], none⟩,
    ⟨(some 36), .val (.tmp 38), none⟩,
    ⟨(some 39), .extr (.tmp 36) 0, none⟩,
    ⟨(some 40), .extr (.tmp 36) 1, none⟩,
    ⟨(some 41), .extr (.tmp 36) 2, none⟩,
    ⟨(some 11), .val (.tmp 39), none⟩,
    ⟨(some 12), .val (.tmp 40), none⟩,
    ⟨(some 13), .val (.tmp 41), none⟩]) (
 (.seq (
  .reg [0] [
    ⟨(some 42), .val (.tmp 2), none⟩,
    ⟨(some 43), .val (.tmp 42), none⟩,
    ⟨(some 44), .val (.tmp 4), (some (43, true))⟩,
    ⟨(some 45), .un .not (.tmp 44), (some (43, true))⟩,
    ⟨(some 46), .pick (.tmp 43) (.tmp 45) (.const (.bool false)), none⟩,
    ⟨(some 47), .val (.tmp 46), none⟩,
    ⟨(some 48), .val (.tmp 6), (some (47, true))⟩,
    ⟨(some 49), .un .not (.tmp 48), (some (47, true))⟩,
    ⟨(some 50), .pick (.tmp 47) (.tmp 49) (.const (.bool false)), none⟩,
    ⟨(some 51), .val (.tmp 50), none⟩,
    ⟨(some 52), .val (.tmp 8), (some (51, true))⟩,
    ⟨(some 53), .bin .eql (.tmp 52) (.const (.int .i64 3)), (some (51, true))⟩,
    ⟨(some 54), .pick (.tmp 51) (.tmp 53) (.const (.bool false)), none⟩,
    ⟨(some 55), .val (.tmp 54), none⟩,
    ⟨(some 56), .val (.tmp 11), (some (55, true))⟩,
    ⟨(some 57), .bin .eql (.tmp 56) (.const (.int .i64 2)), (some (55, true))⟩,
    ⟨(some 58), .pick (.tmp 55) (.tmp 57) (.const (.bool false)), none⟩,
    ⟨(some 59), .val (.tmp 58), none⟩,
    ⟨(some 60), .val (.tmp 1), (some (59, true))⟩,
    ⟨(some 61), .call (.func 12) [(.tmp 60), (.const (.int .i64 0))], (some (59, true))⟩,
    ⟨(some 62), .bin .eql (.tmp 61) (.const (.int .i64 1)), (some (59, true))⟩,
    ⟨(some 63), .pick (.tmp 59) (.tmp 62) (.const (.bool false)), none⟩,
    ⟨(some 0), .val (.tmp 63), none⟩]) (
 .ret))))))))))))))))
def H11 : Hint := (.two (.reg [] []) (.two (.reg [1] []) (.two (.reg [1, 2] []) (.two (.reg [1, 4, 2] []) (.two (.reg [1, 6, 4, 2] []) (.two (.reg [1, 8, 6, 4, 2] []) (.two (.reg [1, 11, 8, 6, 4, 2] []) (.two (.reg [0] []) .leaf))))))))
def R11 : List ARes := [.tmp 0]
theorem code11 : cCode Try.prog 64 H11 (Try.f11.body.getD .skip) = some A11 := by kernel_rfl
theorem ok11 : FunOk Try.prog 11 ⟨R11, A11⟩ := ⟨Try.f11, _, H11, 64, Try.func11, by kernel_rfl, by kernel_rfl, code11, by decide, by kernel_rfl⟩
def A12 : ACode :=
 (.seq (
  .reg [1, 0] [
    ⟨(some 4), .val (.const (.int .i64 0)), none⟩]) (
 (.seq (
  .reg [5] [
    ⟨(some 6), .val (.tmp 0), none⟩,
    ⟨(some 7), .val (.tmp 1), none⟩,
    ⟨(some 8), .call (.func 18) [(.tmp 6), (.tmp 7)], none⟩,
    ⟨(some 5), .val (.tmp 8), none⟩]) (
 (.seq (
  (.seq (
   .reg [5, 10] [
     ⟨(some 9), .val (.tmp 5), none⟩,
     ⟨(some 10), .eqNil .ptr false (.tmp 9) (.const (.pointer none)), none⟩]) (
  (.cond (.tmp 10) (
   (.seq (
    .reg [4] [
      ⟨(some 4), .val (.const (.int .i64 0)), none⟩]) (
   .ret))) (
   .skip))))) (
 (.seq (
  .reg [4] [
    ⟨(some 11), .val (.tmp 5), none⟩,
    ⟨(some 12), .nilck (.tmp 11), none⟩,
    ⟨(some 13), .fldA 2 (.tmp 12), none⟩,
    ⟨(some 14), .load none (.tmp 13), none⟩,
    ⟨(some 4), .val (.tmp 14), none⟩]) (
 .ret))))))))
def H12 : Hint := (.two (.reg [1, 0] []) (.two (.reg [5] []) (.two (.two (.reg [5, 10] []) (.two (.two (.reg [4] []) .leaf) .leaf)) (.two (.reg [4] []) .leaf))))
def R12 : List ARes := [.tmp 4]
theorem code12 : cCode Try.prog 15 H12 (Try.f12.body.getD .skip) = some A12 := by kernel_rfl
theorem ok12 : FunOk Try.prog 12 ⟨R12, A12⟩ := ⟨Try.f12, _, H12, 15, Try.func12, by kernel_rfl, by kernel_rfl, code12, by decide, by kernel_rfl⟩
def A13 : ACode :=
 (.seq (
  .reg [4, 1, 0] [
    ⟨(some 4), .val (.const (.slice none 0 0)), none⟩]) (
 (.seq (
  (.seq (
   .reg [4, 5] [
     ⟨(some 8), .val (.tmp 0), none⟩,
     ⟨(some 9), .val (.tmp 1), none⟩,
     ⟨(some 10), .call (.func 18) [(.tmp 8), (.tmp 9)], none⟩,
     ⟨(some 5), .val (.tmp 10), none⟩]) (
  (.seq (
   .reg [4, 5, 12] [
     ⟨(some 11), .val (.tmp 5), none⟩,
     ⟨(some 12), .eqNil .ptr true (.tmp 11) (.const (.pointer none)), none⟩]) (
  (.cond (.tmp 12) (
   (.seq (
    .reg [18, 4, 16, 17] [
      ⟨(some 13), .val (.tmp 5), none⟩,
      ⟨(some 14), .nilck (.tmp 13), none⟩,
      ⟨(some 15), .fldA 4 (.tmp 14), none⟩,
      ⟨(some 16), .load none (.tmp 15), none⟩,
      ⟨(some 17), .len .sl (.tmp 16), none⟩,
      ⟨(some 18), .val (.const (.int .i64 0)), none⟩]) (
   (.block 0 (
    (.loop (
     (.seq (
      .reg [16, 17, 18, 4, 19] [
        ⟨(some 19), .bin .lss (.tmp 18) (.tmp 17), none⟩]) (
     (.seq (
      (.cond (.tmp 19) (
       .skip) (
       .exit 0))) (
     (.seq (
      (.block 1 (
       (.seq (
        .reg [16, 17, 18, 7, 4] [
          ⟨(some 20), .idxSl 2 (.tmp 16) (.tmp 18), none⟩,
          ⟨(some 21), .load (some 2) (.tmp 20), none⟩,
          ⟨(some 7), .new [(.int .i64 0), (.slice none 0 0)], none⟩,
          ⟨none, .store 2 (.tmp 7) (.tmp 21), none⟩]) (
       .reg [4, 16, 17, 18] [
         ⟨(some 22), .val (.tmp 4), none⟩,
         ⟨(some 23), .fldA 1 (.tmp 7), none⟩,
         ⟨(some 24), .load none (.tmp 23), none⟩,
         ⟨(some 25), .append 1 8 (.tmp 22) (.tmp 24), none⟩,
         ⟨(some 4), .val (.tmp 25), none⟩]))))) (
     .reg [18, 4, 16, 17] [
       ⟨(some 26), .bin .add (.tmp 18) (.const (.int .i64 1)), none⟩,
       ⟨(some 18), .val (.tmp 26), none⟩]))))))))))))) (
   .skip))))))) (
 (.seq (
  .reg [4] [
    ⟨(some 27), .val (.tmp 4), none⟩,
    ⟨(some 4), .val (.tmp 27), none⟩]) (
 .ret))))))
def H13 : Hint := (.two (.reg [4, 1, 0] []) (.two (.two (.reg [4, 5] []) (.two (.reg [4, 5, 12] []) (.two (.two (.reg [18, 4, 16, 17] []) (.one (.one (.two (.reg [16, 17, 18, 4, 19] []) (.two (.two .leaf .leaf) (.two (.one (.two (.reg [16, 17, 18, 7, 4] []) (.reg [4, 16, 17, 18] []))) (.reg [18, 4, 16, 17] []))))))) .leaf))) (.two (.reg [4] []) .leaf)))
def R13 : List ARes := [.tmp 4]
theorem code13 : cCode Try.prog 28 H13 (Try.f13.body.getD .skip) = some A13 := by kernel_rfl
theorem ok13 : FunOk Try.prog 13 ⟨R13, A13⟩ := ⟨Try.f13, _, H13, 28, Try.func13, by kernel_rfl, by kernel_rfl, code13, by decide, by kernel_rfl⟩
def A14 : ACode :=
 (.seq (
  .reg [2, 0, 1] [
    ⟨(some 6), .val (.const (.bool false)), none⟩]) (
 (.seq (
  .reg [7, 2, 0, 1] [
    ⟨(some 7), .val (.const (.slice none 0 0)), none⟩]) (
 (.seq (
  (.seq (
   .reg [18, 7, 2, 0, 16, 1, 17] [
     ⟨(some 16), .val (.tmp 1), none⟩,
     ⟨(some 17), .len .sl (.tmp 16), none⟩,
     ⟨(some 18), .val (.const (.int .i64 0)), none⟩]) (
  (.block 0 (
   (.loop (
    (.seq (
     .reg [2, 0, 16, 1, 17, 18, 7, 19] [
       ⟨(some 19), .bin .lss (.tmp 18) (.tmp 17), none⟩]) (
    (.seq (
     (.cond (.tmp 19) (
      .skip) (
      .exit 0))) (
    (.seq (
     (.block 1 (
      (.seq (
       .reg [2, 0, 16, 1, 17, 18, 8, 7, 9] [
         ⟨(some 20), .val (.tmp 18), none⟩,
         ⟨(some 21), .idxSl 6 (.tmp 16) (.tmp 18), none⟩,
         ⟨(some 22), .load (some 6) (.tmp 21), none⟩,
         ⟨(some 9), .new [(.bool false), (.int .i64 0), (.int .i64 0), (.int .i64 0), (.slice none 0 0), (.slice none 0 0)], none⟩,
         ⟨(some 8), .val (.tmp 20), none⟩,
         ⟨none, .store 6 (.tmp 9) (.tmp 22), none⟩]) (
      (.seq (
       .reg [2, 0, 16, 1, 17, 18, 8, 7, 9, 10, 11] [
         ⟨(some 24), .val (.tmp 0), none⟩,
         ⟨(some 25), .val (.tmp 8), none⟩,
         ⟨(some 26), .call (.func 9) [(.tmp 24), (.tmp 25)], none⟩,
         ⟨(some 23), .val (.tmp 26), none⟩,
         ⟨(some 27), .extr (.tmp 23) 0, none⟩,
         ⟨(some 28), .extr (.tmp 23) 1, none⟩,
         ⟨(some 10), .val (.tmp 27), none⟩,
         ⟨(some 11), .val (.tmp 28), none⟩]) (
      (.seq (
       (.seq (
        .dreg [2, 0, 16, 1, 17, 18, 8, 7, 9, 66] [
          (⟨(some 29), .val (.tmp 11), none⟩, []),
          (⟨(some 30), .fldA 0 (.tmp 9), none⟩, []),
          (⟨(some 31), .load none (.tmp 30), none⟩, []),
          (⟨(some 32), .eqB true (.tmp 29) (.tmp 31), none⟩, []),
          (⟨(some 33), .val (.tmp 32), none⟩, []),
          (⟨(some 34), .val (.tmp 11), (some (33, false))⟩, []),
          (⟨(some 35), .val (.tmp 34), (some (33, false))⟩, []),
          (⟨(some 36), .val (.tmp 10), (some (35, true))⟩, []),
          (⟨(some 37), .fldA 1 (.tmp 9), (some (35, true))⟩, []),
          (⟨(some 38), .load none (.tmp 37), (some (35, true))⟩, []),
          (⟨(some 39), .bin .neq (.tmp 36) (.tmp 38), (some (35, true))⟩, []),
          (⟨(some 40), .pick (.tmp 35) (.tmp 39) (.const (.bool false)), (some (33, false))⟩, []),
          (⟨(some 41), .pick (.tmp 33) (.const (.bool true)) (.tmp 40), none⟩, []),
          (⟨(some 42), .val (.tmp 41), none⟩, []),
          (⟨(some 43), .val (.tmp 11), (some (42, false))⟩, []),
          (⟨(some 44), .un .not (.tmp 43), (some (42, false))⟩, []),
          (⟨(some 45), .val (.tmp 44), (some (42, false))⟩, []),
          (⟨(some 46), .val (.tmp 10), (some (45, true))⟩, []),
          (⟨(some 47), .bin .neq (.tmp 46) (.const (.int .i64 0)), (some (45, true))⟩, []),
          (⟨(some 48), .pick (.tmp 45) (.tmp 47) (.const (.bool false)), (some (42, false))⟩, []),
          (⟨(some 49), .pick (.tmp 42) (.const (.bool true)) (.tmp 48), none⟩, []),
          (⟨(some 50), .val (.tmp 49), none⟩, []),
          (⟨(some 51), .val (.tmp 0), (some (50, false))⟩, []),
          (⟨(some 52), .val (.tmp 8), (some (50, false))⟩, []),
          (⟨(some 54), .fldA 2 (.tmp 9), (some (50, false))⟩, []),
          (⟨(some 55), .load none (.tmp 54), (some (50, false))⟩, []),
          (⟨(some 53), .call (.func 12) [(.tmp 51), (.tmp 52)], (some (50, false))⟩, [25]),
          (⟨(some 56), .bin .neq (.tmp 53) (.tmp 55), (some (50, false))⟩, []),
          (⟨(some 57), .pick (.tmp 50) (.const (.bool true)) (.tmp 56), none⟩, []),
          (⟨(some 58), .val (.tmp 57), none⟩, []),
          (⟨(some 59), .val (.tmp 0), (some (58, false))⟩, []),
          (⟨(some 60), .val (.tmp 8), (some (58, false))⟩, []),
          (⟨(some 62), .load (some 6) (.tmp 9), (some (58, false))⟩, []),
          (⟨(some 61), .call (.func 13) [(.tmp 59), (.tmp 60)], (some (58, false))⟩, [32]),
          (⟨(some 63), .call (.func 24) [(.tmp 62)], (some (58, false))⟩, []),
          (⟨(some 64), .call (.func 23) [(.tmp 61), (.tmp 63)], (some (58, false))⟩, []),
          (⟨(some 65), .un .not (.tmp 64), (some (58, false))⟩, []),
          (⟨(some 66), .pick (.tmp 58) (.const (.bool true)) (.tmp 65), none⟩, [])]) (
       (.cond (.tmp 66) (
        (.seq (
         .reg [6] [
           ⟨(some 6), .val (.const (.bool false)), none⟩]) (
        .ret))) (
        .skip))))) (
      (.seq (
       .reg [2, 0, 16, 1, 17, 18, 8, 7, 74] [
         ⟨(some 67), .fldA 0 (.tmp 9), none⟩,
         ⟨(some 68), .load none (.tmp 67), none⟩,
         ⟨(some 69), .val (.tmp 68), none⟩,
         ⟨(some 70), .fldA 1 (.tmp 9), (some (69, true))⟩,
         ⟨(some 71), .load none (.tmp 70), (some (69, true))⟩,
         ⟨(some 72), .val (.tmp 2), (some (69, true))⟩,
         ⟨(some 73), .bin .eql (.tmp 71) (.tmp 72), (some (69, true))⟩,
         ⟨(some 74), .pick (.tmp 69) (.tmp 73) (.const (.bool false)), none⟩]) (
      (.cond (.tmp 74) (
       .reg [7, 2, 0, 16, 1, 17, 18] [
         ⟨(some 75), .val (.tmp 7), none⟩,
         ⟨(some 76), .val (.tmp 8), none⟩,
         ⟨(some 77), .buildSl 1 [(.int .i64 0)] [(0, 1, (.tmp 76))], none⟩,
         ⟨(some 78), .append 1 8 (.tmp 75) (.tmp 77), none⟩,
         ⟨(some 7), .val (.tmp 78), none⟩]) (
       .skip))))))))))))) (
    .reg [18, 7, 2, 0, 16, 1, 17] [
      ⟨(some 79), .bin .add (.tmp 18) (.const (.int .i64 1)), none⟩,
      ⟨(some 18), .val (.tmp 79), none⟩]))))))))))))) (
 (.seq (
  .reg [1, 0, 13, 7, 2] [
    ⟨(some 81), .val (.tmp 0), none⟩,
    ⟨(some 82), .call (.func 9) [(.tmp 81), (.const (.int .i64 (-1)))], none⟩,
    ⟨(some 80), .val (.tmp 82), none⟩,
    ⟨(some 83), .extr (.tmp 80) 0, none⟩,
    ⟨(some 84), .extr (.tmp 80) 1, none⟩,
    ⟨(some 12), .val (.tmp 83), none⟩,
    ⟨(some 13), .val (.tmp 84), none⟩]) (
 (.seq (
  .reg [1, 0, 15, 13, 7, 2] [
    ⟨(some 86), .val (.tmp 0), none⟩,
    ⟨(some 87), .val (.tmp 1), none⟩,
    ⟨(some 88), .len .sl (.tmp 87), none⟩,
    ⟨(some 89), .call (.func 9) [(.tmp 86), (.tmp 88)], none⟩,
    ⟨(some 85), .val (.tmp 89), none⟩,
    ⟨(some 90), .extr (.tmp 85) 0, none⟩,
    ⟨(some 91), .extr (.tmp 85) 1, none⟩,
    ⟨(some 14), .val (.tmp 90), none⟩,
    ⟨(some 15), .val (.tmp 91), none⟩]) (
 (.seq (
  .reg [6] [
    ⟨(some 92), .val (.tmp 0), none⟩,
    ⟨(some 93), .val (.tmp 2), none⟩,
    ⟨(some 94), .call (.func 17) [(.tmp 92), (.tmp 93)], none⟩,
    ⟨(some 95), .val (.tmp 7), none⟩,
    ⟨(some 96), .call (.func 23) [(.tmp 94), (.tmp 95)], none⟩,
    ⟨(some 97), .val (.tmp 96), none⟩,
    ⟨(some 98), .val (.tmp 13), (some (97, true))⟩,
    ⟨(some 99), .un .not (.tmp 98), (some (97, true))⟩,
    ⟨(some 100), .pick (.tmp 97) (.tmp 99) (.const (.bool false)), none⟩,
    ⟨(some 101), .val (.tmp 100), none⟩,
    ⟨(some 102), .val (.tmp 15), (some (101, true))⟩,
    ⟨(some 103), .un .not (.tmp 102), (some (101, true))⟩,
    ⟨(some 104), .pick (.tmp 101) (.tmp 103) (.const (.bool false)), none⟩,
    ⟨(some 105), .val (.tmp 104), none⟩,
    ⟨(some 106), .val (.tmp 0), (some (105, true))⟩,
    ⟨(some 107), .call (.func 16) [(.tmp 106)], (some (105, true))⟩,
    ⟨(some 108), .val (.tmp 1), (some (105, true))⟩,
    ⟨(some 109), .len .sl (.tmp 108), (some (105, true))⟩,
    ⟨(some 110), .bin .eql (.tmp 107) (.tmp 109), (some (105, true))⟩,
    ⟨(some 111), .pick (.tmp 105) (.tmp 110) (.const (.bool false)), none⟩,
    ⟨(some 6), .val (.tmp 111), none⟩]) (
 .ret))))))))))))
def H14 : Hint := (.two (.reg [2, 0, 1] []) (.two (.reg [7, 2, 0, 1] []) (.two (.two (.reg [18, 7, 2, 0, 16, 1, 17] []) (.one (.one (.two (.reg [2, 0, 16, 1, 17, 18, 7, 19] []) (.two (.two .leaf .leaf) (.two (.one (.two (.reg [2, 0, 16, 1, 17, 18, 8, 7, 9] []) (.two (.reg [2, 0, 16, 1, 17, 18, 8, 7, 9, 10, 11] []) (.two (.two (.reg [2, 0, 16, 1, 17, 18, 8, 7, 9, 66] [(0, [], []), (1, [], []), (2, [], [1]), (3, [], [0, 2, 1]), (4, [], [3, 0, 2, 1]), (5, [], [4, 3, 0, 2, 1]), (6, [], [5, 4, 3, 0, 2, 1]), (7, [], [6, 5, 4, 3, 0, 2, 1]), (8, [], [6, 5, 4, 3, 0, 2, 1]), (9, [], [8, 6, 5, 4, 3, 0, 2, 1]), (10, [], [7, 6, 5, 4, 3, 0, 2, 1, 9, 8]), (11, [], [6, 5, 4, 3, 0, 2, 1, 10, 7, 9, 8]), (12, [], [4, 3, 0, 2, 1, 11, 6, 5, 10, 7, 9, 8]), (13, [], [12, 4, 3, 0, 2, 1, 11, 6, 5, 10, 7, 9, 8]), (14, [], [13, 12, 4, 3, 0, 2, 1, 11, 6, 5, 10, 7, 9, 8]), (15, [], [14, 13, 12, 4, 3, 0, 2, 1, 11, 6, 5, 10, 7, 9, 8]), (16, [], [15, 14, 13, 12, 4, 3, 0, 2, 1, 11, 6, 5, 10, 7, 9, 8]), (17, [], [16, 15, 14, 13, 12, 4, 3, 0, 2, 1, 11, 6, 5, 10, 7, 9, 8]), (18, [], [17, 16, 15, 14, 13, 12, 4, 3, 0, 2, 1, 11, 6, 5, 10, 7, 9, 8]), (19, [], [16, 15, 14, 13, 12, 4, 3, 0, 2, 1, 11, 6, 5, 10, 7, 9, 8, 18, 17]), (20, [], [13, 12, 4, 3, 0, 2, 1, 11, 6, 5, 10, 7, 9, 8, 19, 16, 15, 14, 18, 17]), (21, [], [20, 13, 12, 4, 3, 0, 2, 1, 11, 6, 5, 10, 7, 9, 8, 19, 16, 15, 14, 18, 17]), (22, [], [21, 20, 13, 12, 4, 3, 0, 2, 1, 11, 6, 5, 10, 7, 9, 8, 19, 16, 15, 14, 18, 17]), (23, [], [21, 20, 13, 12, 4, 3, 0, 2, 1, 11, 6, 5, 10, 7, 9, 8, 19, 16, 15, 14, 18, 17]), (25, [], [21, 20, 13, 12, 4, 3, 0, 2, 1, 11, 6, 5, 10, 7, 9, 8, 19, 16, 15, 14, 18, 17]), (26, [], [25, 21, 20, 13, 12, 4, 3, 0, 2, 1, 11, 6, 5, 10, 7, 9, 8, 19, 16, 15, 14, 18, 17]), (24, [25], [22, 21, 20, 13, 12, 4, 3, 0, 2, 1, 11, 6, 5, 10, 7, 9, 8, 19, 16, 15, 14, 18, 17, 23]), (27, [], [24, 22, 21, 20, 13, 12, 4, 3, 0, 2, 1, 11, 6, 5, 10, 7, 9, 8, 19, 16, 15, 14, 18, 17, 23, 26, 25]), (28, [], [21, 20, 13, 12, 4, 3, 0, 2, 1, 11, 6, 5, 10, 7, 9, 8, 19, 16, 15, 14, 18, 17, 27, 24, 22, 23, 26, 25]), (29, [], [28, 21, 20, 13, 12, 4, 3, 0, 2, 1, 11, 6, 5, 10, 7, 9, 8, 19, 16, 15, 14, 18, 17, 27, 24, 22, 23, 26, 25]), (30, [], [29, 28, 21, 20, 13, 12, 4, 3, 0, 2, 1, 11, 6, 5, 10, 7, 9, 8, 19, 16, 15, 14, 18, 17, 27, 24, 22, 23, 26, 25]), (31, [], [29, 28, 21, 20, 13, 12, 4, 3, 0, 2, 1, 11, 6, 5, 10, 7, 9, 8, 19, 16, 15, 14, 18, 17, 27, 24, 22, 23, 26, 25]), (33, [], [29, 28, 21, 20, 13, 12, 4, 3, 0, 2, 1, 11, 6, 5, 10, 7, 9, 8, 19, 16, 15, 14, 18, 17, 27, 24, 22, 23, 26, 25]), (32, [32], [30, 29, 28, 21, 20, 13, 12, 4, 3, 0, 2, 1, 11, 6, 5, 10, 7, 9, 8, 19, 16, 15, 14, 18, 17, 27, 24, 22, 23, 26, 25, 31]), (34, [], [33, 29, 28, 21, 20, 13, 12, 4, 3, 0, 2, 1, 11, 6, 5, 10, 7, 9, 8, 19, 16, 15, 14, 18, 17, 27, 24, 22, 23, 26, 25, 32, 30, 31]), (35, [], [32, 30, 29, 28, 21, 20, 13, 12, 4, 3, 0, 2, 1, 11, 6, 5, 10, 7, 9, 8, 19, 16, 15, 14, 18, 17, 27, 24, 22, 23, 26, 25, 31, 34, 33]), (36, [], [35, 32, 30, 29, 28, 21, 20, 13, 12, 4, 3, 0, 2, 1, 11, 6, 5, 10, 7, 9, 8, 19, 16, 15, 14, 18, 17, 27, 24, 22, 23, 26, 25, 31, 34, 33]), (37, [], [29, 28, 21, 20, 13, 12, 4, 3, 0, 2, 1, 11, 6, 5, 10, 7, 9, 8, 19, 16, 15, 14, 18, 17, 27, 24, 22, 23, 26, 25, 36, 35, 32, 30, 31, 34, 33])]) (.two (.two (.reg [6] []) .leaf) .leaf)) (.two (.reg [2, 0, 16, 1, 17, 18, 8, 7, 74] []) (.two (.reg [7, 2, 0, 16, 1, 17, 18] []) .leaf)))))) (.reg [18, 7, 2, 0, 16, 1, 17] []))))))) (.two (.reg [1, 0, 13, 7, 2] []) (.two (.reg [1, 0, 15, 13, 7, 2] []) (.two (.reg [6] []) .leaf))))))
def R14 : List ARes := [.tmp 6]
theorem code14 : cCode Try.prog 112 H14 (Try.f14.body.getD .skip) = some A14 := by kernel_rfl
theorem ok14 : FunOk Try.prog 14 ⟨R14, A14⟩ := ⟨Try.f14, _, H14, 112, Try.func14, by kernel_rfl, by kernel_rfl, code14, by decide, by kernel_rfl⟩
def A15 : ACode :=
 (.seq (
  .reg [5, 1, 0] [
    ⟨(some 5), .box (.tmp 2), none⟩,
    ⟨(some 6), .val (.const (.bool false)), none⟩]) (
 (.seq (
  .reg [5, 1, 7, 0] [
    ⟨(some 21), .fldA 1 (.tmp 5), none⟩,
    ⟨(some 22), .load none (.tmp 21), none⟩,
    ⟨(some 23), .bin .geq (.tmp 22) (.const (.int .i64 0)), none⟩,
    ⟨(some 24), .val (.tmp 23), none⟩,
    ⟨(some 25), .fldA 1 (.tmp 5), (some (24, true))⟩,
    ⟨(some 26), .load none (.tmp 25), (some (24, true))⟩,
    ⟨(some 27), .val (.tmp 1), (some (24, true))⟩,
    ⟨(some 28), .len .sl (.tmp 27), (some (24, true))⟩,
    ⟨(some 29), .bin .lss (.tmp 26) (.tmp 28), (some (24, true))⟩,
    ⟨(some 30), .pick (.tmp 24) (.tmp 29) (.const (.bool false)), none⟩,
    ⟨(some 7), .val (.tmp 30), none⟩]) (
 (.seq (
  (.seq (
   .reg [5, 1, 7, 0, 34] [
     ⟨(some 31), .fldA 0 (.tmp 5), none⟩,
     ⟨(some 32), .load none (.tmp 31), none⟩,
     ⟨(some 33), .bin .rem (.tmp 32) (.const (.int .u64 5)), none⟩,
     ⟨(some 34), .bin .lss (.tmp 33) (.const (.int .u64 2)), none⟩]) (
  (.cond (.tmp 34) (
   (.seq (
    .reg [9, 8, 5, 1, 7] [
      ⟨(some 36), .val (.tmp 0), none⟩,
      ⟨(some 37), .fldA 1 (.tmp 5), none⟩,
      ⟨(some 38), .load none (.tmp 37), none⟩,
      ⟨(some 39), .fldA 2 (.tmp 5), none⟩,
      ⟨(some 40), .load none (.tmp 39), none⟩,
      ⟨(some 41), .fldA 3 (.tmp 5), none⟩,
      ⟨(some 42), .load none (.tmp 41), none⟩,
      ⟨(some 43), .call (.func 8) [(.tmp 36), (.tmp 38), (.tmp 40), (.tmp 42)], none⟩,
      ⟨(some 35), .val (.tmp 43), none⟩,
      ⟨(some 44), .extr (.tmp 35) 0, none⟩,
      ⟨(some 45), .extr (.tmp 35) 1, none⟩,
      ⟨(some 8), .val (.tmp 44), none⟩,
      ⟨(some 9), .val (.tmp 45), none⟩]) (
   (.seq (
    (.seq (
     .reg [9, 8, 5, 1, 47] [
       ⟨(some 46), .val (.tmp 7), none⟩,
       ⟨(some 47), .un .not (.tmp 46), none⟩]) (
    (.cond (.tmp 47) (
     (.seq (
      .reg [6] [
        ⟨(some 48), .val (.tmp 8), none⟩,
        ⟨(some 49), .un .not (.tmp 48), none⟩,
        ⟨(some 50), .val (.tmp 49), none⟩,
        ⟨(some 51), .val (.tmp 9), (some (50, true))⟩,
        ⟨(some 52), .bin .eql (.tmp 51) (.const (.int .i64 3)), (some (50, true))⟩,
        ⟨(some 53), .pick (.tmp 50) (.tmp 52) (.const (.bool false)), none⟩,
        ⟨(some 6), .val (.tmp 53), none⟩]) (
     .ret))) (
     .skip))))) (
   (.seq (
    .dreg [12, 9, 11, 8, 10, 5, 1] [
      (⟨(some 55), .val (.tmp 1), none⟩, []),
      (⟨(some 56), .fldA 1 (.tmp 5), none⟩, []),
      (⟨(some 57), .load none (.tmp 56), none⟩, []),
      (⟨(some 58), .idxSl 6 (.tmp 55) (.tmp 57), none⟩, []),
      (⟨(some 59), .load (some 6) (.tmp 58), none⟩, []),
      (⟨(some 60), .fldA 2 (.tmp 5), none⟩, []),
      (⟨(some 61), .load none (.tmp 60), none⟩, [2, 4]),
      (⟨(some 62), .fldA 3 (.tmp 5), none⟩, []),
      (⟨(some 63), .load none (.tmp 62), none⟩, [2, 4, 6]),
      (⟨(some 10), .new [(.bool false), (.int .i64 0), (.int .i64 0), (.int .i64 0), (.slice none 0 0), (.slice none 0 0)], none⟩, [2, 4, 6, 8]),
      (⟨(some 64), .call (.func 25) [(.tmp 59), (.tmp 61), (.tmp 63)], none⟩, [9]),
      (⟨(some 54), .val (.tmp 64), none⟩, []),
      (⟨(some 65), .extr (.tmp 54) 0, none⟩, []),
      (⟨(some 66), .extr (.tmp 54) 1, none⟩, []),
      (⟨(some 67), .extr (.tmp 54) 2, none⟩, []),
      (⟨none, .store 6 (.tmp 10) (.tmp 65), none⟩, []),
      (⟨(some 11), .val (.tmp 66), none⟩, []),
      (⟨(some 12), .val (.tmp 67), none⟩, [])]) (
   (.seq (
    .reg [12, 9, 11, 8] [
      ⟨(some 68), .val (.tmp 1), none⟩,
      ⟨(some 69), .fldA 1 (.tmp 5), none⟩,
      ⟨(some 70), .load none (.tmp 69), none⟩,
      ⟨(some 71), .load (some 6) (.tmp 10), none⟩,
      ⟨(some 72), .idxSl 6 (.tmp 68) (.tmp 70), none⟩,
      ⟨none, .store 6 (.tmp 72) (.tmp 71), none⟩]) (
   (.seq (
    .reg [6] [
      ⟨(some 73), .val (.tmp 8), none⟩,
      ⟨(some 74), .val (.tmp 11), none⟩,
      ⟨(some 75), .eqB false (.tmp 73) (.tmp 74), none⟩,
      ⟨(some 76), .val (.tmp 75), none⟩,
      ⟨(some 77), .val (.tmp 9), (some (76, true))⟩,
      ⟨(some 78), .val (.tmp 12), (some (76, true))⟩,
      ⟨(some 79), .bin .eql (.tmp 77) (.tmp 78), (some (76, true))⟩,
      ⟨(some 80), .pick (.tmp 76) (.tmp 79) (.const (.bool false)), none⟩,
      ⟨(some 6), .val (.tmp 80), none⟩]) (
   .ret))))))))))) (
   .skip))))) (
 (.seq (
  .reg [5, 1, 7, 0, 13] [
    ⟨(some 81), .fldA 2 (.tmp 5), none⟩,
    ⟨(some 82), .load none (.tmp 81), none⟩,
    ⟨(some 13), .val (.tmp 82), none⟩]) (
 (.seq (
  (.seq (
   .reg [5, 1, 7, 0, 13, 89] [
     ⟨(some 83), .val (.tmp 7), none⟩,
     ⟨(some 84), .val (.tmp 83), none⟩,
     ⟨(some 85), .fldA 0 (.tmp 5), (some (84, true))⟩,
     ⟨(some 86), .load none (.tmp 85), (some (84, true))⟩,
     ⟨(some 87), .bin .rem (.tmp 86) (.const (.int .u64 5)), (some (84, true))⟩,
     ⟨(some 88), .bin .lss (.tmp 87) (.const (.int .u64 4)), (some (84, true))⟩,
     ⟨(some 89), .pick (.tmp 84) (.tmp 88) (.const (.bool false)), none⟩]) (
  (.cond (.tmp 89) (
   .reg [5, 1, 13, 7, 0] [
     ⟨(some 90), .val (.tmp 1), none⟩,
     ⟨(some 91), .fldA 1 (.tmp 5), none⟩,
     ⟨(some 92), .load none (.tmp 91), none⟩,
     ⟨(some 93), .idxSl 6 (.tmp 90) (.tmp 92), none⟩,
     ⟨(some 94), .fldA 1 (.tmp 93), none⟩,
     ⟨(some 95), .load none (.tmp 94), none⟩,
     ⟨(some 13), .val (.tmp 95), none⟩]) (
   .skip))))) (
 (.seq (
  .reg [16, 15, 14, 5, 1, 13, 7] [
    ⟨(some 97), .val (.tmp 0), none⟩,
    ⟨(some 98), .fldA 1 (.tmp 5), none⟩,
    ⟨(some 99), .load none (.tmp 98), none⟩,
    ⟨(some 100), .val (.tmp 13), none⟩,
    ⟨(some 101), .call (.func 10) [(.tmp 97), (.tmp 99), (.tmp 100)], none⟩,
    ⟨(some 96), .val (.tmp 101), none⟩,
    ⟨(some 102), .extr (.tmp 96) 0, none⟩,
    ⟨(some 103), .extr (.tmp 96) 1, none⟩,
    ⟨(some 104), .extr (.tmp 96) 2, none⟩,
    ⟨(some 14), .val (.tmp 102), none⟩,
    ⟨(some 15), .val (.tmp 103), none⟩,
    ⟨(some 16), .val (.tmp 104), none⟩]) (
 (.seq (
  (.seq (
   .reg [16, 15, 14, 5, 1, 13, 106] [
     ⟨(some 105), .val (.tmp 7), none⟩,
     ⟨(some 106), .un .not (.tmp 105), none⟩]) (
  (.cond (.tmp 106) (
   (.seq (
    .reg [6] [
      ⟨(some 107), .val (.tmp 14), none⟩,
      ⟨(some 108), .bin .eql (.tmp 107) (.const (.int .i64 0)), none⟩,
      ⟨(some 109), .val (.tmp 108), none⟩,
      ⟨(some 110), .val (.tmp 15), (some (109, true))⟩,
      ⟨(some 111), .un .not (.tmp 110), (some (109, true))⟩,
      ⟨(some 112), .pick (.tmp 109) (.tmp 111) (.const (.bool false)), none⟩,
      ⟨(some 113), .val (.tmp 112), none⟩,
      ⟨(some 114), .val (.tmp 16), (some (113, true))⟩,
      ⟨(some 115), .bin .eql (.tmp 114) (.const (.int .i64 3)), (some (113, true))⟩,
      ⟨(some 116), .pick (.tmp 113) (.tmp 115) (.const (.bool false)), none⟩,
      ⟨(some 6), .val (.tmp 116), none⟩]) (
   .ret))) (
   .skip))))) (
 (.seq (
  .reg [20, 16, 19, 15, 18, 14, 17, 5, 1] [
    ⟨(some 118), .val (.tmp 1), none⟩,
    ⟨(some 119), .fldA 1 (.tmp 5), none⟩,
    ⟨(some 120), .load none (.tmp 119), none⟩,
    ⟨(some 121), .idxSl 6 (.tmp 118) (.tmp 120), none⟩,
    ⟨(some 122), .load (some 6) (.tmp 121), none⟩,
    ⟨(some 123), .val (.tmp 13), none⟩,
    ⟨(some 124), .call (.func 26) [(.tmp 122), (.tmp 123)], none⟩,
    ⟨(some 117), .val (.tmp 124), none⟩,
    ⟨(some 125), .extr (.tmp 117) 0, none⟩,
    ⟨(some 126), .extr (.tmp 117) 1, none⟩,
    ⟨(some 127), .extr (.tmp 117) 2, none⟩,
    ⟨(some 128), .extr (.tmp 117) 3, none⟩,
    ⟨(some 17), .new [(.bool false), (.int .i64 0), (.int .i64 0), (.int .i64 0), (.slice none 0 0), (.slice none 0 0)], none⟩,
    ⟨none, .store 6 (.tmp 17) (.tmp 125), none⟩,
    ⟨(some 18), .val (.tmp 126), none⟩,
    ⟨(some 19), .val (.tmp 127), none⟩,
    ⟨(some 20), .val (.tmp 128), none⟩]) (
 (.seq (
  .reg [20, 16, 19, 15, 18, 14] [
    ⟨(some 129), .val (.tmp 1), none⟩,
    ⟨(some 130), .fldA 1 (.tmp 5), none⟩,
    ⟨(some 131), .load none (.tmp 130), none⟩,
    ⟨(some 132), .load (some 6) (.tmp 17), none⟩,
    ⟨(some 133), .idxSl 6 (.tmp 129) (.tmp 131), none⟩,
    ⟨none, .store 6 (.tmp 133) (.tmp 132), none⟩]) (
 (.seq (
  .reg [6] [
    ⟨(some 134), .val (.tmp 14), none⟩,
    ⟨(some 135), .val (.tmp 18), none⟩,
    ⟨(some 136), .bin .eql (.tmp 134) (.tmp 135), none⟩,
    ⟨(some 137), .val (.tmp 136), none⟩,
    ⟨(some 138), .val (.tmp 15), (some (137, true))⟩,
    ⟨(some 139), .val (.tmp 19), (some (137, true))⟩,
    ⟨(some 140), .eqB false (.tmp 138) (.tmp 139), (some (137, true))⟩,
    ⟨(some 141), .pick (.tmp 137) (.tmp 140) (.const (.bool false)), none⟩,
    ⟨(some 142), .val (.tmp 141), none⟩,
    ⟨(some 143), .val (.tmp 16), (some (142, true))⟩,
    ⟨(some 144), .val (.tmp 20), (some (142, true))⟩,
    ⟨(some 145), .bin .eql (.tmp 143) (.tmp 144), (some (142, true))⟩,
    ⟨(some 146), .pick (.tmp 142) (.tmp 145) (.const (.bool false)), none⟩,
    ⟨(some 6), .val (.tmp 146), none⟩]) (
 .ret))))))))))))))))))))
def H15 : Hint := (.two (.reg [5, 1, 0] []) (.two (.reg [5, 1, 7, 0] []) (.two (.two (.reg [5, 1, 7, 0, 34] []) (.two (.two (.reg [9, 8, 5, 1, 7] []) (.two (.two (.reg [9, 8, 5, 1, 47] []) (.two (.two (.reg [6] []) .leaf) .leaf)) (.two (.reg [12, 9, 11, 8, 10, 5, 1] [(0, [], []), (1, [], []), (2, [], [1]), (3, [], [0, 2, 1]), (4, [], [3, 0, 2, 1]), (5, [], []), (6, [2, 4], [5]), (7, [], []), (8, [2, 4, 6], [7]), (14, [2, 4, 6, 8], []), (9, [9], [4, 3, 0, 2, 1, 6, 5, 8, 7]), (10, [], [9, 4, 3, 0, 2, 1, 6, 5, 8, 7]), (11, [], [10, 9, 4, 3, 0, 2, 1, 6, 5, 8, 7]), (12, [], [10, 9, 4, 3, 0, 2, 1, 6, 5, 8, 7]), (13, [], [10, 9, 4, 3, 0, 2, 1, 6, 5, 8, 7]), (15, [], [14, 11, 10, 9, 4, 3, 0, 2, 1, 6, 5, 8, 7]), (16, [], [12, 10, 9, 4, 3, 0, 2, 1, 6, 5, 8, 7, 15, 14, 11]), (17, [], [13, 10, 9, 4, 3, 0, 2, 1, 6, 5, 8, 7, 16, 12, 15, 14, 11])]) (.two (.reg [12, 9, 11, 8] []) (.two (.reg [6] []) .leaf))))) .leaf)) (.two (.reg [5, 1, 7, 0, 13] []) (.two (.two (.reg [5, 1, 7, 0, 13, 89] []) (.two (.reg [5, 1, 13, 7, 0] []) .leaf)) (.two (.reg [16, 15, 14, 5, 1, 13, 7] []) (.two (.two (.reg [16, 15, 14, 5, 1, 13, 106] []) (.two (.two (.reg [6] []) .leaf) .leaf)) (.two (.reg [20, 16, 19, 15, 18, 14, 17, 5, 1] []) (.two (.reg [20, 16, 19, 15, 18, 14] []) (.two (.reg [6] []) .leaf))))))))))
def R15 : List ARes := [.tmp 6]
theorem code15 : cCode Try.prog 147 H15 (Try.f15.body.getD .skip) = some A15 := by kernel_rfl
theorem ok15 : FunOk Try.prog 15 ⟨R15, A15⟩ := ⟨Try.f15, _, H15, 147, Try.func15, by kernel_rfl, by kernel_rfl, code15, by decide, by kernel_rfl⟩
def A16 : ACode :=
 (.seq (
  .reg [0] [
    ⟨(some 2), .val (.const (.int .i64 0)), none⟩]) (
 (.seq (
  (.seq (
   .reg [0, 4] [
     ⟨(some 3), .val (.tmp 0), none⟩,
     ⟨(some 4), .eqNil .ptr false (.tmp 3) (.const (.pointer none)), none⟩]) (
  (.cond (.tmp 4) (
   (.seq (
    .reg [2] [
      ⟨(some 2), .val (.const (.int .i64 0)), none⟩]) (
   .ret))) (
   .skip))))) (
 (.seq (
  .reg [2] [
    ⟨(some 5), .val (.tmp 0), none⟩,
    ⟨(some 6), .nilck (.tmp 5), none⟩,
    ⟨(some 7), .fldA 0 (.tmp 6), none⟩,
    ⟨(some 8), .load none (.tmp 7), none⟩,
    ⟨(some 9), .len .sl (.tmp 8), none⟩,
    ⟨(some 2), .val (.tmp 9), none⟩]) (
 .ret))))))
def H16 : Hint := (.two (.reg [0] []) (.two (.two (.reg [0, 4] []) (.two (.two (.reg [2] []) .leaf) .leaf)) (.two (.reg [2] []) .leaf)))
def R16 : List ARes := [.tmp 2]
theorem code16 : cCode Try.prog 10 H16 (Try.f16.body.getD .skip) = some A16 := by kernel_rfl
theorem ok16 : FunOk Try.prog 16 ⟨R16, A16⟩ := ⟨Try.f16, _, H16, 10, Try.func16, by kernel_rfl, by kernel_rfl, code16, by decide, by kernel_rfl⟩
def A17 : ACode :=
 (.seq (
  .reg [4, 1, 0] [
    ⟨(some 4), .val (.const (.slice none 0 0)), none⟩]) (
 (.seq (
  (.seq (
   .reg [10, 4, 1, 0, 9] [
     ⟨(some 8), .val (.tmp 0), none⟩,
     ⟨(some 9), .call (.func 16) [(.tmp 8)], none⟩,
     ⟨(some 10), .val (.const (.int .i64 0)), none⟩]) (
  (.block 0 (
   (.loop (
    (.seq (
     .reg [1, 0, 9, 10, 4, 11] [
       ⟨(some 11), .bin .lss (.tmp 10) (.tmp 9), none⟩]) (
    (.seq (
     (.cond (.tmp 11) (
      .skip) (
      .exit 0))) (
    (.seq (
     (.block 1 (
      (.seq (
       .reg [1, 0, 9, 10, 5, 4] [
         ⟨(some 12), .val (.tmp 10), none⟩,
         ⟨(some 5), .val (.tmp 12), none⟩]) (
      (.seq (
       .reg [1, 0, 9, 10, 5, 4, 6, 7] [
         ⟨(some 14), .val (.tmp 0), none⟩,
         ⟨(some 15), .val (.tmp 5), none⟩,
         ⟨(some 16), .call (.func 9) [(.tmp 14), (.tmp 15)], none⟩,
         ⟨(some 13), .val (.tmp 16), none⟩,
         ⟨(some 17), .extr (.tmp 13) 0, none⟩,
         ⟨(some 18), .extr (.tmp 13) 1, none⟩,
         ⟨(some 6), .val (.tmp 17), none⟩,
         ⟨(some 7), .val (.tmp 18), none⟩]) (
      (.seq (
       .reg [1, 0, 9, 10, 5, 4, 24] [
         ⟨(some 19), .val (.tmp 7), none⟩,
         ⟨(some 20), .val (.tmp 19), none⟩,
         ⟨(some 21), .val (.tmp 6), (some (20, true))⟩,
         ⟨(some 22), .val (.tmp 1), (some (20, true))⟩,
         ⟨(some 23), .bin .eql (.tmp 21) (.tmp 22), (some (20, true))⟩,
         ⟨(some 24), .pick (.tmp 20) (.tmp 23) (.const (.bool false)), none⟩]) (
      (.cond (.tmp 24) (
       .reg [4, 1, 0, 9, 10] [
         ⟨(some 25), .val (.tmp 4), none⟩,
         ⟨(some 26), .val (.tmp 5), none⟩,
         ⟨(some 27), .buildSl 1 [(.int .i64 0)] [(0, 1, (.tmp 26))], none⟩,
         ⟨(some 28), .append 1 8 (.tmp 25) (.tmp 27), none⟩,
         ⟨(some 4), .val (.tmp 28), none⟩]) (
       .skip))))))))))) (
    .reg [10, 4, 1, 0, 9] [
      ⟨(some 29), .bin .add (.tmp 10) (.const (.int .i64 1)), none⟩,
      ⟨(some 10), .val (.tmp 29), none⟩]))))))))))))) (
 (.seq (
  .reg [4] [
    ⟨(some 30), .val (.tmp 4), none⟩,
    ⟨(some 4), .val (.tmp 30), none⟩]) (
 .ret))))))
def H17 : Hint := (.two (.reg [4, 1, 0] []) (.two (.two (.reg [10, 4, 1, 0, 9] []) (.one (.one (.two (.reg [1, 0, 9, 10, 4, 11] []) (.two (.two .leaf .leaf) (.two (.one (.two (.reg [1, 0, 9, 10, 5, 4] []) (.two (.reg [1, 0, 9, 10, 5, 4, 6, 7] []) (.two (.reg [1, 0, 9, 10, 5, 4, 24] []) (.two (.reg [4, 1, 0, 9, 10] []) .leaf))))) (.reg [10, 4, 1, 0, 9] []))))))) (.two (.reg [4] []) .leaf)))
def R17 : List ARes := [.tmp 4]
theorem code17 : cCode Try.prog 31 H17 (Try.f17.body.getD .skip) = some A17 := by kernel_rfl
theorem ok17 : FunOk Try.prog 17 ⟨R17, A17⟩ := ⟨Try.f17, _, H17, 31, Try.func17, by kernel_rfl, by kernel_rfl, code17, by decide, by kernel_rfl⟩
def A18 : ACode :=
 (.seq (
  .reg [1, 0] [
    ⟨(some 4), .val (.const (.pointer none)), none⟩]) (
 (.seq (
  (.seq (
   .reg [1, 0, 12] [
     ⟨(some 5), .val (.tmp 1), none⟩,
     ⟨(some 6), .bin .lss (.tmp 5) (.const (.int .i64 0)), none⟩,
     ⟨(some 7), .val (.tmp 6), none⟩,
     ⟨(some 8), .val (.tmp 1), (some (7, false))⟩,
     ⟨(some 9), .val (.tmp 0), (some (7, false))⟩,
     ⟨(some 10), .call (.func 16) [(.tmp 9)], (some (7, false))⟩,
     ⟨(some 11), .bin .geq (.tmp 8) (.tmp 10), (some (7, false))⟩,
     ⟨(some 12), .pick (.tmp 7) (.const (.bool true)) (.tmp 11), none⟩]) (
  (.cond (.tmp 12) (
   (.seq (
    .reg [4] [
      ⟨(some 4), .val (.const (.pointer none)), none⟩]) (
   .ret))) (
   .skip))))) (
 (.seq (
  .reg [4] [
    ⟨(some 13), .val (.tmp 0), none⟩,
    ⟨(some 14), .nilck (.tmp 13), none⟩,
    ⟨(some 15), .fldA 0 (.tmp 14), none⟩,
    ⟨(some 16), .load none (.tmp 15), none⟩,
    ⟨(some 17), .val (.tmp 1), none⟩,
    ⟨(some 18), .idxSl 5 (.tmp 16) (.tmp 17), none⟩,
    ⟨(some 4), .val (.tmp 18), none⟩]) (
 .ret))))))
def H18 : Hint := (.two (.reg [1, 0] []) (.two (.two (.reg [1, 0, 12] []) (.two (.two (.reg [4] []) .leaf) .leaf)) (.two (.reg [4] []) .leaf)))
def R18 : List ARes := [.tmp 4]
theorem code18 : cCode Try.prog 19 H18 (Try.f18.body.getD .skip) = some A18 := by kernel_rfl
theorem ok18 : FunOk Try.prog 18 ⟨R18, A18⟩ := ⟨Try.f18, _, H18, 19, Try.func18, by kernel_rfl, by kernel_rfl, code18, by decide, by kernel_rfl⟩
def A19 : ACode :=
 (.seq (
  .reg [3, 0] [
    ⟨(some 3), .box (.tmp 1), none⟩,
    ⟨(some 4), .val (.const (.bool false)), none⟩]) (
 (.seq (
  .reg [4] [
    ⟨(some 5), .val (.tmp 0), none⟩,
    ⟨(some 6), .nilck (.tmp 5), none⟩,
    ⟨(some 7), .fldA 4 (.tmp 6), none⟩,
    ⟨(some 8), .load none (.tmp 7), none⟩,
    ⟨(some 9), .mkFn (.func 28) [] [(.tmp 3)], none⟩,
    ⟨(some 10), .call (.func 27) [(.tmp 8), (.tmp 9)], none⟩,
    ⟨(some 4), .val (.tmp 10), none⟩]) (
 .ret))))
def H19 : Hint := (.two (.reg [3, 0] []) (.two (.reg [4] []) .leaf))
def R19 : List ARes := [.tmp 4]
theorem code19 : cCode Try.prog 11 H19 (Try.f19.body.getD .skip) = some A19 := by kernel_rfl
theorem ok19 : FunOk Try.prog 19 ⟨R19, A19⟩ := ⟨Try.f19, _, H19, 11, Try.func19, by kernel_rfl, by kernel_rfl, code19, by decide, by kernel_rfl⟩
def A20 : ACode :=
 (.seq (
  .reg [3, 0] [
    ⟨(some 3), .box (.tmp 1), none⟩,
    ⟨(some 4), .val (.const (.int .i64 0)), none⟩]) (
 (.seq (
  .reg [4] [
    ⟨(some 5), .val (.tmp 0), none⟩,
    ⟨(some 6), .nilck (.tmp 5), none⟩,
    ⟨(some 7), .fldA 4 (.tmp 6), none⟩,
    ⟨(some 8), .load none (.tmp 7), none⟩,
    ⟨(some 9), .mkFn (.func 31) [] [(.tmp 3)], none⟩,
    ⟨(some 10), .call (.func 30) [(.tmp 8), (.tmp 9)], none⟩,
    ⟨(some 4), .val (.tmp 10), none⟩]) (
 .ret))))
def H20 : Hint := (.two (.reg [3, 0] []) (.two (.reg [4] []) .leaf))
def R20 : List ARes := [.tmp 4]
theorem code20 : cCode Try.prog 11 H20 (Try.f20.body.getD .skip) = some A20 := by kernel_rfl
theorem ok20 : FunOk Try.prog 20 ⟨R20, A20⟩ := ⟨Try.f20, _, H20, 11, Try.func20, by kernel_rfl, by kernel_rfl, code20, by decide, by kernel_rfl⟩
def A21 : ACode :=
 (.seq (
  .reg [1, 0] [
    ⟨(some 4), .val (.const (.int .i64 0)), none⟩]) (
 (.seq (
  .reg [5, 1, 0] [
    ⟨(some 6), .val (.tmp 0), none⟩,
    ⟨(some 7), .nilck (.tmp 6), none⟩,
    ⟨(some 8), .fldA 4 (.tmp 7), none⟩,
    ⟨(some 9), .load none (.tmp 8), none⟩,
    ⟨(some 10), .val (.tmp 1), none⟩,
    ⟨(some 11), .idxSl 2 (.tmp 9) (.tmp 10), none⟩,
    ⟨(some 12), .fldA 1 (.tmp 11), none⟩,
    ⟨(some 13), .load none (.tmp 12), none⟩,
    ⟨(some 14), .idxSl 1 (.tmp 13) (.const (.int .i64 0)), none⟩,
    ⟨(some 15), .load none (.tmp 14), none⟩,
    ⟨(some 5), .val (.tmp 15), none⟩]) (
 (.seq (
  .dreg [5, 1, 0] [
    (⟨(some 16), .val (.tmp 0), none⟩, []),
    (⟨(some 17), .nilck (.tmp 16), none⟩, []),
    (⟨(some 18), .fldA 4 (.tmp 17), none⟩, []),
    (⟨(some 19), .load none (.tmp 18), none⟩, []),
    (⟨(some 20), .val (.tmp 1), none⟩, []),
    (⟨(some 21), .val (.tmp 0), none⟩, []),
    (⟨(some 22), .nilck (.tmp 21), none⟩, []),
    (⟨(some 23), .fldA 4 (.tmp 22), none⟩, []),
    (⟨(some 24), .load none (.tmp 23), none⟩, [3]),
    (⟨(some 25), .val (.tmp 1), none⟩, []),
    (⟨(some 26), .idxSl 2 (.tmp 24) (.tmp 25), none⟩, []),
    (⟨(some 27), .fldA 1 (.tmp 26), none⟩, []),
    (⟨(some 28), .load none (.tmp 27), none⟩, [3]),
    (⟨(some 29), .call (.func 32) [(.tmp 28), (.const (.int .i64 0)), (.const (.int .i64 1))], none⟩, [3]),
    (⟨(some 30), .idxSl 2 (.tmp 19) (.tmp 20), none⟩, []),
    (⟨(some 31), .fldA 1 (.tmp 30), none⟩, []),
    (⟨none, .store 1 (.tmp 31) (.tmp 29), none⟩, [])]) (
 (.seq (
  (.seq (
   .reg [5, 1, 0, 41] [
     ⟨(some 32), .val (.tmp 0), none⟩,
     ⟨(some 33), .nilck (.tmp 32), none⟩,
     ⟨(some 34), .fldA 4 (.tmp 33), none⟩,
     ⟨(some 35), .load none (.tmp 34), none⟩,
     ⟨(some 36), .val (.tmp 1), none⟩,
     ⟨(some 37), .idxSl 2 (.tmp 35) (.tmp 36), none⟩,
     ⟨(some 38), .fldA 1 (.tmp 37), none⟩,
     ⟨(some 39), .load none (.tmp 38), none⟩,
     ⟨(some 40), .len .sl (.tmp 39), none⟩,
     ⟨(some 41), .bin .eql (.tmp 40) (.const (.int .i64 0)), none⟩]) (
  (.cond (.tmp 41) (
   .reg [5] [
     ⟨(some 42), .val (.tmp 0), none⟩,
     ⟨(some 43), .val (.tmp 0), none⟩,
     ⟨(some 44), .nilck (.tmp 43), none⟩,
     ⟨(some 45), .fldA 4 (.tmp 44), none⟩,
     ⟨(some 46), .load none (.tmp 45), none⟩,
     ⟨(some 47), .val (.tmp 1), none⟩,
     ⟨(some 48), .val (.tmp 1), none⟩,
     ⟨(some 49), .bin .add (.tmp 48) (.const (.int .i64 1)), none⟩,
     ⟨(some 50), .call (.func 33) [(.tmp 46), (.tmp 47), (.tmp 49)], none⟩,
     ⟨(some 51), .nilck (.tmp 42), none⟩,
     ⟨(some 52), .fldA 4 (.tmp 51), none⟩,
     ⟨none, .store 1 (.tmp 52) (.tmp 50), none⟩]) (
   .skip))))) (
 (.seq (
  .reg [4] [
    ⟨(some 53), .val (.tmp 5), none⟩,
    ⟨(some 4), .val (.tmp 53), none⟩]) (
 .ret))))))))))
def H21 : Hint := (.two (.reg [1, 0] []) (.two (.reg [5, 1, 0] []) (.two (.reg [5, 1, 0] [(0, [], []), (1, [], [0]), (2, [], [1, 0]), (3, [], [2, 1, 0]), (4, [], []), (5, [], []), (6, [], [5]), (7, [], [6, 5]), (8, [3], [7, 6, 5]), (9, [], []), (10, [], [8, 7, 6, 5, 9]), (11, [], [10, 8, 7, 6, 5, 9]), (12, [3], [11, 10, 8, 7, 6, 5, 9]), (13, [3], [12, 11, 10, 8, 7, 6, 5, 9]), (14, [], [3, 2, 1, 0, 4, 5, 6, 7, 8, 9, 10, 11, 12, 13]), (15, [], [14, 3, 2, 1, 0, 4, 5, 6, 7, 8, 9, 10, 11, 12, 13]), (16, [], [15, 14, 3, 2, 1, 0, 4, 5, 6, 7, 8, 9, 10, 11, 12, 13])]) (.two (.two (.reg [5, 1, 0, 41] []) (.two (.reg [5] []) .leaf)) (.two (.reg [4] []) .leaf)))))
def R21 : List ARes := [.tmp 4]
theorem code21 : cCode Try.prog 54 H21 (Try.f21.body.getD .skip) = some A21 := by kernel_rfl
theorem ok21 : FunOk Try.prog 21 ⟨R21, A21⟩ := ⟨Try.f21, _, H21, 54, Try.func21, by kernel_rfl, by kernel_rfl, code21, by decide, by kernel_rfl⟩
def A22 : ACode :=
 (.seq (
  .reg [0] [
    ⟨(some 2), .val (.const (.int .i64 0)), none⟩]) (
 (.seq (
  .reg [0, 3] [
    ⟨(some 8), .val (.tmp 0), none⟩,
    ⟨(some 9), .nilck (.tmp 8), none⟩,
    ⟨(some 10), .fldA 2 (.tmp 9), none⟩,
    ⟨(some 11), .load none (.tmp 10), none⟩,
    ⟨(some 3), .new [(.int .i64 0)], none⟩,
    ⟨none, .store 1 (.tmp 3) (.tmp 11), none⟩]) (
 (.seq (
  .reg [0, 3, 4] [
    ⟨(some 12), .val (.tmp 0), none⟩,
    ⟨(some 13), .nilck (.tmp 12), none⟩,
    ⟨(some 14), .fldA 4 (.tmp 13), none⟩,
    ⟨(some 15), .load none (.tmp 14), none⟩,
    ⟨(some 16), .mkFn (.func 34) [] [(.tmp 3)], none⟩,
    ⟨(some 17), .call (.func 30) [(.tmp 15), (.tmp 16)], none⟩,
    ⟨(some 4), .val (.tmp 17), none⟩]) (
 (.seq (
  .reg [0, 3, 4] [
    ⟨(some 18), .val (.tmp 0), none⟩,
    ⟨(some 19), .val (.tmp 0), none⟩,
    ⟨(some 20), .val (.tmp 0), none⟩,
    ⟨(some 21), .nilck (.tmp 20), none⟩,
    ⟨(some 22), .fldA 4 (.tmp 21), none⟩,
    ⟨(some 23), .load none (.tmp 22), none⟩,
    ⟨(some 24), .val (.tmp 4), none⟩,
    ⟨(some 25), .idxSl 2 (.tmp 23) (.tmp 24), none⟩,
    ⟨(some 26), .fldA 0 (.tmp 25), none⟩,
    ⟨(some 27), .load none (.tmp 26), none⟩,
    ⟨(some 28), .nilck (.tmp 18), none⟩,
    ⟨(some 29), .fldA 2 (.tmp 28), none⟩,
    ⟨none, .store 1 (.tmp 29) (.tmp 27), none⟩,
    ⟨(some 30), .nilck (.tmp 19), none⟩,
    ⟨(some 31), .fldA 3 (.tmp 30), none⟩,
    ⟨none, .store 1 (.tmp 31) (.const (.int .i64 0)), none⟩]) (
 (.seq (
  .reg [5, 0, 3] [
    ⟨(some 32), .val (.tmp 0), none⟩,
    ⟨(some 33), .val (.tmp 4), none⟩,
    ⟨(some 34), .call (.func 21) [(.tmp 32), (.tmp 33)], none⟩,
    ⟨(some 5), .val (.tmp 34), none⟩]) (
 (.seq (
  (.seq (
   .reg [5, 6, 0] [
     ⟨(some 35), .val (.tmp 0), none⟩,
     ⟨(some 36), .load none (.tmp 3), none⟩,
     ⟨(some 37), .call (.func 20) [(.tmp 35), (.tmp 36)], none⟩,
     ⟨(some 6), .val (.tmp 37), none⟩]) (
  (.seq (
   .reg [5, 6, 0, 39] [
     ⟨(some 38), .val (.tmp 6), none⟩,
     ⟨(some 39), .bin .geq (.tmp 38) (.const (.int .i64 0)), none⟩]) (
  (.cond (.tmp 39) (
   (.seq (
    .reg [5, 7, 6, 0] [
      ⟨(some 40), .val (.tmp 0), none⟩,
      ⟨(some 41), .nilck (.tmp 40), none⟩,
      ⟨(some 42), .fldA 4 (.tmp 41), none⟩,
      ⟨(some 43), .load none (.tmp 42), none⟩,
      ⟨(some 44), .val (.tmp 6), none⟩,
      ⟨(some 45), .idxSl 2 (.tmp 43) (.tmp 44), none⟩,
      ⟨(some 46), .load (some 2) (.tmp 45), none⟩,
      ⟨(some 7), .new [(.int .i64 0), (.slice none 0 0)], none⟩,
      ⟨none, .store 2 (.tmp 7) (.tmp 46), none⟩]) (
   .dreg [5] [
     (⟨(some 47), .val (.tmp 0), none⟩, []),
     (⟨(some 48), .val (.tmp 0), none⟩, []),
     (⟨(some 49), .nilck (.tmp 48), none⟩, []),
     (⟨(some 50), .fldA 4 (.tmp 49), none⟩, []),
     (⟨(some 51), .load none (.tmp 50), none⟩, []),
     (⟨(some 52), .val (.tmp 6), none⟩, []),
     (⟨(some 53), .val (.tmp 6), none⟩, []),
     (⟨(some 54), .bin .add (.tmp 53) (.const (.int .i64 1)), none⟩, []),
     (⟨(some 56), .load (some 2) (.tmp 7), none⟩, [4]),
     (⟨(some 57), .buildSl 1 [(.int .i64 0), (.slice none 0 0)] [(0, 2, (.tmp 56))], none⟩, [4]),
     (⟨(some 55), .call (.func 33) [(.tmp 51), (.tmp 52), (.tmp 54)], none⟩, [8, 9]),
     (⟨(some 58), .append 2 32 (.tmp 55) (.tmp 57), none⟩, []),
     (⟨(some 59), .nilck (.tmp 47), none⟩, []),
     (⟨(some 60), .fldA 4 (.tmp 59), none⟩, []),
     (⟨none, .store 1 (.tmp 60) (.tmp 58), none⟩, [])]))) (
   .skip))))))) (
 (.seq (
  .reg [2] [
    ⟨(some 61), .val (.tmp 5), none⟩,
    ⟨(some 2), .val (.tmp 61), none⟩]) (
 .ret))))))))))))))
def H22 : Hint := (.two (.reg [0] []) (.two (.reg [0, 3] []) (.two (.reg [0, 3, 4] []) (.two (.reg [0, 3, 4] []) (.two (.reg [5, 0, 3] []) (.two (.two (.reg [5, 6, 0] []) (.two (.reg [5, 6, 0, 39] []) (.two (.two (.reg [5, 7, 6, 0] []) (.reg [5] [(0, [], []), (1, [], []), (2, [], [1]), (3, [], [2, 1]), (4, [], [3, 2, 1]), (5, [], []), (6, [], []), (7, [], [6]), (9, [4], []), (10, [4], [9]), (8, [8, 9], [4, 3, 2, 1, 5, 7, 6]), (11, [], [8, 4, 3, 2, 1, 5, 7, 6, 10, 9]), (12, [], [0, 1, 2, 3, 4, 5, 6, 7, 8, 9, 10, 11]), (13, [], [12, 0, 1, 2, 3, 4, 5, 6, 7, 8, 9, 10, 11]), (14, [], [13, 12, 0, 1, 2, 3, 4, 5, 6, 7, 8, 9, 10, 11])])) .leaf))) (.two (.reg [2] []) .leaf)))))))
def R22 : List ARes := [.tmp 2]
theorem code22 : cCode Try.prog 62 H22 (Try.f22.body.getD .skip) = some A22 := by kernel_rfl
theorem ok22 : FunOk Try.prog 22 ⟨R22, A22⟩ := ⟨Try.f22, _, H22, 62, Try.func22, by kernel_rfl, by kernel_rfl, code22, by decide, by kernel_rfl⟩
def A23 : ACode :=
 (.seq (
  .reg [1, 0] [
    ⟨(some 4), .val (.const (.bool false)), none⟩]) (
 (.seq (
  (.seq (
   .reg [1, 0, 10] [
     ⟨(some 6), .val (.tmp 0), none⟩,
     ⟨(some 7), .len .sl (.tmp 6), none⟩,
     ⟨(some 8), .val (.tmp 1), none⟩,
     ⟨(some 9), .len .sl (.tmp 8), none⟩,
     ⟨(some 10), .bin .neq (.tmp 7) (.tmp 9), none⟩]) (
  (.cond (.tmp 10) (
   (.seq (
    .reg [4] [
      ⟨(some 4), .val (.const (.bool false)), none⟩]) (
   .ret))) (
   .skip))))) (
 (.seq (
  (.seq (
   .reg [13, 1, 0, 12] [
     ⟨(some 11), .val (.tmp 0), none⟩,
     ⟨(some 12), .len .sl (.tmp 11), none⟩,
     ⟨(some 13), .val (.const (.int .i64 0)), none⟩]) (
  (.block 0 (
   (.loop (
    (.seq (
     .reg [1, 0, 12, 13, 14] [
       ⟨(some 14), .bin .lss (.tmp 13) (.tmp 12), none⟩]) (
    (.seq (
     (.cond (.tmp 14) (
      .skip) (
      .exit 0))) (
    (.seq (
     (.block 1 (
      (.seq (
       .reg [1, 0, 12, 13, 5] [
         ⟨(some 15), .val (.tmp 13), none⟩,
         ⟨(some 5), .val (.tmp 15), none⟩]) (
      (.seq (
       .dreg [1, 0, 12, 13, 24] [
         (⟨(some 16), .val (.tmp 0), none⟩, []),
         (⟨(some 17), .val (.tmp 5), none⟩, []),
         (⟨(some 18), .idxSl 1 (.tmp 16) (.tmp 17), none⟩, []),
         (⟨(some 19), .load none (.tmp 18), none⟩, []),
         (⟨(some 20), .val (.tmp 1), none⟩, []),
         (⟨(some 21), .val (.tmp 5), none⟩, []),
         (⟨(some 22), .idxSl 1 (.tmp 20) (.tmp 21), none⟩, []),
         (⟨(some 23), .load none (.tmp 22), none⟩, [3]),
         (⟨(some 24), .bin .neq (.tmp 19) (.tmp 23), none⟩, [])]) (
      (.cond (.tmp 24) (
       (.seq (
        .reg [4] [
          ⟨(some 4), .val (.const (.bool false)), none⟩]) (
       .ret))) (
       .skip))))))))) (
    .reg [13, 1, 0, 12] [
      ⟨(some 25), .bin .add (.tmp 13) (.const (.int .i64 1)), none⟩,
      ⟨(some 13), .val (.tmp 25), none⟩]))))))))))))) (
 (.seq (
  .reg [4] [
    ⟨(some 4), .val (.const (.bool true)), none⟩]) (
 .ret))))))))
def H23 : Hint := (.two (.reg [1, 0] []) (.two (.two (.reg [1, 0, 10] []) (.two (.two (.reg [4] []) .leaf) .leaf)) (.two (.two (.reg [13, 1, 0, 12] []) (.one (.one (.two (.reg [1, 0, 12, 13, 14] []) (.two (.two .leaf .leaf) (.two (.one (.two (.reg [1, 0, 12, 13, 5] []) (.two (.reg [1, 0, 12, 13, 24] [(0, [], []), (1, [], []), (2, [], [0, 1]), (3, [], [2, 0, 1]), (4, [], []), (5, [], []), (6, [], [4, 5]), (7, [3], [6, 4, 5]), (8, [], [3, 2, 0, 1, 7, 6, 4, 5])]) (.two (.two (.reg [4] []) .leaf) .leaf)))) (.reg [13, 1, 0, 12] []))))))) (.two (.reg [4] []) .leaf))))
def R23 : List ARes := [.tmp 4]
theorem code23 : cCode Try.prog 26 H23 (Try.f23.body.getD .skip) = some A23 := by kernel_rfl
theorem ok23 : FunOk Try.prog 23 ⟨R23, A23⟩ := ⟨Try.f23, _, H23, 26, Try.func23, by kernel_rfl, by kernel_rfl, code23, by decide, by kernel_rfl⟩
def A24 : ACode :=
 (.seq (
  .reg [1] [
    ⟨(some 1), .box (.tmp 0), none⟩,
    ⟨(some 2), .val (.const (.slice none 0 0)), none⟩]) (
 (.seq (
  .reg [3, 1] [
    ⟨(some 3), .val (.const (.slice none 0 0)), none⟩]) (
 (.seq (
  (.seq (
   .reg [3, 11, 1, 9, 10] [
     ⟨(some 8), .fldA 5 (.tmp 1), none⟩,
     ⟨(some 9), .load none (.tmp 8), none⟩,
     ⟨(some 10), .len .sl (.tmp 9), none⟩,
     ⟨(some 11), .val (.const (.int .i64 0)), none⟩]) (
  (.block 0 (
   (.loop (
    (.seq (
     .reg [3, 1, 9, 10, 11, 12] [
       ⟨(some 12), .bin .lss (.tmp 11) (.tmp 10), none⟩]) (
    (.seq (
     (.cond (.tmp 12) (
      .skip) (
      .exit 0))) (
    (.seq (
     (.block 1 (
      (.seq (
       .reg [3, 5, 1, 9, 10, 11] [
         ⟨(some 13), .idxSl 1 (.tmp 9) (.tmp 11), none⟩,
         ⟨(some 14), .load none (.tmp 13), none⟩,
         ⟨(some 5), .val (.tmp 14), none⟩]) (
      (.seq (
       .reg [18, 3, 5, 16, 1, 9, 10, 11, 17] [
         ⟨(some 15), .fldA 4 (.tmp 1), none⟩,
         ⟨(some 16), .load none (.tmp 15), none⟩,
         ⟨(some 17), .len .sl (.tmp 16), none⟩,
         ⟨(some 18), .val (.const (.int .i64 0)), none⟩]) (
      (.block 2 (
       (.loop (
        (.seq (
         .reg [5, 16, 1, 9, 10, 11, 17, 18, 3, 19] [
           ⟨(some 19), .bin .lss (.tmp 18) (.tmp 17), none⟩]) (
        (.seq (
         (.cond (.tmp 19) (
          .skip) (
          .exit 2))) (
        (.seq (
         (.block 3 (
          (.seq (
           .reg [5, 16, 1, 9, 10, 11, 17, 18, 7, 3] [
             ⟨(some 20), .idxSl 2 (.tmp 16) (.tmp 18), none⟩,
             ⟨(some 21), .load (some 2) (.tmp 20), none⟩,
             ⟨(some 7), .new [(.int .i64 0), (.int .i64 0)], none⟩,
             ⟨none, .store 2 (.tmp 7) (.tmp 21), none⟩]) (
          (.seq (
           .reg [5, 16, 1, 9, 10, 11, 17, 18, 7, 3, 25] [
             ⟨(some 22), .fldA 1 (.tmp 7), none⟩,
             ⟨(some 23), .load none (.tmp 22), none⟩,
             ⟨(some 24), .val (.tmp 5), none⟩,
             ⟨(some 25), .bin .eql (.tmp 23) (.tmp 24), none⟩]) (
          (.cond (.tmp 25) (
           .reg [3, 5, 16, 1, 9, 10, 11, 17, 18] [
             ⟨(some 26), .val (.tmp 3), none⟩,
             ⟨(some 27), .fldA 0 (.tmp 7), none⟩,
             ⟨(some 28), .load none (.tmp 27), none⟩,
             ⟨(some 29), .buildSl 1 [(.int .i64 0)] [(0, 1, (.tmp 28))], none⟩,
             ⟨(some 30), .append 1 8 (.tmp 26) (.tmp 29), none⟩,
             ⟨(some 3), .val (.tmp 30), none⟩]) (
           .skip))))))))) (
        .reg [18, 3, 5, 16, 1, 9, 10, 11, 17] [
          ⟨(some 31), .bin .add (.tmp 18) (.const (.int .i64 1)), none⟩,
          ⟨(some 18), .val (.tmp 31), none⟩]))))))))))))))))) (
    .reg [3, 11, 1, 9, 10] [
      ⟨(some 32), .bin .add (.tmp 11) (.const (.int .i64 1)), none⟩,
      ⟨(some 11), .val (.tmp 32), none⟩]))))))))))))) (
 (.seq (
  .reg [2] [
    ⟨(some 33), .val (.tmp 3), none⟩,
    ⟨(some 2), .val (.tmp 33), none⟩]) (
 .ret))))))))
def H24 : Hint := (.two (.reg [1] []) (.two (.reg [3, 1] []) (.two (.two (.reg [3, 11, 1, 9, 10] []) (.one (.one (.two (.reg [3, 1, 9, 10, 11, 12] []) (.two (.two .leaf .leaf) (.two (.one (.two (.reg [3, 5, 1, 9, 10, 11] []) (.two (.reg [18, 3, 5, 16, 1, 9, 10, 11, 17] []) (.one (.one (.two (.reg [5, 16, 1, 9, 10, 11, 17, 18, 3, 19] []) (.two (.two .leaf .leaf) (.two (.one (.two (.reg [5, 16, 1, 9, 10, 11, 17, 18, 7, 3] []) (.two (.reg [5, 16, 1, 9, 10, 11, 17, 18, 7, 3, 25] []) (.two (.reg [3, 5, 16, 1, 9, 10, 11, 17, 18] []) .leaf)))) (.reg [18, 3, 5, 16, 1, 9, 10, 11, 17] []))))))))) (.reg [3, 11, 1, 9, 10] []))))))) (.two (.reg [2] []) .leaf))))
def R24 : List ARes := [.tmp 2]
theorem code24 : cCode Try.prog 34 H24 (Try.f24.body.getD .skip) = some A24 := by kernel_rfl
theorem ok24 : FunOk Try.prog 24 ⟨R24, A24⟩ := ⟨Try.f24, _, H24, 34, Try.func24, by kernel_rfl, by kernel_rfl, code24, by decide, by kernel_rfl⟩
def A25 : ACode :=
 (.seq (
  .reg [6, 3, 1, 2] [
    ⟨(some 3), .box (.tmp 0), none⟩,
    ⟨(some 6), .new [(.bool false), (.int .i64 0), (.int .i64 0), (.int .i64 0), (.slice none 0 0), (.slice none 0 0)], none⟩,
    ⟨(some 7), .val (.const (.bool false)), none⟩,
    ⟨(some 8), .val (.const (.int .i64 0)), none⟩]) (
 (.seq (
  (.seq (
   .reg [6, 3, 1, 2, 17] [
     ⟨(some 12), .val (.tmp 1), none⟩,
     ⟨(some 13), .bin .lss (.tmp 12) (.const (.int .i64 0)), none⟩,
     ⟨(some 14), .val (.tmp 13), none⟩,
     ⟨(some 15), .val (.tmp 2), (some (14, false))⟩,
     ⟨(some 16), .bin .lss (.tmp 15) (.const (.int .i64 0)), (some (14, false))⟩,
     ⟨(some 17), .pick (.tmp 14) (.const (.bool true)) (.tmp 16), none⟩]) (
  (.cond (.tmp 17) (
   (.seq (
    .reg [6, 7, 8] [
      ⟨(some 18), .load (some 6) (.tmp 3), none⟩,
      ⟨none, .store 6 (.tmp 6) (.tmp 18), none⟩,
      ⟨(some 7), .val (.const (.bool false)), none⟩,
      ⟨(some 8), .val (.const (.int .i64 1)), none⟩]) (
   .ret))) (
   .skip))))) (
 (.seq (
  (.seq (
   .reg [6, 3, 1, 2, 26] [
     ⟨(some 19), .fldA 0 (.tmp 3), none⟩,
     ⟨(some 20), .load none (.tmp 19), none⟩,
     ⟨(some 21), .val (.tmp 20), none⟩,
     ⟨(some 22), .fldA 1 (.tmp 3), (some (21, true))⟩,
     ⟨(some 23), .load none (.tmp 22), (some (21, true))⟩,
     ⟨(some 24), .val (.tmp 1), (some (21, true))⟩,
     ⟨(some 25), .bin .eql (.tmp 23) (.tmp 24), (some (21, true))⟩,
     ⟨(some 26), .pick (.tmp 21) (.tmp 25) (.const (.bool false)), none⟩]) (
  (.cond (.tmp 26) (
   (.seq (
    .reg [6, 7, 8] [
      ⟨(some 27), .load (some 6) (.tmp 3), none⟩,
      ⟨none, .store 6 (.tmp 6) (.tmp 27), none⟩,
      ⟨(some 7), .val (.const (.bool false)), none⟩,
      ⟨(some 8), .val (.const (.int .i64 8)), none⟩]) (
   .ret))) (
   .skip))))) (
 (.seq (
  (.seq (
   .reg [6, 3, 31, 1, 29, 2, 30] [
     ⟨(some 28), .fldA 4 (.tmp 3), none⟩,
     ⟨(some 29), .load none (.tmp 28), none⟩,
     ⟨(some 30), .len .sl (.tmp 29), none⟩,
     ⟨(some 31), .val (.const (.int .i64 0)), none⟩]) (
  (.block 0 (
   (.loop (
    (.seq (
     .reg [6, 3, 1, 29, 2, 30, 31, 32] [
       ⟨(some 32), .bin .lss (.tmp 31) (.tmp 30), none⟩]) (
    (.seq (
     (.cond (.tmp 32) (
      .skip) (
      .exit 0))) (
    (.seq (
     (.block 1 (
      (.seq (
       .reg [6, 3, 1, 29, 2, 30, 31, 10] [
         ⟨(some 33), .idxSl 2 (.tmp 29) (.tmp 31), none⟩,
         ⟨(some 34), .load (some 2) (.tmp 33), none⟩,
         ⟨(some 10), .new [(.int .i64 0), (.int .i64 0)], none⟩,
         ⟨none, .store 2 (.tmp 10) (.tmp 34), none⟩]) (
      (.seq (
       .reg [6, 3, 1, 29, 2, 30, 31, 38] [
         ⟨(some 35), .fldA 0 (.tmp 10), none⟩,
         ⟨(some 36), .load none (.tmp 35), none⟩,
         ⟨(some 37), .val (.tmp 1), none⟩,
         ⟨(some 38), .bin .eql (.tmp 36) (.tmp 37), none⟩]) (
      (.cond (.tmp 38) (
       (.seq (
        .reg [6, 7, 8] [
          ⟨(some 39), .load (some 6) (.tmp 3), none⟩,
          ⟨none, .store 6 (.tmp 6) (.tmp 39), none⟩,
          ⟨(some 7), .val (.const (.bool false)), none⟩,
          ⟨(some 8), .val (.const (.int .i64 9)), none⟩]) (
       .ret))) (
       .skip))))))))) (
    .reg [6, 3, 31, 1, 29, 2, 30] [
      ⟨(some 40), .bin .add (.tmp 31) (.const (.int .i64 1)), none⟩,
      ⟨(some 31), .val (.tmp 40), none⟩]))))))))))))) (
 (.seq (
  (.seq (
   .reg [6, 2, 1, 3, 43] [
     ⟨(some 41), .fldA 0 (.tmp 3), none⟩,
     ⟨(some 42), .load none (.tmp 41), none⟩,
     ⟨(some 43), .un .not (.tmp 42), none⟩]) (
  (.cond (.tmp 43) (
   (.seq (
    .reg [6, 7, 8] [
      ⟨(some 44), .val (.tmp 1), none⟩,
      ⟨(some 45), .val (.tmp 2), none⟩,
      ⟨(some 46), .build [(.bool false), (.int .i64 0), (.int .i64 0), (.int .i64 0), (.slice none 0 0), (.slice none 0 0)] [(0, 1, (.const (.bool true))), (1, 1, (.tmp 44)), (2, 1, (.tmp 45))], none⟩,
      ⟨none, .store 6 (.tmp 6) (.tmp 46), none⟩,
      ⟨(some 7), .val (.const (.bool true)), none⟩,
      ⟨(some 8), .val (.const (.int .i64 0)), none⟩]) (
   .ret))) (
   .skip))))) (
 (.seq (
  .reg [6, 11, 2, 3, 1] [
    ⟨(some 47), .load (some 6) (.tmp 3), none⟩,
    ⟨(some 11), .new [(.bool false), (.int .i64 0), (.int .i64 0), (.int .i64 0), (.slice none 0 0), (.slice none 0 0)], none⟩,
    ⟨none, .store 6 (.tmp 11) (.tmp 47), none⟩]) (
 (.seq (
  .reg [6, 11, 2, 3] [
    ⟨(some 48), .buildSl 0 [] [], none⟩,
    ⟨(some 49), .fldA 4 (.tmp 3), none⟩,
    ⟨(some 50), .load none (.tmp 49), none⟩,
    ⟨(some 51), .append 2 16 (.tmp 48) (.tmp 50), none⟩,
    ⟨(some 52), .val (.tmp 1), none⟩,
    ⟨(some 53), .val (.tmp 2), none⟩,
    ⟨(some 54), .build [(.int .i64 0), (.int .i64 0)] [(0, 1, (.tmp 52)), (1, 1, (.tmp 53))], none⟩,
    ⟨(some 55), .buildSl 1 [(.int .i64 0), (.int .i64 0)] [(0, 2, (.tmp 54))], none⟩,
    ⟨(some 56), .append 2 16 (.tmp 51) (.tmp 55), none⟩,
    ⟨(some 57), .fldA 4 (.tmp 11), none⟩,
    ⟨none, .store 1 (.tmp 57) (.tmp 56), none⟩]) (
 (.seq (
  (.seq (
   .reg [6, 11, 2, 3, 62] [
     ⟨(some 58), .fldA 5 (.tmp 3), none⟩,
     ⟨(some 59), .load none (.tmp 58), none⟩,
     ⟨(some 60), .val (.tmp 2), none⟩,
     ⟨(some 61), .call (.func 35) [(.tmp 59), (.tmp 60)], none⟩,
     ⟨(some 62), .un .not (.tmp 61), none⟩]) (
  (.cond (.tmp 62) (
   .reg [6, 11] [
     ⟨(some 63), .buildSl 0 [] [], none⟩,
     ⟨(some 64), .fldA 5 (.tmp 3), none⟩,
     ⟨(some 65), .load none (.tmp 64), none⟩,
     ⟨(some 66), .append 1 8 (.tmp 63) (.tmp 65), none⟩,
     ⟨(some 67), .val (.tmp 2), none⟩,
     ⟨(some 68), .buildSl 1 [(.int .i64 0)] [(0, 1, (.tmp 67))], none⟩,
     ⟨(some 69), .append 1 8 (.tmp 66) (.tmp 68), none⟩,
     ⟨(some 70), .fldA 5 (.tmp 11), none⟩,
     ⟨none, .store 1 (.tmp 70) (.tmp 69), none⟩]) (
   .skip))))) (
 (.seq (
  .reg [6, 7, 8] [
    ⟨(some 71), .load (some 6) (.tmp 11), none⟩,
    ⟨none, .store 6 (.tmp 6) (.tmp 71), none⟩,
    ⟨(some 7), .val (.const (.bool false)), none⟩,
    ⟨(some 8), .val (.const (.int .i64 0)), none⟩]) (
 .ret))))))))))))))))))
def H25 : Hint := (.two (.reg [6, 3, 1, 2] []) (.two (.two (.reg [6, 3, 1, 2, 17] []) (.two (.two (.reg [6, 7, 8] []) .leaf) .leaf)) (.two (.two (.reg [6, 3, 1, 2, 26] []) (.two (.two (.reg [6, 7, 8] []) .leaf) .leaf)) (.two (.two (.reg [6, 3, 31, 1, 29, 2, 30] []) (.one (.one (.two (.reg [6, 3, 1, 29, 2, 30, 31, 32] []) (.two (.two .leaf .leaf) (.two (.one (.two (.reg [6, 3, 1, 29, 2, 30, 31, 10] []) (.two (.reg [6, 3, 1, 29, 2, 30, 31, 38] []) (.two (.two (.reg [6, 7, 8] []) .leaf) .leaf)))) (.reg [6, 3, 31, 1, 29, 2, 30] []))))))) (.two (.two (.reg [6, 2, 1, 3, 43] []) (.two (.two (.reg [6, 7, 8] []) .leaf) .leaf)) (.two (.reg [6, 11, 2, 3, 1] []) (.two (.reg [6, 11, 2, 3] []) (.two (.two (.reg [6, 11, 2, 3, 62] []) (.two (.reg [6, 11] []) .leaf)) (.two (.reg [6, 7, 8] []) .leaf)))))))))
def R25 : List ARes := [.cell 6 (some 6), .tmp 7, .tmp 8]
theorem code25 : cCode Try.prog 72 H25 (Try.f25.body.getD .skip) = some A25 := by kernel_rfl
theorem ok25 : FunOk Try.prog 25 ⟨R25, A25⟩ := ⟨Try.f25, _, H25, 72, Try.func25, by kernel_rfl, by kernel_rfl, code25, by decide, by kernel_rfl⟩
def A26 : ACode :=
 (.seq (
  .reg [4, 2, 1] [
    ⟨(some 2), .box (.tmp 0), none⟩,
    ⟨(some 4), .new [(.bool false), (.int .i64 0), (.int .i64 0), (.int .i64 0), (.slice none 0 0), (.slice none 0 0)], none⟩,
    ⟨(some 5), .val (.const (.int .i64 0)), none⟩,
    ⟨(some 6), .val (.const (.bool false)), none⟩,
    ⟨(some 7), .val (.const (.int .i64 0)), none⟩]) (
 (.seq (
  (.seq (
   .reg [4, 2, 23] [
     ⟨(some 15), .fldA 0 (.tmp 2), none⟩,
     ⟨(some 16), .load none (.tmp 15), none⟩,
     ⟨(some 17), .un .not (.tmp 16), none⟩,
     ⟨(some 18), .val (.tmp 17), none⟩,
     ⟨(some 19), .fldA 1 (.tmp 2), (some (18, false))⟩,
     ⟨(some 20), .load none (.tmp 19), (some (18, false))⟩,
     ⟨(some 21), .val (.tmp 1), (some (18, false))⟩,
     ⟨(some 22), .bin .neq (.tmp 20) (.tmp 21), (some (18, false))⟩,
     ⟨(some 23), .pick (.tmp 18) (.const (.bool true)) (.tmp 22), none⟩]) (
  (.cond (.tmp 23) (
   (.seq (
    .reg [4, 5, 6, 7] [
      ⟨(some 24), .load (some 6) (.tmp 2), none⟩,
      ⟨none, .store 6 (.tmp 4) (.tmp 24), none⟩,
      ⟨(some 5), .val (.const (.int .i64 0)), none⟩,
      ⟨(some 6), .val (.const (.bool false)), none⟩,
      ⟨(some 7), .val (.const (.int .i64 8)), none⟩]) (
   .ret))) (
   .skip))))) (
 (.seq (
  (.seq (
   .reg [4, 2, 28] [
     ⟨(some 25), .fldA 4 (.tmp 2), none⟩,
     ⟨(some 26), .load none (.tmp 25), none⟩,
     ⟨(some 27), .len .sl (.tmp 26), none⟩,
     ⟨(some 28), .bin .eql (.tmp 27) (.const (.int .i64 0)), none⟩]) (
  (.cond (.tmp 28) (
   (.seq (
    .reg [4, 5, 6, 7] [
      ⟨(some 29), .build [(.bool false), (.int .i64 0), (.int .i64 0), (.int .i64 0), (.slice none 0 0), (.slice none 0 0)] [], none⟩,
      ⟨none, .store 6 (.tmp 4) (.tmp 29), none⟩,
      ⟨(some 5), .val (.const (.int .i64 0)), none⟩,
      ⟨(some 6), .val (.const (.bool false)), none⟩,
      ⟨(some 7), .val (.const (.int .i64 0)), none⟩]) (
   .ret))) (
   .skip))))) (
 (.seq (
  .reg [4, 2, 8] [
    ⟨(some 30), .fldA 5 (.tmp 2), none⟩,
    ⟨(some 31), .load none (.tmp 30), none⟩,
    ⟨(some 32), .fldA 2 (.tmp 2), none⟩,
    ⟨(some 33), .load none (.tmp 32), none⟩,
    ⟨(some 34), .call (.func 35) [(.tmp 31), (.tmp 33)], none⟩,
    ⟨(some 8), .val (.tmp 34), none⟩]) (
 (.seq (
  (.seq (
   .reg [4, 2, 8, 46] [
     ⟨(some 35), .val (.tmp 8), none⟩,
     ⟨(some 36), .val (.tmp 35), none⟩,
     ⟨(some 37), .fldA 3 (.tmp 2), (some (36, true))⟩,
     ⟨(some 38), .load none (.tmp 37), (some (36, true))⟩,
     ⟨(some 39), .bin .lss (.tmp 38) (.const (.int .i64 3)), (some (36, true))⟩,
     ⟨(some 40), .val (.tmp 39), (some (36, true))⟩,
     ⟨(some 41), .fldA 5 (.tmp 2), (some (40, false))⟩,
     ⟨(some 42), .load none (.tmp 41), (some (40, false))⟩,
     ⟨(some 43), .len .sl (.tmp 42), (some (40, false))⟩,
     ⟨(some 44), .bin .eql (.tmp 43) (.const (.int .i64 1)), (some (40, false))⟩,
     ⟨(some 45), .pick (.tmp 40) (.const (.bool true)) (.tmp 44), (some (36, true))⟩,
     ⟨(some 46), .pick (.tmp 36) (.tmp 45) (.const (.bool false)), none⟩]) (
  (.cond (.tmp 46) (
   (.seq (
    .reg [4, 9] [
      ⟨(some 47), .load (some 6) (.tmp 2), none⟩,
      ⟨(some 48), .fldA 2 (.tmp 2), none⟩,
      ⟨(some 49), .load none (.tmp 48), none⟩,
      ⟨(some 50), .call (.func 36) [(.tmp 47), (.tmp 49)], none⟩,
      ⟨(some 9), .new [(.bool false), (.int .i64 0), (.int .i64 0), (.int .i64 0), (.slice none 0 0), (.slice none 0 0)], none⟩,
      ⟨none, .store 6 (.tmp 9) (.tmp 50), none⟩]) (
   (.seq (
    .reg [4, 9] [
      ⟨(some 51), .fldA 3 (.tmp 9), none⟩,
      ⟨(some 52), .load none (.tmp 51), none⟩,
      ⟨(some 53), .bin .add (.tmp 52) (.const (.int .i64 1)), none⟩,
      ⟨(some 54), .fldA 3 (.tmp 9), none⟩,
      ⟨none, .store 1 (.tmp 54) (.tmp 53), none⟩]) (
   (.seq (
    .dreg [4, 5, 6, 7] [
      (⟨(some 55), .load (some 6) (.tmp 9), none⟩, []),
      (⟨(some 56), .fldA 1 (.tmp 9), none⟩, []),
      (⟨(some 57), .load none (.tmp 56), none⟩, [0]),
      (⟨none, .store 6 (.tmp 4) (.tmp 55), none⟩, [2]),
      (⟨(some 5), .val (.tmp 57), none⟩, []),
      (⟨(some 6), .val (.const (.bool true)), none⟩, []),
      (⟨(some 7), .val (.const (.int .i64 0)), none⟩, [])]) (
   .ret))))))) (
   .skip))))) (
 (.seq (
  .reg [2, 4, 8, 10] [
    ⟨(some 58), .fldA 5 (.tmp 2), none⟩,
    ⟨(some 59), .load none (.tmp 58), none⟩,
    ⟨(some 60), .idxSl 1 (.tmp 59) (.const (.int .i64 0)), none⟩,
    ⟨(some 61), .load none (.tmp 60), none⟩,
    ⟨(some 10), .val (.tmp 61), none⟩]) (
 (.seq (
  (.seq (
   .reg [2, 4, 8, 10, 65] [
     ⟨(some 62), .val (.tmp 10), none⟩,
     ⟨(some 63), .fldA 2 (.tmp 2), none⟩,
     ⟨(some 64), .load none (.tmp 63), none⟩,
     ⟨(some 65), .bin .eql (.tmp 62) (.tmp 64), none⟩]) (
  (.cond (.tmp 65) (
   .reg [2, 4, 8, 10] [
     ⟨(some 66), .fldA 5 (.tmp 2), none⟩,
     ⟨(some 67), .load none (.tmp 66), none⟩,
     ⟨(some 68), .idxSl 1 (.tmp 67) (.const (.int .i64 1)), none⟩,
     ⟨(some 69), .load none (.tmp 68), none⟩,
     ⟨(some 10), .val (.tmp 69), none⟩]) (
   .skip))))) (
 (.seq (
  .reg [2, 4, 11, 8, 10] [
    ⟨(some 70), .load (some 6) (.tmp 2), none⟩,
    ⟨(some 71), .val (.tmp 10), none⟩,
    ⟨(some 72), .call (.func 36) [(.tmp 70), (.tmp 71)], none⟩,
    ⟨(some 11), .new [(.bool false), (.int .i64 0), (.int .i64 0), (.int .i64 0), (.slice none 0 0), (.slice none 0 0)], none⟩,
    ⟨none, .store 6 (.tmp 11) (.tmp 72), none⟩]) (
 (.seq (
  .reg [2, 4, 11, 8] [
    ⟨(some 73), .val (.tmp 10), none⟩,
    ⟨(some 74), .fldA 2 (.tmp 11), none⟩,
    ⟨none, .store 1 (.tmp 74) (.tmp 73), none⟩]) (
 (.seq (
  .reg [2, 4, 11, 8] [
    ⟨(some 75), .fldA 3 (.tmp 11), none⟩,
    ⟨none, .store 1 (.tmp 75) (.const (.int .i64 0)), none⟩]) (
 (.seq (
  (.seq (
   .reg [2, 4, 11, 76] [
     ⟨(some 76), .val (.tmp 8), none⟩]) (
  (.cond (.tmp 76) (
   (.seq (
    .reg [12, 2, 4, 11] [
      ⟨(some 12), .val (.const (.slice none 0 0)), none⟩]) (
   (.seq (
    (.seq (
     .reg [80, 12, 2, 78, 4, 11, 79] [
       ⟨(some 77), .fldA 5 (.tmp 11), none⟩,
       ⟨(some 78), .load none (.tmp 77), none⟩,
       ⟨(some 79), .len .sl (.tmp 78), none⟩,
       ⟨(some 80), .val (.const (.int .i64 0)), none⟩]) (
    (.block 0 (
     (.loop (
      (.seq (
       .reg [2, 78, 4, 11, 79, 80, 12, 81] [
         ⟨(some 81), .bin .lss (.tmp 80) (.tmp 79), none⟩]) (
      (.seq (
       (.cond (.tmp 81) (
        .skip) (
        .exit 0))) (
      (.seq (
       (.block 1 (
        (.seq (
         .reg [2, 78, 4, 11, 79, 80, 14, 12] [
           ⟨(some 82), .idxSl 1 (.tmp 78) (.tmp 80), none⟩,
           ⟨(some 83), .load none (.tmp 82), none⟩,
           ⟨(some 14), .val (.tmp 83), none⟩]) (
        (.seq (
         .reg [2, 78, 4, 11, 79, 80, 14, 12, 87] [
           ⟨(some 84), .val (.tmp 14), none⟩,
           ⟨(some 85), .fldA 2 (.tmp 2), none⟩,
           ⟨(some 86), .load none (.tmp 85), none⟩,
           ⟨(some 87), .bin .neq (.tmp 84) (.tmp 86), none⟩]) (
        (.cond (.tmp 87) (
         .reg [12, 2, 78, 4, 11, 79, 80] [
           ⟨(some 88), .val (.tmp 12), none⟩,
           ⟨(some 89), .val (.tmp 14), none⟩,
           ⟨(some 90), .buildSl 1 [(.int .i64 0)] [(0, 1, (.tmp 89))], none⟩,
           ⟨(some 91), .append 1 8 (.tmp 88) (.tmp 90), none⟩,
           ⟨(some 12), .val (.tmp 91), none⟩]) (
         .skip))))))))) (
      .reg [80, 12, 2, 78, 4, 11, 79] [
        ⟨(some 92), .bin .add (.tmp 80) (.const (.int .i64 1)), none⟩,
        ⟨(some 80), .val (.tmp 92), none⟩]))))))))))))) (
   .reg [4, 11] [
     ⟨(some 93), .val (.tmp 12), none⟩,
     ⟨(some 94), .fldA 2 (.tmp 2), none⟩,
     ⟨(some 95), .load none (.tmp 94), none⟩,
     ⟨(some 96), .buildSl 1 [(.int .i64 0)] [(0, 1, (.tmp 95))], none⟩,
     ⟨(some 97), .append 1 8 (.tmp 93) (.tmp 96), none⟩,
     ⟨(some 98), .fldA 5 (.tmp 11), none⟩,
     ⟨none, .store 1 (.tmp 98) (.tmp 97), none⟩]))))) (
   .skip))))) (
 (.seq (
  .dreg [4, 5, 6, 7] [
    (⟨(some 99), .load (some 6) (.tmp 11), none⟩, []),
    (⟨(some 100), .fldA 1 (.tmp 11), none⟩, []),
    (⟨(some 101), .load none (.tmp 100), none⟩, [0]),
    (⟨none, .store 6 (.tmp 4) (.tmp 99), none⟩, [2]),
    (⟨(some 5), .val (.tmp 101), none⟩, []),
    (⟨(some 6), .val (.const (.bool true)), none⟩, []),
    (⟨(some 7), .val (.const (.int .i64 0)), none⟩, [])]) (
 .ret))))))))))))))))))))))))
def H26 : Hint := (.two (.reg [4, 2, 1] []) (.two (.two (.reg [4, 2, 23] []) (.two (.two (.reg [4, 5, 6, 7] []) .leaf) .leaf)) (.two (.two (.reg [4, 2, 28] []) (.two (.two (.reg [4, 5, 6, 7] []) .leaf) .leaf)) (.two (.reg [4, 2, 8] []) (.two (.two (.reg [4, 2, 8, 46] []) (.two (.two (.reg [4, 9] []) (.two (.reg [4, 9] []) (.two (.reg [4, 5, 6, 7] [(0, [], []), (1, [], []), (2, [0], [1]), (3, [2], [0]), (4, [], [2, 1, 3, 0]), (5, [], [4, 2, 1, 3, 0]), (6, [], [5, 4, 2, 1, 3, 0])]) .leaf))) .leaf)) (.two (.reg [2, 4, 8, 10] []) (.two (.two (.reg [2, 4, 8, 10, 65] []) (.two (.reg [2, 4, 8, 10] []) .leaf)) (.two (.reg [2, 4, 11, 8, 10] []) (.two (.reg [2, 4, 11, 8] []) (.two (.reg [2, 4, 11, 8] []) (.two (.two (.reg [2, 4, 11, 76] []) (.two (.two (.reg [12, 2, 4, 11] []) (.two (.two (.reg [80, 12, 2, 78, 4, 11, 79] []) (.one (.one (.two (.reg [2, 78, 4, 11, 79, 80, 12, 81] []) (.two (.two .leaf .leaf) (.two (.one (.two (.reg [2, 78, 4, 11, 79, 80, 14, 12] []) (.two (.reg [2, 78, 4, 11, 79, 80, 14, 12, 87] []) (.two (.reg [12, 2, 78, 4, 11, 79, 80] []) .leaf)))) (.reg [80, 12, 2, 78, 4, 11, 79] []))))))) (.reg [4, 11] []))) .leaf)) (.two (.reg [4, 5, 6, 7] [(0, [], []), (1, [], []), (2, [0], [1]), (3, [2], [0]), (4, [], [2, 1, 3, 0]), (5, [], [4, 2, 1, 3, 0]), (6, [], [5, 4, 2, 1, 3, 0])]) .leaf))))))))))))
def R26 : List ARes := [.cell 4 (some 6), .tmp 5, .tmp 6, .tmp 7]
theorem code26 : cCode Try.prog 102 H26 (Try.f26.body.getD .skip) = some A26 := by kernel_rfl
theorem ok26 : FunOk Try.prog 26 ⟨R26, A26⟩ := ⟨Try.f26, _, H26, 102, Try.func26, by kernel_rfl, by kernel_rfl, code26, by decide, by kernel_rfl⟩
def A27 : ACode :=
 (.seq (
  .reg [1, 0] [
    ⟨(some 4), .val (.const (.bool false)), none⟩]) (
 (.seq (
  .reg [4] [
    ⟨(some 5), .val (.tmp 0), none⟩,
    ⟨(some 6), .val (.tmp 1), none⟩,
    ⟨(some 7), .call (.func 30) [(.tmp 5), (.tmp 6)], none⟩,
    ⟨(some 8), .bin .geq (.tmp 7) (.const (.int .i64 0)), none⟩,
    ⟨(some 4), .val (.tmp 8), none⟩]) (
 .ret))))
def H27 : Hint := (.two (.reg [1, 0] []) (.two (.reg [4] []) .leaf))
def R27 : List ARes := [.tmp 4]
theorem code27 : cCode Try.prog 9 H27 (Try.f27.body.getD .skip) = some A27 := by kernel_rfl
theorem ok27 : FunOk Try.prog 27 ⟨R27, A27⟩ := ⟨Try.f27, _, H27, 9, Try.func27, by kernel_rfl, by kernel_rfl, code27, by decide, by kernel_rfl⟩
def A28 : ACode :=
 (.seq (
  .reg [1, 2] [
    ⟨(some 2), .box (.tmp 0), none⟩,
    ⟨(some 3), .val (.const (.bool false)), none⟩]) (
 (.seq (
  .reg [3] [
    ⟨(some 4), .fldA 1 (.tmp 2), none⟩,
    ⟨(some 5), .load none (.tmp 4), none⟩,
    ⟨(some 6), .load none (.tmp 1), none⟩,
    ⟨(some 7), .call (.func 29) [(.tmp 5), (.tmp 6)], none⟩,
    ⟨(some 3), .val (.tmp 7), none⟩]) (
 .ret))))
def H28 : Hint := (.two (.reg [1, 2] []) (.two (.reg [3] []) .leaf))
def R28 : List ARes := [.tmp 3]
theorem code28 : cCode Try.prog 8 H28 (Try.f28.body.getD .skip) = some A28 := by kernel_rfl
theorem ok28 : FunOk Try.prog 28 ⟨R28, A28⟩ := ⟨Try.f28, _, H28, 8, Try.func28, by kernel_rfl, by kernel_rfl, code28, by decide, by kernel_rfl⟩
def A29 : ACode :=
 (.seq (
  .reg [1, 0] [
    ⟨(some 4), .val (.const (.bool false)), none⟩]) (
 (.seq (
  .reg [4] [
    ⟨(some 5), .val (.tmp 0), none⟩,
    ⟨(some 6), .val (.tmp 1), none⟩,
    ⟨(some 7), .call (.func 37) [(.tmp 5), (.tmp 6)], none⟩,
    ⟨(some 8), .bin .geq (.tmp 7) (.const (.int .i64 0)), none⟩,
    ⟨(some 4), .val (.tmp 8), none⟩]) (
 .ret))))
def H29 : Hint := (.two (.reg [1, 0] []) (.two (.reg [4] []) .leaf))
def R29 : List ARes := [.tmp 4]
theorem code29 : cCode Try.prog 9 H29 (Try.f29.body.getD .skip) = some A29 := by kernel_rfl
theorem ok29 : FunOk Try.prog 29 ⟨R29, A29⟩ := ⟨Try.f29, _, H29, 9, Try.func29, by kernel_rfl, by kernel_rfl, code29, by decide, by kernel_rfl⟩
def A30 : ACode :=
 (.seq (
  .reg [0, 1] [
    ⟨(some 4), .val (.const (.int .i64 0)), none⟩]) (
 (.seq (
  (.seq (
   .reg [8, 0, 1, 7] [
     ⟨(some 6), .val (.tmp 0), none⟩,
     ⟨(some 7), .len .sl (.tmp 6), none⟩,
     ⟨(some 8), .val (.const (.int .i64 0)), none⟩]) (
  (.block 0 (
   (.loop (
    (.seq (
     .reg [0, 1, 7, 8, 9] [
       ⟨(some 9), .bin .lss (.tmp 8) (.tmp 7), none⟩]) (
    (.seq (
     (.cond (.tmp 9) (
      .skip) (
      .exit 0))) (
    (.seq (
     (.block 1 (
      (.seq (
       .reg [5, 0, 1, 7, 8] [
         ⟨(some 10), .val (.tmp 8), none⟩,
         ⟨(some 5), .val (.tmp 10), none⟩]) (
      (.seq (
       .reg [5, 0, 1, 7, 8, 16] [
         ⟨(some 11), .val (.tmp 1), none⟩,
         ⟨(some 12), .val (.tmp 0), none⟩,
         ⟨(some 13), .val (.tmp 5), none⟩,
         ⟨(some 14), .idxSl 2 (.tmp 12) (.tmp 13), none⟩,
         ⟨(some 15), .load (some 2) (.tmp 14), none⟩,
         ⟨(some 16), .call (.tmp 11) [(.tmp 15)], none⟩]) (
      (.cond (.tmp 16) (
       (.seq (
        .reg [4] [
          ⟨(some 17), .val (.tmp 5), none⟩,
          ⟨(some 4), .val (.tmp 17), none⟩]) (
       .ret))) (
       .skip))))))))) (
    .reg [8, 0, 1, 7] [
      ⟨(some 18), .bin .add (.tmp 8) (.const (.int .i64 1)), none⟩,
      ⟨(some 8), .val (.tmp 18), none⟩]))))))))))))) (
 (.seq (
  .reg [4] [
    ⟨(some 4), .val (.const (.int .i64 (-1))), none⟩]) (
 .ret))))))
def H30 : Hint := (.two (.reg [0, 1] []) (.two (.two (.reg [8, 0, 1, 7] []) (.one (.one (.two (.reg [0, 1, 7, 8, 9] []) (.two (.two .leaf .leaf) (.two (.one (.two (.reg [5, 0, 1, 7, 8] []) (.two (.reg [5, 0, 1, 7, 8, 16] []) (.two (.two (.reg [4] []) .leaf) .leaf)))) (.reg [8, 0, 1, 7] []))))))) (.two (.reg [4] []) .leaf)))
def R30 : List ARes := [.tmp 4]
theorem code30 : cCode Try.prog 19 H30 (Try.f30.body.getD .skip) = some A30 := by kernel_rfl
theorem ok30 : FunOk Try.prog 30 ⟨R30, A30⟩ := ⟨Try.f30, _, H30, 19, Try.func30, by kernel_rfl, by kernel_rfl, code30, by decide, by kernel_rfl⟩
def A31 : ACode :=
 (.seq (
  .reg [1, 2] [
    ⟨(some 2), .box (.tmp 0), none⟩,
    ⟨(some 3), .val (.const (.bool false)), none⟩]) (
 (.seq (
  .reg [3] [
    ⟨(some 4), .fldA 0 (.tmp 2), none⟩,
    ⟨(some 5), .load none (.tmp 4), none⟩,
    ⟨(some 6), .load none (.tmp 1), none⟩,
    ⟨(some 7), .bin .eql (.tmp 5) (.tmp 6), none⟩,
    ⟨(some 3), .val (.tmp 7), none⟩]) (
 .ret))))
def H31 : Hint := (.two (.reg [1, 2] []) (.two (.reg [3] []) .leaf))
def R31 : List ARes := [.tmp 3]
theorem code31 : cCode Try.prog 8 H31 (Try.f31.body.getD .skip) = some A31 := by kernel_rfl
theorem ok31 : FunOk Try.prog 31 ⟨R31, A31⟩ := ⟨Try.f31, _, H31, 8, Try.func31, by kernel_rfl, by kernel_rfl, code31, by decide, by kernel_rfl⟩
def A32 : ACode :=
 (.seq (
  .reg [0, 2, 1] [
    ⟨(some 6), .val (.const (.slice none 0 0)), none⟩]) (
 (.seq (
  .reg [0, 2, 1] [
    ⟨(some 8), .val (.tmp 0), none⟩,
    ⟨(some 9), .val (.tmp 1), none⟩,
    ⟨(some 10), .val (.tmp 2), none⟩,
    ⟨(some 11), .val (.tmp 0), none⟩,
    ⟨(some 12), .len .sl (.tmp 11), none⟩,
    ⟨(some 13), .slice 1 (.tmp 8) (some (.tmp 9)) (some (.tmp 10)) (some (.tmp 12)), none⟩]) (
 (.seq (
  (.seq (
   .reg [0, 2, 1, 16] [
     ⟨(some 14), .val (.tmp 1), none⟩,
     ⟨(some 15), .val (.tmp 2), none⟩,
     ⟨(some 16), .bin .eql (.tmp 14) (.tmp 15), none⟩]) (
  (.cond (.tmp 16) (
   (.seq (
    .reg [6] [
      ⟨(some 17), .val (.tmp 0), none⟩,
      ⟨(some 6), .val (.tmp 17), none⟩]) (
   .ret))) (
   .skip))))) (
 (.seq (
  .reg [7, 2, 0, 1] [
    ⟨(some 18), .val (.tmp 0), none⟩,
    ⟨(some 19), .len .sl (.tmp 18), none⟩,
    ⟨(some 7), .val (.tmp 19), none⟩]) (
 (.seq (
  .dreg [0, 7] [
    (⟨(some 20), .val (.tmp 0), none⟩, []),
    (⟨(some 21), .val (.tmp 1), none⟩, []),
    (⟨(some 22), .slice 1 (.tmp 20) none (some (.tmp 21)) none, none⟩, []),
    (⟨(some 23), .val (.tmp 0), none⟩, []),
    (⟨(some 24), .val (.tmp 2), none⟩, []),
    (⟨(some 25), .slice 1 (.tmp 23) (some (.tmp 24)) none none, none⟩, []),
    (⟨(some 26), .append 1 8 (.tmp 22) (.tmp 25), none⟩, []),
    (⟨(some 0), .val (.tmp 26), none⟩, [])]) (
 (.seq (
  .reg [0] [
    ⟨(some 27), .val (.tmp 0), none⟩,
    ⟨(some 28), .val (.tmp 0), none⟩,
    ⟨(some 29), .len .sl (.tmp 28), none⟩,
    ⟨(some 30), .val (.tmp 7), none⟩,
    ⟨(some 31), .slice 1 (.tmp 27) (some (.tmp 29)) (some (.tmp 30)) none, none⟩,
    ⟨none, .clear [(.int .i64 0)] (.tmp 31), none⟩]) (
 (.seq (
  .reg [6] [
    ⟨(some 32), .val (.tmp 0), none⟩,
    ⟨(some 6), .val (.tmp 32), none⟩]) (
 .ret))))))))))))))
def H32 : Hint := (.two (.reg [0, 2, 1] []) (.two (.reg [0, 2, 1] []) (.two (.two (.reg [0, 2, 1, 16] []) (.two (.two (.reg [6] []) .leaf) .leaf)) (.two (.reg [7, 2, 0, 1] []) (.two (.reg [0, 7] [(0, [], []), (1, [], []), (2, [], [0, 1]), (3, [], []), (4, [], []), (5, [], [3, 4]), (6, [], [2, 0, 1, 5, 3, 4]), (7, [], [6, 2, 0, 1, 5, 3, 4])]) (.two (.reg [0] []) (.two (.reg [6] []) .leaf)))))))
def R32 : List ARes := [.tmp 6]
theorem code32 : cCode Try.prog 33 H32 (Try.f32.body.getD .skip) = some A32 := by kernel_rfl
theorem ok32 : FunOk Try.prog 32 ⟨R32, A32⟩ := ⟨Try.f32, _, H32, 33, Try.func32, by kernel_rfl, by kernel_rfl, code32, by decide, by kernel_rfl⟩
def A33 : ACode :=
 (.seq (
  .reg [0, 2, 1] [
    ⟨(some 6), .val (.const (.slice none 0 0)), none⟩]) (
 (.seq (
  .reg [0, 2, 1] [
    ⟨(some 8), .val (.tmp 0), none⟩,
    ⟨(some 9), .val (.tmp 1), none⟩,
    ⟨(some 10), .val (.tmp 2), none⟩,
    ⟨(some 11), .val (.tmp 0), none⟩,
    ⟨(some 12), .len .sl (.tmp 11), none⟩,
    ⟨(some 13), .slice 2 (.tmp 8) (some (.tmp 9)) (some (.tmp 10)) (some (.tmp 12)), none⟩]) (
 (.seq (
  (.seq (
   .reg [0, 2, 1, 16] [
     ⟨(some 14), .val (.tmp 1), none⟩,
     ⟨(some 15), .val (.tmp 2), none⟩,
     ⟨(some 16), .bin .eql (.tmp 14) (.tmp 15), none⟩]) (
  (.cond (.tmp 16) (
   (.seq (
    .reg [6] [
      ⟨(some 17), .val (.tmp 0), none⟩,
      ⟨(some 6), .val (.tmp 17), none⟩]) (
   .ret))) (
   .skip))))) (
 (.seq (
  .reg [7, 2, 0, 1] [
    ⟨(some 18), .val (.tmp 0), none⟩,
    ⟨(some 19), .len .sl (.tmp 18), none⟩,
    ⟨(some 7), .val (.tmp 19), none⟩]) (
 (.seq (
  .dreg [0, 7] [
    (⟨(some 20), .val (.tmp 0), none⟩, []),
    (⟨(some 21), .val (.tmp 1), none⟩, []),
    (⟨(some 22), .slice 2 (.tmp 20) none (some (.tmp 21)) none, none⟩, []),
    (⟨(some 23), .val (.tmp 0), none⟩, []),
    (⟨(some 24), .val (.tmp 2), none⟩, []),
    (⟨(some 25), .slice 2 (.tmp 23) (some (.tmp 24)) none none, none⟩, []),
    (⟨(some 26), .append 2 32 (.tmp 22) (.tmp 25), none⟩, []),
    (⟨(some 0), .val (.tmp 26), none⟩, [])]) (
 (.seq (
  .reg [0] [
    ⟨(some 27), .val (.tmp 0), none⟩,
    ⟨(some 28), .val (.tmp 0), none⟩,
    ⟨(some 29), .len .sl (.tmp 28), none⟩,
    ⟨(some 30), .val (.tmp 7), none⟩,
    ⟨(some 31), .slice 2 (.tmp 27) (some (.tmp 29)) (some (.tmp 30)) none, none⟩,
    ⟨none, .clear [(.int .i64 0), (.slice none 0 0)] (.tmp 31), none⟩]) (
 (.seq (
  .reg [6] [
    ⟨(some 32), .val (.tmp 0), none⟩,
    ⟨(some 6), .val (.tmp 32), none⟩]) (
 .ret))))))))))))))
def H33 : Hint := (.two (.reg [0, 2, 1] []) (.two (.reg [0, 2, 1] []) (.two (.two (.reg [0, 2, 1, 16] []) (.two (.two (.reg [6] []) .leaf) .leaf)) (.two (.reg [7, 2, 0, 1] []) (.two (.reg [0, 7] [(0, [], []), (1, [], []), (2, [], [0, 1]), (3, [], []), (4, [], []), (5, [], [3, 4]), (6, [], [2, 0, 1, 5, 3, 4]), (7, [], [6, 2, 0, 1, 5, 3, 4])]) (.two (.reg [0] []) (.two (.reg [6] []) .leaf)))))))
def R33 : List ARes := [.tmp 6]
theorem code33 : cCode Try.prog 33 H33 (Try.f33.body.getD .skip) = some A33 := by kernel_rfl
theorem ok33 : FunOk Try.prog 33 ⟨R33, A33⟩ := ⟨Try.f33, _, H33, 33, Try.func33, by kernel_rfl, by kernel_rfl, code33, by decide, by kernel_rfl⟩
def A34 : ACode :=
 (.seq (
  .reg [1, 2] [
    ⟨(some 2), .box (.tmp 0), none⟩,
    ⟨(some 3), .val (.const (.bool false)), none⟩]) (
 (.seq (
  .reg [3] [
    ⟨(some 4), .fldA 0 (.tmp 2), none⟩,
    ⟨(some 5), .load none (.tmp 4), none⟩,
    ⟨(some 6), .load none (.tmp 1), none⟩,
    ⟨(some 7), .bin .neq (.tmp 5) (.tmp 6), none⟩,
    ⟨(some 3), .val (.tmp 7), none⟩]) (
 .ret))))
def H34 : Hint := (.two (.reg [1, 2] []) (.two (.reg [3] []) .leaf))
def R34 : List ARes := [.tmp 3]
theorem code34 : cCode Try.prog 8 H34 (Try.f34.body.getD .skip) = some A34 := by kernel_rfl
theorem ok34 : FunOk Try.prog 34 ⟨R34, A34⟩ := ⟨Try.f34, _, H34, 8, Try.func34, by kernel_rfl, by kernel_rfl, code34, by decide, by kernel_rfl⟩
def A35 : ACode :=
 (.seq (
  .reg [1, 0] [
    ⟨(some 4), .val (.const (.bool false)), none⟩]) (
 (.seq (
  (.seq (
   .reg [9, 1, 7, 8] [
     ⟨(some 7), .val (.tmp 0), none⟩,
     ⟨(some 8), .len .sl (.tmp 7), none⟩,
     ⟨(some 9), .val (.const (.int .i64 0)), none⟩]) (
  (.block 0 (
   (.loop (
    (.seq (
     .reg [1, 7, 8, 9, 10] [
       ⟨(some 10), .bin .lss (.tmp 9) (.tmp 8), none⟩]) (
    (.seq (
     (.cond (.tmp 10) (
      .skip) (
      .exit 0))) (
    (.seq (
     (.block 1 (
      (.seq (
       .reg [1, 7, 8, 9, 6] [
         ⟨(some 11), .idxSl 1 (.tmp 7) (.tmp 9), none⟩,
         ⟨(some 12), .load none (.tmp 11), none⟩,
         ⟨(some 6), .val (.tmp 12), none⟩]) (
      (.seq (
       .reg [1, 7, 8, 9, 15] [
         ⟨(some 13), .val (.tmp 6), none⟩,
         ⟨(some 14), .val (.tmp 1), none⟩,
         ⟨(some 15), .bin .eql (.tmp 13) (.tmp 14), none⟩]) (
      (.cond (.tmp 15) (
       (.seq (
        .reg [4] [
          ⟨(some 4), .val (.const (.bool true)), none⟩]) (
       .ret))) (
       .skip))))))))) (
    .reg [9, 1, 7, 8] [
      ⟨(some 16), .bin .add (.tmp 9) (.const (.int .i64 1)), none⟩,
      ⟨(some 9), .val (.tmp 16), none⟩]))))))))))))) (
 (.seq (
  .reg [4] [
    ⟨(some 4), .val (.const (.bool false)), none⟩]) (
 .ret))))))
def H35 : Hint := (.two (.reg [1, 0] []) (.two (.two (.reg [9, 1, 7, 8] []) (.one (.one (.two (.reg [1, 7, 8, 9, 10] []) (.two (.two .leaf .leaf) (.two (.one (.two (.reg [1, 7, 8, 9, 6] []) (.two (.reg [1, 7, 8, 9, 15] []) (.two (.two (.reg [4] []) .leaf) .leaf)))) (.reg [9, 1, 7, 8] []))))))) (.two (.reg [4] []) .leaf)))
def R35 : List ARes := [.tmp 4]
theorem code35 : cCode Try.prog 17 H35 (Try.f35.body.getD .skip) = some A35 := by kernel_rfl
theorem ok35 : FunOk Try.prog 35 ⟨R35, A35⟩ := ⟨Try.f35, _, H35, 17, Try.func35, by kernel_rfl, by kernel_rfl, code35, by decide, by kernel_rfl⟩
def A36 : ACode :=
 (.seq (
  .reg [1, 4, 2] [
    ⟨(some 2), .box (.tmp 0), none⟩,
    ⟨(some 4), .new [(.bool false), (.int .i64 0), (.int .i64 0), (.int .i64 0), (.slice none 0 0), (.slice none 0 0)], none⟩]) (
 (.seq (
  .reg [5, 1, 4, 2] [
    ⟨(some 12), .load (some 6) (.tmp 2), none⟩,
    ⟨(some 5), .new [(.bool false), (.int .i64 0), (.int .i64 0), (.int .i64 0), (.slice none 0 0), (.slice none 0 0)], none⟩,
    ⟨none, .store 6 (.tmp 5) (.tmp 12), none⟩]) (
 (.seq (
  .reg [5, 1, 4, 2] [
    ⟨(some 13), .fldA 4 (.tmp 5), none⟩,
    ⟨none, .store 1 (.tmp 13) (.const (.slice none 0 0)), none⟩]) (
 (.seq (
  .reg [5, 1, 6, 4, 2] [
    ⟨(some 6), .val (.const (.bool false)), none⟩]) (
 (.seq (
  .reg [5, 1, 7, 6, 4, 2] [
    ⟨(some 7), .val (.const (.bool false)), none⟩]) (
 (.seq (
  (.seq (
   .reg [17, 5, 1, 7, 6, 15, 4, 2, 16] [
     ⟨(some 14), .fldA 4 (.tmp 2), none⟩,
     ⟨(some 15), .load none (.tmp 14), none⟩,
     ⟨(some 16), .len .sl (.tmp 15), none⟩,
     ⟨(some 17), .val (.const (.int .i64 0)), none⟩]) (
  (.block 0 (
   (.loop (
    (.seq (
     .reg [5, 1, 7, 15, 4, 2, 16, 17, 6, 18] [
       ⟨(some 18), .bin .lss (.tmp 17) (.tmp 16), none⟩]) (
    (.seq (
     (.cond (.tmp 18) (
      .skip) (
      .exit 0))) (
    (.seq (
     (.block 1 (
      (.seq (
       .reg [5, 1, 7, 15, 4, 2, 16, 17, 9, 6] [
         ⟨(some 19), .idxSl 2 (.tmp 15) (.tmp 17), none⟩,
         ⟨(some 20), .load (some 2) (.tmp 19), none⟩,
         ⟨(some 9), .new [(.int .i64 0), (.int .i64 0)], none⟩,
         ⟨none, .store 2 (.tmp 9) (.tmp 20), none⟩]) (
      (.seq (
       (.seq (
        .reg [5, 1, 7, 15, 4, 2, 16, 17, 9, 6, 28] [
          ⟨(some 21), .fldA 1 (.tmp 9), none⟩,
          ⟨(some 22), .load none (.tmp 21), none⟩,
          ⟨(some 23), .val (.tmp 1), none⟩,
          ⟨(some 24), .bin .eql (.tmp 22) (.tmp 23), none⟩,
          ⟨(some 25), .val (.tmp 24), none⟩,
          ⟨(some 26), .val (.tmp 6), (some (25, true))⟩,
          ⟨(some 27), .un .not (.tmp 26), (some (25, true))⟩,
          ⟨(some 28), .pick (.tmp 25) (.tmp 27) (.const (.bool false)), none⟩]) (
       (.cond (.tmp 28) (
        (.seq (
         .reg [5, 1, 7, 15, 4, 2, 16, 17] [
           ⟨(some 29), .fldA 0 (.tmp 9), none⟩,
           ⟨(some 30), .load none (.tmp 29), none⟩,
           ⟨(some 31), .fldA 1 (.tmp 5), none⟩,
           ⟨none, .store 1 (.tmp 31) (.tmp 30), none⟩]) (
        (.seq (
         .reg [5, 1, 7, 6, 15, 4, 2, 16, 17] [
           ⟨(some 6), .val (.const (.bool true)), none⟩]) (
        .exit 1))))) (
        .skip))))) (
      (.seq (
       .reg [5, 1, 7, 6, 15, 4, 2, 16, 17, 9] [
         ⟨(some 32), .val (.tmp 7), none⟩,
         ⟨(some 33), .val (.tmp 32), none⟩,
         ⟨(some 34), .fldA 1 (.tmp 9), (some (33, false))⟩,
         ⟨(some 35), .load none (.tmp 34), (some (33, false))⟩,
         ⟨(some 36), .val (.tmp 1), (some (33, false))⟩,
         ⟨(some 37), .bin .eql (.tmp 35) (.tmp 36), (some (33, false))⟩,
         ⟨(some 38), .pick (.tmp 33) (.const (.bool true)) (.tmp 37), none⟩,
         ⟨(some 7), .val (.tmp 38), none⟩]) (
      .reg [5, 1, 7, 6, 15, 4, 2, 16, 17] [
        ⟨(some 39), .fldA 4 (.tmp 5), none⟩,
        ⟨(some 40), .load none (.tmp 39), none⟩,
        ⟨(some 41), .load (some 2) (.tmp 9), none⟩,
        ⟨(some 42), .buildSl 1 [(.int .i64 0), (.int .i64 0)] [(0, 2, (.tmp 41))], none⟩,
        ⟨(some 43), .append 2 16 (.tmp 40) (.tmp 42), none⟩,
        ⟨(some 44), .fldA 4 (.tmp 5), none⟩,
        ⟨none, .store 1 (.tmp 44) (.tmp 43), none⟩]))))))))) (
    .reg [17, 5, 1, 7, 6, 15, 4, 2, 16] [
      ⟨(some 45), .bin .add (.tmp 17) (.const (.int .i64 1)), none⟩,
      ⟨(some 17), .val (.tmp 45), none⟩]))))))))))))) (
 (.seq (
  (.seq (
   .reg [5, 1, 4, 2, 47] [
     ⟨(some 46), .val (.tmp 7), none⟩,
     ⟨(some 47), .un .not (.tmp 46), none⟩]) (
  (.cond (.tmp 47) (
   (.seq (
    .reg [5, 1, 4, 2] [
      ⟨(some 48), .fldA 5 (.tmp 5), none⟩,
      ⟨none, .store 1 (.tmp 48) (.const (.slice none 0 0)), none⟩]) (
   (.seq (
    .reg [52, 5, 1, 50, 4, 51] [
      ⟨(some 49), .fldA 5 (.tmp 2), none⟩,
      ⟨(some 50), .load none (.tmp 49), none⟩,
      ⟨(some 51), .len .sl (.tmp 50), none⟩,
      ⟨(some 52), .val (.const (.int .i64 0)), none⟩]) (
   (.block 2 (
    (.loop (
     (.seq (
      .reg [5, 1, 50, 4, 51, 52, 53] [
        ⟨(some 53), .bin .lss (.tmp 52) (.tmp 51), none⟩]) (
     (.seq (
      (.cond (.tmp 53) (
       .skip) (
       .exit 2))) (
     (.seq (
      (.block 3 (
       (.seq (
        .reg [5, 1, 50, 4, 51, 52, 11] [
          ⟨(some 54), .idxSl 1 (.tmp 50) (.tmp 52), none⟩,
          ⟨(some 55), .load none (.tmp 54), none⟩,
          ⟨(some 11), .val (.tmp 55), none⟩]) (
       (.seq (
        .reg [5, 1, 50, 4, 51, 52, 11, 58] [
          ⟨(some 56), .val (.tmp 11), none⟩,
          ⟨(some 57), .val (.tmp 1), none⟩,
          ⟨(some 58), .bin .neq (.tmp 56) (.tmp 57), none⟩]) (
       (.cond (.tmp 58) (
        .reg [5, 1, 50, 4, 51, 52] [
          ⟨(some 59), .fldA 5 (.tmp 5), none⟩,
          ⟨(some 60), .load none (.tmp 59), none⟩,
          ⟨(some 61), .val (.tmp 11), none⟩,
          ⟨(some 62), .buildSl 1 [(.int .i64 0)] [(0, 1, (.tmp 61))], none⟩,
          ⟨(some 63), .append 1 8 (.tmp 60) (.tmp 62), none⟩,
          ⟨(some 64), .fldA 5 (.tmp 5), none⟩,
          ⟨none, .store 1 (.tmp 64) (.tmp 63), none⟩]) (
        .skip))))))))) (
     .reg [52, 5, 1, 50, 4, 51] [
       ⟨(some 65), .bin .add (.tmp 52) (.const (.int .i64 1)), none⟩,
       ⟨(some 52), .val (.tmp 65), none⟩]))))))))))))))) (
   .skip))))) (
 (.seq (
  .reg [4] [
    ⟨(some 66), .load (some 6) (.tmp 5), none⟩,
    ⟨none, .store 6 (.tmp 4) (.tmp 66), none⟩]) (
 .ret))))))))))))))))
def H36 : Hint := (.two (.reg [1, 4, 2] []) (.two (.reg [5, 1, 4, 2] []) (.two (.reg [5, 1, 4, 2] []) (.two (.reg [5, 1, 6, 4, 2] []) (.two (.reg [5, 1, 7, 6, 4, 2] []) (.two (.two (.reg [17, 5, 1, 7, 6, 15, 4, 2, 16] []) (.one (.one (.two (.reg [5, 1, 7, 15, 4, 2, 16, 17, 6, 18] []) (.two (.two .leaf .leaf) (.two (.one (.two (.reg [5, 1, 7, 15, 4, 2, 16, 17, 9, 6] []) (.two (.two (.reg [5, 1, 7, 15, 4, 2, 16, 17, 9, 6, 28] []) (.two (.two (.reg [5, 1, 7, 15, 4, 2, 16, 17] []) (.two (.reg [5, 1, 7, 6, 15, 4, 2, 16, 17] []) .leaf)) .leaf)) (.two (.reg [5, 1, 7, 6, 15, 4, 2, 16, 17, 9] []) (.reg [5, 1, 7, 6, 15, 4, 2, 16, 17] []))))) (.reg [17, 5, 1, 7, 6, 15, 4, 2, 16] []))))))) (.two (.two (.reg [5, 1, 4, 2, 47] []) (.two (.two (.reg [5, 1, 4, 2] []) (.two (.reg [52, 5, 1, 50, 4, 51] []) (.one (.one (.two (.reg [5, 1, 50, 4, 51, 52, 53] []) (.two (.two .leaf .leaf) (.two (.one (.two (.reg [5, 1, 50, 4, 51, 52, 11] []) (.two (.reg [5, 1, 50, 4, 51, 52, 11, 58] []) (.two (.reg [5, 1, 50, 4, 51, 52] []) .leaf)))) (.reg [52, 5, 1, 50, 4, 51] [])))))))) .leaf)) (.two (.reg [4] []) .leaf))))))))
def R36 : List ARes := [.cell 4 (some 6)]
theorem code36 : cCode Try.prog 67 H36 (Try.f36.body.getD .skip) = some A36 := by kernel_rfl
theorem ok36 : FunOk Try.prog 36 ⟨R36, A36⟩ := ⟨Try.f36, _, H36, 67, Try.func36, by kernel_rfl, by kernel_rfl, code36, by decide, by kernel_rfl⟩
def A37 : ACode :=
 (.seq (
  .reg [0, 1] [
    ⟨(some 4), .val (.const (.int .i64 0)), none⟩]) (
 (.seq (
  (.seq (
   .reg [8, 0, 1, 7] [
     ⟨(some 6), .val (.tmp 0), none⟩,
     ⟨(some 7), .len .sl (.tmp 6), none⟩,
     ⟨(some 8), .val (.const (.int .i64 0)), none⟩]) (
  (.block 0 (
   (.loop (
    (.seq (
     .reg [0, 1, 7, 8, 9] [
       ⟨(some 9), .bin .lss (.tmp 8) (.tmp 7), none⟩]) (
    (.seq (
     (.cond (.tmp 9) (
      .skip) (
      .exit 0))) (
    (.seq (
     (.block 1 (
      (.seq (
       .reg [5, 0, 1, 7, 8] [
         ⟨(some 10), .val (.tmp 8), none⟩,
         ⟨(some 5), .val (.tmp 10), none⟩]) (
      (.seq (
       .reg [5, 0, 1, 7, 8, 16] [
         ⟨(some 11), .val (.tmp 1), none⟩,
         ⟨(some 12), .val (.tmp 0), none⟩,
         ⟨(some 13), .val (.tmp 5), none⟩,
         ⟨(some 14), .idxSl 1 (.tmp 12) (.tmp 13), none⟩,
         ⟨(some 15), .load none (.tmp 14), none⟩,
         ⟨(some 16), .bin .eql (.tmp 11) (.tmp 15), none⟩]) (
      (.cond (.tmp 16) (
       (.seq (
        .reg [4] [
          ⟨(some 17), .val (.tmp 5), none⟩,
          ⟨(some 4), .val (.tmp 17), none⟩]) (
       .ret))) (
       .skip))))))))) (
    .reg [8, 0, 1, 7] [
      ⟨(some 18), .bin .add (.tmp 8) (.const (.int .i64 1)), none⟩,
      ⟨(some 8), .val (.tmp 18), none⟩]))))))))))))) (
 (.seq (
  .reg [4] [
    ⟨(some 4), .val (.const (.int .i64 (-1))), none⟩]) (
 .ret))))))
def H37 : Hint := (.two (.reg [0, 1] []) (.two (.two (.reg [8, 0, 1, 7] []) (.one (.one (.two (.reg [0, 1, 7, 8, 9] []) (.two (.two .leaf .leaf) (.two (.one (.two (.reg [5, 0, 1, 7, 8] []) (.two (.reg [5, 0, 1, 7, 8, 16] []) (.two (.two (.reg [4] []) .leaf) .leaf)))) (.reg [8, 0, 1, 7] []))))))) (.two (.reg [4] []) .leaf)))
def R37 : List ARes := [.tmp 4]
theorem code37 : cCode Try.prog 19 H37 (Try.f37.body.getD .skip) = some A37 := by kernel_rfl
theorem ok37 : FunOk Try.prog 37 ⟨R37, A37⟩ := ⟨Try.f37, _, H37, 19, Try.func37, by kernel_rfl, by kernel_rfl, code37, by decide, by kernel_rfl⟩
def tab : List (Nat × AFun) := [(3, ⟨R3, A3⟩), (4, ⟨R4, A4⟩), (5, ⟨R5, A5⟩), (6, ⟨R6, A6⟩), (7, ⟨R7, A7⟩), (8, ⟨R8, A8⟩), (9, ⟨R9, A9⟩), (10, ⟨R10, A10⟩), (11, ⟨R11, A11⟩), (12, ⟨R12, A12⟩), (13, ⟨R13, A13⟩), (14, ⟨R14, A14⟩), (15, ⟨R15, A15⟩), (16, ⟨R16, A16⟩), (17, ⟨R17, A17⟩), (18, ⟨R18, A18⟩), (19, ⟨R19, A19⟩), (20, ⟨R20, A20⟩), (21, ⟨R21, A21⟩), (22, ⟨R22, A22⟩), (23, ⟨R23, A23⟩), (24, ⟨R24, A24⟩), (25, ⟨R25, A25⟩), (26, ⟨R26, A26⟩), (27, ⟨R27, A27⟩), (28, ⟨R28, A28⟩), (29, ⟨R29, A29⟩), (30, ⟨R30, A30⟩), (31, ⟨R31, A31⟩), (32, ⟨R32, A32⟩), (33, ⟨R33, A33⟩), (34, ⟨R34, A34⟩), (35, ⟨R35, A35⟩), (36, ⟨R36, A36⟩), (37, ⟨R37, A37⟩)]
def GA (f : Nat) : Option AFun := (tab.find? (fun x => x.1 == f)).map (·.2)
theorem tab_ok : ∀ p ∈ tab, FunOk Try.prog p.1 p.2 := by
  simp only [tab, List.forall_mem_cons, List.not_mem_nil, false_imp_iff, implies_true, and_true]
  exact ⟨ok3, ok4, ok5, ok6, ok7, ok8, ok9, ok10, ok11, ok12, ok13, ok14, ok15, ok16, ok17, ok18, ok19, ok20, ok21, ok22, ok23, ok24, ok25, ok26, ok27, ok28, ok29, ok30, ok31, ok32, ok33, ok34, ok35, ok36, ok37⟩
theorem GA_ok (f : Nat) (af : AFun) (h : GA f = some af) : FunOk Try.prog f af := by
  unfold GA at h
  cases hf : tab.find? (fun x => x.1 == f) with
  | none => rw [hf] at h; cases h
  | some p =>
    rw [hf] at h
    cases h
    have h1 := List.find?_some hf
    simp only [beq_iff_eq] at h1
    rw [← h1]
    exact tab_ok p (List.mem_of_find?_eq_some hf)
/-- All but the closed example, which is run once and for all. -/
def G (f : Nat) : Option AFun := if f = 11 then none else GA f
theorem G_ok (f : Nat) (af : AFun) (h : G f = some af) : FunOk Try.prog f af := by
  unfold G at h
  split at h
  · cases h
  · exact GA_ok f af h
def XL (f : Nat) (args : List Value) : Option Value := if f = 11 ∧ args.isEmpty then some (.bool true) else none
theorem G_live : G 11 = none := rfl
theorem X_live : XL 11 [] = some (.bool true) := rfl
theorem lives_run : wpF GA (fun _ _ => none) 30 11 [] S0 (fun v _ => v = .bool true) = (Value.bool true = .bool true) := by kernel_rfl
theorem XL_ok : XOk Try.prog XL := xok_of_run (X := fun _ _ => none) (by kernel_rfl) GA_ok (fun f args v h => by cases h) (k := 30) (f := 11) (b := true) (by rw [lives_run])
end Go.Proofs.Ytgnjkkppahhhfaa
