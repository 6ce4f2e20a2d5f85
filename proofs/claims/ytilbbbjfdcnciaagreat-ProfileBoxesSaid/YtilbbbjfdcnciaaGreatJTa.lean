/-
  The functions as code of the abstract machine, part 1: made by program.
-/
import Derived.Test.YtilbbbjfdcnciaaGreatJMa
set_option maxRecDepth 100000
namespace Go.Va

/-- spokeshave/spokeshavelaw17.ProfileBoxes -/
def a7 : AFunc := ⟨
 (.seq
  (.region [] [] [
    ⟨(some 8), .mov (.c (.bool false)), none⟩] false [0, 1, 2, 3])
 (.seq
  (.region [] [] [
    ⟨(some 12), .mov (.t 0), none⟩,
    ⟨(some 13), .mov (.t 1), none⟩,
    ⟨(some 14), .mov (.t 2), none⟩,
    ⟨(some 15), .mov (.t 3), none⟩,
    ⟨(some 16), .call .pure false (.f 30) [.t 12, .t 13, .t 14, .t 15], none⟩,
    ⟨(some 11), .mov (.t 16), none⟩,
    ⟨(some 17), .ext 0 (.t 11), none⟩,
    ⟨(some 18), .ext 1 (.t 11), none⟩,
    ⟨(some 9), .alloc [.slT true []], none⟩,
    ⟨none, .store 1 (.t 9) (.t 17), none⟩,
    ⟨(some 10), .mov (.t 18), none⟩] false [0, 1, 2, 3, 9, 10])
 (.seq
  (.seq
   (.region [] [] [
     ⟨(some 19), .mov (.t 0), none⟩,
     ⟨(some 20), .mov (.t 1), none⟩,
     ⟨(some 21), .build [.int .i64 0, .int .i64 0] [(0, 1, .t 19), (1, 1, .t 20)], none⟩,
     ⟨(some 22), .call .pure false (.f 14) [.t 21], none⟩,
     ⟨(some 23), .un .not (.t 22), none⟩,
     ⟨(some 24), .mov (.t 23), none⟩,
     ⟨(some 25), .mov (.t 2), (some (24, false))⟩,
     ⟨(some 26), .mov (.t 3), (some (24, false))⟩,
     ⟨(some 27), .build [.int .i64 0, .int .i64 0] [(0, 1, .t 25), (1, 1, .t 26)], (some (24, false))⟩,
     ⟨(some 28), .call .pure false (.f 14) [.t 27], (some (24, false))⟩,
     ⟨(some 29), .un .not (.t 28), (some (24, false))⟩,
     ⟨(some 30), .pick (.t 24) (.c (.bool true)) (.t 29), none⟩,
     ⟨(some 31), .mov (.t 30), none⟩,
     ⟨(some 32), .mov (.t 0), (some (31, false))⟩,
     ⟨(some 33), .mov (.t 2), (some (31, false))⟩,
     ⟨(some 34), .bin .geq 0 (.t 32) (.t 33), (some (31, false))⟩,
     ⟨(some 35), .pick (.t 31) (.c (.bool true)) (.t 34), none⟩,
     ⟨(some 36), .mov (.t 35), none⟩,
     ⟨(some 37), .mov (.t 1), (some (36, false))⟩,
     ⟨(some 38), .mov (.t 3), (some (36, false))⟩,
     ⟨(some 39), .bin .geq 0 (.t 37) (.t 38), (some (36, false))⟩,
     ⟨(some 40), .pick (.t 36) (.c (.bool true)) (.t 39), none⟩] false [0, 1, 2, 3, 9, 10, 40])
   (.cond (.t 40)
    (.seq
     (.region [] [] [
       ⟨(some 41), .load (.many 1) (.t 9), none⟩,
       ⟨(some 42), .mov (.t 10), none⟩,
       ⟨(some 43), .call .pure false (.f 15) [.t 41, .t 42, .c (.slT true []), .c (.int .i64 1)], none⟩,
       ⟨(some 44), .mov (.t 43), none⟩,
       ⟨(some 45), .call .pure false (.f 12) [], (some (44, true))⟩,
       ⟨(some 46), .pick (.t 44) (.t 45) (.c (.bool false)), none⟩,
       ⟨(some 8), .mov (.t 46), none⟩] false [8])
     .ret)
    .skip
    [0, 1, 2, 3, 9, 10]))
 (.seq
  (.region [] [] [
    ⟨(some 47), .load (.many 1) (.t 9), none⟩,
    ⟨(some 48), .mov (.t 10), none⟩,
    ⟨(some 49), .mov (.t 0), none⟩,
    ⟨(some 50), .mov (.t 1), none⟩,
    ⟨(some 51), .mov (.t 2), none⟩,
    ⟨(some 52), .mov (.t 3), none⟩,
    ⟨(some 53), .call .pure false (.f 31) [.t 49, .t 50, .t 51, .t 52], none⟩,
    ⟨(some 54), .call .pure false (.f 15) [.t 47, .t 48, .t 53, .c (.int .i64 0)], none⟩,
    ⟨(some 55), .mov (.t 54), none⟩,
    ⟨(some 56), .call .pure false (.f 12) [], (some (55, true))⟩,
    ⟨(some 57), .pick (.t 55) (.t 56) (.c (.bool false)), none⟩,
    ⟨(some 8), .mov (.t 57), none⟩] true [8])
  .ret)))),
 [.t 8]⟩
/-- spokeshave/spokeshavelaw17.awake -/
def a12 : AFunc := ⟨
 (.seq
  (.region [] [] [
    ⟨(some 0), .mov (.c (.bool false)), none⟩] false [])
 (.seq
  (.region [] [] [
    ⟨(some 14), .call .pure false (.f 50) [], none⟩,
    ⟨(some 15), .call .pure false (.f 25) [.t 14], none⟩,
    ⟨(some 13), .mov (.t 15), none⟩,
    ⟨(some 16), .ext 0 (.t 13), none⟩,
    ⟨(some 17), .ext 1 (.t 13), none⟩,
    ⟨(some 1), .mov (.t 16), none⟩,
    ⟨(some 2), .mov (.t 17), none⟩] false [1, 2])
 (.seq
  (.region [] [] [
    ⟨(some 19), .call .pure false (.f 50) [], none⟩,
    ⟨(some 20), .call .pure false (.f 26) [.t 19], none⟩,
    ⟨(some 18), .mov (.t 20), none⟩,
    ⟨(some 21), .ext 0 (.t 18), none⟩,
    ⟨(some 22), .ext 1 (.t 18), none⟩,
    ⟨(some 23), .ext 2 (.t 18), none⟩,
    ⟨(some 24), .ext 3 (.t 18), none⟩,
    ⟨(some 3), .mov (.t 21), none⟩,
    ⟨(some 4), .mov (.t 22), none⟩,
    ⟨(some 5), .mov (.t 23), none⟩,
    ⟨(some 6), .mov (.t 24), none⟩] false [1, 2, 3, 4, 5, 6])
 (.seq
  (.region [] [] [
    ⟨(some 26), .call .pure false (.f 50) [], none⟩,
    ⟨(some 27), .call .pure false (.f 21) [.t 26, .c (.int .i64 2), .c (.int .i64 2), .c (.int .i64 1)], none⟩,
    ⟨(some 25), .mov (.t 27), none⟩,
    ⟨(some 28), .ext 0 (.t 25), none⟩,
    ⟨(some 29), .ext 1 (.t 25), none⟩,
    ⟨(some 7), .mov (.t 28), none⟩,
    ⟨(some 8), .mov (.t 29), none⟩] false [1, 2, 3, 4, 5, 6, 7, 8])
 (.seq
  (.region [] [] [
    ⟨(some 31), .call .pure false (.f 50) [], none⟩,
    ⟨(some 32), .call .pure false (.f 21) [.t 31, .c (.int .i64 1), .c (.int .i64 1), .c (.int .i64 2)], none⟩,
    ⟨(some 30), .mov (.t 32), none⟩,
    ⟨(some 33), .ext 0 (.t 30), none⟩,
    ⟨(some 34), .ext 1 (.t 30), none⟩,
    ⟨(some 9), .mov (.t 33), none⟩,
    ⟨(some 10), .mov (.t 34), none⟩] false [1, 2, 3, 4, 5, 6, 7, 8, 9, 10])
 (.seq
  (.region [] [] [
    ⟨(some 36), .build [.int .i64 0, .int .i64 0] [(0, 1, .c (.int .i64 0)), (1, 1, .c (.int .i64 0))], none⟩,
    ⟨(some 37), .build [.int .i64 0, .int .i64 0] [(0, 1, .c (.int .i64 1)), (1, 1, .c (.int .i64 1))], none⟩,
    ⟨(some 38), .build [.int .i64 0, .int .i64 0] [(0, 1, .c (.int .i64 2)), (1, 1, .c (.int .i64 2))], none⟩,
    ⟨(some 39), .mkSl [.int .i64 0, .int .i64 0] (.many 2) 3 [(0, .t 36), (1, .t 37), (2, .t 38)], none⟩,
    ⟨(some 40), .call .pure false (.f 13) [.t 39], none⟩,
    ⟨(some 35), .mov (.t 40), none⟩,
    ⟨(some 41), .ext 0 (.t 35), none⟩,
    ⟨(some 42), .ext 1 (.t 35), none⟩,
    ⟨(some 11), .alloc [.slT true []], none⟩,
    ⟨none, .store 1 (.t 11) (.t 41), none⟩,
    ⟨(some 12), .mov (.t 42), none⟩] false [1, 2, 3, 4, 5, 6, 7, 8, 9, 10, 12])
 (.seq
  (.region [] [] [
    ⟨(some 43), .mov (.t 2), none⟩,
    ⟨(some 44), .bin .eql 0 (.t 43) (.c (.int .i64 0)), none⟩,
    ⟨(some 45), .mov (.t 44), none⟩,
    ⟨(some 46), .mov (.t 1), (some (45, true))⟩,
    ⟨(some 47), .bin .eql 0 (.t 46) (.c (.int .i64 24)), (some (45, true))⟩,
    ⟨(some 48), .pick (.t 45) (.t 47) (.c (.bool false)), none⟩,
    ⟨(some 49), .mov (.t 48), none⟩,
    ⟨(some 50), .mov (.t 6), (some (49, true))⟩,
    ⟨(some 51), .bin .eql 0 (.t 50) (.c (.int .i64 0)), (some (49, true))⟩,
    ⟨(some 52), .pick (.t 49) (.t 51) (.c (.bool false)), none⟩,
    ⟨(some 53), .mov (.t 52), none⟩,
    ⟨(some 54), .mov (.t 3), (some (53, true))⟩,
    ⟨(some 55), .bin .eql 0 (.t 54) (.c (.int .i64 1)), (some (53, true))⟩,
    ⟨(some 56), .pick (.t 53) (.t 55) (.c (.bool false)), none⟩,
    ⟨(some 57), .mov (.t 56), none⟩,
    ⟨(some 58), .mov (.t 4), (some (57, true))⟩,
    ⟨(some 59), .bin .eql 0 (.t 58) (.c (.int .i64 1)), (some (57, true))⟩,
    ⟨(some 60), .pick (.t 57) (.t 59) (.c (.bool false)), none⟩,
    ⟨(some 61), .mov (.t 60), none⟩,
    ⟨(some 62), .mov (.t 5), (some (61, true))⟩,
    ⟨(some 63), .bin .eql 0 (.t 62) (.c (.int .i64 8)), (some (61, true))⟩,
    ⟨(some 64), .pick (.t 61) (.t 63) (.c (.bool false)), none⟩,
    ⟨(some 65), .mov (.t 64), none⟩,
    ⟨(some 66), .mov (.t 8), (some (65, true))⟩,
    ⟨(some 67), .bin .eql 0 (.t 66) (.c (.int .i64 0)), (some (65, true))⟩,
    ⟨(some 68), .pick (.t 65) (.t 67) (.c (.bool false)), none⟩,
    ⟨(some 69), .mov (.t 68), none⟩,
    ⟨(some 70), .mov (.t 7), (some (69, true))⟩,
    ⟨(some 71), .bin .eql 0 (.t 70) (.c (.int .i64 (-1))), (some (69, true))⟩,
    ⟨(some 72), .pick (.t 69) (.t 71) (.c (.bool false)), none⟩,
    ⟨(some 73), .mov (.t 72), none⟩,
    ⟨(some 74), .mov (.t 10), (some (73, true))⟩,
    ⟨(some 75), .bin .eql 0 (.t 74) (.c (.int .i64 0)), (some (73, true))⟩,
    ⟨(some 76), .pick (.t 73) (.t 75) (.c (.bool false)), none⟩,
    ⟨(some 77), .mov (.t 76), none⟩,
    ⟨(some 78), .mov (.t 9), (some (77, true))⟩,
    ⟨(some 79), .bin .eql 0 (.t 78) (.c (.int .i64 1)), (some (77, true))⟩,
    ⟨(some 80), .pick (.t 77) (.t 79) (.c (.bool false)), none⟩,
    ⟨(some 81), .mov (.t 80), none⟩,
    ⟨(some 82), .mov (.t 12), (some (81, true))⟩,
    ⟨(some 83), .bin .eql 0 (.t 82) (.c (.int .i64 4)), (some (81, true))⟩,
    ⟨(some 84), .pick (.t 81) (.t 83) (.c (.bool false)), none⟩,
    ⟨(some 0), .mov (.t 84), none⟩] false [0])
  .ret))))))),
 [.t 0]⟩
/-- spokeshave/profile.Hull -/
def a13 : AFunc := ⟨
 (.seq
  (.region [] [] [
    ⟨(some 2), .alloc [.slT true []], none⟩,
    ⟨(some 3), .mov (.c (.int .i64 0)), none⟩] false [0, 2])
 (.seq
  (.seq
   (.region [] [] [
     ⟨(some 7), .mov (.t 0), none⟩,
     ⟨(some 8), .len (.t 7), none⟩,
     ⟨(some 9), .bin .gtr 0 (.t 8) (.c (.int .i64 100)), none⟩,
     ⟨(some 10), .mov (.t 9), none⟩,
     ⟨(some 11), .mov (.t 0), (some (10, false))⟩,
     ⟨(some 12), .call .pure false (.f 51) [.t 11, .f 52], (some (10, false))⟩,
     ⟨(some 13), .pick (.t 10) (.c (.bool true)) (.t 12), none⟩] false [0, 2, 13])
   (.cond (.t 13)
    (.seq
     (.region [] [] [
       ⟨(some 14), .build [.slT true []] [], none⟩,
       ⟨none, .store 1 (.t 2) (.t 14), none⟩,
       ⟨(some 3), .mov (.c (.int .i64 1)), none⟩] false [2, 3])
     .ret)
    .skip
    [0, 2]))
 (.seq
  (.region [] [] [
    ⟨(some 15), .mov (.t 0), none⟩,
    ⟨(some 16), .call .inl false (.f 54) [.t 15], none⟩,
    ⟨(some 0), .mov (.t 16), none⟩] false [0, 2])
 (.seq
  (.region [] [] [
    ⟨(some 17), .mov (.t 0), none⟩,
    ⟨(some 18), .call .inl false (.f 55) [.t 17, .f 56], none⟩] false [0, 2])
 (.seq
  (.region [] [] [
    ⟨(some 19), .mov (.t 0), none⟩,
    ⟨(some 20), .call .inl false (.f 57) [.t 19], none⟩,
    ⟨(some 0), .mov (.t 20), none⟩] false [0, 2])
 (.seq
  (.region [] [] [
    ⟨(some 4), .mov (.f 58), none⟩] false [0, 2, 4])
 (.seq
  (.seq
   (.region [] [] [
     ⟨(some 21), .mov (.t 0), none⟩,
     ⟨(some 22), .len (.t 21), none⟩,
     ⟨(some 23), .bin .lss 0 (.t 22) (.c (.int .i64 3)), none⟩] false [0, 2, 4, 23])
   (.cond (.t 23)
    (.seq
     (.region [] [] [
       ⟨(some 24), .build [.slT true []] [], none⟩,
       ⟨none, .store 1 (.t 2) (.t 24), none⟩,
       ⟨(some 3), .mov (.c (.int .i64 4)), none⟩] false [2, 3])
     .ret)
    .skip
    [0, 2, 4]))
 (.seq
  (.region [] [] [
    ⟨(some 25), .mov (.t 4), none⟩,
    ⟨(some 26), .mov (.t 0), none⟩,
    ⟨(some 27), .call .bor false (.t 25) [.t 26], none⟩,
    ⟨(some 5), .mov (.t 27), none⟩] false [0, 2, 4, 5])
 (.seq
  (.region [] [] [
    ⟨(some 28), .mov (.t 0), none⟩,
    ⟨(some 29), .call .inl false (.f 60) [.t 28], none⟩] false [0, 2, 4, 5])
 (.seq
  (.region [] [] [
    ⟨(some 30), .mov (.t 5), none⟩,
    ⟨(some 31), .mov (.t 4), none⟩,
    ⟨(some 32), .mov (.t 0), none⟩,
    ⟨(some 33), .call .bor false (.t 31) [.t 32], none⟩,
    ⟨(some 34), .mkSl [.slT true []] .one 2 [(0, .t 30), (1, .t 33)], none⟩,
    ⟨(some 35), .call .pure false (.f 61) [.t 34], none⟩,
    ⟨(some 6), .mov (.t 35), none⟩] false [2, 6])
 (.seq
  (.seq
   (.region [] [] [
     ⟨(some 36), .mov (.t 6), none⟩,
     ⟨(some 37), .len (.t 36), none⟩,
     ⟨(some 38), .bin .lss 0 (.t 37) (.c (.int .i64 3)), none⟩] false [2, 6, 38])
   (.cond (.t 38)
    (.seq
     (.region [] [] [
       ⟨(some 39), .build [.slT true []] [], none⟩,
       ⟨none, .store 1 (.t 2) (.t 39), none⟩,
       ⟨(some 3), .mov (.c (.int .i64 4)), none⟩] false [2, 3])
     .ret)
    .skip
    [2, 6]))
 (.seq
  (.seq
   (.region [] [] [
     ⟨(some 40), .mov (.t 6), none⟩,
     ⟨(some 41), .len (.t 40), none⟩,
     ⟨(some 42), .bin .gtr 0 (.t 41) (.c (.int .i64 60)), none⟩] false [2, 6, 42])
   (.cond (.t 42)
    (.seq
     (.region [] [] [
       ⟨(some 43), .build [.slT true []] [], none⟩,
       ⟨none, .store 1 (.t 2) (.t 43), none⟩,
       ⟨(some 3), .mov (.c (.int .i64 2)), none⟩] false [2, 3])
     .ret)
    .skip
    [2, 6]))
 (.seq
  (.region [] [] [
    ⟨(some 44), .mov (.t 6), none⟩,
    ⟨(some 45), .mkSl [.slT true []] .one 1 [(0, .t 44)], none⟩,
    ⟨(some 46), .build [.slT true []] [(0, 1, .t 45)], none⟩,
    ⟨none, .store 1 (.t 2) (.t 46), none⟩,
    ⟨(some 3), .mov (.c (.int .i64 0)), none⟩] false [2, 3])
  .ret))))))))))))),
 [.cell 2 (.many 1), .t 3]⟩
/-- spokeshave/spokeshaveref17.IsSpot -/
def a14 : AFunc := ⟨
 (.seq
  (.region [] [] [
    ⟨(some 1), .box (.t 0), none⟩,
    ⟨(some 2), .mov (.c (.bool false)), none⟩] false [1])
 (.seq
  (.region [] [] [
    ⟨(some 3), .load (.many 2) (.t 1), none⟩,
    ⟨(some 4), .call .pure false (.f 62) [.t 3], none⟩,
    ⟨(some 2), .mov (.t 4), none⟩] false [2])
  .ret)),
 [.t 2]⟩
/-- spokeshave/spokeshavelaw17.fits -/
def a15 : AFunc := ⟨
 (.seq
  (.region [] [] [
    ⟨(some 4), .box (.t 0), none⟩,
    ⟨(some 8), .mov (.c (.bool false)), none⟩] false [1, 2, 3, 4])
 (.seq
  (.seq
   (.region [] [] [
     ⟨(some 9), .mov (.t 3), none⟩,
     ⟨(some 10), .bin .neq 0 (.t 9) (.c (.int .i64 0)), none⟩] false [1, 2, 3, 4, 10])
   (.cond (.t 10)
    (.seq
     (.region [] [] [
       ⟨(some 11), .mov (.t 1), none⟩,
       ⟨(some 12), .mov (.t 3), none⟩,
       ⟨(some 13), .bin .eql 0 (.t 11) (.t 12), none⟩,
       ⟨(some 14), .mov (.t 13), none⟩,
       ⟨(some 15), .load (.many 1) (.t 4), (some (14, true))⟩,
       ⟨(some 16), .call .pure false (.f 63) [.t 15], (some (14, true))⟩,
       ⟨(some 17), .pick (.t 14) (.t 16) (.c (.bool false)), none⟩,
       ⟨(some 8), .mov (.t 17), none⟩] false [8])
     .ret)
    .skip
    [1, 2, 4]))
 (.seq
  (.region [] [] [
    ⟨(some 18), .mov (.t 1), none⟩,
    ⟨(some 19), .bin .eql 0 (.t 18) (.c (.int .i64 0)), none⟩,
    ⟨(some 20), .mov (.t 19), none⟩,
    ⟨(some 21), .load (.many 1) (.t 4), (some (20, true))⟩,
    ⟨(some 22), .mov (.t 2), (some (20, true))⟩,
    ⟨(some 23), .call .pure false (.f 41) [.t 21, .t 22], (some (20, true))⟩,
    ⟨(some 24), .pick (.t 20) (.t 23) (.c (.bool false)), none⟩,
    ⟨(some 8), .mov (.t 24), none⟩] false [8])
  .ret))),
 [.t 8]⟩
/-- spokeshave/spokeshavelaw17.Their -/
def a18 : AFunc := ⟨
 (.seq
  (.region [] [] [
    ⟨(some 1), .box (.t 0), none⟩,
    ⟨(some 2), .nilv .one, none⟩] false [1])
 (.seq
  (.region [] [] [
    ⟨(some 3), .nilv .one, none⟩] false [1, 3])
 (.seq
  (.seq
   (.region [] [] [
     ⟨(some 4), .mov (.c (.int .i64 0)), none⟩] false [1, 3, 4])
   (.block 0
    (.loop
     (.seq
      (.seq
       (.region [] [] [
         ⟨(some 7), .mov (.t 4), none⟩,
         ⟨(some 8), .fldA 0 .one (.t 1), none⟩,
         ⟨(some 9), .load .one (.t 8), none⟩,
         ⟨(some 10), .len (.t 9), none⟩,
         ⟨(some 11), .bin .lss 0 (.t 7) (.t 10), none⟩] false [1, 3, 4, 11])
       (.cond (.t 11)
        .skip
        (.exit 0)
        [1, 3, 4]))
     (.seq
      (.block 1
       (.seq
        (.region [] [] [
          ⟨(some 5), .nilv (.many 2), none⟩] false [1, 3, 4, 5])
       (.seq
        (.seq
         (.region [] [] [
           ⟨(some 6), .mov (.c (.int .i64 0)), none⟩] false [1, 3, 4, 5, 6])
         (.block 2
          (.loop
           (.seq
            (.seq
             (.region [] [] [
               ⟨(some 14), .mov (.t 6), none⟩,
               ⟨(some 15), .fldA 0 .one (.t 1), none⟩,
               ⟨(some 16), .load .one (.t 15), none⟩,
               ⟨(some 17), .mov (.t 4), none⟩,
               ⟨(some 18), .idxS .one (.t 16) (.t 17), none⟩,
               ⟨(some 19), .load .one (.t 18), none⟩,
               ⟨(some 20), .len (.t 19), none⟩,
               ⟨(some 21), .bin .lss 0 (.t 14) (.t 20), none⟩] false [1, 3, 4, 5, 6, 21])
             (.cond (.t 21)
              .skip
              (.exit 2)
              [1, 3, 4, 5, 6]))
           (.seq
            (.block 3
             (.region [] [] [
               ⟨(some 24), .mov (.t 5), none⟩,
               ⟨(some 25), .fldA 0 .one (.t 1), none⟩,
               ⟨(some 26), .load .one (.t 25), none⟩,
               ⟨(some 27), .mov (.t 4), none⟩,
               ⟨(some 28), .idxS .one (.t 26) (.t 27), none⟩,
               ⟨(some 29), .load .one (.t 28), none⟩,
               ⟨(some 30), .mov (.t 6), none⟩,
               ⟨(some 31), .idxS (.many 2) (.t 29) (.t 30), none⟩,
               ⟨(some 32), .load (.many 2) (.t 31), none⟩,
               ⟨(some 33), .mkSl [.int .i64 0, .int .i64 0] (.many 2) 1 [(0, .t 32)], none⟩,
               ⟨(some 34), .app (.many 2) 16 (.t 24) (.t 33), none⟩,
               ⟨(some 5), .mov (.t 34), none⟩] false [1, 3, 4, 5, 6])
             [1, 3, 4, 5, 6])
            (.region [] [] [
              ⟨(some 22), .mov (.t 6), none⟩,
              ⟨(some 23), .bin .add 0 (.t 22) (.c (.int .i64 1)), none⟩,
              ⟨(some 6), .mov (.t 23), none⟩] false [1, 3, 4, 5, 6])))
           [1, 3, 4, 5, 6])
          [1, 3, 4, 5]))
        (.region [] [] [
          ⟨(some 35), .mov (.t 3), none⟩,
          ⟨(some 36), .mov (.t 5), none⟩,
          ⟨(some 37), .mkSl [.slT true []] .one 1 [(0, .t 36)], none⟩,
          ⟨(some 38), .app .one 24 (.t 35) (.t 37), none⟩,
          ⟨(some 3), .mov (.t 38), none⟩] false [1, 3, 4])))
       [1, 3, 4])
      (.region [] [] [
        ⟨(some 12), .mov (.t 4), none⟩,
        ⟨(some 13), .bin .add 0 (.t 12) (.c (.int .i64 1)), none⟩,
        ⟨(some 4), .mov (.t 13), none⟩] false [1, 3, 4])))
     [1, 3, 4])
    [3]))
 (.seq
  (.region [] [] [
    ⟨(some 39), .mov (.t 3), none⟩,
    ⟨(some 2), .mov (.t 39), none⟩] false [2])
  .ret)))),
 [.t 2]⟩
/-- spokeshave/profile.Where -/
def a21 : AFunc := ⟨
 (.seq
  (.region [] [] [
    ⟨(some 4), .box (.t 0), none⟩,
    ⟨(some 8), .mov (.c (.int .i64 0)), none⟩,
    ⟨(some 9), .mov (.c (.int .i64 0)), none⟩] false [1, 2, 3, 4])
 (.seq
  (.region [] [] [
    ⟨(some 13), .load (.many 1) (.t 4), none⟩,
    ⟨(some 14), .call .pure false (.f 71) [.t 13], none⟩,
    ⟨(some 12), .mov (.t 14), none⟩,
    ⟨(some 15), .ext 0 (.t 12), none⟩,
    ⟨(some 16), .ext 1 (.t 12), none⟩,
    ⟨none, .store 1 (.t 4) (.t 15), none⟩,
    ⟨(some 10), .mov (.t 16), none⟩] false [1, 2, 3, 4, 10])
 (.seq
  (.seq
   (.region [] [] [
     ⟨(some 17), .mov (.t 10), none⟩,
     ⟨(some 18), .bin .neq 0 (.t 17) (.c (.int .i64 0)), none⟩] false [1, 2, 3, 4, 10, 18])
   (.cond (.t 18)
    (.seq
     (.region [] [] [
       ⟨(some 19), .mov (.t 10), none⟩,
       ⟨(some 8), .mov (.c (.int .i64 0)), none⟩,
       ⟨(some 9), .mov (.t 19), none⟩] false [8, 9])
     .ret)
    .skip
    [1, 2, 3, 4]))
 (.seq
  (.seq
   (.region [] [] [
     ⟨(some 20), .mov (.t 3), none⟩,
     ⟨(some 21), .bin .lss 0 (.t 20) (.c (.int .i64 1)), none⟩,
     ⟨(some 22), .mov (.t 21), none⟩,
     ⟨(some 23), .mov (.t 3), (some (22, false))⟩,
     ⟨(some 24), .bin .gtr 0 (.t 23) (.c (.int .i64 1048576)), (some (22, false))⟩,
     ⟨(some 25), .pick (.t 22) (.c (.bool true)) (.t 24), none⟩,
     ⟨(some 26), .mov (.t 25), none⟩,
     ⟨(some 27), .mov (.t 1), (some (26, false))⟩,
     ⟨(some 28), .mov (.t 2), (some (26, false))⟩,
     ⟨(some 29), .max [.t 27, .t 28], (some (26, false))⟩,
     ⟨(some 30), .bin .gtr 0 (.t 29) (.c (.int .i64 2147483648)), (some (26, false))⟩,
     ⟨(some 31), .pick (.t 26) (.c (.bool true)) (.t 30), none⟩,
     ⟨(some 32), .mov (.t 31), none⟩,
     ⟨(some 33), .mov (.t 1), (some (32, false))⟩,
     ⟨(some 34), .mov (.t 2), (some (32, false))⟩,
     ⟨(some 35), .min [.t 33, .t 34], (some (32, false))⟩,
     ⟨(some 36), .bin .lss 0 (.t 35) (.c (.int .i64 (-2147483648))), (some (32, false))⟩,
     ⟨(some 37), .pick (.t 32) (.c (.bool true)) (.t 36), none⟩] false [1, 2, 3, 4, 37])
   (.cond (.t 37)
    (.seq
     (.region [] [] [
       ⟨(some 8), .mov (.c (.int .i64 0)), none⟩,
       ⟨(some 9), .mov (.c (.int .i64 1)), none⟩] false [8, 9])
     .ret)
    .skip
    [1, 2, 3, 4]))
 (.seq
  (.region [] [] [
    ⟨(some 38), .mov (.t 1), none⟩,
    ⟨(some 39), .mov (.t 3), none⟩,
    ⟨(some 40), .call .pure false (.f 72) [.t 38, .t 39], none⟩,
    ⟨(some 41), .mov (.t 2), none⟩,
    ⟨(some 42), .mov (.t 3), none⟩,
    ⟨(some 43), .call .pure false (.f 72) [.t 41, .t 42], none⟩,
    ⟨(some 44), .build [.bool false, .slT true [], .bool false, .slT true [], .bool false, .slT true [], .bool false, .slT true []] [(0, 4, .t 40), (4, 4, .t 43)], none⟩,
    ⟨(some 11), .alloc [.bool false, .slT true [], .bool false, .slT true [], .bool false, .slT true [], .bool false, .slT true []], none⟩,
    ⟨none, .store 8 (.t 11) (.t 44), none⟩] false [4, 11])
 (.seq
  (.region [] [] [
    ⟨(some 45), .load (.many 1) (.t 4), none⟩,
    ⟨(some 46), .call .pure false (.f 74) [.t 45], none⟩,
    ⟨(some 47), .load (.many 8) (.t 11), none⟩,
    ⟨(some 48), .call .pure false (.f 73) [.t 46, .t 47], none⟩,
    ⟨(some 8), .mov (.t 48), none⟩,
    ⟨(some 9), .mov (.c (.int .i64 0)), none⟩] true [8, 9])
  .ret)))))),
 [.t 8, .t 9]⟩
/-- spokeshave/profile.Area -/
def a25 : AFunc := ⟨
 (.seq
  (.region [] [] [
    ⟨(some 1), .box (.t 0), none⟩,
    ⟨(some 2), .mov (.c (.int .i64 0)), none⟩,
    ⟨(some 3), .mov (.c (.int .i64 0)), none⟩] false [1])
 (.seq
  (.region [] [] [
    ⟨(some 9), .load (.many 1) (.t 1), none⟩,
    ⟨(some 10), .call .pure false (.f 71) [.t 9], none⟩,
    ⟨(some 8), .mov (.t 10), none⟩,
    ⟨(some 11), .ext 0 (.t 8), none⟩,
    ⟨(some 12), .ext 1 (.t 8), none⟩,
    ⟨none, .store 1 (.t 1) (.t 11), none⟩,
    ⟨(some 4), .mov (.t 12), none⟩] false [1, 4])
 (.seq
  (.region [] [] [
    ⟨(some 5), .mov (.c (.int .i64 0)), none⟩] false [1, 4, 5])
 (.seq
  (.seq
   (.region [] [] [
     ⟨(some 13), .fldA 0 .one (.t 1), none⟩,
     ⟨(some 14), .load .one (.t 13), none⟩,
     ⟨(some 15), .len (.t 14), none⟩,
     ⟨(some 16), .mov (.c (.int .i64 0)), none⟩] false [4, 5, 14, 15, 16])
   (.block 0
    (.loop
     (.seq
      (.region [] [] [
        ⟨(some 17), .bin .lss 0 (.t 16) (.t 15), none⟩] false [4, 5, 14, 15, 16, 17])
     (.seq
      (.cond (.t 17)
       .skip
       (.exit 0)
       [4, 5, 14, 15, 16])
     (.seq
      (.block 1
       (.seq
        (.region [] [] [
          ⟨(some 18), .idxS .one (.t 14) (.t 16), none⟩,
          ⟨(some 19), .load .one (.t 18), none⟩,
          ⟨(some 7), .mov (.t 19), none⟩] false [4, 5, 7, 14, 15, 16])
        (.region [] [] [
          ⟨(some 20), .mov (.t 5), none⟩,
          ⟨(some 21), .mov (.t 7), none⟩,
          ⟨(some 22), .call .pure false (.f 78) [.t 21], none⟩,
          ⟨(some 23), .bin .add 0 (.t 20) (.t 22), none⟩,
          ⟨(some 5), .mov (.t 23), none⟩] false [4, 5, 14, 15, 16]))
       [4, 5, 14, 15, 16])
      (.region [] [] [
        ⟨(some 24), .bin .add 0 (.t 16) (.c (.int .i64 1)), none⟩,
        ⟨(some 16), .mov (.t 24), none⟩] false [4, 5, 14, 15, 16]))))
     [4, 5, 14, 15, 16])
    [4, 5]))
 (.seq
  (.region [] [] [
    ⟨(some 25), .mov (.t 5), none⟩,
    ⟨(some 26), .mov (.t 4), none⟩,
    ⟨(some 2), .mov (.t 25), none⟩,
    ⟨(some 3), .mov (.t 26), none⟩] false [2, 3])
  .ret))))),
 [.t 2, .t 3]⟩
/-- spokeshave/profile.Counts -/
def a26 : AFunc := ⟨
 (.seq
  (.region [] [] [
    ⟨(some 1), .box (.t 0), none⟩,
    ⟨(some 2), .mov (.c (.int .i64 0)), none⟩,
    ⟨(some 3), .mov (.c (.int .i64 0)), none⟩,
    ⟨(some 4), .mov (.c (.int .i64 0)), none⟩,
    ⟨(some 5), .mov (.c (.int .i64 0)), none⟩] false [1, 2])
 (.seq
  (.region [] [] [
    ⟨(some 19), .load (.many 1) (.t 1), none⟩,
    ⟨(some 20), .call .pure false (.f 71) [.t 19], none⟩,
    ⟨(some 18), .mov (.t 20), none⟩,
    ⟨(some 21), .ext 0 (.t 18), none⟩,
    ⟨(some 22), .ext 1 (.t 18), none⟩,
    ⟨none, .store 1 (.t 1) (.t 21), none⟩,
    ⟨(some 5), .mov (.t 22), none⟩] false [1, 2, 5])
 (.seq
  (.seq
   (.region [] [] [
     ⟨(some 23), .mov (.t 5), none⟩,
     ⟨(some 24), .bin .neq 0 (.t 23) (.c (.int .i64 0)), none⟩] false [1, 2, 5, 24])
   (.cond (.t 24)
    (.seq
     (.region [] [] [
       ⟨(some 25), .mov (.t 5), none⟩,
       ⟨(some 2), .mov (.c (.int .i64 0)), none⟩,
       ⟨(some 3), .mov (.c (.int .i64 0)), none⟩,
       ⟨(some 4), .mov (.c (.int .i64 0)), none⟩,
       ⟨(some 5), .mov (.t 25), none⟩] false [2, 3, 4, 5])
     .ret)
    .skip
    [1, 2]))
 (.seq
  (.region [] [] [
    ⟨(some 26), .mkMap, none⟩,
    ⟨(some 6), .alloc [.nilM], none⟩,
    ⟨none, .store 1 (.t 6) (.t 26), none⟩] false [1, 2, 6])
 (.seq
  (.region [] [] [
    ⟨(some 7), .alloc [.nilF], none⟩] false [1, 2, 6, 7])
 (.seq
  (.region [] [] [
    ⟨(some 27), .mkFn 79 [] [.t 6, .t 7], none⟩,
    ⟨none, .store 1 (.t 7) (.t 27), none⟩] false [1, 2, 6, 7])
 (.seq
  (.seq
   (.region [] [] [
     ⟨(some 28), .fldA 0 .one (.t 1), none⟩,
     ⟨(some 29), .load .one (.t 28), none⟩,
     ⟨(some 30), .len (.t 29), none⟩,
     ⟨(some 31), .mov (.c (.int .i64 0)), none⟩] false [1, 2, 6, 7, 29, 30, 31])
   (.block 0
    (.loop
     (.seq
      (.region [] [] [
        ⟨(some 32), .bin .lss 0 (.t 31) (.t 30), none⟩] false [1, 2, 6, 7, 29, 30, 31, 32])
     (.seq
      (.cond (.t 32)
       .skip
       (.exit 0)
       [1, 2, 6, 7, 29, 30, 31])
     (.seq
      (.block 1
       (.seq
        (.region [] [] [
          ⟨(some 33), .idxS .one (.t 29) (.t 31), none⟩,
          ⟨(some 34), .load .one (.t 33), none⟩,
          ⟨(some 9), .mov (.t 34), none⟩] false [1, 2, 6, 7, 9, 29, 30, 31])
       (.seq
        (.seq
         (.region [] [] [
           ⟨(some 35), .mov (.t 9), none⟩,
           ⟨(some 36), .call .pure false (.f 78) [.t 35], none⟩,
           ⟨(some 37), .bin .gtr 0 (.t 36) (.c (.int .i64 0)), none⟩] false [1, 2, 6, 7, 9, 29, 30, 31, 37])
         (.cond (.t 37)
          (.region [] [] [
            ⟨(some 38), .mov (.t 2), none⟩,
            ⟨(some 39), .bin .add 0 (.t 38) (.c (.int .i64 1)), none⟩,
            ⟨(some 2), .mov (.t 39), none⟩] false [1, 2, 6, 7, 9, 29, 30, 31])
          .skip
          [1, 2, 6, 7, 9, 29, 30, 31]))
       (.seq
        (.region [] [] [
          ⟨(some 40), .mov (.t 9), none⟩,
          ⟨(some 41), .len (.t 40), none⟩,
          ⟨(some 42), .mov (.c (.int .i64 0)), none⟩] false [1, 2, 6, 7, 9, 29, 30, 31, 40, 41, 42])
        (.block 2
         (.loop
          (.seq
           (.region [] [] [
             ⟨(some 43), .bin .lss 0 (.t 42) (.t 41), none⟩] false [1, 2, 6, 7, 9, 29, 30, 31, 40, 41, 42, 43])
          (.seq
           (.cond (.t 43)
            .skip
            (.exit 2)
            [1, 2, 6, 7, 9, 29, 30, 31, 40, 41, 42])
          (.seq
           (.block 3
            (.seq
             (.region [] [] [
               ⟨(some 44), .idxS (.many 2) (.t 40) (.t 42), none⟩,
               ⟨(some 45), .load (.many 2) (.t 44), none⟩,
               ⟨(some 11), .alloc [.int .i64 0, .int .i64 0], none⟩,
               ⟨none, .store 2 (.t 11) (.t 45), none⟩] false [1, 2, 6, 7, 9, 11, 29, 30, 31, 40, 41, 42])
            (.seq
             (.seq
              (.region [] [] [
                ⟨(some 47), .load .one (.t 6), none⟩,
                ⟨(some 48), .load (.many 2) (.t 11), none⟩,
                ⟨(some 49), .look (.agg [.int .i64 0, .int .i64 0]) 2 (.t 47) (.t 48) true, none⟩,
                ⟨(some 46), .mov (.t 49), none⟩,
                ⟨(some 50), .ext 0 (.t 46), none⟩,
                ⟨(some 51), .ext 1 (.t 46), none⟩,
                ⟨(some 12), .alloc [.int .i64 0, .int .i64 0], none⟩,
                ⟨none, .store 2 (.t 12) (.t 50), none⟩,
                ⟨(some 13), .mov (.t 51), none⟩] false [1, 2, 6, 7, 9, 11, 13, 29, 30, 31, 40, 41, 42])
             (.seq
              (.region [] [] [
                ⟨(some 52), .mov (.t 13), none⟩,
                ⟨(some 53), .un .not (.t 52), none⟩] false [1, 2, 6, 7, 9, 11, 29, 30, 31, 40, 41, 42, 53])
              (.cond (.t 53)
               (.region [] [] [
                 ⟨(some 54), .load .one (.t 6), none⟩,
                 ⟨(some 55), .load (.many 2) (.t 11), none⟩,
                 ⟨(some 56), .load (.many 2) (.t 11), none⟩,
                 ⟨none, .mupd 2 (.t 54) (.t 55) (.t 56), none⟩] false [1, 2, 6, 7, 9, 11, 29, 30, 31, 40, 41, 42])
               .skip
               [1, 2, 6, 7, 9, 11, 29, 30, 31, 40, 41, 42])))
            (.seq
             (.region [] [] [
               ⟨(some 57), .load .one (.t 7), none⟩,
               ⟨(some 58), .load (.many 2) (.t 11), none⟩,
               ⟨(some 59), .call .auto false (.t 57) [.t 58], none⟩,
               ⟨(some 60), .load .one (.t 7), none⟩,
               ⟨(some 61), .mov (.t 9), none⟩,
               ⟨(some 62), .idxS (.many 2) (.t 61) (.c (.int .i64 0)), none⟩,
               ⟨(some 63), .load (.many 2) (.t 62), none⟩,
               ⟨(some 64), .call .auto false (.t 60) [.t 63], none⟩,
               ⟨(some 14), .alloc [.int .i64 0, .int .i64 0], none⟩,
               ⟨(some 15), .alloc [.int .i64 0, .int .i64 0], none⟩,
               ⟨none, .storeN 2 (.t 14) (.t 59), none⟩,
               ⟨none, .storeN 2 (.t 15) (.t 64), none⟩] true [1, 2, 6, 7, 9, 14, 15, 29, 30, 31, 40, 41, 42])
            (.seq
             (.region [] [] [
               ⟨(some 65), .load (.many 2) (.t 14), none⟩,
               ⟨(some 66), .load (.many 2) (.t 15), none⟩,
               ⟨(some 67), .bin .neq 4 (.t 65) (.t 66), none⟩] false [1, 2, 6, 7, 9, 14, 15, 29, 30, 31, 40, 41, 42, 67])
             (.cond (.t 67)
              (.region [] [] [
                ⟨(some 68), .load .one (.t 6), none⟩,
                ⟨(some 69), .load (.many 2) (.t 14), none⟩,
                ⟨(some 70), .load (.many 2) (.t 15), none⟩,
                ⟨none, .mupd 2 (.t 68) (.t 69) (.t 70), none⟩] false [1, 2, 6, 7, 9, 29, 30, 31, 40, 41, 42])
              .skip
              [1, 2, 6, 7, 9, 29, 30, 31, 40, 41, 42])))))
            [1, 2, 6, 7, 9, 29, 30, 31, 40, 41, 42])
           (.region [] [] [
             ⟨(some 71), .bin .add 0 (.t 42) (.c (.int .i64 1)), none⟩,
             ⟨(some 42), .mov (.t 71), none⟩] false [1, 2, 6, 7, 9, 29, 30, 31, 40, 41, 42]))))
          [1, 2, 6, 7, 9, 29, 30, 31, 40, 41, 42])
         [1, 2, 6, 7, 29, 30, 31]))))
       [1, 2, 6, 7, 29, 30, 31])
      (.region [] [] [
        ⟨(some 72), .bin .add 0 (.t 31) (.c (.int .i64 1)), none⟩,
        ⟨(some 31), .mov (.t 72), none⟩] false [1, 2, 6, 7, 29, 30, 31]))))
     [1, 2, 6, 7, 29, 30, 31])
    [1, 2, 6, 7]))
 (.seq
  (.region [] [] [
    ⟨(some 16), .mov (.c (.int .i64 0)), none⟩] false [1, 2, 6, 7, 16])
 (.seq
  (.seq
   (.region [] [] [
     ⟨(some 73), .load .one (.t 6), none⟩,
     ⟨(some 74), .stuck, none⟩] false [1, 2, 6, 7, 16, 74])
   (.block 4
    (.loop
     (.seq
      (.region [] [] [
        ⟨(some 75), .stuck, none⟩,
        ⟨(some 76), .ext 0 (.t 75), none⟩] false [1, 2, 6, 7, 16, 74, 76])
     (.seq
      (.cond (.t 76)
       .skip
       (.exit 4)
       [1, 2, 6, 7, 16, 74])
      (.block 5
       (.seq
        (.region [] [] [
          ⟨(some 77), .stuck, none⟩,
          ⟨(some 78), .ext 0 (.t 77), none⟩,
          ⟨(some 17), .alloc [.int .i64 0, .int .i64 0], none⟩,
          ⟨none, .store 2 (.t 17) (.t 78), none⟩] false [1, 2, 6, 7, 16, 17, 74])
       (.seq
        (.region [] [] [
          ⟨(some 79), .load .one (.t 7), none⟩,
          ⟨(some 80), .load (.many 2) (.t 17), none⟩,
          ⟨(some 81), .call .auto false (.t 79) [.t 80], none⟩,
          ⟨(some 82), .load (.many 2) (.t 17), none⟩,
          ⟨(some 83), .bin .eql 4 (.t 81) (.t 82), none⟩] true [1, 2, 6, 7, 16, 74, 83])
        (.cond (.t 83)
         (.region [] [] [
           ⟨(some 84), .mov (.t 16), none⟩,
           ⟨(some 85), .bin .add 0 (.t 84) (.c (.int .i64 1)), none⟩,
           ⟨(some 16), .mov (.t 85), none⟩] false [1, 2, 6, 7, 16, 74])
         .skip
         [1, 2, 6, 7, 16, 74])))
       [1, 2, 6, 7, 16, 74])))
     [1, 2, 6, 7, 16, 74])
    [1, 2, 6, 16]))
 (.seq
  (.region [] [] [
    ⟨(some 86), .load .one (.t 6), none⟩,
    ⟨(some 87), .lenM (.t 86), none⟩,
    ⟨(some 4), .mov (.t 87), none⟩] false [1, 2, 4, 16])
 (.seq
  (.region [] [] [
    ⟨(some 88), .mov (.t 2), none⟩,
    ⟨(some 89), .load (.many 1) (.t 1), none⟩,
    ⟨(some 90), .call .pure false (.f 80) [.t 89], none⟩,
    ⟨(some 91), .mov (.t 4), none⟩,
    ⟨(some 92), .bin .sub 0 (.t 90) (.t 91), none⟩,
    ⟨(some 93), .mov (.t 16), none⟩,
    ⟨(some 94), .bin .add 0 (.t 92) (.t 93), none⟩,
    ⟨(some 95), .mov (.t 2), none⟩,
    ⟨(some 96), .bin .sub 0 (.t 94) (.t 95), none⟩,
    ⟨(some 97), .mov (.t 4), none⟩,
    ⟨(some 2), .mov (.t 88), none⟩,
    ⟨(some 3), .mov (.t 96), none⟩,
    ⟨(some 4), .mov (.t 97), none⟩,
    ⟨(some 5), .mov (.c (.int .i64 0)), none⟩] false [2, 3, 4, 5])
  .ret))))))))))),
 [.t 2, .t 3, .t 4, .t 5]⟩
/-- spokeshave/profile.Box -/
def a30 : AFunc := ⟨
 (.seq
  (.region [] [] [
    ⟨(some 8), .alloc [.slT true []], none⟩,
    ⟨(some 9), .mov (.c (.int .i64 0)), none⟩] false [0, 1, 2, 3, 8])
 (.seq
  (.seq
   (.region [] [] [
     ⟨(some 10), .mov (.t 0), none⟩,
     ⟨(some 11), .mov (.t 1), none⟩,
     ⟨(some 12), .build [.int .i64 0, .int .i64 0] [(0, 1, .t 10), (1, 1, .t 11)], none⟩,
     ⟨(some 13), .call .pure false (.f 53) [.t 12], none⟩,
     ⟨(some 14), .un .not (.t 13), none⟩,
     ⟨(some 15), .mov (.t 14), none⟩,
     ⟨(some 16), .mov (.t 2), (some (15, false))⟩,
     ⟨(some 17), .mov (.t 3), (some (15, false))⟩,
     ⟨(some 18), .build [.int .i64 0, .int .i64 0] [(0, 1, .t 16), (1, 1, .t 17)], (some (15, false))⟩,
     ⟨(some 19), .call .pure false (.f 53) [.t 18], (some (15, false))⟩,
     ⟨(some 20), .un .not (.t 19), (some (15, false))⟩,
     ⟨(some 21), .pick (.t 15) (.c (.bool true)) (.t 20), none⟩,
     ⟨(some 22), .mov (.t 21), none⟩,
     ⟨(some 23), .mov (.t 0), (some (22, false))⟩,
     ⟨(some 24), .mov (.t 2), (some (22, false))⟩,
     ⟨(some 25), .bin .geq 0 (.t 23) (.t 24), (some (22, false))⟩,
     ⟨(some 26), .pick (.t 22) (.c (.bool true)) (.t 25), none⟩,
     ⟨(some 27), .mov (.t 26), none⟩,
     ⟨(some 28), .mov (.t 1), (some (27, false))⟩,
     ⟨(some 29), .mov (.t 3), (some (27, false))⟩,
     ⟨(some 30), .bin .geq 0 (.t 28) (.t 29), (some (27, false))⟩,
     ⟨(some 31), .pick (.t 27) (.c (.bool true)) (.t 30), none⟩] false [0, 1, 2, 3, 8, 31])
   (.cond (.t 31)
    (.seq
     (.region [] [] [
       ⟨(some 32), .build [.slT true []] [], none⟩,
       ⟨none, .store 1 (.t 8) (.t 32), none⟩,
       ⟨(some 9), .mov (.c (.int .i64 1)), none⟩] false [8, 9])
     .ret)
    .skip
    [0, 1, 2, 3, 8]))
 (.seq
  (.region [] [] [
    ⟨(some 33), .mov (.t 0), none⟩,
    ⟨(some 34), .mov (.t 1), none⟩,
    ⟨(some 35), .build [.int .i64 0, .int .i64 0] [(0, 1, .t 33), (1, 1, .t 34)], none⟩,
    ⟨(some 36), .mov (.t 2), none⟩,
    ⟨(some 37), .mov (.t 1), none⟩,
    ⟨(some 38), .build [.int .i64 0, .int .i64 0] [(0, 1, .t 36), (1, 1, .t 37)], none⟩,
    ⟨(some 39), .mov (.t 2), none⟩,
    ⟨(some 40), .mov (.t 3), none⟩,
    ⟨(some 41), .build [.int .i64 0, .int .i64 0] [(0, 1, .t 39), (1, 1, .t 40)], none⟩,
    ⟨(some 42), .mov (.t 0), none⟩,
    ⟨(some 43), .mov (.t 3), none⟩,
    ⟨(some 44), .build [.int .i64 0, .int .i64 0] [(0, 1, .t 42), (1, 1, .t 43)], none⟩,
    ⟨(some 45), .mkSl [.int .i64 0, .int .i64 0] (.many 2) 4 [(0, .t 35), (1, .t 38), (2, .t 41), (3, .t 44)], none⟩,
    ⟨(some 46), .mkSl [.slT true []] .one 1 [(0, .t 45)], none⟩,
    ⟨(some 47), .build [.slT true []] [(0, 1, .t 46)], none⟩,
    ⟨none, .store 1 (.t 8) (.t 47), none⟩,
    ⟨(some 9), .mov (.c (.int .i64 0)), none⟩] false [8, 9])
  .ret))),
 [.cell 8 (.many 1), .t 9]⟩
/-- spokeshave/spokeshaveref17.Box -/
def a31 : AFunc := ⟨
 (.seq
  (.region [] [] [
    ⟨(some 8), .nilv .one, none⟩] false [0, 1, 2, 3])
 (.seq
  (.region [] [] [
    ⟨(some 9), .mov (.t 0), none⟩,
    ⟨(some 10), .mov (.t 1), none⟩,
    ⟨(some 11), .build [.int .i64 0, .int .i64 0] [(0, 1, .t 9), (1, 1, .t 10)], none⟩,
    ⟨(some 12), .mov (.t 2), none⟩,
    ⟨(some 13), .mov (.t 1), none⟩,
    ⟨(some 14), .build [.int .i64 0, .int .i64 0] [(0, 1, .t 12), (1, 1, .t 13)], none⟩,
    ⟨(some 15), .mov (.t 2), none⟩,
    ⟨(some 16), .mov (.t 3), none⟩,
    ⟨(some 17), .build [.int .i64 0, .int .i64 0] [(0, 1, .t 15), (1, 1, .t 16)], none⟩,
    ⟨(some 18), .mov (.t 0), none⟩,
    ⟨(some 19), .mov (.t 3), none⟩,
    ⟨(some 20), .build [.int .i64 0, .int .i64 0] [(0, 1, .t 18), (1, 1, .t 19)], none⟩,
    ⟨(some 21), .mkSl [.int .i64 0, .int .i64 0] (.many 2) 4 [(0, .t 11), (1, .t 14), (2, .t 17), (3, .t 20)], none⟩,
    ⟨(some 22), .mkSl [.slT true []] .one 1 [(0, .t 21)], none⟩,
    ⟨(some 8), .mov (.t 22), none⟩] false [8])
  .ret)),
 [.t 8]⟩
/-- spokeshave/spokeshavelaw17.Is -/
def a41 : AFunc := ⟨
 (.seq
  (.region [] [] [
    ⟨(some 2), .box (.t 0), none⟩,
    ⟨(some 4), .mov (.c (.bool false)), none⟩] false [1, 2])
 (.seq
  (.region [] [] [
    ⟨(some 5), .load (.many 1) (.t 2), none⟩,
    ⟨(some 6), .call .pure false (.f 18) [.t 5], none⟩,
    ⟨(some 7), .mov (.t 1), none⟩,
    ⟨(some 8), .call .pure false (.f 90) [.t 6, .t 7], none⟩,
    ⟨(some 4), .mov (.t 8), none⟩] false [4])
  .ret)),
 [.t 4]⟩
/-- spokeshave/spokeshavelaw17.ring -/
def a50 : AFunc := ⟨
 (.seq
  (.region [] [] [
    ⟨(some 0), .alloc [.slT true []], none⟩] false [0])
 (.seq
  (.region [] [] [
    ⟨(some 1), .build [.int .i64 0, .int .i64 0] [(0, 1, .c (.int .i64 0)), (1, 1, .c (.int .i64 0))], none⟩,
    ⟨(some 2), .build [.int .i64 0, .int .i64 0] [(0, 1, .c (.int .i64 4)), (1, 1, .c (.int .i64 0))], none⟩,
    ⟨(some 3), .build [.int .i64 0, .int .i64 0] [(0, 1, .c (.int .i64 4)), (1, 1, .c (.int .i64 4))], none⟩,
    ⟨(some 4), .build [.int .i64 0, .int .i64 0] [(0, 1, .c (.int .i64 0)), (1, 1, .c (.int .i64 4))], none⟩,
    ⟨(some 5), .mkSl [.int .i64 0, .int .i64 0] (.many 2) 4 [(0, .t 1), (1, .t 2), (2, .t 3), (3, .t 4)], none⟩,
    ⟨(some 6), .build [.int .i64 0, .int .i64 0] [(0, 1, .c (.int .i64 1)), (1, 1, .c (.int .i64 1))], none⟩,
    ⟨(some 7), .build [.int .i64 0, .int .i64 0] [(0, 1, .c (.int .i64 1)), (1, 1, .c (.int .i64 3))], none⟩,
    ⟨(some 8), .build [.int .i64 0, .int .i64 0] [(0, 1, .c (.int .i64 3)), (1, 1, .c (.int .i64 3))], none⟩,
    ⟨(some 9), .build [.int .i64 0, .int .i64 0] [(0, 1, .c (.int .i64 3)), (1, 1, .c (.int .i64 1))], none⟩,
    ⟨(some 10), .mkSl [.int .i64 0, .int .i64 0] (.many 2) 4 [(0, .t 6), (1, .t 7), (2, .t 8), (3, .t 9)], none⟩,
    ⟨(some 11), .mkSl [.slT true []] .one 2 [(0, .t 5), (1, .t 10)], none⟩,
    ⟨(some 12), .build [.slT true []] [(0, 1, .t 11)], none⟩,
    ⟨none, .store 1 (.t 0) (.t 12), none⟩] false [0])
  .ret)),
 [.cell 0 (.many 1)]⟩
/-- slices.ContainsFunc[[]spokeshave/profile.Spot,spokeshave/profile.Spot] -/
def a51 : AFunc := ⟨
 (.seq
  (.region [] [] [
    ⟨(some 4), .mov (.c (.bool false)), none⟩] false [0, 1])
 (.seq
  (.region [] [] [
    ⟨(some 5), .mov (.t 0), none⟩,
    ⟨(some 6), .mov (.t 1), none⟩,
    ⟨(some 7), .call .inl false (.f 92) [.t 5, .t 6], none⟩,
    ⟨(some 8), .bin .geq 0 (.t 7) (.c (.int .i64 0)), none⟩,
    ⟨(some 4), .mov (.t 8), none⟩] false [4])
  .ret)),
 [.t 4]⟩
/-- spokeshave/profile.Hull$1 -/
def a52 : AFunc := ⟨
 (.seq
  (.region [] [] [
    ⟨(some 1), .box (.t 0), none⟩,
    ⟨(some 2), .mov (.c (.bool false)), none⟩] false [1])
 (.seq
  (.region [] [] [
    ⟨(some 3), .load (.many 2) (.t 1), none⟩,
    ⟨(some 4), .call .pure false (.f 53) [.t 3], none⟩,
    ⟨(some 5), .un .not (.t 4), none⟩,
    ⟨(some 2), .mov (.t 5), none⟩] false [2])
  .ret)),
 [.t 2]⟩
/-- (spokeshave/profile.Spot).right -/
def a53 : AFunc := ⟨
 (.seq
  (.region [] [] [
    ⟨(some 1), .box (.t 0), none⟩,
    ⟨(some 2), .mov (.c (.bool false)), none⟩] false [1])
 (.seq
  (.region [] [] [
    ⟨(some 3), .idxA 2 .one (.t 1) (.c (.int .i64 0)), none⟩,
    ⟨(some 4), .load .one (.t 3), none⟩,
    ⟨(some 5), .idxA 2 .one (.t 1) (.c (.int .i64 1)), none⟩,
    ⟨(some 6), .load .one (.t 5), none⟩,
    ⟨(some 7), .max [.t 4, .t 6], none⟩,
    ⟨(some 8), .bin .leq 0 (.t 7) (.c (.int .i64 500)), none⟩,
    ⟨(some 9), .mov (.t 8), none⟩,
    ⟨(some 10), .idxA 2 .one (.t 1) (.c (.int .i64 0)), (some (9, true))⟩,
    ⟨(some 11), .load .one (.t 10), (some (9, true))⟩,
    ⟨(some 12), .idxA 2 .one (.t 1) (.c (.int .i64 1)), (some (9, true))⟩,
    ⟨(some 13), .load .one (.t 12), (some (9, true))⟩,
    ⟨(some 14), .min [.t 11, .t 13], (some (9, true))⟩,
    ⟨(some 15), .bin .geq 0 (.t 14) (.c (.int .i64 (-500))), (some (9, true))⟩,
    ⟨(some 16), .pick (.t 9) (.t 15) (.c (.bool false)), none⟩,
    ⟨(some 2), .mov (.t 16), none⟩] false [2])
  .ret)),
 [.t 2]⟩
/-- slices.SortFunc[[]spokeshave/profile.Spot,spokeshave/profile.Spot] -/
def a55 : AFunc := ⟨
 (.seq
  (.region [] [] [
    ⟨(some 5), .mov (.t 0), none⟩,
    ⟨(some 6), .len (.t 5), none⟩,
    ⟨(some 4), .mov (.t 6), none⟩] false [0, 1, 4])
  (.region [] [] [
    ⟨(some 7), .mov (.t 0), none⟩,
    ⟨(some 8), .mov (.t 4), none⟩,
    ⟨(some 9), .mov (.t 4), none⟩,
    ⟨(some 10), .conv .u64 (.t 9), none⟩,
    ⟨(some 11), .call .pure false (.f 94) [.t 10], none⟩,
    ⟨(some 12), .mov (.t 1), none⟩,
    ⟨(some 13), .call .inl false (.f 93) [.t 7, .c (.int .i64 0), .t 8, .t 11, .t 12], none⟩] false [])),
 []⟩
/-- spokeshave/profile.cmp -/
def a56 : AFunc := ⟨
 (.seq
  (.region [] [] [
    ⟨(some 2), .box (.t 0), none⟩,
    ⟨(some 3), .box (.t 1), none⟩,
    ⟨(some 4), .mov (.c (.int .i64 0)), none⟩] false [2, 3])
 (.seq
  (.region [] [] [
    ⟨(some 5), .sliceA 2 .one (.t 2) none none none, none⟩,
    ⟨(some 6), .sliceA 2 .one (.t 3) none none none, none⟩,
    ⟨(some 7), .call .inl false (.f 95) [.t 5, .t 6], none⟩,
    ⟨(some 4), .mov (.t 7), none⟩] true [4])
  .ret)),
 [.t 4]⟩
/-- slices.Compact[[]spokeshave/profile.Spot,spokeshave/profile.Spot] -/
def a57 : AFunc := ⟨
 (.seq
  (.region [] [] [
    ⟨(some 2), .nilv (.many 2), none⟩] false [0])
 (.seq
  (.seq
   (.region [] [] [
     ⟨(some 6), .mov (.t 0), none⟩,
     ⟨(some 7), .len (.t 6), none⟩,
     ⟨(some 8), .bin .lss 0 (.t 7) (.c (.int .i64 2)), none⟩] false [0, 8])
   (.cond (.t 8)
    (.seq
     (.region [] [] [
       ⟨(some 9), .mov (.t 0), none⟩,
       ⟨(some 2), .mov (.t 9), none⟩] false [2])
     .ret)
    .skip
    [0]))
 (.seq
  (.seq
   (.region [] [] [
     ⟨(some 3), .mov (.c (.int .i64 1)), none⟩] false [0, 3])
   (.block 0
    (.loop
     (.seq
      (.seq
       (.region [] [] [
         ⟨(some 10), .mov (.t 3), none⟩,
         ⟨(some 11), .mov (.t 0), none⟩,
         ⟨(some 12), .len (.t 11), none⟩,
         ⟨(some 13), .bin .lss 0 (.t 10) (.t 12), none⟩] false [0, 3, 13])
       (.cond (.t 13)
        .skip
        (.exit 0)
        [0, 3]))
     (.seq
      (.block 1
       (.seq
        (.region [] [] [
          ⟨(some 16), .mov (.t 0), none⟩,
          ⟨(some 17), .mov (.t 3), none⟩,
          ⟨(some 18), .idxS (.many 2) (.t 16) (.t 17), none⟩,
          ⟨(some 19), .load (.many 2) (.t 18), none⟩,
          ⟨(some 20), .mov (.t 0), none⟩,
          ⟨(some 21), .mov (.t 3), none⟩,
          ⟨(some 22), .bin .sub 0 (.t 21) (.c (.int .i64 1)), none⟩,
          ⟨(some 23), .idxS (.many 2) (.t 20) (.t 22), none⟩,
          ⟨(some 24), .load (.many 2) (.t 23), none⟩,
          ⟨(some 25), .bin .eql 4 (.t 19) (.t 24), none⟩] true [0, 3, 25])
        (.cond (.t 25)
         (.seq
          (.region [] [] [
            ⟨(some 26), .mov (.t 0), none⟩,
            ⟨(some 27), .mov (.t 3), none⟩,
            ⟨(some 28), .slice (.many 2) (.t 26) (some (.t 27)) none none, none⟩,
            ⟨(some 4), .mov (.t 28), none⟩] false [0, 3, 4])
         (.seq
          (.seq
           (.region [] [] [
             ⟨(some 5), .mov (.c (.int .i64 1)), none⟩] false [0, 3, 4, 5])
           (.block 2
            (.loop
             (.seq
              (.seq
               (.region [] [] [
                 ⟨(some 29), .mov (.t 5), none⟩,
                 ⟨(some 30), .mov (.t 4), none⟩,
                 ⟨(some 31), .len (.t 30), none⟩,
                 ⟨(some 32), .bin .lss 0 (.t 29) (.t 31), none⟩] false [0, 3, 4, 5, 32])
               (.cond (.t 32)
                .skip
                (.exit 2)
                [0, 3, 4, 5]))
             (.seq
              (.block 3
               (.seq
                (.region [] [] [
                  ⟨(some 35), .mov (.t 4), none⟩,
                  ⟨(some 36), .mov (.t 5), none⟩,
                  ⟨(some 37), .idxS (.many 2) (.t 35) (.t 36), none⟩,
                  ⟨(some 38), .load (.many 2) (.t 37), none⟩,
                  ⟨(some 39), .mov (.t 4), none⟩,
                  ⟨(some 40), .mov (.t 5), none⟩,
                  ⟨(some 41), .bin .sub 0 (.t 40) (.c (.int .i64 1)), none⟩,
                  ⟨(some 42), .idxS (.many 2) (.t 39) (.t 41), none⟩,
                  ⟨(some 43), .load (.many 2) (.t 42), none⟩,
                  ⟨(some 44), .bin .neq 4 (.t 38) (.t 43), none⟩] true [0, 3, 4, 5, 44])
                (.cond (.t 44)
                 (.seq
                  (.region [] [] [
                    ⟨(some 45), .mov (.t 0), none⟩,
                    ⟨(some 46), .mov (.t 3), none⟩,
                    ⟨(some 47), .mov (.t 4), none⟩,
                    ⟨(some 48), .mov (.t 5), none⟩,
                    ⟨(some 49), .idxS (.many 2) (.t 47) (.t 48), none⟩,
                    ⟨(some 50), .load (.many 2) (.t 49), none⟩,
                    ⟨(some 51), .idxS (.many 2) (.t 45) (.t 46), none⟩,
                    ⟨none, .store 2 (.t 51) (.t 50), none⟩] false [0, 3, 4, 5])
                  (.region [] [] [
                    ⟨(some 52), .mov (.t 3), none⟩,
                    ⟨(some 53), .bin .add 0 (.t 52) (.c (.int .i64 1)), none⟩,
                    ⟨(some 3), .mov (.t 53), none⟩] false [0, 3, 4, 5]))
                 .skip
                 [0, 3, 4, 5]))
               [0, 3, 4, 5])
              (.region [] [] [
                ⟨(some 33), .mov (.t 5), none⟩,
                ⟨(some 34), .bin .add 0 (.t 33) (.c (.int .i64 1)), none⟩,
                ⟨(some 5), .mov (.t 34), none⟩] false [0, 3, 4, 5])))
             [0, 3, 4, 5])
            [0, 3]))
         (.seq
          (.region [] [] [
            ⟨(some 54), .mov (.t 0), none⟩,
            ⟨(some 55), .mov (.t 3), none⟩,
            ⟨(some 56), .slice (.many 2) (.t 54) (some (.t 55)) none none, none⟩,
            ⟨none, .clear [.int .i64 0, .int .i64 0] (.t 56), none⟩] false [0, 3])
         (.seq
          (.region [] [] [
            ⟨(some 57), .mov (.t 0), none⟩,
            ⟨(some 58), .mov (.t 3), none⟩,
            ⟨(some 59), .slice (.many 2) (.t 57) none (some (.t 58)) none, none⟩,
            ⟨(some 2), .mov (.t 59), none⟩] false [2])
          .ret))))
         .skip
         [0, 3]))
       [0, 3])
      (.region [] [] [
        ⟨(some 14), .mov (.t 3), none⟩,
        ⟨(some 15), .bin .add 0 (.t 14) (.c (.int .i64 1)), none⟩,
        ⟨(some 3), .mov (.t 15), none⟩] false [0, 3])))
     [0, 3])
    [0]))
 (.seq
  (.region [] [] [
    ⟨(some 60), .mov (.t 0), none⟩,
    ⟨(some 2), .mov (.t 60), none⟩] false [2])
  .ret)))),
 [.t 2]⟩
/-- spokeshave/profile.Hull$2 -/
def a58 : AFunc := ⟨
 (.seq
  (.region [] [] [
    ⟨(some 2), .nilv (.many 2), none⟩] false [0])
 (.seq
  (.region [] [] [
    ⟨(some 3), .nilv (.many 2), none⟩] false [0, 3])
 (.seq
  (.seq
   (.region [] [] [
     ⟨(some 6), .mov (.t 0), none⟩,
     ⟨(some 7), .len (.t 6), none⟩,
     ⟨(some 8), .mov (.c (.int .i64 0)), none⟩] false [3, 6, 7, 8])
   (.block 0
    (.loop
     (.seq
      (.region [] [] [
        ⟨(some 9), .bin .lss 0 (.t 8) (.t 7), none⟩] false [3, 6, 7, 8, 9])
     (.seq
      (.cond (.t 9)
       .skip
       (.exit 0)
       [3, 6, 7, 8])
     (.seq
      (.block 1
       (.seq
        (.region [] [] [
          ⟨(some 10), .idxS (.many 2) (.t 6) (.t 8), none⟩,
          ⟨(some 11), .load (.many 2) (.t 10), none⟩,
          ⟨(some 5), .alloc [.int .i64 0, .int .i64 0], none⟩,
          ⟨none, .store 2 (.t 5) (.t 11), none⟩] false [3, 5, 6, 7, 8])
       (.seq
        (.block 2
         (.loop
          (.seq
           (.seq
            (.region [] [] [
              ⟨(some 12), .mov (.t 3), none⟩,
              ⟨(some 13), .len (.t 12), none⟩,
              ⟨(some 14), .bin .gtr 0 (.t 13) (.c (.int .i64 1)), none⟩,
              ⟨(some 15), .mov (.t 14), none⟩,
              ⟨(some 16), .mov (.t 3), (some (15, true))⟩,
              ⟨(some 17), .mov (.t 3), (some (15, true))⟩,
              ⟨(some 18), .len (.t 17), (some (15, true))⟩,
              ⟨(some 19), .bin .sub 0 (.t 18) (.c (.int .i64 2)), (some (15, true))⟩,
              ⟨(some 20), .idxS (.many 2) (.t 16) (.t 19), (some (15, true))⟩,
              ⟨(some 21), .load (.many 2) (.t 20), (some (15, true))⟩,
              ⟨(some 22), .mov (.t 3), (some (15, true))⟩,
              ⟨(some 23), .mov (.t 3), (some (15, true))⟩,
              ⟨(some 24), .len (.t 23), (some (15, true))⟩,
              ⟨(some 25), .bin .sub 0 (.t 24) (.c (.int .i64 1)), (some (15, true))⟩,
              ⟨(some 26), .idxS (.many 2) (.t 22) (.t 25), (some (15, true))⟩,
              ⟨(some 27), .load (.many 2) (.t 26), (some (15, true))⟩,
              ⟨(some 28), .load (.many 2) (.t 5), (some (15, true))⟩,
              ⟨(some 29), .call .pure false (.f 59) [.t 21, .t 27, .t 28], (some (15, true))⟩,
              ⟨(some 30), .bin .leq 0 (.t 29) (.c (.int .i64 0)), (some (15, true))⟩,
              ⟨(some 31), .pick (.t 15) (.t 30) (.c (.bool false)), none⟩] true [3, 5, 6, 7, 8, 31])
            (.cond (.t 31)
             .skip
             (.exit 2)
             [3, 5, 6, 7, 8]))
           (.block 3
            (.region [] [] [
              ⟨(some 32), .mov (.t 3), none⟩,
              ⟨(some 33), .mov (.t 3), none⟩,
              ⟨(some 34), .len (.t 33), none⟩,
              ⟨(some 35), .bin .sub 0 (.t 34) (.c (.int .i64 1)), none⟩,
              ⟨(some 36), .slice (.many 2) (.t 32) none (some (.t 35)) none, none⟩,
              ⟨(some 3), .mov (.t 36), none⟩] false [3, 5, 6, 7, 8])
            [3, 5, 6, 7, 8]))
          [3, 5, 6, 7, 8])
         [3, 5, 6, 7, 8])
        (.region [] [] [
          ⟨(some 37), .mov (.t 3), none⟩,
          ⟨(some 38), .load (.many 2) (.t 5), none⟩,
          ⟨(some 39), .mkSl [.int .i64 0, .int .i64 0] (.many 2) 1 [(0, .t 38)], none⟩,
          ⟨(some 40), .app (.many 2) 16 (.t 37) (.t 39), none⟩,
          ⟨(some 3), .mov (.t 40), none⟩] false [3, 6, 7, 8])))
       [3, 6, 7, 8])
      (.region [] [] [
        ⟨(some 41), .bin .add 0 (.t 8) (.c (.int .i64 1)), none⟩,
        ⟨(some 8), .mov (.t 41), none⟩] false [3, 6, 7, 8]))))
     [3, 6, 7, 8])
    [3]))
 (.seq
  (.region [] [] [
    ⟨(some 42), .mov (.t 3), none⟩,
    ⟨(some 43), .mov (.t 3), none⟩,
    ⟨(some 44), .len (.t 43), none⟩,
    ⟨(some 45), .bin .sub 0 (.t 44) (.c (.int .i64 1)), none⟩,
    ⟨(some 46), .mov (.t 3), none⟩,
    ⟨(some 47), .len (.t 46), none⟩,
    ⟨(some 48), .bin .sub 0 (.t 47) (.c (.int .i64 1)), none⟩,
    ⟨(some 49), .slice (.many 2) (.t 42) none (some (.t 45)) (some (.t 48)), none⟩,
    ⟨(some 2), .mov (.t 49), none⟩] false [2])
  .ret)))),
 [.t 2]⟩
/-- spokeshave/profile.turn -/
def a59 : AFunc := ⟨
 (.seq
  (.region [] [] [
    ⟨(some 3), .box (.t 0), none⟩,
    ⟨(some 4), .box (.t 1), none⟩,
    ⟨(some 5), .box (.t 2), none⟩,
    ⟨(some 6), .mov (.c (.int .i64 0)), none⟩] false [3, 4, 5])
 (.seq
  (.region [] [] [
    ⟨(some 8), .load (.many 2) (.t 4), none⟩,
    ⟨(some 9), .load (.many 2) (.t 3), none⟩,
    ⟨(some 10), .call .pure false (.f 97) [.t 8, .t 9], none⟩,
    ⟨(some 11), .load (.many 2) (.t 5), none⟩,
    ⟨(some 12), .load (.many 2) (.t 4), none⟩,
    ⟨(some 13), .call .pure false (.f 97) [.t 11, .t 12], none⟩,
    ⟨(some 14), .call .pure false (.f 96) [.t 10, .t 13], none⟩,
    ⟨(some 7), .mov (.t 14), none⟩] true [7])
 (.seq
  (.region [] [] [
    ⟨(some 15), .mov (.t 7), none⟩,
    ⟨(some 16), .min [.c (.int .i64 1), .t 15], none⟩,
    ⟨(some 17), .max [.c (.int .i64 (-1)), .t 16], none⟩,
    ⟨(some 6), .mov (.t 17), none⟩] false [6])
  .ret))),
 [.t 6]⟩
/-- slices.Reverse[[]spokeshave/profile.Spot,spokeshave/profile.Spot] -/
def a60 : AFunc := ⟨
 (.seq
  (.region [] [] [
    ⟨(some 4), .mov (.t 0), none⟩,
    ⟨(some 5), .len (.t 4), none⟩,
    ⟨(some 6), .bin .sub 0 (.t 5) (.c (.int .i64 1)), none⟩,
    ⟨(some 2), .mov (.c (.int .i64 0)), none⟩,
    ⟨(some 3), .mov (.t 6), none⟩] false [0, 2, 3])
  (.block 0
   (.loop
    (.seq
     (.seq
      (.region [] [] [
        ⟨(some 7), .mov (.t 2), none⟩,
        ⟨(some 8), .mov (.t 3), none⟩,
        ⟨(some 9), .bin .lss 0 (.t 7) (.t 8), none⟩] false [0, 2, 3, 9])
      (.cond (.t 9)
       .skip
       (.exit 0)
       [0, 2, 3]))
    (.seq
     (.block 1
      (.region [] [] [
        ⟨(some 14), .mov (.t 0), none⟩,
        ⟨(some 15), .mov (.t 2), none⟩,
        ⟨(some 16), .mov (.t 0), none⟩,
        ⟨(some 17), .mov (.t 3), none⟩,
        ⟨(some 18), .mov (.t 0), none⟩,
        ⟨(some 19), .mov (.t 3), none⟩,
        ⟨(some 20), .idxS (.many 2) (.t 18) (.t 19), none⟩,
        ⟨(some 21), .load (.many 2) (.t 20), none⟩,
        ⟨(some 22), .mov (.t 0), none⟩,
        ⟨(some 23), .mov (.t 2), none⟩,
        ⟨(some 24), .idxS (.many 2) (.t 22) (.t 23), none⟩,
        ⟨(some 25), .load (.many 2) (.t 24), none⟩,
        ⟨(some 26), .idxS (.many 2) (.t 14) (.t 15), none⟩,
        ⟨none, .store 2 (.t 26) (.t 21), none⟩,
        ⟨(some 27), .idxS (.many 2) (.t 16) (.t 17), none⟩,
        ⟨none, .store 2 (.t 27) (.t 25), none⟩] true [0, 2, 3])
      [0, 2, 3])
     (.region [] [] [
       ⟨(some 10), .mov (.t 2), none⟩,
       ⟨(some 11), .bin .add 0 (.t 10) (.c (.int .i64 1)), none⟩,
       ⟨(some 12), .mov (.t 3), none⟩,
       ⟨(some 13), .bin .sub 0 (.t 12) (.c (.int .i64 1)), none⟩,
       ⟨(some 2), .mov (.t 11), none⟩,
       ⟨(some 3), .mov (.t 13), none⟩] false [0, 2, 3])))
    [0, 2, 3])
   [])),
 []⟩
/-- slices.Concat[[]spokeshave/profile.Spot,spokeshave/profile.Spot] -/
def a61 : AFunc := ⟨
 (.seq
  (.region [] [] [
    ⟨(some 2), .nilv (.many 2), none⟩] false [0])
 (.seq
  (.region [] [] [
    ⟨(some 3), .mov (.c (.int .i64 0)), none⟩] false [0, 3])
 (.seq
  (.seq
   (.region [] [] [
     ⟨(some 9), .mov (.t 0), none⟩,
     ⟨(some 10), .len (.t 9), none⟩,
     ⟨(some 11), .mov (.c (.int .i64 0)), none⟩] false [0, 3, 9, 10, 11])
   (.block 0
    (.loop
     (.seq
      (.region [] [] [
        ⟨(some 12), .bin .lss 0 (.t 11) (.t 10), none⟩] false [0, 3, 9, 10, 11, 12])
     (.seq
      (.cond (.t 12)
       .skip
       (.exit 0)
       [0, 3, 9, 10, 11])
     (.seq
      (.block 1
       (.seq
        (.region [] [] [
          ⟨(some 13), .idxS .one (.t 9) (.t 11), none⟩,
          ⟨(some 14), .load .one (.t 13), none⟩,
          ⟨(some 5), .mov (.t 14), none⟩] false [0, 3, 5, 9, 10, 11])
       (.seq
        (.region [] [] [
          ⟨(some 15), .mov (.t 3), none⟩,
          ⟨(some 16), .mov (.t 5), none⟩,
          ⟨(some 17), .len (.t 16), none⟩,
          ⟨(some 18), .bin .add 0 (.t 15) (.t 17), none⟩,
          ⟨(some 3), .mov (.t 18), none⟩] false [0, 3, 9, 10, 11])
       (.seq
        (.region [] [] [
          ⟨(some 19), .mov (.t 3), none⟩,
          ⟨(some 20), .bin .lss 0 (.t 19) (.c (.int .i64 0)), none⟩] false [0, 3, 9, 10, 11, 20])
        (.cond (.t 20)
         (.region [] [] [
           ⟨(some 21), .stuck, none⟩,
           ⟨none, .stuck, none⟩] false [0, 3, 9, 10, 11])
         .skip
         [0, 3, 9, 10, 11]))))
       [0, 3, 9, 10, 11])
      (.region [] [] [
        ⟨(some 22), .bin .add 0 (.t 11) (.c (.int .i64 1)), none⟩,
        ⟨(some 11), .mov (.t 22), none⟩] false [0, 3, 9, 10, 11]))))
     [0, 3, 9, 10, 11])
    [0, 3]))
 (.seq
  (.region [] [] [
    ⟨(some 23), .mov (.t 3), none⟩,
    ⟨(some 24), .call .inl false (.f 98) [.c (.slT true []), .t 23], none⟩,
    ⟨(some 6), .mov (.t 24), none⟩] false [0, 6])
 (.seq
  (.seq
   (.region [] [] [
     ⟨(some 25), .mov (.t 0), none⟩,
     ⟨(some 26), .len (.t 25), none⟩,
     ⟨(some 27), .mov (.c (.int .i64 0)), none⟩] false [6, 25, 26, 27])
   (.block 2
    (.loop
     (.seq
      (.region [] [] [
        ⟨(some 28), .bin .lss 0 (.t 27) (.t 26), none⟩] false [6, 25, 26, 27, 28])
     (.seq
      (.cond (.t 28)
       .skip
       (.exit 2)
       [6, 25, 26, 27])
     (.seq
      (.block 3
       (.seq
        (.region [] [] [
          ⟨(some 29), .idxS .one (.t 25) (.t 27), none⟩,
          ⟨(some 30), .load .one (.t 29), none⟩,
          ⟨(some 8), .mov (.t 30), none⟩] false [6, 8, 25, 26, 27])
        (.region [] [] [
          ⟨(some 31), .mov (.t 6), none⟩,
          ⟨(some 32), .mov (.t 8), none⟩,
          ⟨(some 33), .app (.many 2) 16 (.t 31) (.t 32), none⟩,
          ⟨(some 6), .mov (.t 33), none⟩] false [6, 25, 26, 27]))
       [6, 25, 26, 27])
      (.region [] [] [
        ⟨(some 34), .bin .add 0 (.t 27) (.c (.int .i64 1)), none⟩,
        ⟨(some 27), .mov (.t 34), none⟩] false [6, 25, 26, 27]))))
     [6, 25, 26, 27])
    [6]))
 (.seq
  (.region [] [] [
    ⟨(some 35), .mov (.t 6), none⟩,
    ⟨(some 2), .mov (.t 35), none⟩] false [2])
  .ret)))))),
 [.t 2]⟩
/-- spokeshave/spokeshaveref17.right -/
def a62 : AFunc := ⟨
 (.seq
  (.region [] [] [
    ⟨(some 1), .box (.t 0), none⟩,
    ⟨(some 2), .mov (.c (.bool false)), none⟩] false [1])
 (.seq
  (.region [] [] [
    ⟨(some 3), .idxA 2 .one (.t 1) (.c (.int .i64 0)), none⟩,
    ⟨(some 4), .load .one (.t 3), none⟩,
    ⟨(some 5), .bin .geq 0 (.t 4) (.c (.int .i64 (-500))), none⟩,
    ⟨(some 6), .mov (.t 5), none⟩,
    ⟨(some 7), .idxA 2 .one (.t 1) (.c (.int .i64 0)), (some (6, true))⟩,
    ⟨(some 8), .load .one (.t 7), (some (6, true))⟩,
    ⟨(some 9), .bin .leq 0 (.t 8) (.c (.int .i64 500)), (some (6, true))⟩,
    ⟨(some 10), .pick (.t 6) (.t 9) (.c (.bool false)), none⟩,
    ⟨(some 11), .mov (.t 10), none⟩,
    ⟨(some 12), .idxA 2 .one (.t 1) (.c (.int .i64 1)), (some (11, true))⟩,
    ⟨(some 13), .load .one (.t 12), (some (11, true))⟩,
    ⟨(some 14), .bin .geq 0 (.t 13) (.c (.int .i64 (-500))), (some (11, true))⟩,
    ⟨(some 15), .pick (.t 11) (.t 14) (.c (.bool false)), none⟩,
    ⟨(some 16), .mov (.t 15), none⟩,
    ⟨(some 17), .idxA 2 .one (.t 1) (.c (.int .i64 1)), (some (16, true))⟩,
    ⟨(some 18), .load .one (.t 17), (some (16, true))⟩,
    ⟨(some 19), .bin .leq 0 (.t 18) (.c (.int .i64 500)), (some (16, true))⟩,
    ⟨(some 20), .pick (.t 16) (.t 19) (.c (.bool false)), none⟩,
    ⟨(some 2), .mov (.t 20), none⟩] false [2])
  .ret)),
 [.t 2]⟩
/-- spokeshave/spokeshavelaw17.None -/
def a63 : AFunc := ⟨
 (.seq
  (.region [] [] [
    ⟨(some 1), .box (.t 0), none⟩,
    ⟨(some 2), .mov (.c (.bool false)), none⟩] false [1])
 (.seq
  (.region [] [] [
    ⟨(some 3), .fldA 0 .one (.t 1), none⟩,
    ⟨(some 4), .load .one (.t 3), none⟩,
    ⟨(some 5), .len (.t 4), none⟩,
    ⟨(some 6), .bin .eql 0 (.t 5) (.c (.int .i64 0)), none⟩,
    ⟨(some 2), .mov (.t 6), none⟩] false [2])
  .ret)),
 [.t 2]⟩
/-- spokeshave/profile.read -/
def a71 : AFunc := ⟨
 (.seq
  (.region [] [] [
    ⟨(some 1), .box (.t 0), none⟩,
    ⟨(some 2), .alloc [.slT true []], none⟩,
    ⟨(some 3), .mov (.c (.int .i64 0)), none⟩] false [1, 2])
 (.seq
  (.seq
   (.region [] [] [
     ⟨(some 12), .load (.many 1) (.t 1), none⟩,
     ⟨(some 13), .call .pure false (.f 80) [.t 12], none⟩,
     ⟨(some 14), .bin .gtr 0 (.t 13) (.c (.int .i64 60)), none⟩,
     ⟨(some 15), .mov (.t 14), none⟩,
     ⟨(some 16), .fldA 0 .one (.t 1), (some (15, false))⟩,
     ⟨(some 17), .load .one (.t 16), (some (15, false))⟩,
     ⟨(some 18), .len (.t 17), (some (15, false))⟩,
     ⟨(some 19), .bin .gtr 0 (.t 18) (.c (.int .i64 60)), (some (15, false))⟩,
     ⟨(some 20), .pick (.t 15) (.c (.bool true)) (.t 19), none⟩] false [1, 2, 20])
   (.cond (.t 20)
    (.seq
     (.region [] [] [
       ⟨(some 21), .build [.slT true []] [], none⟩,
       ⟨none, .store 1 (.t 2) (.t 21), none⟩,
       ⟨(some 3), .mov (.c (.int .i64 170)), none⟩] false [2, 3])
     .ret)
    .skip
    [1, 2]))
 (.seq
  (.seq
   (.region [] [] [
     ⟨(some 22), .fldA 0 .one (.t 1), none⟩,
     ⟨(some 23), .load .one (.t 22), none⟩,
     ⟨(some 24), .len (.t 23), none⟩,
     ⟨(some 25), .mov (.c (.int .i64 0)), none⟩] false [1, 2, 23, 24, 25])
   (.block 0
    (.loop
     (.seq
      (.region [] [] [
        ⟨(some 26), .bin .lss 0 (.t 25) (.t 24), none⟩] false [1, 2, 23, 24, 25, 26])
     (.seq
      (.cond (.t 26)
       .skip
       (.exit 0)
       [1, 2, 23, 24, 25])
     (.seq
      (.block 1
       (.seq
        (.region [] [] [
          ⟨(some 27), .idxS .one (.t 23) (.t 25), none⟩,
          ⟨(some 28), .load .one (.t 27), none⟩,
          ⟨(some 5), .mov (.t 28), none⟩] false [1, 2, 5, 23, 24, 25])
       (.seq
        (.region [] [] [
          ⟨(some 29), .mov (.t 5), none⟩,
          ⟨(some 30), .len (.t 29), none⟩,
          ⟨(some 31), .bin .lss 0 (.t 30) (.c (.int .i64 3)), none⟩,
          ⟨(some 32), .mov (.t 31), none⟩,
          ⟨(some 33), .mov (.t 5), (some (32, false))⟩,
          ⟨(some 34), .call .pure false (.f 51) [.t 33, .f 109], (some (32, false))⟩,
          ⟨(some 35), .pick (.t 32) (.c (.bool true)) (.t 34), none⟩] false [1, 2, 23, 24, 25, 35])
        (.cond (.t 35)
         (.seq
          (.region [] [] [
            ⟨(some 36), .build [.slT true []] [], none⟩,
            ⟨none, .store 1 (.t 2) (.t 36), none⟩,
            ⟨(some 3), .mov (.c (.int .i64 170)), none⟩] false [2, 3])
          .ret)
         .skip
         [1, 2, 23, 24, 25])))
       [1, 2, 23, 24, 25])
      (.region [] [] [
        ⟨(some 37), .bin .add 0 (.t 25) (.c (.int .i64 1)), none⟩,
        ⟨(some 25), .mov (.t 37), none⟩] false [1, 2, 23, 24, 25]))))
     [1, 2, 23, 24, 25])
    [1, 2]))
 (.seq
  (.region [] [] [
    ⟨(some 38), .load (.many 1) (.t 1), none⟩,
    ⟨(some 39), .call .pure false (.f 110) [.t 38], none⟩,
    ⟨(some 6), .mov (.t 39), none⟩] false [1, 2, 6])
 (.seq
  (.seq
   (.region [] [] [
     ⟨(some 40), .mov (.t 6), none⟩,
     ⟨(some 41), .call .pure false (.f 111) [.t 40], none⟩,
     ⟨(some 42), .un .not (.t 41), none⟩,
     ⟨(some 43), .mov (.t 42), none⟩,
     ⟨(some 44), .mov (.t 6), (some (43, false))⟩,
     ⟨(some 45), .call .pure false (.f 112) [.t 44], (some (43, false))⟩,
     ⟨(some 46), .un .not (.t 45), (some (43, false))⟩,
     ⟨(some 47), .pick (.t 43) (.c (.bool true)) (.t 46), none⟩] false [1, 2, 6, 47])
   (.cond (.t 47)
    (.seq
     (.region [] [] [
       ⟨(some 48), .build [.slT true []] [], none⟩,
       ⟨none, .store 1 (.t 2) (.t 48), none⟩,
       ⟨(some 3), .mov (.c (.int .i64 170)), none⟩] false [2, 3])
     .ret)
    .skip
    [1, 2, 6]))
 (.seq
  (.region [] [] [
    ⟨(some 49), .mov (.t 6), none⟩,
    ⟨(some 50), .call .pure false (.f 113) [.t 49], none⟩,
    ⟨(some 7), .alloc [.slT true []], none⟩,
    ⟨none, .store 1 (.t 7) (.t 50), none⟩] false [1, 2, 6, 7])
 (.seq
  (.region [] [] [
    ⟨(some 51), .mov (.t 6), none⟩,
    ⟨(some 52), .call .pure false (.f 114) [.t 51], none⟩,
    ⟨(some 8), .alloc [.nilM, .nilM], none⟩,
    ⟨none, .store 2 (.t 8) (.t 52), none⟩] false [1, 2, 7, 8])
 (.seq
  (.region [] [] [
    ⟨(some 9), .nilv .one, none⟩] false [1, 2, 7, 8, 9])
 (.seq
  (.seq
   (.region [] [] [
     ⟨(some 53), .fldA 0 .one (.t 1), none⟩,
     ⟨(some 54), .load .one (.t 53), none⟩,
     ⟨(some 55), .len (.t 54), none⟩,
     ⟨(some 56), .mov (.c (.int .i64 0)), none⟩] false [2, 7, 8, 9, 54, 55, 56])
   (.block 2
    (.loop
     (.seq
      (.region [] [] [
        ⟨(some 57), .bin .lss 0 (.t 56) (.t 55), none⟩] false [2, 7, 8, 9, 54, 55, 56, 57])
     (.seq
      (.cond (.t 57)
       .skip
       (.exit 2)
       [2, 7, 8, 9, 54, 55, 56])
     (.seq
      (.block 3
       (.seq
        (.region [] [] [
          ⟨(some 58), .idxS .one (.t 54) (.t 56), none⟩,
          ⟨(some 59), .load .one (.t 58), none⟩,
          ⟨(some 11), .mov (.t 59), none⟩] false [2, 7, 8, 9, 11, 54, 55, 56])
        (.region [] [] [
          ⟨(some 60), .mov (.t 9), none⟩,
          ⟨(some 61), .load (.many 2) (.t 8), none⟩,
          ⟨(some 62), .mov (.t 11), none⟩,
          ⟨(some 63), .call .pure false (.f 115) [.t 61, .t 62], none⟩,
          ⟨(some 64), .mkSl [.slT true []] .one 1 [(0, .t 63)], none⟩,
          ⟨(some 65), .app .one 24 (.t 60) (.t 64), none⟩,
          ⟨(some 9), .mov (.t 65), none⟩] false [2, 7, 8, 9, 54, 55, 56]))
       [2, 7, 8, 9, 54, 55, 56])
      (.region [] [] [
        ⟨(some 66), .bin .add 0 (.t 56) (.c (.int .i64 1)), none⟩,
        ⟨(some 56), .mov (.t 66), none⟩] false [2, 7, 8, 9, 54, 55, 56]))))
     [2, 7, 8, 9, 54, 55, 56])
    [2, 7, 9]))
 (.seq
  (.seq
   (.region [7] [] [
     ⟨(some 67), .mov (.t 9), none⟩,
     ⟨(some 68), .call .inl true (.f 117) [.t 67], none⟩,
     ⟨(some 69), .fldA 0 .one (.t 7), none⟩,
     ⟨(some 70), .loadT .one (.t 69), none⟩,
     ⟨(some 71), .call .bor false (.f 116) [.t 68, .t 70, .f 118], none⟩,
     ⟨(some 72), .un .not (.t 71), none⟩] true [2, 7, 72])
   (.cond (.t 72)
    (.seq
     (.region [] [] [
       ⟨(some 73), .build [.slT true []] [], none⟩,
       ⟨none, .store 1 (.t 2) (.t 73), none⟩,
       ⟨(some 3), .mov (.c (.int .i64 170)), none⟩] false [2, 3])
     .ret)
    .skip
    [2, 7]))
 (.seq
  (.region [] [] [
    ⟨(some 74), .load (.many 1) (.t 7), none⟩,
    ⟨none, .store 1 (.t 2) (.t 74), none⟩,
    ⟨(some 3), .mov (.c (.int .i64 0)), none⟩] false [2, 3])
  .ret))))))))))),
 [.cell 2 (.many 1), .t 3]⟩
/-- spokeshave/num.Fraction -/
def a72 : AFunc := ⟨
 (.seq
  (.region [] [] [
    ⟨(some 4), .alloc [.bool false, .slT true [], .bool false, .slT true []], none⟩] false [0, 1, 4])
 (.seq
  (.region [] [] [
    ⟨(some 5), .mov (.t 0), none⟩,
    ⟨(some 6), .call .pure false (.f 120) [.t 5], none⟩,
    ⟨(some 7), .mov (.t 1), none⟩,
    ⟨(some 8), .call .pure false (.f 120) [.t 7], none⟩,
    ⟨(some 9), .call .pure false (.f 119) [.t 6, .t 8], none⟩,
    ⟨none, .store 4 (.t 4) (.t 9), none⟩] false [4])
  .ret)),
 [.cell 4 (.many 4)]⟩
/-- spokeshave/flat.In -/
def a73 : AFunc := ⟨
 (.seq
  (.region [] [] [
    ⟨(some 3), .box (.t 1), none⟩,
    ⟨(some 4), .mov (.c (.int .i64 0)), none⟩] false [0, 3])
 (.seq
  (.region [] [] [
    ⟨(some 5), .mov (.c (.bool false)), none⟩] false [0, 3, 5])
 (.seq
  (.seq
   (.region [] [] [
     ⟨(some 12), .mov (.t 0), none⟩,
     ⟨(some 13), .len (.t 12), none⟩,
     ⟨(some 14), .mov (.c (.int .i64 0)), none⟩] false [3, 5, 12, 13, 14])
   (.block 0
    (.loop
     (.seq
      (.region [] [] [
        ⟨(some 15), .bin .lss 0 (.t 14) (.t 13), none⟩] false [3, 5, 12, 13, 14, 15])
     (.seq
      (.cond (.t 15)
       .skip
       (.exit 0)
       [3, 5, 12, 13, 14])
     (.seq
      (.block 1
       (.seq
        (.region [] [] [
          ⟨(some 16), .idxS .one (.t 12) (.t 14), none⟩,
          ⟨(some 17), .load .one (.t 16), none⟩,
          ⟨(some 7), .mov (.t 17), none⟩] false [3, 5, 7, 12, 13, 14])
       (.seq
        (.region [] [] [
          ⟨(some 18), .mov (.t 7), none⟩,
          ⟨(some 19), .len (.t 18), none⟩,
          ⟨(some 20), .mov (.c (.int .i64 0)), none⟩] false [3, 5, 7, 12, 13, 14, 18, 19, 20])
        (.block 2
         (.loop
          (.seq
           (.region [] [] [
             ⟨(some 21), .bin .lss 0 (.t 20) (.t 19), none⟩] false [3, 5, 7, 12, 13, 14, 18, 19, 20, 21])
          (.seq
           (.cond (.t 21)
            .skip
            (.exit 2)
            [3, 5, 7, 12, 13, 14, 18, 19, 20])
          (.seq
           (.block 3
            (.seq
             (.region [] [] [
               ⟨(some 22), .mov (.t 20), none⟩,
               ⟨(some 23), .idxS (.many 8) (.t 18) (.t 20), none⟩,
               ⟨(some 24), .load (.many 8) (.t 23), none⟩,
               ⟨(some 9), .alloc [.bool false, .slT true [], .bool false, .slT true [], .bool false, .slT true [], .bool false, .slT true []], none⟩,
               ⟨(some 8), .mov (.t 22), none⟩,
               ⟨none, .store 8 (.t 9) (.t 24), none⟩] false [3, 5, 7, 8, 9, 12, 13, 14, 18, 19, 20])
            (.seq
             (.region [] [] [
               ⟨(some 25), .mov (.t 7), none⟩,
               ⟨(some 26), .mov (.t 8), none⟩,
               ⟨(some 27), .bin .add 0 (.t 26) (.c (.int .i64 1)), none⟩,
               ⟨(some 28), .mov (.t 7), none⟩,
               ⟨(some 29), .len (.t 28), none⟩,
               ⟨(some 30), .bin .rem 0 (.t 27) (.t 29), none⟩,
               ⟨(some 31), .idxS (.many 8) (.t 25) (.t 30), none⟩,
               ⟨(some 32), .load (.many 8) (.t 31), none⟩,
               ⟨(some 10), .alloc [.bool false, .slT true [], .bool false, .slT true [], .bool false, .slT true [], .bool false, .slT true []], none⟩,
               ⟨none, .store 8 (.t 10) (.t 32), none⟩] false [3, 5, 7, 9, 10, 12, 13, 14, 18, 19, 20])
            (.seq
             (.seq
              (.region [] [] [
                ⟨(some 33), .load (.many 8) (.t 9), none⟩,
                ⟨(some 34), .load (.many 8) (.t 3), none⟩,
                ⟨(some 35), .call .pure false (.f 121) [.t 33, .t 34], none⟩,
                ⟨(some 36), .bin .eql 0 (.t 35) (.c (.int .i64 0)), none⟩,
                ⟨(some 37), .mov (.t 36), none⟩,
                ⟨(some 38), .load (.many 8) (.t 9), (some (37, false))⟩,
                ⟨(some 39), .load (.many 8) (.t 3), (some (37, false))⟩,
                ⟨(some 40), .load (.many 8) (.t 10), (some (37, false))⟩,
                ⟨(some 41), .call .pure false (.f 122) [.t 38, .t 39, .t 40], (some (37, false))⟩,
                ⟨(some 42), .pick (.t 37) (.c (.bool true)) (.t 41), none⟩] false [3, 5, 7, 9, 10, 12, 13, 14, 18, 19, 20, 42])
              (.cond (.t 42)
               (.seq
                (.region [] [] [
                  ⟨(some 4), .mov (.c (.int .i64 0)), none⟩] false [4])
                .ret)
               .skip
               [3, 5, 7, 9, 10, 12, 13, 14, 18, 19, 20]))
            (.seq
             (.region [] [] [
               ⟨(some 43), .idxA 2 (.many 4) (.t 9) (.c (.int .i64 1)), none⟩,
               ⟨(some 44), .load (.many 4) (.t 43), none⟩,
               ⟨(some 45), .idxA 2 (.many 4) (.t 3) (.c (.int .i64 1)), none⟩,
               ⟨(some 46), .load (.many 4) (.t 45), none⟩,
               ⟨(some 47), .call .pure false (.f 123) [.t 44, .t 46], none⟩,
               ⟨(some 48), .bin .gtr 0 (.t 47) (.c (.int .i64 0)), none⟩,
               ⟨(some 49), .idxA 2 (.many 4) (.t 10) (.c (.int .i64 1)), none⟩,
               ⟨(some 50), .load (.many 4) (.t 49), none⟩,
               ⟨(some 51), .idxA 2 (.many 4) (.t 3) (.c (.int .i64 1)), none⟩,
               ⟨(some 52), .load (.many 4) (.t 51), none⟩,
               ⟨(some 53), .call .pure false (.f 123) [.t 50, .t 52], none⟩,
               ⟨(some 54), .bin .gtr 0 (.t 53) (.c (.int .i64 0)), none⟩,
               ⟨(some 55), .bin .neq 1 (.t 48) (.t 54), none⟩] true [3, 5, 7, 9, 10, 12, 13, 14, 18, 19, 20, 55])
             (.cond (.t 55)
              (.seq
               (.region [] [] [
                 ⟨(some 56), .load (.many 8) (.t 9), none⟩,
                 ⟨(some 57), .load (.many 8) (.t 10), none⟩,
                 ⟨(some 58), .load (.many 8) (.t 3), none⟩,
                 ⟨(some 59), .call .pure false (.f 124) [.t 56, .t 57, .t 58], none⟩,
                 ⟨(some 11), .mov (.t 59), none⟩] false [3, 5, 7, 9, 10, 11, 12, 13, 14, 18, 19, 20])
              (.seq
               (.region [] [] [
                 ⟨(some 60), .idxA 2 (.many 4) (.t 10) (.c (.int .i64 1)), none⟩,
                 ⟨(some 61), .load (.many 4) (.t 60), none⟩,
                 ⟨(some 62), .idxA 2 (.many 4) (.t 9) (.c (.int .i64 1)), none⟩,
                 ⟨(some 63), .load (.many 4) (.t 62), none⟩,
                 ⟨(some 64), .call .pure false (.f 123) [.t 61, .t 63], none⟩,
                 ⟨(some 65), .bin .gtr 0 (.t 64) (.c (.int .i64 0)), none⟩,
                 ⟨(some 66), .mov (.t 11), none⟩,
                 ⟨(some 67), .bin .gtr 0 (.t 66) (.c (.int .i64 0)), none⟩,
                 ⟨(some 68), .bin .eql 1 (.t 65) (.t 67), none⟩] false [3, 5, 7, 12, 13, 14, 18, 19, 20, 68])
               (.cond (.t 68)
                (.region [] [] [
                  ⟨(some 69), .mov (.t 5), none⟩,
                  ⟨(some 70), .un .not (.t 69), none⟩,
                  ⟨(some 5), .mov (.t 70), none⟩] false [3, 5, 7, 12, 13, 14, 18, 19, 20])
                .skip
                [3, 5, 7, 12, 13, 14, 18, 19, 20])))
              .skip
              [3, 5, 7, 12, 13, 14, 18, 19, 20])))))
            [3, 5, 7, 12, 13, 14, 18, 19, 20])
           (.region [] [] [
             ⟨(some 71), .bin .add 0 (.t 20) (.c (.int .i64 1)), none⟩,
             ⟨(some 20), .mov (.t 71), none⟩] false [3, 5, 7, 12, 13, 14, 18, 19, 20]))))
          [3, 5, 7, 12, 13, 14, 18, 19, 20])
         [3, 5, 12, 13, 14])))
       [3, 5, 12, 13, 14])
      (.region [] [] [
        ⟨(some 72), .bin .add 0 (.t 14) (.c (.int .i64 1)), none⟩,
        ⟨(some 14), .mov (.t 72), none⟩] false [3, 5, 12, 13, 14]))))
     [3, 5, 12, 13, 14])
    [5]))
 (.seq
  (.seq
   (.region [] [] [
     ⟨(some 73), .mov (.t 5), none⟩] false [73])
   (.cond (.t 73)
    (.seq
     (.region [] [] [
       ⟨(some 4), .mov (.c (.int .i64 1)), none⟩] false [4])
     .ret)
    .skip
    []))
 (.seq
  (.region [] [] [
    ⟨(some 4), .mov (.c (.int .i64 (-1))), none⟩] false [4])
  .ret))))),
 [.t 4]⟩
/-- (spokeshave/profile.Profile).Flat -/
def a74 : AFunc := ⟨
 (.seq
  (.region [] [] [
    ⟨(some 1), .box (.t 0), none⟩,
    ⟨(some 2), .nilv .one, none⟩] false [1])
 (.seq
  (.region [] [] [
    ⟨(some 3), .nilv .one, none⟩] false [1, 3])
 (.seq
  (.seq
   (.region [] [] [
     ⟨(some 9), .fldA 0 .one (.t 1), none⟩,
     ⟨(some 10), .load .one (.t 9), none⟩,
     ⟨(some 11), .len (.t 10), none⟩,
     ⟨(some 12), .mov (.c (.int .i64 0)), none⟩] false [3, 10, 11, 12])
   (.block 0
    (.loop
     (.seq
      (.region [] [] [
        ⟨(some 13), .bin .lss 0 (.t 12) (.t 11), none⟩] false [3, 10, 11, 12, 13])
     (.seq
      (.cond (.t 13)
       .skip
       (.exit 0)
       [3, 10, 11, 12])
     (.seq
      (.block 1
       (.seq
        (.region [] [] [
          ⟨(some 14), .idxS .one (.t 10) (.t 12), none⟩,
          ⟨(some 15), .load .one (.t 14), none⟩,
          ⟨(some 5), .mov (.t 15), none⟩] false [3, 5, 10, 11, 12])
       (.seq
        (.region [] [] [
          ⟨(some 6), .nilv (.many 8), none⟩] false [3, 5, 6, 10, 11, 12])
       (.seq
        (.seq
         (.region [] [] [
           ⟨(some 16), .mov (.t 5), none⟩,
           ⟨(some 17), .len (.t 16), none⟩,
           ⟨(some 18), .mov (.c (.int .i64 0)), none⟩] false [3, 6, 10, 11, 12, 16, 17, 18])
         (.block 2
          (.loop
           (.seq
            (.region [] [] [
              ⟨(some 19), .bin .lss 0 (.t 18) (.t 17), none⟩] false [3, 6, 10, 11, 12, 16, 17, 18, 19])
           (.seq
            (.cond (.t 19)
             .skip
             (.exit 2)
             [3, 6, 10, 11, 12, 16, 17, 18])
           (.seq
            (.block 3
             (.seq
              (.region [] [] [
                ⟨(some 20), .idxS (.many 2) (.t 16) (.t 18), none⟩,
                ⟨(some 21), .load (.many 2) (.t 20), none⟩,
                ⟨(some 8), .alloc [.int .i64 0, .int .i64 0], none⟩,
                ⟨none, .store 2 (.t 8) (.t 21), none⟩] false [3, 6, 8, 10, 11, 12, 16, 17, 18])
              (.region [] [] [
                ⟨(some 22), .mov (.t 6), none⟩,
                ⟨(some 23), .idxA 2 .one (.t 8) (.c (.int .i64 0)), none⟩,
                ⟨(some 24), .load .one (.t 23), none⟩,
                ⟨(some 25), .call .pure false (.f 125) [.t 24], none⟩,
                ⟨(some 26), .idxA 2 .one (.t 8) (.c (.int .i64 1)), none⟩,
                ⟨(some 27), .load .one (.t 26), none⟩,
                ⟨(some 28), .call .pure false (.f 125) [.t 27], none⟩,
                ⟨(some 29), .build [.bool false, .slT true [], .bool false, .slT true [], .bool false, .slT true [], .bool false, .slT true []] [(0, 4, .t 25), (4, 4, .t 28)], none⟩,
                ⟨(some 30), .mkSl [.bool false, .slT true [], .bool false, .slT true [], .bool false, .slT true [], .bool false, .slT true []] (.many 8) 1 [(0, .t 29)], none⟩,
                ⟨(some 31), .app (.many 8) 128 (.t 22) (.t 30), none⟩,
                ⟨(some 6), .mov (.t 31), none⟩] true [3, 6, 10, 11, 12, 16, 17, 18]))
             [3, 6, 10, 11, 12, 16, 17, 18])
            (.region [] [] [
              ⟨(some 32), .bin .add 0 (.t 18) (.c (.int .i64 1)), none⟩,
              ⟨(some 18), .mov (.t 32), none⟩] false [3, 6, 10, 11, 12, 16, 17, 18]))))
           [3, 6, 10, 11, 12, 16, 17, 18])
          [3, 6, 10, 11, 12]))
        (.region [] [] [
          ⟨(some 33), .mov (.t 3), none⟩,
          ⟨(some 34), .mov (.t 6), none⟩,
          ⟨(some 35), .mkSl [.slT true []] .one 1 [(0, .t 34)], none⟩,
          ⟨(some 36), .app .one 24 (.t 33) (.t 35), none⟩,
          ⟨(some 3), .mov (.t 36), none⟩] false [3, 10, 11, 12]))))
       [3, 10, 11, 12])
      (.region [] [] [
        ⟨(some 37), .bin .add 0 (.t 12) (.c (.int .i64 1)), none⟩,
        ⟨(some 12), .mov (.t 37), none⟩] false [3, 10, 11, 12]))))
     [3, 10, 11, 12])
    [3]))
 (.seq
  (.region [] [] [
    ⟨(some 38), .mov (.t 3), none⟩,
    ⟨(some 2), .mov (.t 38), none⟩] false [2])
  .ret)))),
 [.t 2]⟩
/-- spokeshave/profile.area -/
def a78 : AFunc := ⟨
 (.seq
  (.region [] [] [
    ⟨(some 2), .mov (.c (.int .i64 0)), none⟩] false [0])
 (.seq
  (.region [] [] [
    ⟨(some 3), .mov (.c (.int .i64 0)), none⟩] false [0, 3])
 (.seq
  (.seq
   (.region [] [] [
     ⟨(some 6), .mov (.t 0), none⟩,
     ⟨(some 7), .len (.t 6), none⟩,
     ⟨(some 8), .mov (.c (.int .i64 0)), none⟩] false [0, 3, 6, 7, 8])
   (.block 0
    (.loop
     (.seq
      (.region [] [] [
        ⟨(some 9), .bin .lss 0 (.t 8) (.t 7), none⟩] false [0, 3, 6, 7, 8, 9])
     (.seq
      (.cond (.t 9)
       .skip
       (.exit 0)
       [0, 3, 6, 7, 8])
     (.seq
      (.block 1
       (.seq
        (.region [] [] [
          ⟨(some 10), .mov (.t 8), none⟩,
          ⟨(some 11), .idxS (.many 2) (.t 6) (.t 8), none⟩,
          ⟨(some 12), .load (.many 2) (.t 11), none⟩,
          ⟨(some 5), .alloc [.int .i64 0, .int .i64 0], none⟩,
          ⟨(some 4), .mov (.t 10), none⟩,
          ⟨none, .store 2 (.t 5) (.t 12), none⟩] false [0, 3, 4, 5, 6, 7, 8])
        (.region [] [] [
          ⟨(some 13), .mov (.t 3), none⟩,
          ⟨(some 14), .load (.many 2) (.t 5), none⟩,
          ⟨(some 15), .mov (.t 0), none⟩,
          ⟨(some 16), .mov (.t 4), none⟩,
          ⟨(some 17), .bin .add 0 (.t 16) (.c (.int .i64 1)), none⟩,
          ⟨(some 18), .mov (.t 0), none⟩,
          ⟨(some 19), .len (.t 18), none⟩,
          ⟨(some 20), .bin .rem 0 (.t 17) (.t 19), none⟩,
          ⟨(some 21), .idxS (.many 2) (.t 15) (.t 20), none⟩,
          ⟨(some 22), .load (.many 2) (.t 21), none⟩,
          ⟨(some 23), .call .pure false (.f 96) [.t 14, .t 22], none⟩,
          ⟨(some 24), .bin .add 0 (.t 13) (.t 23), none⟩,
          ⟨(some 3), .mov (.t 24), none⟩] true [0, 3, 6, 7, 8]))
       [0, 3, 6, 7, 8])
      (.region [] [] [
        ⟨(some 25), .bin .add 0 (.t 8) (.c (.int .i64 1)), none⟩,
        ⟨(some 8), .mov (.t 25), none⟩] false [0, 3, 6, 7, 8]))))
     [0, 3, 6, 7, 8])
    [3]))
 (.seq
  (.region [] [] [
    ⟨(some 26), .mov (.t 3), none⟩,
    ⟨(some 2), .mov (.t 26), none⟩] false [2])
  .ret)))),
 [.t 2]⟩
/-- spokeshave/profile.Counts$1 -/
def a79 : AFunc := ⟨
 (.seq
  (.region [] [] [
    ⟨(some 3), .box (.t 0), none⟩,
    ⟨(some 4), .alloc [.int .i64 0, .int .i64 0], none⟩] false [1, 2, 3, 4])
 (.seq
  (.seq
   (.region [] [] [
     ⟨(some 8), .load .one (.t 1), none⟩,
     ⟨(some 9), .load (.many 2) (.t 3), none⟩,
     ⟨(some 10), .look (.agg [.int .i64 0, .int .i64 0]) 2 (.t 8) (.t 9) true, none⟩,
     ⟨(some 7), .mov (.t 10), none⟩,
     ⟨(some 11), .ext 0 (.t 7), none⟩,
     ⟨(some 12), .ext 1 (.t 7), none⟩,
     ⟨(some 5), .alloc [.int .i64 0, .int .i64 0], none⟩,
     ⟨none, .store 2 (.t 5) (.t 11), none⟩,
     ⟨(some 6), .mov (.t 12), none⟩] false [2, 3, 4, 5, 6])
  (.seq
   (.region [] [] [
     ⟨(some 13), .mov (.t 6), none⟩,
     ⟨(some 14), .mov (.t 13), none⟩,
     ⟨(some 15), .load (.many 2) (.t 5), (some (14, true))⟩,
     ⟨(some 16), .load (.many 2) (.t 3), (some (14, true))⟩,
     ⟨(some 17), .bin .neq 4 (.t 15) (.t 16), (some (14, true))⟩,
     ⟨(some 18), .pick (.t 14) (.t 17) (.c (.bool false)), none⟩] false [2, 3, 4, 5, 18])
   (.cond (.t 18)
    (.seq
     (.region [] [] [
       ⟨(some 19), .load .one (.t 2), none⟩,
       ⟨(some 20), .load (.many 2) (.t 5), none⟩,
       ⟨(some 21), .call .auto false (.t 19) [.t 20], none⟩,
       ⟨none, .store 2 (.t 4) (.t 21), none⟩] false [4])
     .ret)
    .skip
    [3, 4])))
 (.seq
  (.region [] [] [
    ⟨(some 22), .load (.many 2) (.t 3), none⟩,
    ⟨none, .store 2 (.t 4) (.t 22), none⟩] false [4])
  .ret))),
 [.cell 4 (.many 2)]⟩
/-- (spokeshave/profile.Profile).spots -/
def a80 : AFunc := ⟨
 (.seq
  (.region [] [] [
    ⟨(some 1), .box (.t 0), none⟩,
    ⟨(some 2), .mov (.c (.int .i64 0)), none⟩] false [1])
 (.seq
  (.region [] [] [
    ⟨(some 3), .mov (.c (.int .i64 0)), none⟩] false [1, 3])
 (.seq
  (.seq
   (.region [] [] [
     ⟨(some 6), .fldA 0 .one (.t 1), none⟩,
     ⟨(some 7), .load .one (.t 6), none⟩,
     ⟨(some 8), .len (.t 7), none⟩,
     ⟨(some 9), .mov (.c (.int .i64 0)), none⟩] false [3, 7, 8, 9])
   (.block 0
    (.loop
     (.seq
      (.region [] [] [
        ⟨(some 10), .bin .lss 0 (.t 9) (.t 8), none⟩] false [3, 7, 8, 9, 10])
     (.seq
      (.cond (.t 10)
       .skip
       (.exit 0)
       [3, 7, 8, 9])
     (.seq
      (.block 1
       (.seq
        (.region [] [] [
          ⟨(some 11), .idxS .one (.t 7) (.t 9), none⟩,
          ⟨(some 12), .load .one (.t 11), none⟩,
          ⟨(some 5), .mov (.t 12), none⟩] false [3, 5, 7, 8, 9])
        (.region [] [] [
          ⟨(some 13), .mov (.t 3), none⟩,
          ⟨(some 14), .mov (.t 5), none⟩,
          ⟨(some 15), .len (.t 14), none⟩,
          ⟨(some 16), .bin .add 0 (.t 13) (.t 15), none⟩,
          ⟨(some 3), .mov (.t 16), none⟩] false [3, 7, 8, 9]))
       [3, 7, 8, 9])
      (.region [] [] [
        ⟨(some 17), .bin .add 0 (.t 9) (.c (.int .i64 1)), none⟩,
        ⟨(some 9), .mov (.t 17), none⟩] false [3, 7, 8, 9]))))
     [3, 7, 8, 9])
    [3]))
 (.seq
  (.region [] [] [
    ⟨(some 18), .mov (.t 3), none⟩,
    ⟨(some 2), .mov (.t 18), none⟩] false [2])
  .ret)))),
 [.t 2]⟩
/-- spokeshave/spokeshaveref17.Same -/
def a90 : AFunc := ⟨
 (.seq
  (.region [] [] [
    ⟨(some 4), .mov (.c (.bool false)), none⟩] false [0, 1])
 (.seq
  (.seq
   (.region [] [] [
     ⟨(some 7), .mov (.t 0), none⟩,
     ⟨(some 8), .len (.t 7), none⟩,
     ⟨(some 9), .mov (.t 1), none⟩,
     ⟨(some 10), .len (.t 9), none⟩,
     ⟨(some 11), .bin .neq 0 (.t 8) (.t 10), none⟩] false [0, 1, 11])
   (.cond (.t 11)
    (.seq
     (.region [] [] [
       ⟨(some 4), .mov (.c (.bool false)), none⟩] false [4])
     .ret)
    .skip
    [0, 1]))
 (.seq
  (.seq
   (.region [] [] [
     ⟨(some 5), .mov (.c (.int .i64 0)), none⟩] false [0, 1, 5])
   (.block 0
    (.loop
     (.seq
      (.seq
       (.region [] [] [
         ⟨(some 12), .mov (.t 5), none⟩,
         ⟨(some 13), .mov (.t 0), none⟩,
         ⟨(some 14), .len (.t 13), none⟩,
         ⟨(some 15), .bin .lss 0 (.t 12) (.t 14), none⟩] false [0, 1, 5, 15])
       (.cond (.t 15)
        .skip
        (.exit 0)
        [0, 1, 5]))
     (.seq
      (.block 1
       (.seq
        (.seq
         (.region [] [] [
           ⟨(some 18), .mov (.t 0), none⟩,
           ⟨(some 19), .mov (.t 5), none⟩,
           ⟨(some 20), .idxS .one (.t 18) (.t 19), none⟩,
           ⟨(some 21), .load .one (.t 20), none⟩,
           ⟨(some 22), .len (.t 21), none⟩,
           ⟨(some 23), .mov (.t 1), none⟩,
           ⟨(some 24), .mov (.t 5), none⟩,
           ⟨(some 25), .idxS .one (.t 23) (.t 24), none⟩,
           ⟨(some 26), .load .one (.t 25), none⟩,
           ⟨(some 27), .len (.t 26), none⟩,
           ⟨(some 28), .bin .neq 0 (.t 22) (.t 27), none⟩] true [0, 1, 5, 28])
         (.cond (.t 28)
          (.seq
           (.region [] [] [
             ⟨(some 4), .mov (.c (.bool false)), none⟩] false [4])
           .ret)
          .skip
          [0, 1, 5]))
       (.seq
        (.region [] [] [
          ⟨(some 6), .mov (.c (.int .i64 0)), none⟩] false [0, 1, 5, 6])
        (.block 2
         (.loop
          (.seq
           (.seq
            (.region [] [] [
              ⟨(some 29), .mov (.t 6), none⟩,
              ⟨(some 30), .mov (.t 0), none⟩,
              ⟨(some 31), .mov (.t 5), none⟩,
              ⟨(some 32), .idxS .one (.t 30) (.t 31), none⟩,
              ⟨(some 33), .load .one (.t 32), none⟩,
              ⟨(some 34), .len (.t 33), none⟩,
              ⟨(some 35), .bin .lss 0 (.t 29) (.t 34), none⟩] false [0, 1, 5, 6, 35])
            (.cond (.t 35)
             .skip
             (.exit 2)
             [0, 1, 5, 6]))
          (.seq
           (.block 3
            (.seq
             (.region [] [] [
               ⟨(some 38), .mov (.t 0), none⟩,
               ⟨(some 39), .mov (.t 5), none⟩,
               ⟨(some 40), .idxS .one (.t 38) (.t 39), none⟩,
               ⟨(some 41), .load .one (.t 40), none⟩,
               ⟨(some 42), .mov (.t 6), none⟩,
               ⟨(some 43), .idxS (.many 2) (.t 41) (.t 42), none⟩,
               ⟨(some 44), .load (.many 2) (.t 43), none⟩,
               ⟨(some 45), .mov (.t 1), none⟩,
               ⟨(some 46), .mov (.t 5), none⟩,
               ⟨(some 47), .idxS .one (.t 45) (.t 46), none⟩,
               ⟨(some 48), .load .one (.t 47), none⟩,
               ⟨(some 49), .mov (.t 6), none⟩,
               ⟨(some 50), .idxS (.many 2) (.t 48) (.t 49), none⟩,
               ⟨(some 51), .load (.many 2) (.t 50), none⟩,
               ⟨(some 52), .bin .neq 4 (.t 44) (.t 51), none⟩] true [0, 1, 5, 6, 52])
             (.cond (.t 52)
              (.seq
               (.region [] [] [
                 ⟨(some 4), .mov (.c (.bool false)), none⟩] false [4])
               .ret)
              .skip
              [0, 1, 5, 6]))
            [0, 1, 5, 6])
           (.region [] [] [
             ⟨(some 36), .mov (.t 6), none⟩,
             ⟨(some 37), .bin .add 0 (.t 36) (.c (.int .i64 1)), none⟩,
             ⟨(some 6), .mov (.t 37), none⟩] false [0, 1, 5, 6])))
          [0, 1, 5, 6])
         [0, 1, 5])))
       [0, 1, 5])
      (.region [] [] [
        ⟨(some 16), .mov (.t 5), none⟩,
        ⟨(some 17), .bin .add 0 (.t 16) (.c (.int .i64 1)), none⟩,
        ⟨(some 5), .mov (.t 17), none⟩] false [0, 1, 5])))
     [0, 1, 5])
    []))
 (.seq
  (.region [] [] [
    ⟨(some 4), .mov (.c (.bool true)), none⟩] false [4])
  .ret)))),
 [.t 4]⟩
/-- slices.IndexFunc[[]spokeshave/profile.Spot,spokeshave/profile.Spot] -/
def a92 : AFunc := ⟨
 (.seq
  (.region [] [] [
    ⟨(some 4), .mov (.c (.int .i64 0)), none⟩] false [0, 1])
 (.seq
  (.seq
   (.region [] [] [
     ⟨(some 6), .mov (.t 0), none⟩,
     ⟨(some 7), .len (.t 6), none⟩,
     ⟨(some 8), .mov (.c (.int .i64 0)), none⟩] false [0, 1, 7, 8])
   (.block 0
    (.loop
     (.seq
      (.region [] [] [
        ⟨(some 9), .bin .lss 0 (.t 8) (.t 7), none⟩] false [0, 1, 7, 8, 9])
     (.seq
      (.cond (.t 9)
       .skip
       (.exit 0)
       [0, 1, 7, 8])
     (.seq
      (.block 1
       (.seq
        (.region [] [] [
          ⟨(some 10), .mov (.t 8), none⟩,
          ⟨(some 5), .mov (.t 10), none⟩] false [0, 1, 5, 7, 8])
       (.seq
        (.region [] [] [
          ⟨(some 11), .mov (.t 1), none⟩,
          ⟨(some 12), .mov (.t 0), none⟩,
          ⟨(some 13), .mov (.t 5), none⟩,
          ⟨(some 14), .idxS (.many 2) (.t 12) (.t 13), none⟩,
          ⟨(some 15), .load (.many 2) (.t 14), none⟩,
          ⟨(some 16), .call .auto false (.t 11) [.t 15], none⟩] false [0, 1, 5, 7, 8, 16])
        (.cond (.t 16)
         (.seq
          (.region [] [] [
            ⟨(some 17), .mov (.t 5), none⟩,
            ⟨(some 4), .mov (.t 17), none⟩] false [4])
          .ret)
         .skip
         [0, 1, 7, 8])))
       [0, 1, 7, 8])
      (.region [] [] [
        ⟨(some 18), .bin .add 0 (.t 8) (.c (.int .i64 1)), none⟩,
        ⟨(some 8), .mov (.t 18), none⟩] false [0, 1, 7, 8]))))
     [0, 1, 7, 8])
    []))
 (.seq
  (.region [] [] [
    ⟨(some 4), .mov (.c (.int .i64 (-1))), none⟩] false [4])
  .ret))),
 [.t 4]⟩
/-- slices.pdqsortCmpFunc[spokeshave/profile.Spot] -/
def a93 : AFunc := ⟨
 (.seq
  (.region [] [] [
    ⟨(some 10), .mov (.c (.bool true)), none⟩] false [0, 1, 2, 3, 4, 10])
 (.seq
  (.region [] [] [
    ⟨(some 11), .mov (.c (.bool true)), none⟩] false [0, 1, 2, 3, 4, 10, 11])
  (.block 0
   (.loop
    (.block 1
     (.seq
      (.region [] [] [
        ⟨(some 21), .mov (.t 2), none⟩,
        ⟨(some 22), .mov (.t 1), none⟩,
        ⟨(some 23), .bin .sub 0 (.t 21) (.t 22), none⟩,
        ⟨(some 12), .mov (.t 23), none⟩] false [0, 1, 2, 3, 4, 10, 11, 12])
     (.seq
      (.seq
       (.region [] [] [
         ⟨(some 24), .mov (.t 12), none⟩,
         ⟨(some 25), .bin .leq 0 (.t 24) (.c (.int .i64 12)), none⟩] false [0, 1, 2, 3, 4, 10, 11, 12, 25])
       (.cond (.t 25)
        (.seq
         (.region [] [] [
           ⟨(some 26), .mov (.t 0), none⟩,
           ⟨(some 27), .mov (.t 1), none⟩,
           ⟨(some 28), .mov (.t 2), none⟩,
           ⟨(some 29), .mov (.t 4), none⟩,
           ⟨(some 30), .call .inl false (.f 138) [.t 26, .t 27, .t 28, .t 29], none⟩] false [])
         .ret)
        .skip
        [0, 1, 2, 3, 4, 10, 11, 12]))
     (.seq
      (.seq
       (.region [] [] [
         ⟨(some 31), .mov (.t 3), none⟩,
         ⟨(some 32), .bin .eql 0 (.t 31) (.c (.int .i64 0)), none⟩] false [0, 1, 2, 3, 4, 10, 11, 12, 32])
       (.cond (.t 32)
        (.seq
         (.region [] [] [
           ⟨(some 33), .mov (.t 0), none⟩,
           ⟨(some 34), .mov (.t 1), none⟩,
           ⟨(some 35), .mov (.t 2), none⟩,
           ⟨(some 36), .mov (.t 4), none⟩,
           ⟨(some 37), .call .inl false (.f 139) [.t 33, .t 34, .t 35, .t 36], none⟩] false [])
         .ret)
        .skip
        [0, 1, 2, 3, 4, 10, 11, 12]))
     (.seq
      (.seq
       (.region [] [] [
         ⟨(some 38), .mov (.t 10), none⟩,
         ⟨(some 39), .un .not (.t 38), none⟩] false [0, 1, 2, 3, 4, 10, 11, 12, 39])
       (.cond (.t 39)
        (.seq
         (.region [] [] [
           ⟨(some 40), .mov (.t 0), none⟩,
           ⟨(some 41), .mov (.t 1), none⟩,
           ⟨(some 42), .mov (.t 2), none⟩,
           ⟨(some 43), .mov (.t 4), none⟩,
           ⟨(some 44), .call .inl false (.f 140) [.t 40, .t 41, .t 42, .t 43], none⟩] false [0, 1, 2, 3, 4, 10, 11, 12])
         (.region [] [] [
           ⟨(some 45), .mov (.t 3), none⟩,
           ⟨(some 46), .bin .sub 0 (.t 45) (.c (.int .i64 1)), none⟩,
           ⟨(some 3), .mov (.t 46), none⟩] false [0, 1, 2, 3, 4, 10, 11, 12]))
        .skip
        [0, 1, 2, 3, 4, 10, 11, 12]))
     (.seq
      (.region [] [] [
        ⟨(some 48), .mov (.t 0), none⟩,
        ⟨(some 49), .mov (.t 1), none⟩,
        ⟨(some 50), .mov (.t 2), none⟩,
        ⟨(some 51), .mov (.t 4), none⟩,
        ⟨(some 52), .call .inl false (.f 141) [.t 48, .t 49, .t 50, .t 51], none⟩,
        ⟨(some 47), .mov (.t 52), none⟩,
        ⟨(some 53), .ext 0 (.t 47), none⟩,
        ⟨(some 54), .ext 1 (.t 47), none⟩,
        ⟨(some 13), .mov (.t 53), none⟩,
        ⟨(some 14), .mov (.t 54), none⟩] false [0, 1, 2, 3, 4, 10, 11, 12, 13, 14])
     (.seq
      (.seq
       (.region [] [] [
         ⟨(some 55), .mov (.t 14), none⟩,
         ⟨(some 56), .bin .eql 0 (.t 55) (.c (.int .i64 2)), none⟩] false [0, 1, 2, 3, 4, 10, 11, 12, 13, 14, 56])
       (.cond (.t 56)
        (.seq
         (.region [] [] [
           ⟨(some 57), .mov (.t 0), none⟩,
           ⟨(some 58), .mov (.t 1), none⟩,
           ⟨(some 59), .mov (.t 2), none⟩,
           ⟨(some 60), .mov (.t 4), none⟩,
           ⟨(some 61), .call .inl false (.f 142) [.t 57, .t 58, .t 59, .t 60], none⟩] false [0, 1, 2, 3, 4, 10, 11, 12, 13])
        (.seq
         (.region [] [] [
           ⟨(some 62), .mov (.t 2), none⟩,
           ⟨(some 63), .bin .sub 0 (.t 62) (.c (.int .i64 1)), none⟩,
           ⟨(some 64), .mov (.t 13), none⟩,
           ⟨(some 65), .mov (.t 1), none⟩,
           ⟨(some 66), .bin .sub 0 (.t 64) (.t 65), none⟩,
           ⟨(some 67), .bin .sub 0 (.t 63) (.t 66), none⟩,
           ⟨(some 13), .mov (.t 67), none⟩] false [0, 1, 2, 3, 4, 10, 11, 12, 13])
         (.region [] [] [
           ⟨(some 14), .mov (.c (.int .i64 1)), none⟩] false [0, 1, 2, 3, 4, 10, 11, 12, 13, 14])))
        .skip
        [0, 1, 2, 3, 4, 10, 11, 12, 13, 14]))
     (.seq
      (.seq
       (.region [] [] [
         ⟨(some 68), .mov (.t 10), none⟩,
         ⟨(some 69), .mov (.t 68), none⟩,
         ⟨(some 70), .mov (.t 11), (some (69, true))⟩,
         ⟨(some 71), .pick (.t 69) (.t 70) (.c (.bool false)), none⟩,
         ⟨(some 72), .mov (.t 71), none⟩,
         ⟨(some 73), .mov (.t 14), (some (72, true))⟩,
         ⟨(some 74), .bin .eql 0 (.t 73) (.c (.int .i64 1)), (some (72, true))⟩,
         ⟨(some 75), .pick (.t 72) (.t 74) (.c (.bool false)), none⟩] false [0, 1, 2, 3, 4, 10, 11, 12, 13, 75])
       (.cond (.t 75)
        (.seq
         (.region [] [] [
           ⟨(some 76), .mov (.t 0), none⟩,
           ⟨(some 77), .mov (.t 1), none⟩,
           ⟨(some 78), .mov (.t 2), none⟩,
           ⟨(some 79), .mov (.t 4), none⟩,
           ⟨(some 80), .call .inl false (.f 143) [.t 76, .t 77, .t 78, .t 79], none⟩] false [0, 1, 2, 3, 4, 10, 11, 12, 13, 80])
         (.cond (.t 80)
          .ret
          .skip
          [0, 1, 2, 3, 4, 10, 11, 12, 13]))
        .skip
        [0, 1, 2, 3, 4, 10, 11, 12, 13]))
     (.seq
      (.seq
       (.region [] [] [
         ⟨(some 81), .mov (.t 1), none⟩,
         ⟨(some 82), .bin .gtr 0 (.t 81) (.c (.int .i64 0)), none⟩,
         ⟨(some 83), .mov (.t 82), none⟩,
         ⟨(some 84), .mov (.t 4), (some (83, true))⟩,
         ⟨(some 85), .mov (.t 0), (some (83, true))⟩,
         ⟨(some 86), .mov (.t 1), (some (83, true))⟩,
         ⟨(some 87), .bin .sub 0 (.t 86) (.c (.int .i64 1)), (some (83, true))⟩,
         ⟨(some 88), .idxS (.many 2) (.t 85) (.t 87), (some (83, true))⟩,
         ⟨(some 89), .load (.many 2) (.t 88), (some (83, true))⟩,
         ⟨(some 90), .mov (.t 0), (some (83, true))⟩,
         ⟨(some 91), .mov (.t 13), (some (83, true))⟩,
         ⟨(some 92), .idxS (.many 2) (.t 90) (.t 91), (some (83, true))⟩,
         ⟨(some 93), .load (.many 2) (.t 92), (some (83, true))⟩,
         ⟨(some 94), .call .auto false (.t 84) [.t 89, .t 93], (some (83, true))⟩,
         ⟨(some 95), .bin .lss 0 (.t 94) (.c (.int .i64 0)), (some (83, true))⟩,
         ⟨(some 96), .un .not (.t 95), (some (83, true))⟩,
         ⟨(some 97), .pick (.t 83) (.t 96) (.c (.bool false)), none⟩] true [0, 1, 2, 3, 4, 10, 11, 12, 13, 97])
       (.cond (.t 97)
        (.seq
         (.region [] [] [
           ⟨(some 98), .mov (.t 0), none⟩,
           ⟨(some 99), .mov (.t 1), none⟩,
           ⟨(some 100), .mov (.t 2), none⟩,
           ⟨(some 101), .mov (.t 13), none⟩,
           ⟨(some 102), .mov (.t 4), none⟩,
           ⟨(some 103), .call .inl false (.f 144) [.t 98, .t 99, .t 100, .t 101, .t 102], none⟩,
           ⟨(some 15), .mov (.t 103), none⟩] false [0, 2, 3, 4, 10, 11, 15])
        (.seq
         (.region [] [] [
           ⟨(some 104), .mov (.t 15), none⟩,
           ⟨(some 1), .mov (.t 104), none⟩] false [0, 1, 2, 3, 4, 10, 11])
         (.exit 1)))
        .skip
        [0, 1, 2, 3, 4, 12, 13]))
     (.seq
      (.region [] [] [
        ⟨(some 106), .mov (.t 0), none⟩,
        ⟨(some 107), .mov (.t 1), none⟩,
        ⟨(some 108), .mov (.t 2), none⟩,
        ⟨(some 109), .mov (.t 13), none⟩,
        ⟨(some 110), .mov (.t 4), none⟩,
        ⟨(some 111), .call .inl false (.f 145) [.t 106, .t 107, .t 108, .t 109, .t 110], none⟩,
        ⟨(some 105), .mov (.t 111), none⟩,
        ⟨(some 112), .ext 0 (.t 105), none⟩,
        ⟨(some 113), .ext 1 (.t 105), none⟩,
        ⟨(some 16), .mov (.t 112), none⟩,
        ⟨(some 17), .mov (.t 113), none⟩] false [0, 1, 2, 3, 4, 12, 16, 17])
     (.seq
      (.region [] [] [
        ⟨(some 114), .mov (.t 17), none⟩,
        ⟨(some 11), .mov (.t 114), none⟩] false [0, 1, 2, 3, 4, 11, 12, 16])
     (.seq
      (.region [] [] [
        ⟨(some 115), .mov (.t 16), none⟩,
        ⟨(some 116), .mov (.t 1), none⟩,
        ⟨(some 117), .bin .sub 0 (.t 115) (.t 116), none⟩,
        ⟨(some 118), .mov (.t 2), none⟩,
        ⟨(some 119), .mov (.t 16), none⟩,
        ⟨(some 120), .bin .sub 0 (.t 118) (.t 119), none⟩,
        ⟨(some 18), .mov (.t 117), none⟩,
        ⟨(some 19), .mov (.t 120), none⟩] false [0, 1, 2, 3, 4, 11, 12, 16, 18, 19])
     (.seq
      (.region [] [] [
        ⟨(some 121), .mov (.t 12), none⟩,
        ⟨(some 122), .bin .quo 0 (.t 121) (.c (.int .i64 8)), none⟩,
        ⟨(some 20), .mov (.t 122), none⟩] false [0, 1, 2, 3, 4, 11, 16, 18, 19, 20])
     (.seq
      (.region [] [] [
        ⟨(some 123), .mov (.t 18), none⟩,
        ⟨(some 124), .mov (.t 19), none⟩,
        ⟨(some 125), .bin .lss 0 (.t 123) (.t 124), none⟩] false [0, 1, 2, 3, 4, 11, 16, 18, 19, 20, 125])
      (.cond (.t 125)
       (.seq
        (.region [] [] [
          ⟨(some 126), .mov (.t 18), none⟩,
          ⟨(some 127), .mov (.t 20), none⟩,
          ⟨(some 128), .bin .geq 0 (.t 126) (.t 127), none⟩,
          ⟨(some 10), .mov (.t 128), none⟩] false [0, 1, 2, 3, 4, 10, 11, 16])
       (.seq
        (.region [] [] [
          ⟨(some 129), .mov (.t 0), none⟩,
          ⟨(some 130), .mov (.t 1), none⟩,
          ⟨(some 131), .mov (.t 16), none⟩,
          ⟨(some 132), .mov (.t 3), none⟩,
          ⟨(some 133), .mov (.t 4), none⟩,
          ⟨(some 134), .call .inl false (.f 93) [.t 129, .t 130, .t 131, .t 132, .t 133], none⟩] false [0, 2, 3, 4, 10, 11, 16])
        (.region [] [] [
          ⟨(some 135), .mov (.t 16), none⟩,
          ⟨(some 136), .bin .add 0 (.t 135) (.c (.int .i64 1)), none⟩,
          ⟨(some 1), .mov (.t 136), none⟩] false [0, 1, 2, 3, 4, 10, 11])))
       (.seq
        (.region [] [] [
          ⟨(some 137), .mov (.t 19), none⟩,
          ⟨(some 138), .mov (.t 20), none⟩,
          ⟨(some 139), .bin .geq 0 (.t 137) (.t 138), none⟩,
          ⟨(some 10), .mov (.t 139), none⟩] false [0, 1, 2, 3, 4, 10, 11, 16])
       (.seq
        (.region [] [] [
          ⟨(some 140), .mov (.t 0), none⟩,
          ⟨(some 141), .mov (.t 16), none⟩,
          ⟨(some 142), .bin .add 0 (.t 141) (.c (.int .i64 1)), none⟩,
          ⟨(some 143), .mov (.t 2), none⟩,
          ⟨(some 144), .mov (.t 3), none⟩,
          ⟨(some 145), .mov (.t 4), none⟩,
          ⟨(some 146), .call .inl false (.f 93) [.t 140, .t 142, .t 143, .t 144, .t 145], none⟩] false [0, 1, 3, 4, 10, 11, 16])
        (.region [] [] [
          ⟨(some 147), .mov (.t 16), none⟩,
          ⟨(some 2), .mov (.t 147), none⟩] false [0, 1, 2, 3, 4, 10, 11])))
       [0, 1, 2, 3, 4, 10, 11]))))))))))))))
     [0, 1, 2, 3, 4, 10, 11])
    [0, 1, 2, 3, 4, 10, 11])
   []))),
 []⟩
/-- math/bits.Len -/
def a94 : AFunc := ⟨
 (.seq
  (.region [] [] [
    ⟨(some 2), .mov (.c (.int .i64 0)), none⟩] false [0])
 (.seq
  (.cond (.c (.bool false))
   (.seq
    (.region [] [] [
      ⟨(some 3), .mov (.t 0), none⟩,
      ⟨(some 4), .conv .u32 (.t 3), none⟩,
      ⟨(some 5), .call .pure false (.f 146) [.t 4], none⟩,
      ⟨(some 2), .mov (.t 5), none⟩] false [2])
    .ret)
   .skip
   [0])
 (.seq
  (.region [] [] [
    ⟨(some 6), .mov (.t 0), none⟩,
    ⟨(some 7), .call .pure false (.f 147) [.t 6], none⟩,
    ⟨(some 2), .mov (.t 7), none⟩] false [2])
  .ret))),
 [.t 2]⟩
/-- slices.Compare[[]int64,int64] -/
def a95 : AFunc := ⟨
 (.seq
  (.region [] [] [
    ⟨(some 4), .mov (.c (.int .i64 0)), none⟩] false [0, 1])
 (.seq
  (.seq
   (.region [] [] [
     ⟨(some 9), .mov (.t 0), none⟩,
     ⟨(some 10), .len (.t 9), none⟩,
     ⟨(some 11), .mov (.c (.int .i64 0)), none⟩] false [0, 1, 9, 10, 11])
   (.block 0
    (.loop
     (.seq
      (.region [] [] [
        ⟨(some 12), .bin .lss 0 (.t 11) (.t 10), none⟩] false [0, 1, 9, 10, 11, 12])
     (.seq
      (.cond (.t 12)
       .skip
       (.exit 0)
       [0, 1, 9, 10, 11])
     (.seq
      (.block 1
       (.seq
        (.region [] [] [
          ⟨(some 13), .mov (.t 11), none⟩,
          ⟨(some 14), .idxS .one (.t 9) (.t 11), none⟩,
          ⟨(some 15), .load .one (.t 14), none⟩,
          ⟨(some 5), .mov (.t 13), none⟩,
          ⟨(some 6), .mov (.t 15), none⟩] false [0, 1, 5, 6, 9, 10, 11])
       (.seq
        (.seq
         (.region [] [] [
           ⟨(some 16), .mov (.t 5), none⟩,
           ⟨(some 17), .mov (.t 1), none⟩,
           ⟨(some 18), .len (.t 17), none⟩,
           ⟨(some 19), .bin .geq 0 (.t 16) (.t 18), none⟩] false [0, 1, 5, 6, 9, 10, 11, 19])
         (.cond (.t 19)
          (.seq
           (.region [] [] [
             ⟨(some 4), .mov (.c (.int .i64 1)), none⟩] false [4])
           .ret)
          .skip
          [0, 1, 5, 6, 9, 10, 11]))
       (.seq
        (.region [] [] [
          ⟨(some 20), .mov (.t 1), none⟩,
          ⟨(some 21), .mov (.t 5), none⟩,
          ⟨(some 22), .idxS .one (.t 20) (.t 21), none⟩,
          ⟨(some 23), .load .one (.t 22), none⟩,
          ⟨(some 7), .mov (.t 23), none⟩] false [0, 1, 6, 7, 9, 10, 11])
       (.seq
        (.region [] [] [
          ⟨(some 24), .mov (.t 6), none⟩,
          ⟨(some 25), .mov (.t 7), none⟩,
          ⟨(some 26), .call .pure false (.f 148) [.t 24, .t 25], none⟩,
          ⟨(some 8), .mov (.t 26), none⟩] false [0, 1, 8, 9, 10, 11])
       (.seq
        (.region [] [] [
          ⟨(some 27), .mov (.t 8), none⟩,
          ⟨(some 28), .bin .neq 0 (.t 27) (.c (.int .i64 0)), none⟩] false [0, 1, 8, 9, 10, 11, 28])
        (.cond (.t 28)
         (.seq
          (.region [] [] [
            ⟨(some 29), .mov (.t 8), none⟩,
            ⟨(some 4), .mov (.t 29), none⟩] false [4])
          .ret)
         .skip
         [0, 1, 9, 10, 11]))))))
       [0, 1, 9, 10, 11])
      (.region [] [] [
        ⟨(some 30), .bin .add 0 (.t 11) (.c (.int .i64 1)), none⟩,
        ⟨(some 11), .mov (.t 30), none⟩] false [0, 1, 9, 10, 11]))))
     [0, 1, 9, 10, 11])
    [0, 1]))
 (.seq
  (.seq
   (.region [] [] [
     ⟨(some 31), .mov (.t 0), none⟩,
     ⟨(some 32), .len (.t 31), none⟩,
     ⟨(some 33), .mov (.t 1), none⟩,
     ⟨(some 34), .len (.t 33), none⟩,
     ⟨(some 35), .bin .lss 0 (.t 32) (.t 34), none⟩] false [35])
   (.cond (.t 35)
    (.seq
     (.region [] [] [
       ⟨(some 4), .mov (.c (.int .i64 (-1))), none⟩] false [4])
     .ret)
    .skip
    []))
 (.seq
  (.region [] [] [
    ⟨(some 4), .mov (.c (.int .i64 0)), none⟩] false [4])
  .ret)))),
 [.t 4]⟩
/-- spokeshave/profile.cross -/
def a96 : AFunc := ⟨
 (.seq
  (.region [] [] [
    ⟨(some 2), .box (.t 0), none⟩,
    ⟨(some 3), .box (.t 1), none⟩,
    ⟨(some 4), .mov (.c (.int .i64 0)), none⟩] false [2, 3])
 (.seq
  (.region [] [] [
    ⟨(some 5), .idxA 2 .one (.t 2) (.c (.int .i64 0)), none⟩,
    ⟨(some 6), .load .one (.t 5), none⟩,
    ⟨(some 7), .idxA 2 .one (.t 3) (.c (.int .i64 1)), none⟩,
    ⟨(some 8), .load .one (.t 7), none⟩,
    ⟨(some 9), .bin .mul 0 (.t 6) (.t 8), none⟩,
    ⟨(some 10), .idxA 2 .one (.t 2) (.c (.int .i64 1)), none⟩,
    ⟨(some 11), .load .one (.t 10), none⟩,
    ⟨(some 12), .idxA 2 .one (.t 3) (.c (.int .i64 0)), none⟩,
    ⟨(some 13), .load .one (.t 12), none⟩,
    ⟨(some 14), .bin .mul 0 (.t 11) (.t 13), none⟩,
    ⟨(some 15), .bin .sub 0 (.t 9) (.t 14), none⟩,
    ⟨(some 4), .mov (.t 15), none⟩] false [4])
  .ret)),
 [.t 4]⟩
/-- (spokeshave/profile.Spot).minus -/
def a97 : AFunc := ⟨
 (.seq
  (.region [] [] [
    ⟨(some 2), .box (.t 0), none⟩,
    ⟨(some 3), .box (.t 1), none⟩,
    ⟨(some 4), .alloc [.int .i64 0, .int .i64 0], none⟩] false [2, 3, 4])
 (.seq
  (.region [] [] [
    ⟨(some 5), .idxA 2 .one (.t 2) (.c (.int .i64 0)), none⟩,
    ⟨(some 6), .load .one (.t 5), none⟩,
    ⟨(some 7), .idxA 2 .one (.t 3) (.c (.int .i64 0)), none⟩,
    ⟨(some 8), .load .one (.t 7), none⟩,
    ⟨(some 9), .bin .sub 0 (.t 6) (.t 8), none⟩,
    ⟨(some 10), .idxA 2 .one (.t 2) (.c (.int .i64 1)), none⟩,
    ⟨(some 11), .load .one (.t 10), none⟩,
    ⟨(some 12), .idxA 2 .one (.t 3) (.c (.int .i64 1)), none⟩,
    ⟨(some 13), .load .one (.t 12), none⟩,
    ⟨(some 14), .bin .sub 0 (.t 11) (.t 13), none⟩,
    ⟨(some 15), .build [.int .i64 0, .int .i64 0] [(0, 1, .t 9), (1, 1, .t 14)], none⟩,
    ⟨none, .store 2 (.t 4) (.t 15), none⟩] false [4])
  .ret)),
 [.cell 4 (.many 2)]⟩
/-- slices.Grow[[]spokeshave/profile.Spot,spokeshave/profile.Spot] -/
def a98 : AFunc := ⟨
 (.seq
  (.region [] [] [
    ⟨(some 4), .nilv (.many 2), none⟩] false [0, 1])
 (.seq
  (.seq
   (.region [] [] [
     ⟨(some 5), .mov (.t 1), none⟩,
     ⟨(some 6), .bin .lss 0 (.t 5) (.c (.int .i64 0)), none⟩] false [0, 1, 6])
   (.cond (.t 6)
    (.region [] [] [
      ⟨(some 7), .stuck, none⟩,
      ⟨none, .stuck, none⟩] false [0, 1])
    .skip
    [0, 1]))
 (.seq
  (.seq
   (.region [] [] [
     ⟨(some 8), .mov (.t 1), none⟩,
     ⟨(some 9), .mov (.t 0), none⟩,
     ⟨(some 10), .cap (.t 9), none⟩,
     ⟨(some 11), .mov (.t 0), none⟩,
     ⟨(some 12), .len (.t 11), none⟩,
     ⟨(some 13), .bin .sub 0 (.t 10) (.t 12), none⟩,
     ⟨(some 14), .bin .sub 0 (.t 8) (.t 13), none⟩,
     ⟨(some 1), .mov (.t 14), none⟩] false [0, 1])
  (.seq
   (.region [] [] [
     ⟨(some 15), .mov (.t 1), none⟩,
     ⟨(some 16), .bin .gtr 0 (.t 15) (.c (.int .i64 0)), none⟩] false [0, 1, 16])
   (.cond (.t 16)
    (.region [] [] [
      ⟨(some 17), .mov (.t 0), none⟩,
      ⟨(some 18), .mov (.t 0), none⟩,
      ⟨(some 19), .cap (.t 18), none⟩,
      ⟨(some 20), .slice (.many 2) (.t 17) none (some (.t 19)) none, none⟩,
      ⟨(some 21), .mov (.t 1), none⟩,
      ⟨(some 22), .appZ [.int .i64 0, .int .i64 0] (.many 2) 16 (.t 20) (.t 21), none⟩,
      ⟨(some 23), .mov (.t 0), none⟩,
      ⟨(some 24), .len (.t 23), none⟩,
      ⟨(some 25), .slice (.many 2) (.t 22) none (some (.t 24)) none, none⟩,
      ⟨(some 0), .mov (.t 25), none⟩] false [0])
    .skip
    [0])))
 (.seq
  (.region [] [] [
    ⟨(some 26), .mov (.t 0), none⟩,
    ⟨(some 4), .mov (.t 26), none⟩] false [4])
  .ret)))),
 [.t 4]⟩
/-- spokeshave/profile.read$1 -/
def a109 : AFunc := ⟨
 (.seq
  (.region [] [] [
    ⟨(some 1), .box (.t 0), none⟩,
    ⟨(some 2), .mov (.c (.bool false)), none⟩] false [1])
 (.seq
  (.region [] [] [
    ⟨(some 3), .load (.many 2) (.t 1), none⟩,
    ⟨(some 4), .call .pure false (.f 53) [.t 3], none⟩,
    ⟨(some 5), .un .not (.t 4), none⟩,
    ⟨(some 2), .mov (.t 5), none⟩] false [2])
  .ret)),
 [.t 2]⟩
/-- (spokeshave/profile.Profile).segments -/
def a110 : AFunc := ⟨
 (.seq
  (.region [] [] [
    ⟨(some 1), .box (.t 0), none⟩,
    ⟨(some 2), .nilv (.many 4), none⟩] false [1])
 (.seq
  (.region [] [] [
    ⟨(some 3), .nilv (.many 4), none⟩] false [1, 3])
 (.seq
  (.seq
   (.region [] [] [
     ⟨(some 8), .fldA 0 .one (.t 1), none⟩,
     ⟨(some 9), .load .one (.t 8), none⟩,
     ⟨(some 10), .len (.t 9), none⟩,
     ⟨(some 11), .mov (.c (.int .i64 0)), none⟩] false [3, 9, 10, 11])
   (.block 0
    (.loop
     (.seq
      (.region [] [] [
        ⟨(some 12), .bin .lss 0 (.t 11) (.t 10), none⟩] false [3, 9, 10, 11, 12])
     (.seq
      (.cond (.t 12)
       .skip
       (.exit 0)
       [3, 9, 10, 11])
     (.seq
      (.block 1
       (.seq
        (.region [] [] [
          ⟨(some 13), .idxS .one (.t 9) (.t 11), none⟩,
          ⟨(some 14), .load .one (.t 13), none⟩,
          ⟨(some 5), .mov (.t 14), none⟩] false [3, 5, 9, 10, 11])
       (.seq
        (.region [] [] [
          ⟨(some 15), .mov (.t 5), none⟩,
          ⟨(some 16), .len (.t 15), none⟩,
          ⟨(some 17), .mov (.c (.int .i64 0)), none⟩] false [3, 5, 9, 10, 11, 15, 16, 17])
        (.block 2
         (.loop
          (.seq
           (.region [] [] [
             ⟨(some 18), .bin .lss 0 (.t 17) (.t 16), none⟩] false [3, 5, 9, 10, 11, 15, 16, 17, 18])
          (.seq
           (.cond (.t 18)
            .skip
            (.exit 2)
            [3, 5, 9, 10, 11, 15, 16, 17])
          (.seq
           (.block 3
            (.seq
             (.region [] [] [
               ⟨(some 19), .mov (.t 17), none⟩,
               ⟨(some 20), .idxS (.many 2) (.t 15) (.t 17), none⟩,
               ⟨(some 21), .load (.many 2) (.t 20), none⟩,
               ⟨(some 7), .alloc [.int .i64 0, .int .i64 0], none⟩,
               ⟨(some 6), .mov (.t 19), none⟩,
               ⟨none, .store 2 (.t 7) (.t 21), none⟩] false [3, 5, 6, 7, 9, 10, 11, 15, 16, 17])
             (.region [] [] [
               ⟨(some 22), .mov (.t 3), none⟩,
               ⟨(some 23), .load (.many 2) (.t 7), none⟩,
               ⟨(some 24), .mov (.t 5), none⟩,
               ⟨(some 25), .mov (.t 6), none⟩,
               ⟨(some 26), .bin .add 0 (.t 25) (.c (.int .i64 1)), none⟩,
               ⟨(some 27), .mov (.t 5), none⟩,
               ⟨(some 28), .len (.t 27), none⟩,
               ⟨(some 29), .bin .rem 0 (.t 26) (.t 28), none⟩,
               ⟨(some 30), .idxS (.many 2) (.t 24) (.t 29), none⟩,
               ⟨(some 31), .load (.many 2) (.t 30), none⟩,
               ⟨(some 32), .build [.int .i64 0, .int .i64 0, .int .i64 0, .int .i64 0] [(0, 2, .t 23), (2, 2, .t 31)], none⟩,
               ⟨(some 33), .mkSl [.int .i64 0, .int .i64 0, .int .i64 0, .int .i64 0] (.many 4) 1 [(0, .t 32)], none⟩,
               ⟨(some 34), .app (.many 4) 32 (.t 22) (.t 33), none⟩,
               ⟨(some 3), .mov (.t 34), none⟩] true [3, 5, 9, 10, 11, 15, 16, 17]))
            [3, 5, 9, 10, 11, 15, 16, 17])
           (.region [] [] [
             ⟨(some 35), .bin .add 0 (.t 17) (.c (.int .i64 1)), none⟩,
             ⟨(some 17), .mov (.t 35), none⟩] false [3, 5, 9, 10, 11, 15, 16, 17]))))
          [3, 5, 9, 10, 11, 15, 16, 17])
         [3, 9, 10, 11])))
       [3, 9, 10, 11])
      (.region [] [] [
        ⟨(some 36), .bin .add 0 (.t 11) (.c (.int .i64 1)), none⟩,
        ⟨(some 11), .mov (.t 36), none⟩] false [3, 9, 10, 11]))))
     [3, 9, 10, 11])
    [3]))
 (.seq
  (.region [] [] [
    ⟨(some 37), .mov (.t 3), none⟩,
    ⟨(some 2), .mov (.t 37), none⟩] false [2])
  .ret)))),
 [.t 2]⟩
/-- spokeshave/profile.simple -/
def a111 : AFunc := ⟨
 (.seq
  (.region [] [] [
    ⟨(some 2), .mov (.c (.bool false)), none⟩] false [0])
 (.seq
  (.region [] [] [
    ⟨(some 10), .mkMap, none⟩,
    ⟨(some 3), .mov (.t 10), none⟩] false [0, 3])
 (.seq
  (.seq
   (.region [] [] [
     ⟨(some 11), .mov (.t 0), none⟩,
     ⟨(some 12), .len (.t 11), none⟩,
     ⟨(some 13), .mov (.c (.int .i64 0)), none⟩] false [0, 3, 11, 12, 13])
   (.block 0
    (.loop
     (.seq
      (.region [] [] [
        ⟨(some 14), .bin .lss 0 (.t 13) (.t 12), none⟩] false [0, 3, 11, 12, 13, 14])
     (.seq
      (.cond (.t 14)
       .skip
       (.exit 0)
       [0, 3, 11, 12, 13])
     (.seq
      (.block 1
       (.seq
        (.region [] [] [
          ⟨(some 15), .idxS (.many 4) (.t 11) (.t 13), none⟩,
          ⟨(some 16), .load (.many 4) (.t 15), none⟩,
          ⟨(some 5), .alloc [.int .i64 0, .int .i64 0, .int .i64 0, .int .i64 0], none⟩,
          ⟨none, .store 4 (.t 5) (.t 16), none⟩] false [0, 3, 5, 11, 12, 13])
       (.seq
        (.seq
         (.region [] [] [
           ⟨(some 17), .idxA 2 (.many 2) (.t 5) (.c (.int .i64 0)), none⟩,
           ⟨(some 18), .load (.many 2) (.t 17), none⟩,
           ⟨(some 19), .idxA 2 (.many 2) (.t 5) (.c (.int .i64 1)), none⟩,
           ⟨(some 20), .load (.many 2) (.t 19), none⟩,
           ⟨(some 21), .bin .eql 4 (.t 18) (.t 20), none⟩,
           ⟨(some 22), .mov (.t 21), none⟩,
           ⟨(some 23), .mov (.t 3), (some (22, false))⟩,
           ⟨(some 24), .load (.many 4) (.t 5), (some (22, false))⟩,
           ⟨(some 25), .look (.bool false) 4 (.t 23) (.t 24) false, (some (22, false))⟩,
           ⟨(some 26), .pick (.t 22) (.c (.bool true)) (.t 25), none⟩,
           ⟨(some 27), .mov (.t 26), none⟩,
           ⟨(some 28), .mov (.t 3), (some (27, false))⟩,
           ⟨(some 29), .idxA 2 (.many 2) (.t 5) (.c (.int .i64 1)), (some (27, false))⟩,
           ⟨(some 30), .load (.many 2) (.t 29), (some (27, false))⟩,
           ⟨(some 31), .idxA 2 (.many 2) (.t 5) (.c (.int .i64 0)), (some (27, false))⟩,
           ⟨(some 32), .load (.many 2) (.t 31), (some (27, false))⟩,
           ⟨(some 33), .build [.int .i64 0, .int .i64 0, .int .i64 0, .int .i64 0] [(0, 2, .t 30), (2, 2, .t 32)], (some (27, false))⟩,
           ⟨(some 34), .look (.bool false) 4 (.t 28) (.t 33) false, (some (27, false))⟩,
           ⟨(some 35), .pick (.t 27) (.c (.bool true)) (.t 34), none⟩] false [0, 3, 5, 11, 12, 13, 35])
         (.cond (.t 35)
          (.seq
           (.region [] [] [
             ⟨(some 2), .mov (.c (.bool false)), none⟩] false [2])
           .ret)
          .skip
          [0, 3, 5, 11, 12, 13]))
        (.region [] [] [
          ⟨(some 36), .mov (.t 3), none⟩,
          ⟨(some 37), .load (.many 4) (.t 5), none⟩,
          ⟨none, .mupd 4 (.t 36) (.t 37) (.c (.bool true)), none⟩] false [0, 3, 11, 12, 13])))
       [0, 3, 11, 12, 13])
      (.region [] [] [
        ⟨(some 38), .bin .add 0 (.t 13) (.c (.int .i64 1)), none⟩,
        ⟨(some 13), .mov (.t 38), none⟩] false [0, 3, 11, 12, 13]))))
     [0, 3, 11, 12, 13])
    [0]))
 (.seq
  (.seq
   (.region [] [] [
     ⟨(some 39), .mov (.t 0), none⟩,
     ⟨(some 40), .len (.t 39), none⟩,
     ⟨(some 41), .mov (.c (.int .i64 0)), none⟩] false [0, 39, 40, 41])
   (.block 2
    (.loop
     (.seq
      (.region [] [] [
        ⟨(some 42), .bin .lss 0 (.t 41) (.t 40), none⟩] false [0, 39, 40, 41, 42])
     (.seq
      (.cond (.t 42)
       .skip
       (.exit 2)
       [0, 39, 40, 41])
     (.seq
      (.block 3
       (.seq
        (.region [] [] [
          ⟨(some 43), .mov (.t 41), none⟩,
          ⟨(some 44), .idxS (.many 4) (.t 39) (.t 41), none⟩,
          ⟨(some 45), .load (.many 4) (.t 44), none⟩,
          ⟨(some 7), .alloc [.int .i64 0, .int .i64 0, .int .i64 0, .int .i64 0], none⟩,
          ⟨(some 6), .mov (.t 43), none⟩,
          ⟨none, .store 4 (.t 7) (.t 45), none⟩] false [0, 6, 7, 39, 40, 41])
       (.seq
        (.region [] [] [
          ⟨(some 46), .mov (.t 0), none⟩,
          ⟨(some 47), .len (.t 46), none⟩,
          ⟨(some 48), .mov (.c (.int .i64 0)), none⟩] false [0, 6, 7, 39, 40, 41, 46, 47, 48])
        (.block 4
         (.loop
          (.seq
           (.region [] [] [
             ⟨(some 49), .bin .lss 0 (.t 48) (.t 47), none⟩] false [0, 6, 7, 39, 40, 41, 46, 47, 48, 49])
          (.seq
           (.cond (.t 49)
            .skip
            (.exit 4)
            [0, 6, 7, 39, 40, 41, 46, 47, 48])
          (.seq
           (.block 5
            (.seq
             (.region [] [] [
               ⟨(some 50), .mov (.t 48), none⟩,
               ⟨(some 51), .idxS (.many 4) (.t 46) (.t 48), none⟩,
               ⟨(some 52), .load (.many 4) (.t 51), none⟩,
               ⟨(some 9), .alloc [.int .i64 0, .int .i64 0, .int .i64 0, .int .i64 0], none⟩,
               ⟨(some 8), .mov (.t 50), none⟩,
               ⟨none, .store 4 (.t 9) (.t 52), none⟩] false [0, 6, 7, 8, 9, 39, 40, 41, 46, 47, 48])
            (.seq
             (.region [] [] [
               ⟨(some 53), .load (.many 4) (.t 7), none⟩,
               ⟨(some 54), .idxA 2 (.many 2) (.t 9) (.c (.int .i64 0)), none⟩,
               ⟨(some 55), .load (.many 2) (.t 54), none⟩,
               ⟨(some 56), .call .pure false (.f 157) [.t 53, .t 55], none⟩,
               ⟨(some 57), .mov (.t 56), none⟩,
               ⟨(some 58), .mov (.t 8), (some (57, false))⟩,
               ⟨(some 59), .mov (.t 6), (some (57, false))⟩,
               ⟨(some 60), .bin .lss 0 (.t 58) (.t 59), (some (57, false))⟩,
               ⟨(some 61), .mov (.t 60), (some (57, false))⟩,
               ⟨(some 62), .load (.many 4) (.t 7), (some (61, true))⟩,
               ⟨(some 63), .load (.many 4) (.t 9), (some (61, true))⟩,
               ⟨(some 64), .call .pure false (.f 158) [.t 62, .t 63], (some (61, true))⟩,
               ⟨(some 65), .pick (.t 61) (.t 64) (.c (.bool false)), (some (57, false))⟩,
               ⟨(some 66), .pick (.t 57) (.c (.bool true)) (.t 65), none⟩] false [0, 6, 7, 39, 40, 41, 46, 47, 48, 66])
             (.cond (.t 66)
              (.seq
               (.region [] [] [
                 ⟨(some 2), .mov (.c (.bool false)), none⟩] false [2])
               .ret)
              .skip
              [0, 6, 7, 39, 40, 41, 46, 47, 48])))
            [0, 6, 7, 39, 40, 41, 46, 47, 48])
           (.region [] [] [
             ⟨(some 67), .bin .add 0 (.t 48) (.c (.int .i64 1)), none⟩,
             ⟨(some 48), .mov (.t 67), none⟩] false [0, 6, 7, 39, 40, 41, 46, 47, 48]))))
          [0, 6, 7, 39, 40, 41, 46, 47, 48])
         [0, 39, 40, 41])))
       [0, 39, 40, 41])
      (.region [] [] [
        ⟨(some 68), .bin .add 0 (.t 41) (.c (.int .i64 1)), none⟩,
        ⟨(some 41), .mov (.t 68), none⟩] false [0, 39, 40, 41]))))
     [0, 39, 40, 41])
    []))
 (.seq
  (.region [] [] [
    ⟨(some 2), .mov (.c (.bool true)), none⟩] false [2])
  .ret))))),
 [.t 2]⟩
/-- spokeshave/profile.bounds -/
def a112 : AFunc := ⟨
 (.seq
  (.region [] [] [
    ⟨(some 2), .mov (.c (.bool false)), none⟩] false [0])
 (.seq
  (.seq
   (.region [] [] [
     ⟨(some 16), .mov (.t 0), none⟩,
     ⟨(some 17), .len (.t 16), none⟩,
     ⟨(some 18), .mov (.c (.int .i64 0)), none⟩] false [0, 16, 17, 18])
   (.block 0
    (.loop
     (.seq
      (.region [] [] [
        ⟨(some 19), .bin .lss 0 (.t 18) (.t 17), none⟩] false [0, 16, 17, 18, 19])
     (.seq
      (.cond (.t 19)
       .skip
       (.exit 0)
       [0, 16, 17, 18])
     (.seq
      (.block 1
       (.seq
        (.region [] [] [
          ⟨(some 20), .mov (.t 18), none⟩,
          ⟨(some 21), .idxS (.many 4) (.t 16) (.t 18), none⟩,
          ⟨(some 22), .load (.many 4) (.t 21), none⟩,
          ⟨(some 4), .alloc [.int .i64 0, .int .i64 0, .int .i64 0, .int .i64 0], none⟩,
          ⟨(some 3), .mov (.t 20), none⟩,
          ⟨none, .store 4 (.t 4) (.t 22), none⟩] false [0, 3, 4, 16, 17, 18])
       (.seq
        (.region [] [] [
          ⟨(some 23), .idxA 2 (.many 2) (.t 4) (.c (.int .i64 0)), none⟩,
          ⟨(some 24), .idxA 2 .one (.t 23) (.c (.int .i64 0)), none⟩,
          ⟨(some 25), .load .one (.t 24), none⟩,
          ⟨(some 26), .idxA 2 (.many 2) (.t 4) (.c (.int .i64 1)), none⟩,
          ⟨(some 27), .idxA 2 .one (.t 26) (.c (.int .i64 0)), none⟩,
          ⟨(some 28), .load .one (.t 27), none⟩,
          ⟨(some 29), .bin .add 0 (.t 25) (.t 28), none⟩,
          ⟨(some 30), .idxA 2 (.many 2) (.t 4) (.c (.int .i64 0)), none⟩,
          ⟨(some 31), .idxA 2 .one (.t 30) (.c (.int .i64 1)), none⟩,
          ⟨(some 32), .load .one (.t 31), none⟩,
          ⟨(some 33), .idxA 2 (.many 2) (.t 4) (.c (.int .i64 1)), none⟩,
          ⟨(some 34), .idxA 2 .one (.t 33) (.c (.int .i64 1)), none⟩,
          ⟨(some 35), .load .one (.t 34), none⟩,
          ⟨(some 36), .bin .add 0 (.t 32) (.t 35), none⟩,
          ⟨(some 37), .build [.int .i64 0, .int .i64 0] [(0, 1, .t 29), (1, 1, .t 36)], none⟩,
          ⟨(some 5), .alloc [.int .i64 0, .int .i64 0], none⟩,
          ⟨none, .store 2 (.t 5) (.t 37), none⟩] false [0, 3, 4, 5, 16, 17, 18])
       (.seq
        (.region [] [] [
          ⟨(some 6), .mov (.c (.int .i64 0)), none⟩,
          ⟨(some 7), .mov (.c (.int .i64 1)), none⟩] false [0, 3, 4, 5, 6, 7, 16, 17, 18])
       (.seq
        (.seq
         (.region [] [] [
           ⟨(some 38), .idxA 2 (.many 2) (.t 4) (.c (.int .i64 0)), none⟩,
           ⟨(some 39), .idxA 2 .one (.t 38) (.c (.int .i64 1)), none⟩,
           ⟨(some 40), .load .one (.t 39), none⟩,
           ⟨(some 41), .idxA 2 (.many 2) (.t 4) (.c (.int .i64 1)), none⟩,
           ⟨(some 42), .idxA 2 .one (.t 41) (.c (.int .i64 1)), none⟩,
           ⟨(some 43), .load .one (.t 42), none⟩,
           ⟨(some 44), .bin .eql 0 (.t 40) (.t 43), none⟩] false [0, 3, 4, 5, 6, 7, 16, 17, 18, 44])
         (.cond (.t 44)
          (.region [] [] [
            ⟨(some 6), .mov (.c (.int .i64 1)), none⟩,
            ⟨(some 7), .mov (.c (.int .i64 0)), none⟩] false [0, 3, 4, 5, 6, 7, 16, 17, 18])
          .skip
          [0, 3, 4, 5, 6, 7, 16, 17, 18]))
       (.seq
        (.region [] [] [
          ⟨(some 8), .mov (.c (.int .i64 0)), none⟩] false [0, 3, 4, 5, 6, 7, 8, 16, 17, 18])
       (.seq
        (.seq
         (.region [] [] [
           ⟨(some 45), .mov (.t 0), none⟩,
           ⟨(some 46), .len (.t 45), none⟩,
           ⟨(some 47), .mov (.c (.int .i64 0)), none⟩] false [0, 3, 4, 5, 6, 7, 8, 16, 17, 18, 45, 46, 47])
         (.block 2
          (.loop
           (.seq
            (.region [] [] [
              ⟨(some 48), .bin .lss 0 (.t 47) (.t 46), none⟩] false [0, 3, 4, 5, 6, 7, 8, 16, 17, 18, 45, 46, 47, 48])
           (.seq
            (.cond (.t 48)
             .skip
             (.exit 2)
             [0, 3, 4, 5, 6, 7, 8, 16, 17, 18, 45, 46, 47])
           (.seq
            (.block 3
             (.seq
              (.region [] [] [
                ⟨(some 49), .mov (.t 47), none⟩,
                ⟨(some 50), .idxS (.many 4) (.t 45) (.t 47), none⟩,
                ⟨(some 51), .load (.many 4) (.t 50), none⟩,
                ⟨(some 10), .alloc [.int .i64 0, .int .i64 0, .int .i64 0, .int .i64 0], none⟩,
                ⟨(some 9), .mov (.t 49), none⟩,
                ⟨none, .store 4 (.t 10) (.t 51), none⟩] false [0, 3, 4, 5, 6, 7, 8, 9, 10, 16, 17, 18, 45, 46, 47])
             (.seq
              (.region [] [] [
                ⟨(some 52), .mov (.t 6), none⟩,
                ⟨(some 53), .idxA 2 (.many 2) (.t 10) (.c (.int .i64 0)), none⟩,
                ⟨(some 54), .idxA 2 .one (.t 53) (.t 52), none⟩,
                ⟨(some 55), .load .one (.t 54), none⟩,
                ⟨(some 56), .bin .mul 0 (.c (.int .i64 2)) (.t 55), none⟩,
                ⟨(some 57), .mov (.t 6), none⟩,
                ⟨(some 58), .idxA 2 .one (.t 5) (.t 57), none⟩,
                ⟨(some 59), .load .one (.t 58), none⟩,
                ⟨(some 60), .bin .sub 0 (.t 56) (.t 59), none⟩,
                ⟨(some 61), .mov (.t 7), none⟩,
                ⟨(some 62), .idxA 2 (.many 2) (.t 10) (.c (.int .i64 0)), none⟩,
                ⟨(some 63), .idxA 2 .one (.t 62) (.t 61), none⟩,
                ⟨(some 64), .load .one (.t 63), none⟩,
                ⟨(some 65), .bin .mul 0 (.c (.int .i64 2)) (.t 64), none⟩,
                ⟨(some 66), .mov (.t 7), none⟩,
                ⟨(some 67), .idxA 2 .one (.t 5) (.t 66), none⟩,
                ⟨(some 68), .load .one (.t 67), none⟩,
                ⟨(some 69), .bin .sub 0 (.t 65) (.t 68), none⟩,
                ⟨(some 70), .build [.int .i64 0, .int .i64 0] [(0, 1, .t 60), (1, 1, .t 69)], none⟩,
                ⟨(some 71), .mov (.t 6), none⟩,
                ⟨(some 72), .idxA 2 (.many 2) (.t 10) (.c (.int .i64 1)), none⟩,
                ⟨(some 73), .idxA 2 .one (.t 72) (.t 71), none⟩,
                ⟨(some 74), .load .one (.t 73), none⟩,
                ⟨(some 75), .bin .mul 0 (.c (.int .i64 2)) (.t 74), none⟩,
                ⟨(some 76), .mov (.t 6), none⟩,
                ⟨(some 77), .idxA 2 .one (.t 5) (.t 76), none⟩,
                ⟨(some 78), .load .one (.t 77), none⟩,
                ⟨(some 79), .bin .sub 0 (.t 75) (.t 78), none⟩,
                ⟨(some 80), .mov (.t 7), none⟩,
                ⟨(some 81), .idxA 2 (.many 2) (.t 10) (.c (.int .i64 1)), none⟩,
                ⟨(some 82), .idxA 2 .one (.t 81) (.t 80), none⟩,
                ⟨(some 83), .load .one (.t 82), none⟩,
                ⟨(some 84), .bin .mul 0 (.c (.int .i64 2)) (.t 83), none⟩,
                ⟨(some 85), .mov (.t 7), none⟩,
                ⟨(some 86), .idxA 2 .one (.t 5) (.t 85), none⟩,
                ⟨(some 87), .load .one (.t 86), none⟩,
                ⟨(some 88), .bin .sub 0 (.t 84) (.t 87), none⟩,
                ⟨(some 89), .build [.int .i64 0, .int .i64 0] [(0, 1, .t 79), (1, 1, .t 88)], none⟩,
                ⟨(some 11), .alloc [.int .i64 0, .int .i64 0], none⟩,
                ⟨(some 12), .alloc [.int .i64 0, .int .i64 0], none⟩,
                ⟨none, .storeN 2 (.t 11) (.t 70), none⟩,
                ⟨none, .storeN 2 (.t 12) (.t 89), none⟩] true [0, 3, 4, 5, 6, 7, 8, 9, 11, 12, 16, 17, 18, 45, 46, 47])
             (.seq
              (.seq
               (.region [] [] [
                 ⟨(some 90), .mov (.t 9), none⟩,
                 ⟨(some 91), .mov (.t 3), none⟩,
                 ⟨(some 92), .bin .eql 0 (.t 90) (.t 91), none⟩,
                 ⟨(some 93), .mov (.t 92), none⟩,
                 ⟨(some 94), .idxA 2 .one (.t 11) (.c (.int .i64 1)), (some (93, false))⟩,
                 ⟨(some 95), .load .one (.t 94), (some (93, false))⟩,
                 ⟨(some 96), .bin .gtr 0 (.t 95) (.c (.int .i64 0)), (some (93, false))⟩,
                 ⟨(some 97), .idxA 2 .one (.t 12) (.c (.int .i64 1)), (some (93, false))⟩,
                 ⟨(some 98), .load .one (.t 97), (some (93, false))⟩,
                 ⟨(some 99), .bin .gtr 0 (.t 98) (.c (.int .i64 0)), (some (93, false))⟩,
                 ⟨(some 100), .bin .eql 1 (.t 96) (.t 99), (some (93, false))⟩,
                 ⟨(some 101), .pick (.t 93) (.c (.bool true)) (.t 100), none⟩] false [0, 3, 4, 5, 6, 7, 8, 11, 12, 16, 17, 18, 45, 46, 47, 101])
               (.cond (.t 101)
                (.exit 3)
                .skip
                [0, 3, 4, 5, 6, 7, 8, 11, 12, 16, 17, 18, 45, 46, 47]))
             (.seq
              (.region [] [] [
                ⟨(some 102), .idxA 2 .one (.t 12) (.c (.int .i64 1)), none⟩,
                ⟨(some 103), .load .one (.t 102), none⟩,
                ⟨(some 104), .idxA 2 .one (.t 11) (.c (.int .i64 1)), none⟩,
                ⟨(some 105), .load .one (.t 104), none⟩,
                ⟨(some 106), .bin .gtr 0 (.t 103) (.t 105), none⟩,
                ⟨(some 13), .mov (.t 106), none⟩] false [0, 3, 4, 5, 6, 7, 8, 11, 12, 13, 16, 17, 18, 45, 46, 47])
             (.seq
              (.region [] [] [
                ⟨(some 107), .load (.many 2) (.t 11), none⟩,
                ⟨(some 108), .load (.many 2) (.t 12), none⟩,
                ⟨(some 109), .call .pure false (.f 96) [.t 107, .t 108], none⟩,
                ⟨(some 110), .bin .gtr 0 (.t 109) (.c (.int .i64 0)), none⟩,
                ⟨(some 111), .mov (.t 13), none⟩,
                ⟨(some 112), .bin .eql 1 (.t 110) (.t 111), none⟩] false [0, 3, 4, 5, 6, 7, 8, 13, 16, 17, 18, 45, 46, 47, 112])
              (.cond (.t 112)
               (.seq
                (.region [] [] [
                  ⟨(some 113), .mov (.t 13), none⟩] false [0, 3, 4, 5, 6, 7, 8, 16, 17, 18, 45, 46, 47, 113])
                (.cond (.t 113)
                 (.region [] [] [
                   ⟨(some 114), .mov (.t 8), none⟩,
                   ⟨(some 115), .bin .add 0 (.t 114) (.c (.int .i64 1)), none⟩,
                   ⟨(some 8), .mov (.t 115), none⟩] false [0, 3, 4, 5, 6, 7, 8, 16, 17, 18, 45, 46, 47])
                 (.region [] [] [
                   ⟨(some 116), .mov (.t 8), none⟩,
                   ⟨(some 117), .bin .sub 0 (.t 116) (.c (.int .i64 1)), none⟩,
                   ⟨(some 8), .mov (.t 117), none⟩] false [0, 3, 4, 5, 6, 7, 8, 16, 17, 18, 45, 46, 47])
                 [0, 3, 4, 5, 6, 7, 8, 16, 17, 18, 45, 46, 47]))
               .skip
               [0, 3, 4, 5, 6, 7, 8, 16, 17, 18, 45, 46, 47]))))))
             [0, 3, 4, 5, 6, 7, 8, 16, 17, 18, 45, 46, 47])
            (.region [] [] [
              ⟨(some 118), .bin .add 0 (.t 47) (.c (.int .i64 1)), none⟩,
              ⟨(some 47), .mov (.t 118), none⟩] false [0, 3, 4, 5, 6, 7, 8, 16, 17, 18, 45, 46, 47]))))
           [0, 3, 4, 5, 6, 7, 8, 16, 17, 18, 45, 46, 47])
          [0, 4, 6, 7, 8, 16, 17, 18]))
       (.seq
        (.seq
         (.region [] [] [
           ⟨(some 119), .mov (.t 6), none⟩,
           ⟨(some 120), .bin .eql 0 (.t 119) (.c (.int .i64 1)), none⟩] false [0, 4, 6, 7, 8, 16, 17, 18, 120])
         (.cond (.t 120)
          (.region [] [] [
            ⟨(some 121), .mov (.t 8), none⟩,
            ⟨(some 122), .un .neg (.t 121), none⟩,
            ⟨(some 8), .mov (.t 122), none⟩] false [0, 4, 6, 7, 8, 16, 17, 18])
          .skip
          [0, 4, 6, 7, 8, 16, 17, 18]))
       (.seq
        (.region [] [] [
          ⟨(some 123), .mov (.t 8), none⟩,
          ⟨(some 14), .mov (.t 123), none⟩] false [0, 4, 6, 7, 14, 16, 17, 18])
       (.seq
        (.region [] [] [
          ⟨(some 124), .mov (.t 7), none⟩,
          ⟨(some 125), .idxA 2 (.many 2) (.t 4) (.c (.int .i64 1)), none⟩,
          ⟨(some 126), .idxA 2 .one (.t 125) (.t 124), none⟩,
          ⟨(some 127), .load .one (.t 126), none⟩,
          ⟨(some 128), .mov (.t 7), none⟩,
          ⟨(some 129), .idxA 2 (.many 2) (.t 4) (.c (.int .i64 0)), none⟩,
          ⟨(some 130), .idxA 2 .one (.t 129) (.t 128), none⟩,
          ⟨(some 131), .load .one (.t 130), none⟩,
          ⟨(some 132), .bin .gtr 0 (.t 127) (.t 131), none⟩,
          ⟨(some 15), .mov (.t 132), none⟩] true [0, 6, 14, 15, 16, 17, 18])
       (.seq
        (.seq
         (.region [] [] [
           ⟨(some 133), .mov (.t 15), none⟩,
           ⟨(some 134), .mov (.t 6), none⟩,
           ⟨(some 135), .bin .eql 0 (.t 134) (.c (.int .i64 0)), none⟩,
           ⟨(some 136), .bin .eql 1 (.t 133) (.t 135), none⟩] false [0, 14, 16, 17, 18, 136])
         (.cond (.t 136)
          (.region [] [] [
            ⟨(some 137), .mov (.t 14), none⟩,
            ⟨(some 138), .bin .add 0 (.t 137) (.c (.int .i64 1)), none⟩,
            ⟨(some 14), .mov (.t 138), none⟩] false [0, 14, 16, 17, 18])
          .skip
          [0, 14, 16, 17, 18]))
       (.seq
        (.region [] [] [
          ⟨(some 139), .mov (.t 14), none⟩,
          ⟨(some 140), .bin .neq 0 (.t 139) (.c (.int .i64 1)), none⟩] false [0, 16, 17, 18, 140])
        (.cond (.t 140)
         (.seq
          (.region [] [] [
            ⟨(some 2), .mov (.c (.bool false)), none⟩] false [2])
          .ret)
         .skip
         [0, 16, 17, 18]))))))))))))
       [0, 16, 17, 18])
      (.region [] [] [
        ⟨(some 141), .bin .add 0 (.t 18) (.c (.int .i64 1)), none⟩,
        ⟨(some 18), .mov (.t 141), none⟩] false [0, 16, 17, 18]))))
     [0, 16, 17, 18])
    []))
 (.seq
  (.region [] [] [
    ⟨(some 2), .mov (.c (.bool true)), none⟩] false [2])
  .ret))),
 [.t 2]⟩
/-- spokeshave/profile.canonical -/
def a113 : AFunc := ⟨
 (.seq
  (.region [] [] [
    ⟨(some 2), .alloc [.slT true []], none⟩] false [0, 2])
  (.seq
   (.region [] [] [
     ⟨(some 10), .mov (.t 0), none⟩,
     ⟨(some 11), .call .pure false (.f 114) [.t 10], none⟩,
     ⟨(some 3), .alloc [.nilM, .nilM], none⟩,
     ⟨none, .store 2 (.t 3) (.t 11), none⟩] false [0, 2, 3])
  (.seq
   (.region [] [] [
     ⟨(some 12), .mkMap, none⟩,
     ⟨(some 4), .mov (.t 12), none⟩] false [0, 2, 3, 4])
  (.seq
   (.region [] [] [
     ⟨(some 5), .nilv .one, none⟩] false [0, 2, 3, 4, 5])
  (.seq
   .skip
  (.seq
   (.seq
    (.region [] [] [
      ⟨(some 13), .mov (.t 0), none⟩,
      ⟨(some 14), .len (.t 13), none⟩,
      ⟨(some 15), .mov (.c (.int .i64 0)), none⟩] false [2, 3, 4, 5, 13, 14, 15])
    (.block 0
     (.loop
      (.seq
       (.region [] [] [
         ⟨(some 16), .bin .lss 0 (.t 15) (.t 14), none⟩] false [2, 3, 4, 5, 13, 14, 15, 16])
      (.seq
       (.cond (.t 16)
        .skip
        (.exit 0)
        [2, 3, 4, 5, 13, 14, 15])
      (.seq
       (.block 1
        (.seq
         (.region [] [] [
           ⟨(some 17), .idxS (.many 4) (.t 13) (.t 15), none⟩,
           ⟨(some 18), .load (.many 4) (.t 17), none⟩,
           ⟨(some 7), .alloc [.int .i64 0, .int .i64 0, .int .i64 0, .int .i64 0], none⟩,
           ⟨none, .store 4 (.t 7) (.t 18), none⟩] false [2, 3, 4, 5, 7, 13, 14, 15])
        (.seq
         (.seq
          (.region [] [] [
            ⟨(some 19), .mov (.t 4), none⟩,
            ⟨(some 20), .load (.many 4) (.t 7), none⟩,
            ⟨(some 21), .look (.bool false) 4 (.t 19) (.t 20) false, none⟩] false [2, 3, 4, 5, 7, 13, 14, 15, 21])
          (.cond (.t 21)
           (.exit 1)
           .skip
           [2, 3, 4, 5, 7, 13, 14, 15]))
        (.seq
         (.region [] [] [
           ⟨(some 8), .nilv (.many 2), none⟩] false [2, 3, 4, 5, 7, 8, 13, 14, 15])
        (.seq
         (.seq
          (.region [] [] [
            ⟨(some 22), .load (.many 4) (.t 7), none⟩,
            ⟨(some 9), .alloc [.int .i64 0, .int .i64 0, .int .i64 0, .int .i64 0], none⟩,
            ⟨none, .store 4 (.t 9) (.t 22), none⟩] false [2, 3, 4, 5, 8, 9, 13, 14, 15])
          (.block 2
           (.loop
            (.seq
             (.seq
              (.region [] [] [
                ⟨(some 23), .mov (.t 4), none⟩,
                ⟨(some 24), .load (.many 4) (.t 9), none⟩,
                ⟨(some 25), .look (.bool false) 4 (.t 23) (.t 24) false, none⟩,
                ⟨(some 26), .un .not (.t 25), none⟩] false [2, 3, 4, 5, 8, 9, 13, 14, 15, 26])
              (.cond (.t 26)
               .skip
               (.exit 2)
               [2, 3, 4, 5, 8, 9, 13, 14, 15]))
            (.seq
             (.block 3
              (.seq
               (.region [] [] [
                 ⟨(some 36), .mov (.t 4), none⟩,
                 ⟨(some 37), .load (.many 4) (.t 9), none⟩,
                 ⟨none, .mupd 4 (.t 36) (.t 37) (.c (.bool true)), none⟩] false [2, 3, 4, 5, 8, 9, 13, 14, 15])
               (.region [] [] [
                 ⟨(some 38), .mov (.t 8), none⟩,
                 ⟨(some 39), .idxA 2 (.many 2) (.t 9) (.c (.int .i64 0)), none⟩,
                 ⟨(some 40), .load (.many 2) (.t 39), none⟩,
                 ⟨(some 41), .mkSl [.int .i64 0, .int .i64 0] (.many 2) 1 [(0, .t 40)], none⟩,
                 ⟨(some 42), .app (.many 2) 16 (.t 38) (.t 41), none⟩,
                 ⟨(some 8), .mov (.t 42), none⟩] false [2, 3, 4, 5, 8, 9, 13, 14, 15]))
              [2, 3, 4, 5, 8, 9, 13, 14, 15])
            (.seq
             (.seq
              (.region [] [] [
                ⟨(some 43), .load (.many 4) (.t 9), none⟩] false [2, 3, 4, 5, 8, 13, 14, 15, 43])
              (.region [] [] [
                ⟨(some 9), .alloc [.int .i64 0, .int .i64 0, .int .i64 0, .int .i64 0], none⟩,
                ⟨none, .store 4 (.t 9) (.t 43), none⟩] false [2, 3, 4, 5, 8, 9, 13, 14, 15]))
             (.region [] [] [
               ⟨(some 27), .idxA 2 (.many 2) (.t 9) (.c (.int .i64 1)), none⟩,
               ⟨(some 28), .load (.many 2) (.t 27), none⟩,
               ⟨(some 29), .load (.many 2) (.t 3), none⟩,
               ⟨(some 30), .idxA 2 (.many 2) (.t 9) (.c (.int .i64 0)), none⟩,
               ⟨(some 31), .load (.many 2) (.t 30), none⟩,
               ⟨(some 32), .idxA 2 (.many 2) (.t 9) (.c (.int .i64 1)), none⟩,
               ⟨(some 33), .load (.many 2) (.t 32), none⟩,
               ⟨(some 34), .call .pure false (.f 159) [.t 29, .t 31, .t 33], none⟩,
               ⟨(some 35), .build [.int .i64 0, .int .i64 0, .int .i64 0, .int .i64 0] [(0, 2, .t 28), (2, 2, .t 34)], none⟩,
               ⟨none, .store 4 (.t 9) (.t 35), none⟩] true [2, 3, 4, 5, 8, 9, 13, 14, 15]))))
            [2, 3, 4, 5, 8, 9, 13, 14, 15])
           [2, 3, 4, 5, 8, 13, 14, 15]))
         (.region [8] [] [
           ⟨(some 44), .mov (.t 5), none⟩,
           ⟨(some 45), .load (.many 2) (.t 3), none⟩,
           ⟨(some 46), .mov (.t 8), none⟩,
           ⟨(some 47), .call .pure false (.f 115) [.t 45, .t 46], none⟩,
           ⟨(some 48), .mkSl [.slT true []] .one 1 [(0, .t 47)], none⟩,
           ⟨(some 49), .app .one 24 (.t 44) (.t 48), none⟩,
           ⟨(some 5), .mov (.t 49), none⟩] false [2, 3, 4, 5, 13, 14, 15])))))
        [2, 3, 4, 5, 13, 14, 15])
       (.region [] [] [
         ⟨(some 50), .bin .add 0 (.t 15) (.c (.int .i64 1)), none⟩,
         ⟨(some 15), .mov (.t 50), none⟩] false [2, 3, 4, 5, 13, 14, 15]))))
      [2, 3, 4, 5, 13, 14, 15])
     [2, 5]))
  (.seq
   (.region [] [] [
     ⟨(some 51), .mov (.t 5), none⟩,
     ⟨(some 52), .call .inl false (.f 117) [.t 51], none⟩,
     ⟨(some 53), .build [.slT true []] [(0, 1, .t 52)], none⟩,
     ⟨none, .store 1 (.t 2) (.t 53), none⟩] false [2])
   .ret))))))),
 [.cell 2 (.many 1)]⟩
/-- spokeshave/profile.netOf -/
def a114 : AFunc := ⟨
 (.seq
  (.region [] [] [
    ⟨(some 2), .alloc [.nilM, .nilM], none⟩] false [0, 2])
 (.seq
  (.region [] [] [
    ⟨(some 6), .mkMap, none⟩,
    ⟨(some 7), .mkMap, none⟩,
    ⟨(some 8), .build [.nilM, .nilM] [(0, 1, .t 6), (1, 1, .t 7)], none⟩,
    ⟨(some 3), .alloc [.nilM, .nilM], none⟩,
    ⟨none, .store 2 (.t 3) (.t 8), none⟩] false [0, 2, 3])
 (.seq
  (.seq
   (.region [] [] [
     ⟨(some 9), .mov (.t 0), none⟩,
     ⟨(some 10), .len (.t 9), none⟩,
     ⟨(some 11), .mov (.c (.int .i64 0)), none⟩] false [2, 3, 9, 10, 11])
   (.block 0
    (.loop
     (.seq
      (.region [] [] [
        ⟨(some 12), .bin .lss 0 (.t 11) (.t 10), none⟩] false [2, 3, 9, 10, 11, 12])
     (.seq
      (.cond (.t 12)
       .skip
       (.exit 0)
       [2, 3, 9, 10, 11])
     (.seq
      (.block 1
       (.seq
        (.region [] [] [
          ⟨(some 13), .idxS (.many 4) (.t 9) (.t 11), none⟩,
          ⟨(some 14), .load (.many 4) (.t 13), none⟩,
          ⟨(some 5), .alloc [.int .i64 0, .int .i64 0, .int .i64 0, .int .i64 0], none⟩,
          ⟨none, .store 4 (.t 5) (.t 14), none⟩] false [2, 3, 5, 9, 10, 11])
       (.seq
        (.region [] [] [
          ⟨(some 15), .fldA 0 .one (.t 3), none⟩,
          ⟨(some 16), .load .one (.t 15), none⟩,
          ⟨(some 17), .idxA 2 (.many 2) (.t 5) (.c (.int .i64 0)), none⟩,
          ⟨(some 18), .load (.many 2) (.t 17), none⟩,
          ⟨(some 20), .idxA 2 (.many 2) (.t 5) (.c (.int .i64 1)), none⟩,
          ⟨(some 21), .load (.many 2) (.t 20), none⟩,
          ⟨(some 22), .mkSl [.int .i64 0, .int .i64 0] (.many 2) 1 [(0, .t 21)], none⟩,
          ⟨(some 23), .ment (.slT true []) 2 (.t 16) (.t 18), none⟩,
          ⟨(some 19), .ext 0 (.t 23), none⟩,
          ⟨(some 24), .app (.many 2) 16 (.t 19) (.t 22), none⟩,
          ⟨(some 25), .ext 1 (.t 23), none⟩,
          ⟨none, .estore (.t 16) (.t 25) (.t 24), none⟩] false [2, 3, 5, 9, 10, 11])
        (.region [] [] [
          ⟨(some 26), .fldA 1 .one (.t 3), none⟩,
          ⟨(some 27), .load .one (.t 26), none⟩,
          ⟨(some 28), .idxA 2 (.many 2) (.t 5) (.c (.int .i64 1)), none⟩,
          ⟨(some 29), .load (.many 2) (.t 28), none⟩,
          ⟨(some 31), .idxA 2 (.many 2) (.t 5) (.c (.int .i64 0)), none⟩,
          ⟨(some 32), .load (.many 2) (.t 31), none⟩,
          ⟨(some 33), .mkSl [.int .i64 0, .int .i64 0] (.many 2) 1 [(0, .t 32)], none⟩,
          ⟨(some 34), .ment (.slT true []) 2 (.t 27) (.t 29), none⟩,
          ⟨(some 30), .ext 0 (.t 34), none⟩,
          ⟨(some 35), .app (.many 2) 16 (.t 30) (.t 33), none⟩,
          ⟨(some 36), .ext 1 (.t 34), none⟩,
          ⟨none, .estore (.t 27) (.t 36) (.t 35), none⟩] false [2, 3, 9, 10, 11])))
       [2, 3, 9, 10, 11])
      (.region [] [] [
        ⟨(some 37), .bin .add 0 (.t 11) (.c (.int .i64 1)), none⟩,
        ⟨(some 11), .mov (.t 37), none⟩] false [2, 3, 9, 10, 11]))))
     [2, 3, 9, 10, 11])
    [2, 3]))
 (.seq
  (.region [] [] [
    ⟨(some 38), .load (.many 2) (.t 3), none⟩,
    ⟨none, .store 2 (.t 2) (.t 38), none⟩] false [2])
  .ret)))),
 [.cell 2 (.many 2)]⟩
/-- (spokeshave/profile.net).begun -/
def a115 : AFunc := ⟨
 (.seq
  (.region [] [] [
    ⟨(some 2), .box (.t 0), none⟩,
    ⟨(some 4), .nilv (.many 2), none⟩] false [1, 2])
 (.seq
  (.region [] [] [
    ⟨(some 8), .mov (.t 1), none⟩,
    ⟨(some 9), .call .inl false (.f 54) [.t 8], none⟩,
    ⟨(some 10), .mkFn 161 [] [.t 2], none⟩,
    ⟨(some 11), .call .inl false (.f 160) [.t 9, .t 10], none⟩,
    ⟨(some 1), .mov (.t 11), none⟩] false [1])
 (.seq
  (.region [1] [] [
    ⟨(some 12), .mov (.t 1), none⟩,
    ⟨(some 5), .mov (.t 12), none⟩] false [1, 5])
 (.seq
  (.seq
   (.region [] [] [
     ⟨(some 13), .mov (.t 1), none⟩,
     ⟨(some 14), .len (.t 13), none⟩,
     ⟨(some 15), .mov (.c (.int .i64 0)), none⟩] false [1, 5, 14, 15])
   (.block 0
    (.loop
     (.seq
      (.region [] [] [
        ⟨(some 16), .bin .lss 0 (.t 15) (.t 14), none⟩] false [1, 5, 14, 15, 16])
     (.seq
      (.cond (.t 16)
       .skip
       (.exit 0)
       [1, 5, 14, 15])
     (.seq
      (.block 1
       (.seq
        (.region [] [] [
          ⟨(some 17), .mov (.t 15), none⟩,
          ⟨(some 6), .mov (.t 17), none⟩] false [1, 5, 6, 14, 15])
       (.seq
        (.region [] [] [
          ⟨(some 18), .mov (.t 1), none⟩,
          ⟨(some 19), .mov (.t 6), none⟩,
          ⟨(some 20), .slice (.many 2) (.t 18) (some (.t 19)) none none, none⟩,
          ⟨(some 21), .mov (.t 1), none⟩,
          ⟨(some 22), .mov (.t 6), none⟩,
          ⟨(some 23), .slice (.many 2) (.t 21) none (some (.t 22)) none, none⟩,
          ⟨(some 24), .mkSl [.slT true []] .one 2 [(0, .t 20), (1, .t 23)], none⟩,
          ⟨(some 25), .call .pure false (.f 61) [.t 24], none⟩,
          ⟨(some 7), .mov (.t 25), none⟩] true [1, 5, 7, 14, 15])
       (.seq
        (.region [] [] [
          ⟨(some 26), .mov (.t 7), none⟩,
          ⟨(some 27), .mov (.t 5), none⟩,
          ⟨(some 28), .call .pure false (.f 163) [.t 26, .t 27, .f 56], none⟩,
          ⟨(some 29), .bin .lss 0 (.t 28) (.c (.int .i64 0)), none⟩] false [1, 5, 7, 14, 15, 29])
        (.cond (.t 29)
         (.region [] [] [
           ⟨(some 30), .mov (.t 7), none⟩,
           ⟨(some 5), .mov (.t 30), none⟩] false [1, 5, 14, 15])
         .skip
         [1, 5, 14, 15]))))
       [1, 5, 14, 15])
      (.region [] [] [
        ⟨(some 31), .bin .add 0 (.t 15) (.c (.int .i64 1)), none⟩,
        ⟨(some 15), .mov (.t 31), none⟩] false [1, 5, 14, 15]))))
     [1, 5, 14, 15])
    [5]))
 (.seq
  (.region [] [] [
    ⟨(some 32), .mov (.t 5), none⟩,
    ⟨(some 33), .call .inl false (.f 54) [.t 32], none⟩,
    ⟨(some 4), .mov (.t 33), none⟩] false [4])
  .ret))))),
 [.t 4]⟩
/-- slices.EqualFunc[[][]spokeshave/profile.Spot,[][]spokeshave/profile.Spot,[]spokeshave/profile.Spot,[]spokeshave/profile.Spot] -/
def a116 : AFunc := ⟨
 (.seq
  (.region [] [] [
    ⟨(some 6), .mov (.c (.bool false)), none⟩] false [0, 1, 2])
 (.seq
  (.seq
   (.region [] [] [
     ⟨(some 10), .mov (.t 0), none⟩,
     ⟨(some 11), .len (.t 10), none⟩,
     ⟨(some 12), .mov (.t 1), none⟩,
     ⟨(some 13), .len (.t 12), none⟩,
     ⟨(some 14), .bin .neq 0 (.t 11) (.t 13), none⟩] false [0, 1, 2, 14])
   (.cond (.t 14)
    (.seq
     (.region [] [] [
       ⟨(some 6), .mov (.c (.bool false)), none⟩] false [6])
     .ret)
    .skip
    [0, 1, 2]))
 (.seq
  (.seq
   (.region [] [] [
     ⟨(some 15), .mov (.t 0), none⟩,
     ⟨(some 16), .len (.t 15), none⟩,
     ⟨(some 17), .mov (.c (.int .i64 0)), none⟩] false [1, 2, 15, 16, 17])
   (.block 0
    (.loop
     (.seq
      (.region [] [] [
        ⟨(some 18), .bin .lss 0 (.t 17) (.t 16), none⟩] false [1, 2, 15, 16, 17, 18])
     (.seq
      (.cond (.t 18)
       .skip
       (.exit 0)
       [1, 2, 15, 16, 17])
     (.seq
      (.block 1
       (.seq
        (.region [] [] [
          ⟨(some 19), .mov (.t 17), none⟩,
          ⟨(some 20), .idxS .one (.t 15) (.t 17), none⟩,
          ⟨(some 21), .load .one (.t 20), none⟩,
          ⟨(some 7), .mov (.t 19), none⟩,
          ⟨(some 8), .mov (.t 21), none⟩] false [1, 2, 7, 8, 15, 16, 17])
       (.seq
        (.region [] [] [
          ⟨(some 22), .mov (.t 1), none⟩,
          ⟨(some 23), .mov (.t 7), none⟩,
          ⟨(some 24), .idxS .one (.t 22) (.t 23), none⟩,
          ⟨(some 25), .load .one (.t 24), none⟩,
          ⟨(some 9), .mov (.t 25), none⟩] false [1, 2, 8, 9, 15, 16, 17])
       (.seq
        (.region [] [] [
          ⟨(some 26), .mov (.t 2), none⟩,
          ⟨(some 27), .mov (.t 8), none⟩,
          ⟨(some 28), .mov (.t 9), none⟩,
          ⟨(some 29), .call .auto false (.t 26) [.t 27, .t 28], none⟩,
          ⟨(some 30), .un .not (.t 29), none⟩] false [1, 2, 15, 16, 17, 30])
        (.cond (.t 30)
         (.seq
          (.region [] [] [
            ⟨(some 6), .mov (.c (.bool false)), none⟩] false [6])
          .ret)
         .skip
         [1, 2, 15, 16, 17]))))
       [1, 2, 15, 16, 17])
      (.region [] [] [
        ⟨(some 31), .bin .add 0 (.t 17) (.c (.int .i64 1)), none⟩,
        ⟨(some 17), .mov (.t 31), none⟩] false [1, 2, 15, 16, 17]))))
     [1, 2, 15, 16, 17])
    []))
 (.seq
  (.region [] [] [
    ⟨(some 6), .mov (.c (.bool true)), none⟩] false [6])
  .ret)))),
 [.t 6]⟩
/-- spokeshave/profile.sorted -/
def a117 : AFunc := ⟨
 (.seq
  (.region [] [] [
    ⟨(some 2), .nilv .one, none⟩] false [0])
 (.seq
  (.region [] [] [
    ⟨(some 3), .mov (.t 0), none⟩,
    ⟨(some 4), .call .inl false (.f 164) [.t 3, .f 165], none⟩] false [0])
 (.seq
  (.region [] [] [
    ⟨(some 5), .mov (.t 0), none⟩,
    ⟨(some 2), .mov (.t 5), none⟩] false [2])
  .ret))),
 [.t 2]⟩
/-- slices.Equal[[]spokeshave/profile.Spot,spokeshave/profile.Spot] -/
def a118 : AFunc := ⟨
 (.seq
  (.region [] [] [
    ⟨(some 4), .mov (.c (.bool false)), none⟩] false [0, 1])
 (.seq
  (.seq
   (.region [] [] [
     ⟨(some 6), .mov (.t 0), none⟩,
     ⟨(some 7), .len (.t 6), none⟩,
     ⟨(some 8), .mov (.t 1), none⟩,
     ⟨(some 9), .len (.t 8), none⟩,
     ⟨(some 10), .bin .neq 0 (.t 7) (.t 9), none⟩] false [0, 1, 10])
   (.cond (.t 10)
    (.seq
     (.region [] [] [
       ⟨(some 4), .mov (.c (.bool false)), none⟩] false [4])
     .ret)
    .skip
    [0, 1]))
 (.seq
  (.seq
   (.region [] [] [
     ⟨(some 11), .mov (.t 0), none⟩,
     ⟨(some 12), .len (.t 11), none⟩,
     ⟨(some 13), .mov (.c (.int .i64 0)), none⟩] false [0, 1, 12, 13])
   (.block 0
    (.loop
     (.seq
      (.region [] [] [
        ⟨(some 14), .bin .lss 0 (.t 13) (.t 12), none⟩] false [0, 1, 12, 13, 14])
     (.seq
      (.cond (.t 14)
       .skip
       (.exit 0)
       [0, 1, 12, 13])
     (.seq
      (.block 1
       (.seq
        (.region [] [] [
          ⟨(some 15), .mov (.t 13), none⟩,
          ⟨(some 5), .mov (.t 15), none⟩] false [0, 1, 5, 12, 13])
       (.seq
        (.region [] [] [
          ⟨(some 16), .mov (.t 0), none⟩,
          ⟨(some 17), .mov (.t 5), none⟩,
          ⟨(some 18), .idxS (.many 2) (.t 16) (.t 17), none⟩,
          ⟨(some 19), .load (.many 2) (.t 18), none⟩,
          ⟨(some 20), .mov (.t 1), none⟩,
          ⟨(some 21), .mov (.t 5), none⟩,
          ⟨(some 22), .idxS (.many 2) (.t 20) (.t 21), none⟩,
          ⟨(some 23), .load (.many 2) (.t 22), none⟩,
          ⟨(some 24), .bin .neq 4 (.t 19) (.t 23), none⟩] true [0, 1, 12, 13, 24])
        (.cond (.t 24)
         (.seq
          (.region [] [] [
            ⟨(some 4), .mov (.c (.bool false)), none⟩] false [4])
          .ret)
         .skip
         [0, 1, 12, 13])))
       [0, 1, 12, 13])
      (.region [] [] [
        ⟨(some 25), .bin .add 0 (.t 13) (.c (.int .i64 1)), none⟩,
        ⟨(some 13), .mov (.t 25), none⟩] false [0, 1, 12, 13]))))
     [0, 1, 12, 13])
    []))
 (.seq
  (.region [] [] [
    ⟨(some 4), .mov (.c (.bool true)), none⟩] false [4])
  .ret)))),
 [.t 4]⟩
/-- spokeshave/num.Ratio -/
def a119 : AFunc := ⟨
 (.seq
  (.region [] [] [
    ⟨(some 2), .box (.t 0), none⟩,
    ⟨(some 3), .box (.t 1), none⟩,
    ⟨(some 4), .alloc [.bool false, .slT true [], .bool false, .slT true []], none⟩] false [2, 3, 4])
 (.seq
  (.region [] [] [
    ⟨(some 6), .load (.many 2) (.t 2), none⟩,
    ⟨(some 7), .load (.many 2) (.t 3), none⟩,
    ⟨(some 8), .call .pure false (.f 166) [.t 6, .t 7], none⟩,
    ⟨(some 5), .alloc [.bool false, .slT true []], none⟩,
    ⟨none, .store 2 (.t 5) (.t 8), none⟩] false [2, 3, 4, 5])
 (.seq
  (.seq
   (.region [] [] [
     ⟨(some 9), .load (.many 2) (.t 3), none⟩,
     ⟨(some 10), .call .pure false (.f 167) [.t 9], none⟩,
     ⟨(some 11), .bin .lss 0 (.t 10) (.c (.int .i64 0)), none⟩] false [2, 3, 4, 5, 11])
   (.cond (.t 11)
    (.region [] [] [
      ⟨(some 12), .load (.many 2) (.t 5), none⟩,
      ⟨(some 13), .call .pure false (.f 168) [.t 12], none⟩,
      ⟨none, .store 2 (.t 5) (.t 13), none⟩] false [2, 3, 4, 5])
    .skip
    [2, 3, 4, 5]))
 (.seq
  (.seq
   (.region [] [] [
     ⟨(some 14), .fldA 1 .one (.t 5), none⟩,
     ⟨(some 15), .load .one (.t 14), none⟩,
     ⟨(some 16), .call .pure false (.f 170) [], none⟩,
     ⟨(some 17), .fld 1 .one (.t 16), none⟩,
     ⟨(some 18), .call .pure false (.f 169) [.t 15, .t 17], none⟩,
     ⟨(some 19), .bin .eql 0 (.t 18) (.c (.int .i64 0)), none⟩,
     ⟨(some 20), .mov (.t 19), none⟩,
     ⟨(some 21), .fldA 0 .one (.t 5), (some (20, true))⟩,
     ⟨(some 22), .load .one (.t 21), (some (20, true))⟩,
     ⟨(some 23), .un .not (.t 22), (some (20, true))⟩,
     ⟨(some 24), .pick (.t 20) (.t 23) (.c (.bool false)), none⟩] true [2, 3, 4, 5, 24])
   (.cond (.t 24)
    (.seq
     (.region [] [] [
       ⟨(some 25), .load (.many 2) (.t 2), none⟩,
       ⟨(some 26), .load (.many 2) (.t 3), none⟩,
       ⟨(some 27), .build [.bool false, .slT true [], .bool false, .slT true []] [(0, 2, .t 25), (2, 2, .t 26)], none⟩,
       ⟨none, .store 4 (.t 4) (.t 27), none⟩] false [4])
     .ret)
    .skip
    [2, 3, 4, 5]))
 (.seq
  (.region [] [] [
    ⟨(some 28), .load (.many 2) (.t 2), none⟩,
    ⟨(some 29), .load (.many 2) (.t 5), none⟩,
    ⟨(some 30), .call .pure false (.f 171) [.t 28, .t 29], none⟩,
    ⟨(some 31), .load (.many 2) (.t 3), none⟩,
    ⟨(some 32), .load (.many 2) (.t 5), none⟩,
    ⟨(some 33), .call .pure false (.f 171) [.t 31, .t 32], none⟩,
    ⟨(some 34), .build [.bool false, .slT true [], .bool false, .slT true []] [(0, 2, .t 30), (2, 2, .t 33)], none⟩,
    ⟨none, .store 4 (.t 4) (.t 34), none⟩] true [4])
  .ret))))),
 [.cell 4 (.many 4)]⟩
/-- spokeshave/num.Of -/
def a120 : AFunc := ⟨
 (.seq
  (.region [] [] [
    ⟨(some 2), .alloc [.bool false, .slT true []], none⟩] false [0, 2])
 (.seq
  (.region [] [] [
    ⟨(some 4), .mov (.t 0), none⟩,
    ⟨(some 5), .conv .u64 (.t 4), none⟩,
    ⟨(some 3), .mov (.t 5), none⟩] false [0, 2, 3])
 (.seq
  (.seq
   (.region [] [] [
     ⟨(some 6), .mov (.t 0), none⟩,
     ⟨(some 7), .bin .lss 0 (.t 6) (.c (.int .i64 0)), none⟩] false [0, 2, 3, 7])
   (.cond (.t 7)
    (.region [] [] [
      ⟨(some 8), .mov (.t 3), none⟩,
      ⟨(some 9), .un .neg (.t 8), none⟩,
      ⟨(some 3), .mov (.t 9), none⟩] false [0, 2, 3])
    .skip
    [0, 2, 3]))
 (.seq
  (.region [] [] [
    ⟨(some 10), .mov (.t 0), none⟩,
    ⟨(some 11), .bin .lss 0 (.t 10) (.c (.int .i64 0)), none⟩,
    ⟨(some 12), .mov (.t 3), none⟩,
    ⟨(some 13), .mkSl [.int .u64 0] .one 1 [(0, .t 12)], none⟩,
    ⟨(some 14), .call .pure false (.f 172) [.t 11, .t 13], none⟩,
    ⟨none, .store 2 (.t 2) (.t 14), none⟩] false [2])
  .ret)))),
 [.cell 2 (.many 2)]⟩
/-- spokeshave/flat.Cmp -/
def a121 : AFunc := ⟨
 (.seq
  (.region [] [] [
    ⟨(some 2), .box (.t 0), none⟩,
    ⟨(some 3), .box (.t 1), none⟩,
    ⟨(some 4), .mov (.c (.int .i64 0)), none⟩] false [2, 3])
 (.seq
  (.seq
   (.region [] [] [
     ⟨(some 6), .idxA 2 (.many 4) (.t 2) (.c (.int .i64 0)), none⟩,
     ⟨(some 7), .load (.many 4) (.t 6), none⟩,
     ⟨(some 8), .idxA 2 (.many 4) (.t 3) (.c (.int .i64 0)), none⟩,
     ⟨(some 9), .load (.many 4) (.t 8), none⟩,
     ⟨(some 10), .call .pure false (.f 123) [.t 7, .t 9], none⟩,
     ⟨(some 5), .mov (.t 10), none⟩] false [2, 3, 5])
  (.seq
   (.region [] [] [
     ⟨(some 11), .mov (.t 5), none⟩,
     ⟨(some 12), .bin .neq 0 (.t 11) (.c (.int .i64 0)), none⟩] false [2, 3, 5, 12])
   (.cond (.t 12)
    (.seq
     (.region [] [] [
       ⟨(some 13), .mov (.t 5), none⟩,
       ⟨(some 4), .mov (.t 13), none⟩] false [4])
     .ret)
    .skip
    [2, 3])))
 (.seq
  (.region [] [] [
    ⟨(some 14), .idxA 2 (.many 4) (.t 2) (.c (.int .i64 1)), none⟩,
    ⟨(some 15), .load (.many 4) (.t 14), none⟩,
    ⟨(some 16), .idxA 2 (.many 4) (.t 3) (.c (.int .i64 1)), none⟩,
    ⟨(some 17), .load (.many 4) (.t 16), none⟩,
    ⟨(some 18), .call .pure false (.f 123) [.t 15, .t 17], none⟩,
    ⟨(some 4), .mov (.t 18), none⟩] false [4])
  .ret))),
 [.t 4]⟩
/-- spokeshave/flat.Between -/
def a122 : AFunc := ⟨
 (.seq
  (.region [] [] [
    ⟨(some 3), .box (.t 0), none⟩,
    ⟨(some 4), .box (.t 1), none⟩,
    ⟨(some 5), .box (.t 2), none⟩,
    ⟨(some 6), .mov (.c (.bool false)), none⟩] false [3, 4, 5])
 (.seq
  (.seq
   (.region [] [] [
     ⟨(some 7), .load (.many 8) (.t 3), none⟩,
     ⟨(some 8), .load (.many 8) (.t 5), none⟩,
     ⟨(some 9), .load (.many 8) (.t 4), none⟩,
     ⟨(some 10), .call .pure false (.f 124) [.t 7, .t 8, .t 9], none⟩,
     ⟨(some 11), .bin .neq 0 (.t 10) (.c (.int .i64 0)), none⟩] false [3, 4, 5, 11])
   (.cond (.t 11)
    (.seq
     (.region [] [] [
       ⟨(some 6), .mov (.c (.bool false)), none⟩] false [6])
     .ret)
    .skip
    [3, 4, 5]))
 (.seq
  (.region [] [] [
    ⟨(some 12), .load (.many 8) (.t 3), none⟩,
    ⟨(some 13), .load (.many 8) (.t 4), none⟩,
    ⟨(some 14), .call .pure false (.f 121) [.t 12, .t 13], none⟩,
    ⟨(some 15), .load (.many 8) (.t 4), none⟩,
    ⟨(some 16), .load (.many 8) (.t 5), none⟩,
    ⟨(some 17), .call .pure false (.f 121) [.t 15, .t 16], none⟩,
    ⟨(some 18), .bin .mul 0 (.t 14) (.t 17), none⟩,
    ⟨(some 19), .bin .gtr 0 (.t 18) (.c (.int .i64 0)), none⟩,
    ⟨(some 6), .mov (.t 19), none⟩] true [6])
  .ret))),
 [.t 6]⟩
/-- (spokeshave/num.Rat).Cmp -/
def a123 : AFunc := ⟨
 (.seq
  (.region [] [] [
    ⟨(some 2), .box (.t 0), none⟩,
    ⟨(some 3), .box (.t 1), none⟩,
    ⟨(some 4), .mov (.c (.int .i64 0)), none⟩] false [2, 3])
 (.seq
  (.region [] [] [
    ⟨(some 5), .fldA 0 (.many 2) (.t 2), none⟩,
    ⟨(some 6), .load (.many 2) (.t 5), none⟩,
    ⟨(some 7), .fldA 2 (.many 2) (.t 3), none⟩,
    ⟨(some 8), .load (.many 2) (.t 7), none⟩,
    ⟨(some 9), .call .pure false (.f 173) [.t 6, .t 8], none⟩,
    ⟨(some 10), .fldA 0 (.many 2) (.t 3), none⟩,
    ⟨(some 11), .load (.many 2) (.t 10), none⟩,
    ⟨(some 12), .fldA 2 (.many 2) (.t 2), none⟩,
    ⟨(some 13), .load (.many 2) (.t 12), none⟩,
    ⟨(some 14), .call .pure false (.f 173) [.t 11, .t 13], none⟩,
    ⟨(some 15), .call .pure false (.f 174) [.t 9, .t 14], none⟩,
    ⟨(some 4), .mov (.t 15), none⟩] true [4])
  .ret)),
 [.t 4]⟩
/-- spokeshave/flat.Turn -/
def a124 : AFunc := ⟨
 (.seq
  (.region [] [] [
    ⟨(some 3), .box (.t 0), none⟩,
    ⟨(some 4), .box (.t 1), none⟩,
    ⟨(some 5), .box (.t 2), none⟩,
    ⟨(some 6), .mov (.c (.int .i64 0)), none⟩] false [3, 4, 5])
 (.seq
  (.region [] [] [
    ⟨(some 7), .load (.many 8) (.t 4), none⟩,
    ⟨(some 8), .load (.many 8) (.t 3), none⟩,
    ⟨(some 9), .call .pure false (.f 176) [.t 7, .t 8], none⟩,
    ⟨(some 10), .load (.many 8) (.t 5), none⟩,
    ⟨(some 11), .load (.many 8) (.t 3), none⟩,
    ⟨(some 12), .call .pure false (.f 176) [.t 10, .t 11], none⟩,
    ⟨(some 13), .call .pure false (.f 175) [.t 9, .t 12], none⟩,
    ⟨(some 14), .call .pure false (.f 177) [.t 13], none⟩,
    ⟨(some 6), .mov (.t 14), none⟩] true [6])
  .ret)),
 [.t 6]⟩
/-- spokeshave/num.Whole -/
def a125 : AFunc := ⟨
 (.seq
  (.region [] [] [
    ⟨(some 2), .alloc [.bool false, .slT true [], .bool false, .slT true []], none⟩] false [0, 2])
 (.seq
  (.region [] [] [
    ⟨(some 3), .mov (.t 0), none⟩,
    ⟨(some 4), .call .pure false (.f 120) [.t 3], none⟩,
    ⟨(some 5), .call .pure false (.f 170) [], none⟩,
    ⟨(some 6), .build [.bool false, .slT true [], .bool false, .slT true []] [(0, 2, .t 4), (2, 2, .t 5)], none⟩,
    ⟨none, .store 4 (.t 2) (.t 6), none⟩] false [2])
  .ret)),
 [.cell 2 (.many 4)]⟩
/-- slices.insertionSortCmpFunc[spokeshave/profile.Spot] -/
def a138 : AFunc := ⟨
 (.seq
  (.region [] [] [
    ⟨(some 10), .mov (.t 1), none⟩,
    ⟨(some 11), .bin .add 0 (.t 10) (.c (.int .i64 1)), none⟩,
    ⟨(some 8), .mov (.t 11), none⟩] false [0, 1, 2, 3, 8])
  (.block 0
   (.loop
    (.seq
     (.seq
      (.region [] [] [
        ⟨(some 12), .mov (.t 8), none⟩,
        ⟨(some 13), .mov (.t 2), none⟩,
        ⟨(some 14), .bin .lss 0 (.t 12) (.t 13), none⟩] false [0, 1, 2, 3, 8, 14])
      (.cond (.t 14)
       .skip
       (.exit 0)
       [0, 1, 2, 3, 8]))
    (.seq
     (.block 1
      (.seq
       (.region [] [] [
         ⟨(some 17), .mov (.t 8), none⟩,
         ⟨(some 9), .mov (.t 17), none⟩] false [0, 1, 2, 3, 8, 9])
       (.block 2
        (.loop
         (.seq
          (.seq
           (.region [] [] [
             ⟨(some 18), .mov (.t 9), none⟩,
             ⟨(some 19), .mov (.t 1), none⟩,
             ⟨(some 20), .bin .gtr 0 (.t 18) (.t 19), none⟩,
             ⟨(some 21), .mov (.t 20), none⟩,
             ⟨(some 22), .mov (.t 3), (some (21, true))⟩,
             ⟨(some 23), .mov (.t 0), (some (21, true))⟩,
             ⟨(some 24), .mov (.t 9), (some (21, true))⟩,
             ⟨(some 25), .idxS (.many 2) (.t 23) (.t 24), (some (21, true))⟩,
             ⟨(some 26), .load (.many 2) (.t 25), (some (21, true))⟩,
             ⟨(some 27), .mov (.t 0), (some (21, true))⟩,
             ⟨(some 28), .mov (.t 9), (some (21, true))⟩,
             ⟨(some 29), .bin .sub 0 (.t 28) (.c (.int .i64 1)), (some (21, true))⟩,
             ⟨(some 30), .idxS (.many 2) (.t 27) (.t 29), (some (21, true))⟩,
             ⟨(some 31), .load (.many 2) (.t 30), (some (21, true))⟩,
             ⟨(some 32), .call .auto false (.t 22) [.t 26, .t 31], (some (21, true))⟩,
             ⟨(some 33), .bin .lss 0 (.t 32) (.c (.int .i64 0)), (some (21, true))⟩,
             ⟨(some 34), .pick (.t 21) (.t 33) (.c (.bool false)), none⟩] true [0, 1, 2, 3, 8, 9, 34])
           (.cond (.t 34)
            .skip
            (.exit 2)
            [0, 1, 2, 3, 8, 9]))
         (.seq
          (.block 3
           (.region [] [] [
             ⟨(some 37), .mov (.t 0), none⟩,
             ⟨(some 38), .mov (.t 9), none⟩,
             ⟨(some 39), .mov (.t 0), none⟩,
             ⟨(some 40), .mov (.t 9), none⟩,
             ⟨(some 41), .bin .sub 0 (.t 40) (.c (.int .i64 1)), none⟩,
             ⟨(some 42), .mov (.t 0), none⟩,
             ⟨(some 43), .mov (.t 9), none⟩,
             ⟨(some 44), .bin .sub 0 (.t 43) (.c (.int .i64 1)), none⟩,
             ⟨(some 45), .idxS (.many 2) (.t 42) (.t 44), none⟩,
             ⟨(some 46), .load (.many 2) (.t 45), none⟩,
             ⟨(some 47), .mov (.t 0), none⟩,
             ⟨(some 48), .mov (.t 9), none⟩,
             ⟨(some 49), .idxS (.many 2) (.t 47) (.t 48), none⟩,
             ⟨(some 50), .load (.many 2) (.t 49), none⟩,
             ⟨(some 51), .idxS (.many 2) (.t 37) (.t 38), none⟩,
             ⟨none, .store 2 (.t 51) (.t 46), none⟩,
             ⟨(some 52), .idxS (.many 2) (.t 39) (.t 41), none⟩,
             ⟨none, .store 2 (.t 52) (.t 50), none⟩] true [0, 1, 2, 3, 8, 9])
           [0, 1, 2, 3, 8, 9])
          (.region [] [] [
            ⟨(some 35), .mov (.t 9), none⟩,
            ⟨(some 36), .bin .sub 0 (.t 35) (.c (.int .i64 1)), none⟩,
            ⟨(some 9), .mov (.t 36), none⟩] false [0, 1, 2, 3, 8, 9])))
         [0, 1, 2, 3, 8, 9])
        [0, 1, 2, 3, 8]))
      [0, 1, 2, 3, 8])
     (.region [] [] [
       ⟨(some 15), .mov (.t 8), none⟩,
       ⟨(some 16), .bin .add 0 (.t 15) (.c (.int .i64 1)), none⟩,
       ⟨(some 8), .mov (.t 16), none⟩] false [0, 1, 2, 3, 8])))
    [0, 1, 2, 3, 8])
   [])),
 []⟩
/-- slices.heapSortCmpFunc[spokeshave/profile.Spot] -/
def a139 : AFunc := ⟨
 (.seq
  (.region [] [] [
    ⟨(some 13), .mov (.t 1), none⟩,
    ⟨(some 8), .mov (.t 13), none⟩] false [0, 1, 2, 3, 8])
 (.seq
  (.region [] [] [
    ⟨(some 9), .mov (.c (.int .i64 0)), none⟩] false [0, 1, 2, 3, 8, 9])
 (.seq
  (.region [] [] [
    ⟨(some 14), .mov (.t 2), none⟩,
    ⟨(some 15), .mov (.t 1), none⟩,
    ⟨(some 16), .bin .sub 0 (.t 14) (.t 15), none⟩,
    ⟨(some 10), .mov (.t 16), none⟩] false [0, 3, 8, 9, 10])
 (.seq
  (.seq
   (.region [] [] [
     ⟨(some 17), .mov (.t 10), none⟩,
     ⟨(some 18), .bin .sub 0 (.t 17) (.c (.int .i64 1)), none⟩,
     ⟨(some 19), .bin .quo 0 (.t 18) (.c (.int .i64 2)), none⟩,
     ⟨(some 11), .mov (.t 19), none⟩] false [0, 3, 8, 9, 10, 11])
   (.block 0
    (.loop
     (.seq
      (.seq
       (.region [] [] [
         ⟨(some 20), .mov (.t 11), none⟩,
         ⟨(some 21), .bin .geq 0 (.t 20) (.c (.int .i64 0)), none⟩] false [0, 3, 8, 9, 10, 11, 21])
       (.cond (.t 21)
        .skip
        (.exit 0)
        [0, 3, 8, 9, 10, 11]))
     (.seq
      (.block 1
       (.region [] [] [
         ⟨(some 24), .mov (.t 0), none⟩,
         ⟨(some 25), .mov (.t 11), none⟩,
         ⟨(some 26), .mov (.t 10), none⟩,
         ⟨(some 27), .mov (.t 8), none⟩,
         ⟨(some 28), .mov (.t 3), none⟩,
         ⟨(some 29), .call .inl false (.f 191) [.t 24, .t 25, .t 26, .t 27, .t 28], none⟩] false [0, 3, 8, 9, 10, 11])
       [0, 3, 8, 9, 10, 11])
      (.region [] [] [
        ⟨(some 22), .mov (.t 11), none⟩,
        ⟨(some 23), .bin .sub 0 (.t 22) (.c (.int .i64 1)), none⟩,
        ⟨(some 11), .mov (.t 23), none⟩] false [0, 3, 8, 9, 10, 11])))
     [0, 3, 8, 9, 10, 11])
    [0, 3, 8, 9, 10]))
 (.seq
  (.region [] [] [
    ⟨(some 30), .mov (.t 10), none⟩,
    ⟨(some 31), .bin .sub 0 (.t 30) (.c (.int .i64 1)), none⟩,
    ⟨(some 12), .mov (.t 31), none⟩] false [0, 3, 8, 9, 12])
  (.block 2
   (.loop
    (.seq
     (.seq
      (.region [] [] [
        ⟨(some 32), .mov (.t 12), none⟩,
        ⟨(some 33), .bin .geq 0 (.t 32) (.c (.int .i64 0)), none⟩] false [0, 3, 8, 9, 12, 33])
      (.cond (.t 33)
       .skip
       (.exit 2)
       [0, 3, 8, 9, 12]))
    (.seq
     (.block 3
      (.seq
       (.region [] [] [
         ⟨(some 36), .mov (.t 0), none⟩,
         ⟨(some 37), .mov (.t 8), none⟩,
         ⟨(some 38), .mov (.t 0), none⟩,
         ⟨(some 39), .mov (.t 8), none⟩,
         ⟨(some 40), .mov (.t 12), none⟩,
         ⟨(some 41), .bin .add 0 (.t 39) (.t 40), none⟩,
         ⟨(some 42), .mov (.t 0), none⟩,
         ⟨(some 43), .mov (.t 8), none⟩,
         ⟨(some 44), .mov (.t 12), none⟩,
         ⟨(some 45), .bin .add 0 (.t 43) (.t 44), none⟩,
         ⟨(some 46), .idxS (.many 2) (.t 42) (.t 45), none⟩,
         ⟨(some 47), .load (.many 2) (.t 46), none⟩,
         ⟨(some 48), .mov (.t 0), none⟩,
         ⟨(some 49), .mov (.t 8), none⟩,
         ⟨(some 50), .idxS (.many 2) (.t 48) (.t 49), none⟩,
         ⟨(some 51), .load (.many 2) (.t 50), none⟩,
         ⟨(some 52), .idxS (.many 2) (.t 36) (.t 37), none⟩,
         ⟨none, .store 2 (.t 52) (.t 47), none⟩,
         ⟨(some 53), .idxS (.many 2) (.t 38) (.t 41), none⟩,
         ⟨none, .store 2 (.t 53) (.t 51), none⟩] true [0, 3, 8, 9, 12])
       (.region [] [] [
         ⟨(some 54), .mov (.t 0), none⟩,
         ⟨(some 55), .mov (.t 9), none⟩,
         ⟨(some 56), .mov (.t 12), none⟩,
         ⟨(some 57), .mov (.t 8), none⟩,
         ⟨(some 58), .mov (.t 3), none⟩,
         ⟨(some 59), .call .inl false (.f 191) [.t 54, .t 55, .t 56, .t 57, .t 58], none⟩] false [0, 3, 8, 9, 12]))
      [0, 3, 8, 9, 12])
     (.region [] [] [
       ⟨(some 34), .mov (.t 12), none⟩,
       ⟨(some 35), .bin .sub 0 (.t 34) (.c (.int .i64 1)), none⟩,
       ⟨(some 12), .mov (.t 35), none⟩] false [0, 3, 8, 9, 12])))
    [0, 3, 8, 9, 12])
   [])))))),
 []⟩
/-- slices.breakPatternsCmpFunc[spokeshave/profile.Spot] -/
def a140 : AFunc := ⟨
 (.seq
  (.region [] [] [
    ⟨(some 13), .mov (.t 2), none⟩,
    ⟨(some 14), .mov (.t 1), none⟩,
    ⟨(some 15), .bin .sub 0 (.t 13) (.t 14), none⟩,
    ⟨(some 8), .mov (.t 15), none⟩] false [0, 1, 8])
 (.seq
  (.region [] [] [
    ⟨(some 16), .mov (.t 8), none⟩,
    ⟨(some 17), .bin .geq 0 (.t 16) (.c (.int .i64 8)), none⟩] false [0, 1, 8, 17])
  (.cond (.t 17)
   (.seq
    (.region [] [] [
      ⟨(some 18), .mov (.t 8), none⟩,
      ⟨(some 19), .conv .u64 (.t 18), none⟩,
      ⟨(some 9), .alloc [.int .u64 0], none⟩,
      ⟨none, .store 1 (.t 9) (.t 19), none⟩] false [0, 1, 8, 9])
   (.seq
    (.region [] [] [
      ⟨(some 20), .mov (.t 8), none⟩,
      ⟨(some 21), .call .pure false (.f 192) [.t 20], none⟩,
      ⟨(some 10), .mov (.t 21), none⟩] false [0, 1, 8, 9, 10])
   (.seq
    (.region [] [] [
      ⟨(some 22), .mov (.t 1), none⟩,
      ⟨(some 23), .mov (.t 8), none⟩,
      ⟨(some 24), .bin .quo 0 (.t 23) (.c (.int .i64 4)), none⟩,
      ⟨(some 25), .bin .mul 0 (.t 24) (.c (.int .i64 2)), none⟩,
      ⟨(some 26), .bin .add 0 (.t 22) (.t 25), none⟩,
      ⟨(some 27), .bin .sub 0 (.t 26) (.c (.int .i64 1)), none⟩,
      ⟨(some 11), .mov (.t 27), none⟩] false [0, 1, 8, 9, 10, 11])
    (.block 0
     (.loop
      (.seq
       (.seq
        (.region [] [] [
          ⟨(some 28), .mov (.t 11), none⟩,
          ⟨(some 29), .mov (.t 1), none⟩,
          ⟨(some 30), .mov (.t 8), none⟩,
          ⟨(some 31), .bin .quo 0 (.t 30) (.c (.int .i64 4)), none⟩,
          ⟨(some 32), .bin .mul 0 (.t 31) (.c (.int .i64 2)), none⟩,
          ⟨(some 33), .bin .add 0 (.t 29) (.t 32), none⟩,
          ⟨(some 34), .bin .add 0 (.t 33) (.c (.int .i64 1)), none⟩,
          ⟨(some 35), .bin .leq 0 (.t 28) (.t 34), none⟩] false [0, 1, 8, 9, 10, 11, 35])
        (.cond (.t 35)
         .skip
         (.exit 0)
         [0, 1, 8, 9, 10, 11]))
      (.seq
       (.block 1
        (.seq
         (.region [] [] [
           ⟨(some 38), .call .inl false (.f 193) [.t 9], none⟩,
           ⟨(some 39), .mov (.t 10), none⟩,
           ⟨(some 40), .bin .sub 0 (.t 39) (.c (.int .u64 1)), none⟩,
           ⟨(some 41), .bin .and 0 (.t 38) (.t 40), none⟩,
           ⟨(some 42), .conv .i64 (.t 41), none⟩,
           ⟨(some 12), .mov (.t 42), none⟩] false [0, 1, 8, 9, 10, 11, 12])
        (.seq
         (.seq
          (.region [] [] [
            ⟨(some 43), .mov (.t 12), none⟩,
            ⟨(some 44), .mov (.t 8), none⟩,
            ⟨(some 45), .bin .geq 0 (.t 43) (.t 44), none⟩] false [0, 1, 8, 9, 10, 11, 12, 45])
          (.cond (.t 45)
           (.region [] [] [
             ⟨(some 46), .mov (.t 12), none⟩,
             ⟨(some 47), .mov (.t 8), none⟩,
             ⟨(some 48), .bin .sub 0 (.t 46) (.t 47), none⟩,
             ⟨(some 12), .mov (.t 48), none⟩] false [0, 1, 8, 9, 10, 11, 12])
           .skip
           [0, 1, 8, 9, 10, 11, 12]))
         (.region [] [] [
           ⟨(some 49), .mov (.t 0), none⟩,
           ⟨(some 50), .mov (.t 11), none⟩,
           ⟨(some 51), .mov (.t 0), none⟩,
           ⟨(some 52), .mov (.t 1), none⟩,
           ⟨(some 53), .mov (.t 12), none⟩,
           ⟨(some 54), .bin .add 0 (.t 52) (.t 53), none⟩,
           ⟨(some 55), .mov (.t 0), none⟩,
           ⟨(some 56), .mov (.t 1), none⟩,
           ⟨(some 57), .mov (.t 12), none⟩,
           ⟨(some 58), .bin .add 0 (.t 56) (.t 57), none⟩,
           ⟨(some 59), .idxS (.many 2) (.t 55) (.t 58), none⟩,
           ⟨(some 60), .load (.many 2) (.t 59), none⟩,
           ⟨(some 61), .mov (.t 0), none⟩,
           ⟨(some 62), .mov (.t 11), none⟩,
           ⟨(some 63), .idxS (.many 2) (.t 61) (.t 62), none⟩,
           ⟨(some 64), .load (.many 2) (.t 63), none⟩,
           ⟨(some 65), .idxS (.many 2) (.t 49) (.t 50), none⟩,
           ⟨none, .store 2 (.t 65) (.t 60), none⟩,
           ⟨(some 66), .idxS (.many 2) (.t 51) (.t 54), none⟩,
           ⟨none, .store 2 (.t 66) (.t 64), none⟩] true [0, 1, 8, 9, 10, 11])))
        [0, 1, 8, 9, 10, 11])
       (.region [] [] [
         ⟨(some 36), .mov (.t 11), none⟩,
         ⟨(some 37), .bin .add 0 (.t 36) (.c (.int .i64 1)), none⟩,
         ⟨(some 11), .mov (.t 37), none⟩] false [0, 1, 8, 9, 10, 11])))
      [0, 1, 8, 9, 10, 11])
     []))))
   .skip
   []))),
 []⟩
/-- slices.choosePivotCmpFunc[spokeshave/profile.Spot] -/
def a141 : AFunc := ⟨
 (.seq
  (.region [] [] [
    ⟨(some 8), .mov (.c (.int .i64 0)), none⟩,
    ⟨(some 9), .mov (.c (.int .i64 0)), none⟩] false [0, 1, 2, 3])
 (.seq
  (.region [] [] [
    ⟨(some 15), .mov (.t 2), none⟩,
    ⟨(some 16), .mov (.t 1), none⟩,
    ⟨(some 17), .bin .sub 0 (.t 15) (.t 16), none⟩,
    ⟨(some 10), .mov (.t 17), none⟩] false [0, 1, 3, 10])
 (.seq
  (.region [] [] [
    ⟨(some 11), .alloc [.int .i64 0], none⟩] false [0, 1, 3, 10, 11])
 (.seq
  (.region [] [] [
    ⟨(some 18), .mov (.t 1), none⟩,
    ⟨(some 19), .mov (.t 10), none⟩,
    ⟨(some 20), .bin .quo 0 (.t 19) (.c (.int .i64 4)), none⟩,
    ⟨(some 21), .bin .mul 0 (.t 20) (.c (.int .i64 1)), none⟩,
    ⟨(some 22), .bin .add 0 (.t 18) (.t 21), none⟩,
    ⟨(some 12), .mov (.t 22), none⟩] false [0, 1, 3, 10, 11, 12])
 (.seq
  (.region [] [] [
    ⟨(some 23), .mov (.t 1), none⟩,
    ⟨(some 24), .mov (.t 10), none⟩,
    ⟨(some 25), .bin .quo 0 (.t 24) (.c (.int .i64 4)), none⟩,
    ⟨(some 26), .bin .mul 0 (.t 25) (.c (.int .i64 2)), none⟩,
    ⟨(some 27), .bin .add 0 (.t 23) (.t 26), none⟩,
    ⟨(some 13), .mov (.t 27), none⟩] false [0, 1, 3, 10, 11, 12, 13])
 (.seq
  (.region [] [] [
    ⟨(some 28), .mov (.t 1), none⟩,
    ⟨(some 29), .mov (.t 10), none⟩,
    ⟨(some 30), .bin .quo 0 (.t 29) (.c (.int .i64 4)), none⟩,
    ⟨(some 31), .bin .mul 0 (.t 30) (.c (.int .i64 3)), none⟩,
    ⟨(some 32), .bin .add 0 (.t 28) (.t 31), none⟩,
    ⟨(some 14), .mov (.t 32), none⟩] false [0, 3, 10, 11, 12, 13, 14])
 (.seq
  (.seq
   (.region [] [] [
     ⟨(some 33), .mov (.t 10), none⟩,
     ⟨(some 34), .bin .geq 0 (.t 33) (.c (.int .i64 8)), none⟩] false [0, 3, 10, 11, 12, 13, 14, 34])
   (.cond (.t 34)
    (.seq
     (.seq
      (.region [] [] [
        ⟨(some 35), .mov (.t 10), none⟩,
        ⟨(some 36), .bin .geq 0 (.t 35) (.c (.int .i64 50)), none⟩] false [0, 3, 11, 12, 13, 14, 36])
      (.cond (.t 36)
       (.seq
        (.region [] [] [
          ⟨(some 37), .mov (.t 0), none⟩,
          ⟨(some 38), .mov (.t 12), none⟩,
          ⟨(some 39), .mov (.t 3), none⟩,
          ⟨(some 40), .call .inl false (.f 194) [.t 37, .t 38, .t 11, .t 39], none⟩,
          ⟨(some 12), .mov (.t 40), none⟩] false [0, 3, 11, 12, 13, 14])
       (.seq
        (.region [] [] [
          ⟨(some 41), .mov (.t 0), none⟩,
          ⟨(some 42), .mov (.t 13), none⟩,
          ⟨(some 43), .mov (.t 3), none⟩,
          ⟨(some 44), .call .inl false (.f 194) [.t 41, .t 42, .t 11, .t 43], none⟩,
          ⟨(some 13), .mov (.t 44), none⟩] false [0, 3, 11, 12, 13, 14])
        (.region [] [] [
          ⟨(some 45), .mov (.t 0), none⟩,
          ⟨(some 46), .mov (.t 14), none⟩,
          ⟨(some 47), .mov (.t 3), none⟩,
          ⟨(some 48), .call .inl false (.f 194) [.t 45, .t 46, .t 11, .t 47], none⟩,
          ⟨(some 14), .mov (.t 48), none⟩] false [0, 3, 11, 12, 13, 14])))
       .skip
       [0, 3, 11, 12, 13, 14]))
     (.region [] [] [
       ⟨(some 49), .mov (.t 0), none⟩,
       ⟨(some 50), .mov (.t 12), none⟩,
       ⟨(some 51), .mov (.t 13), none⟩,
       ⟨(some 52), .mov (.t 14), none⟩,
       ⟨(some 53), .mov (.t 3), none⟩,
       ⟨(some 54), .call .inl false (.f 195) [.t 49, .t 50, .t 51, .t 52, .t 11, .t 53], none⟩,
       ⟨(some 13), .mov (.t 54), none⟩] false [11, 13]))
    .skip
    [11, 13]))
 (.seq
  (.region [] [] [
    ⟨(some 55), .load .one (.t 11), none⟩] false [13, 55])
  (.block 0
   (.seq
    (.region [] [] [
      ⟨(some 58), .bin .eql 0 (.t 55) (.c (.int .i64 0)), none⟩,
      ⟨(some 57), .mov (.t 58), none⟩] false [13, 55, 57])
    (.cond (.t 57)
     (.seq
      (.region [] [] [
        ⟨(some 59), .mov (.t 13), none⟩,
        ⟨(some 8), .mov (.t 59), none⟩,
        ⟨(some 9), .mov (.c (.int .i64 1)), none⟩] false [8, 9])
      .ret)
     (.seq
      (.region [] [] [
        ⟨(some 61), .bin .eql 0 (.t 55) (.c (.int .i64 12)), none⟩,
        ⟨(some 60), .mov (.t 61), none⟩] false [13, 60])
      (.cond (.t 60)
       (.seq
        (.region [] [] [
          ⟨(some 62), .mov (.t 13), none⟩,
          ⟨(some 8), .mov (.t 62), none⟩,
          ⟨(some 9), .mov (.c (.int .i64 2)), none⟩] false [8, 9])
        .ret)
       (.seq
        (.region [] [] [
          ⟨(some 56), .mov (.t 13), none⟩,
          ⟨(some 8), .mov (.t 56), none⟩,
          ⟨(some 9), .mov (.c (.int .i64 0)), none⟩] false [8, 9])
        .ret)
       [8, 9]))
     [8, 9]))
   [8, 9]))))))))),
 [.t 8, .t 9]⟩
/-- slices.reverseRangeCmpFunc[spokeshave/profile.Spot] -/
def a142 : AFunc := ⟨
 (.seq
  (.region [] [] [
    ⟨(some 10), .mov (.t 1), none⟩,
    ⟨(some 8), .mov (.t 10), none⟩] false [0, 2, 8])
 (.seq
  (.region [] [] [
    ⟨(some 11), .mov (.t 2), none⟩,
    ⟨(some 12), .bin .sub 0 (.t 11) (.c (.int .i64 1)), none⟩,
    ⟨(some 9), .mov (.t 12), none⟩] false [0, 8, 9])
  (.block 0
   (.loop
    (.seq
     (.seq
      (.region [] [] [
        ⟨(some 13), .mov (.t 8), none⟩,
        ⟨(some 14), .mov (.t 9), none⟩,
        ⟨(some 15), .bin .lss 0 (.t 13) (.t 14), none⟩] false [0, 8, 9, 15])
      (.cond (.t 15)
       .skip
       (.exit 0)
       [0, 8, 9]))
     (.block 1
      (.seq
       (.region [] [] [
         ⟨(some 16), .mov (.t 0), none⟩,
         ⟨(some 17), .mov (.t 8), none⟩,
         ⟨(some 18), .mov (.t 0), none⟩,
         ⟨(some 19), .mov (.t 9), none⟩,
         ⟨(some 20), .mov (.t 0), none⟩,
         ⟨(some 21), .mov (.t 9), none⟩,
         ⟨(some 22), .idxS (.many 2) (.t 20) (.t 21), none⟩,
         ⟨(some 23), .load (.many 2) (.t 22), none⟩,
         ⟨(some 24), .mov (.t 0), none⟩,
         ⟨(some 25), .mov (.t 8), none⟩,
         ⟨(some 26), .idxS (.many 2) (.t 24) (.t 25), none⟩,
         ⟨(some 27), .load (.many 2) (.t 26), none⟩,
         ⟨(some 28), .idxS (.many 2) (.t 16) (.t 17), none⟩,
         ⟨none, .store 2 (.t 28) (.t 23), none⟩,
         ⟨(some 29), .idxS (.many 2) (.t 18) (.t 19), none⟩,
         ⟨none, .store 2 (.t 29) (.t 27), none⟩] true [0, 8, 9])
      (.seq
       (.region [] [] [
         ⟨(some 30), .mov (.t 8), none⟩,
         ⟨(some 31), .bin .add 0 (.t 30) (.c (.int .i64 1)), none⟩,
         ⟨(some 8), .mov (.t 31), none⟩] false [0, 8, 9])
       (.region [] [] [
         ⟨(some 32), .mov (.t 9), none⟩,
         ⟨(some 33), .bin .sub 0 (.t 32) (.c (.int .i64 1)), none⟩,
         ⟨(some 9), .mov (.t 33), none⟩] false [0, 8, 9])))
      [0, 8, 9]))
    [0, 8, 9])
   []))),
 []⟩
/-- slices.partialInsertionSortCmpFunc[spokeshave/profile.Spot] -/
def a143 : AFunc := ⟨
 (.seq
  (.region [] [] [
    ⟨(some 8), .mov (.c (.bool false)), none⟩] false [0, 1, 2, 3])
 (.seq
  (.region [] [] [
    ⟨(some 13), .mov (.t 1), none⟩,
    ⟨(some 14), .bin .add 0 (.t 13) (.c (.int .i64 1)), none⟩,
    ⟨(some 9), .mov (.t 14), none⟩] false [0, 1, 2, 3, 9])
 (.seq
  (.seq
   (.region [] [] [
     ⟨(some 10), .mov (.c (.int .i64 0)), none⟩] false [0, 1, 2, 3, 9, 10])
   (.block 0
    (.loop
     (.seq
      (.seq
       (.region [] [] [
         ⟨(some 15), .mov (.t 10), none⟩,
         ⟨(some 16), .bin .lss 0 (.t 15) (.c (.int .i64 5)), none⟩] false [0, 1, 2, 3, 9, 10, 16])
       (.cond (.t 16)
        .skip
        (.exit 0)
        [0, 1, 2, 3, 9, 10]))
     (.seq
      (.block 1
       (.seq
        (.block 2
         (.loop
          (.seq
           (.seq
            (.region [] [] [
              ⟨(some 19), .mov (.t 9), none⟩,
              ⟨(some 20), .mov (.t 2), none⟩,
              ⟨(some 21), .bin .lss 0 (.t 19) (.t 20), none⟩,
              ⟨(some 22), .mov (.t 21), none⟩,
              ⟨(some 23), .mov (.t 3), (some (22, true))⟩,
              ⟨(some 24), .mov (.t 0), (some (22, true))⟩,
              ⟨(some 25), .mov (.t 9), (some (22, true))⟩,
              ⟨(some 26), .idxS (.many 2) (.t 24) (.t 25), (some (22, true))⟩,
              ⟨(some 27), .load (.many 2) (.t 26), (some (22, true))⟩,
              ⟨(some 28), .mov (.t 0), (some (22, true))⟩,
              ⟨(some 29), .mov (.t 9), (some (22, true))⟩,
              ⟨(some 30), .bin .sub 0 (.t 29) (.c (.int .i64 1)), (some (22, true))⟩,
              ⟨(some 31), .idxS (.many 2) (.t 28) (.t 30), (some (22, true))⟩,
              ⟨(some 32), .load (.many 2) (.t 31), (some (22, true))⟩,
              ⟨(some 33), .call .auto false (.t 23) [.t 27, .t 32], (some (22, true))⟩,
              ⟨(some 34), .bin .lss 0 (.t 33) (.c (.int .i64 0)), (some (22, true))⟩,
              ⟨(some 35), .un .not (.t 34), (some (22, true))⟩,
              ⟨(some 36), .pick (.t 22) (.t 35) (.c (.bool false)), none⟩] true [0, 1, 2, 3, 9, 10, 36])
            (.cond (.t 36)
             .skip
             (.exit 2)
             [0, 1, 2, 3, 9, 10]))
           (.block 3
            (.region [] [] [
              ⟨(some 37), .mov (.t 9), none⟩,
              ⟨(some 38), .bin .add 0 (.t 37) (.c (.int .i64 1)), none⟩,
              ⟨(some 9), .mov (.t 38), none⟩] false [0, 1, 2, 3, 9, 10])
            [0, 1, 2, 3, 9, 10]))
          [0, 1, 2, 3, 9, 10])
         [0, 1, 2, 3, 9, 10])
       (.seq
        (.seq
         (.region [] [] [
           ⟨(some 39), .mov (.t 9), none⟩,
           ⟨(some 40), .mov (.t 2), none⟩,
           ⟨(some 41), .bin .eql 0 (.t 39) (.t 40), none⟩] false [0, 1, 2, 3, 9, 10, 41])
         (.cond (.t 41)
          (.seq
           (.region [] [] [
             ⟨(some 8), .mov (.c (.bool true)), none⟩] false [8])
           .ret)
          .skip
          [0, 1, 2, 3, 9, 10]))
       (.seq
        (.seq
         (.region [] [] [
           ⟨(some 42), .mov (.t 2), none⟩,
           ⟨(some 43), .mov (.t 1), none⟩,
           ⟨(some 44), .bin .sub 0 (.t 42) (.t 43), none⟩,
           ⟨(some 45), .bin .lss 0 (.t 44) (.c (.int .i64 50)), none⟩] false [0, 1, 2, 3, 9, 10, 45])
         (.cond (.t 45)
          (.seq
           (.region [] [] [
             ⟨(some 8), .mov (.c (.bool false)), none⟩] false [8])
           .ret)
          .skip
          [0, 1, 2, 3, 9, 10]))
       (.seq
        (.region [] [] [
          ⟨(some 46), .mov (.t 0), none⟩,
          ⟨(some 47), .mov (.t 9), none⟩,
          ⟨(some 48), .mov (.t 0), none⟩,
          ⟨(some 49), .mov (.t 9), none⟩,
          ⟨(some 50), .bin .sub 0 (.t 49) (.c (.int .i64 1)), none⟩,
          ⟨(some 51), .mov (.t 0), none⟩,
          ⟨(some 52), .mov (.t 9), none⟩,
          ⟨(some 53), .bin .sub 0 (.t 52) (.c (.int .i64 1)), none⟩,
          ⟨(some 54), .idxS (.many 2) (.t 51) (.t 53), none⟩,
          ⟨(some 55), .load (.many 2) (.t 54), none⟩,
          ⟨(some 56), .mov (.t 0), none⟩,
          ⟨(some 57), .mov (.t 9), none⟩,
          ⟨(some 58), .idxS (.many 2) (.t 56) (.t 57), none⟩,
          ⟨(some 59), .load (.many 2) (.t 58), none⟩,
          ⟨(some 60), .idxS (.many 2) (.t 46) (.t 47), none⟩,
          ⟨none, .store 2 (.t 60) (.t 55), none⟩,
          ⟨(some 61), .idxS (.many 2) (.t 48) (.t 50), none⟩,
          ⟨none, .store 2 (.t 61) (.t 59), none⟩] true [0, 1, 2, 3, 9, 10])
       (.seq
        (.seq
         (.region [] [] [
           ⟨(some 62), .mov (.t 9), none⟩,
           ⟨(some 63), .mov (.t 1), none⟩,
           ⟨(some 64), .bin .sub 0 (.t 62) (.t 63), none⟩,
           ⟨(some 65), .bin .geq 0 (.t 64) (.c (.int .i64 2)), none⟩] false [0, 1, 2, 3, 9, 10, 65])
         (.cond (.t 65)
          (.seq
           (.region [] [] [
             ⟨(some 66), .mov (.t 9), none⟩,
             ⟨(some 67), .bin .sub 0 (.t 66) (.c (.int .i64 1)), none⟩,
             ⟨(some 11), .mov (.t 67), none⟩] false [0, 1, 2, 3, 9, 10, 11])
           (.block 4
            (.loop
             (.seq
              (.seq
               (.region [] [] [
                 ⟨(some 68), .mov (.t 11), none⟩,
                 ⟨(some 69), .bin .geq 0 (.t 68) (.c (.int .i64 1)), none⟩] false [0, 1, 2, 3, 9, 10, 11, 69])
               (.cond (.t 69)
                .skip
                (.exit 4)
                [0, 1, 2, 3, 9, 10, 11]))
             (.seq
              (.block 5
               (.seq
                (.seq
                 (.region [] [] [
                   ⟨(some 72), .mov (.t 3), none⟩,
                   ⟨(some 73), .mov (.t 0), none⟩,
                   ⟨(some 74), .mov (.t 11), none⟩,
                   ⟨(some 75), .idxS (.many 2) (.t 73) (.t 74), none⟩,
                   ⟨(some 76), .load (.many 2) (.t 75), none⟩,
                   ⟨(some 77), .mov (.t 0), none⟩,
                   ⟨(some 78), .mov (.t 11), none⟩,
                   ⟨(some 79), .bin .sub 0 (.t 78) (.c (.int .i64 1)), none⟩,
                   ⟨(some 80), .idxS (.many 2) (.t 77) (.t 79), none⟩,
                   ⟨(some 81), .load (.many 2) (.t 80), none⟩,
                   ⟨(some 82), .call .auto false (.t 72) [.t 76, .t 81], none⟩,
                   ⟨(some 83), .bin .lss 0 (.t 82) (.c (.int .i64 0)), none⟩,
                   ⟨(some 84), .un .not (.t 83), none⟩] true [0, 1, 2, 3, 9, 10, 11, 84])
                 (.cond (.t 84)
                  (.exit 4)
                  .skip
                  [0, 1, 2, 3, 9, 10, 11]))
                (.region [] [] [
                  ⟨(some 85), .mov (.t 0), none⟩,
                  ⟨(some 86), .mov (.t 11), none⟩,
                  ⟨(some 87), .mov (.t 0), none⟩,
                  ⟨(some 88), .mov (.t 11), none⟩,
                  ⟨(some 89), .bin .sub 0 (.t 88) (.c (.int .i64 1)), none⟩,
                  ⟨(some 90), .mov (.t 0), none⟩,
                  ⟨(some 91), .mov (.t 11), none⟩,
                  ⟨(some 92), .bin .sub 0 (.t 91) (.c (.int .i64 1)), none⟩,
                  ⟨(some 93), .idxS (.many 2) (.t 90) (.t 92), none⟩,
                  ⟨(some 94), .load (.many 2) (.t 93), none⟩,
                  ⟨(some 95), .mov (.t 0), none⟩,
                  ⟨(some 96), .mov (.t 11), none⟩,
                  ⟨(some 97), .idxS (.many 2) (.t 95) (.t 96), none⟩,
                  ⟨(some 98), .load (.many 2) (.t 97), none⟩,
                  ⟨(some 99), .idxS (.many 2) (.t 85) (.t 86), none⟩,
                  ⟨none, .store 2 (.t 99) (.t 94), none⟩,
                  ⟨(some 100), .idxS (.many 2) (.t 87) (.t 89), none⟩,
                  ⟨none, .store 2 (.t 100) (.t 98), none⟩] true [0, 1, 2, 3, 9, 10, 11]))
               [0, 1, 2, 3, 9, 10, 11])
              (.region [] [] [
                ⟨(some 70), .mov (.t 11), none⟩,
                ⟨(some 71), .bin .sub 0 (.t 70) (.c (.int .i64 1)), none⟩,
                ⟨(some 11), .mov (.t 71), none⟩] false [0, 1, 2, 3, 9, 10, 11])))
             [0, 1, 2, 3, 9, 10, 11])
            [0, 1, 2, 3, 9, 10]))
          .skip
          [0, 1, 2, 3, 9, 10]))
       (.seq
        (.region [] [] [
          ⟨(some 101), .mov (.t 2), none⟩,
          ⟨(some 102), .mov (.t 9), none⟩,
          ⟨(some 103), .bin .sub 0 (.t 101) (.t 102), none⟩,
          ⟨(some 104), .bin .geq 0 (.t 103) (.c (.int .i64 2)), none⟩] false [0, 1, 2, 3, 9, 10, 104])
        (.cond (.t 104)
         (.seq
          (.region [] [] [
            ⟨(some 105), .mov (.t 9), none⟩,
            ⟨(some 106), .bin .add 0 (.t 105) (.c (.int .i64 1)), none⟩,
            ⟨(some 12), .mov (.t 106), none⟩] false [0, 1, 2, 3, 9, 10, 12])
          (.block 6
           (.loop
            (.seq
             (.seq
              (.region [] [] [
                ⟨(some 107), .mov (.t 12), none⟩,
                ⟨(some 108), .mov (.t 2), none⟩,
                ⟨(some 109), .bin .lss 0 (.t 107) (.t 108), none⟩] false [0, 1, 2, 3, 9, 10, 12, 109])
              (.cond (.t 109)
               .skip
               (.exit 6)
               [0, 1, 2, 3, 9, 10, 12]))
            (.seq
             (.block 7
              (.seq
               (.seq
                (.region [] [] [
                  ⟨(some 112), .mov (.t 3), none⟩,
                  ⟨(some 113), .mov (.t 0), none⟩,
                  ⟨(some 114), .mov (.t 12), none⟩,
                  ⟨(some 115), .idxS (.many 2) (.t 113) (.t 114), none⟩,
                  ⟨(some 116), .load (.many 2) (.t 115), none⟩,
                  ⟨(some 117), .mov (.t 0), none⟩,
                  ⟨(some 118), .mov (.t 12), none⟩,
                  ⟨(some 119), .bin .sub 0 (.t 118) (.c (.int .i64 1)), none⟩,
                  ⟨(some 120), .idxS (.many 2) (.t 117) (.t 119), none⟩,
                  ⟨(some 121), .load (.many 2) (.t 120), none⟩,
                  ⟨(some 122), .call .auto false (.t 112) [.t 116, .t 121], none⟩,
                  ⟨(some 123), .bin .lss 0 (.t 122) (.c (.int .i64 0)), none⟩,
                  ⟨(some 124), .un .not (.t 123), none⟩] true [0, 1, 2, 3, 9, 10, 12, 124])
                (.cond (.t 124)
                 (.exit 6)
                 .skip
                 [0, 1, 2, 3, 9, 10, 12]))
               (.region [] [] [
                 ⟨(some 125), .mov (.t 0), none⟩,
                 ⟨(some 126), .mov (.t 12), none⟩,
                 ⟨(some 127), .mov (.t 0), none⟩,
                 ⟨(some 128), .mov (.t 12), none⟩,
                 ⟨(some 129), .bin .sub 0 (.t 128) (.c (.int .i64 1)), none⟩,
                 ⟨(some 130), .mov (.t 0), none⟩,
                 ⟨(some 131), .mov (.t 12), none⟩,
                 ⟨(some 132), .bin .sub 0 (.t 131) (.c (.int .i64 1)), none⟩,
                 ⟨(some 133), .idxS (.many 2) (.t 130) (.t 132), none⟩,
                 ⟨(some 134), .load (.many 2) (.t 133), none⟩,
                 ⟨(some 135), .mov (.t 0), none⟩,
                 ⟨(some 136), .mov (.t 12), none⟩,
                 ⟨(some 137), .idxS (.many 2) (.t 135) (.t 136), none⟩,
                 ⟨(some 138), .load (.many 2) (.t 137), none⟩,
                 ⟨(some 139), .idxS (.many 2) (.t 125) (.t 126), none⟩,
                 ⟨none, .store 2 (.t 139) (.t 134), none⟩,
                 ⟨(some 140), .idxS (.many 2) (.t 127) (.t 129), none⟩,
                 ⟨none, .store 2 (.t 140) (.t 138), none⟩] true [0, 1, 2, 3, 9, 10, 12]))
              [0, 1, 2, 3, 9, 10, 12])
             (.region [] [] [
               ⟨(some 110), .mov (.t 12), none⟩,
               ⟨(some 111), .bin .add 0 (.t 110) (.c (.int .i64 1)), none⟩,
               ⟨(some 12), .mov (.t 111), none⟩] false [0, 1, 2, 3, 9, 10, 12])))
            [0, 1, 2, 3, 9, 10, 12])
           [0, 1, 2, 3, 9, 10]))
         .skip
         [0, 1, 2, 3, 9, 10])))))))
       [0, 1, 2, 3, 9, 10])
      (.region [] [] [
        ⟨(some 17), .mov (.t 10), none⟩,
        ⟨(some 18), .bin .add 0 (.t 17) (.c (.int .i64 1)), none⟩,
        ⟨(some 10), .mov (.t 18), none⟩] false [0, 1, 2, 3, 9, 10])))
     [0, 1, 2, 3, 9, 10])
    []))
 (.seq
  (.region [] [] [
    ⟨(some 8), .mov (.c (.bool false)), none⟩] false [8])
  .ret)))),
 [.t 8]⟩
/-- slices.partitionEqualCmpFunc[spokeshave/profile.Spot] -/
def a144 : AFunc := ⟨
 (.seq
  (.region [] [] [
    ⟨(some 10), .mov (.c (.int .i64 0)), none⟩] false [0, 1, 2, 3, 4])
 (.seq
  (.region [] [] [
    ⟨(some 13), .mov (.t 0), none⟩,
    ⟨(some 14), .mov (.t 1), none⟩,
    ⟨(some 15), .mov (.t 0), none⟩,
    ⟨(some 16), .mov (.t 3), none⟩,
    ⟨(some 17), .mov (.t 0), none⟩,
    ⟨(some 18), .mov (.t 3), none⟩,
    ⟨(some 19), .idxS (.many 2) (.t 17) (.t 18), none⟩,
    ⟨(some 20), .load (.many 2) (.t 19), none⟩,
    ⟨(some 21), .mov (.t 0), none⟩,
    ⟨(some 22), .mov (.t 1), none⟩,
    ⟨(some 23), .idxS (.many 2) (.t 21) (.t 22), none⟩,
    ⟨(some 24), .load (.many 2) (.t 23), none⟩,
    ⟨(some 25), .idxS (.many 2) (.t 13) (.t 14), none⟩,
    ⟨none, .store 2 (.t 25) (.t 20), none⟩,
    ⟨(some 26), .idxS (.many 2) (.t 15) (.t 16), none⟩,
    ⟨none, .store 2 (.t 26) (.t 24), none⟩] true [0, 1, 2, 4])
 (.seq
  (.region [] [] [
    ⟨(some 27), .mov (.t 1), none⟩,
    ⟨(some 28), .bin .add 0 (.t 27) (.c (.int .i64 1)), none⟩,
    ⟨(some 29), .mov (.t 2), none⟩,
    ⟨(some 30), .bin .sub 0 (.t 29) (.c (.int .i64 1)), none⟩,
    ⟨(some 11), .mov (.t 28), none⟩,
    ⟨(some 12), .mov (.t 30), none⟩] false [0, 1, 4, 11, 12])
 (.seq
  (.block 0
   (.loop
    (.block 1
     (.seq
      (.block 2
       (.loop
        (.seq
         (.seq
          (.region [] [] [
            ⟨(some 31), .mov (.t 11), none⟩,
            ⟨(some 32), .mov (.t 12), none⟩,
            ⟨(some 33), .bin .leq 0 (.t 31) (.t 32), none⟩,
            ⟨(some 34), .mov (.t 33), none⟩,
            ⟨(some 35), .mov (.t 4), (some (34, true))⟩,
            ⟨(some 36), .mov (.t 0), (some (34, true))⟩,
            ⟨(some 37), .mov (.t 1), (some (34, true))⟩,
            ⟨(some 38), .idxS (.many 2) (.t 36) (.t 37), (some (34, true))⟩,
            ⟨(some 39), .load (.many 2) (.t 38), (some (34, true))⟩,
            ⟨(some 40), .mov (.t 0), (some (34, true))⟩,
            ⟨(some 41), .mov (.t 11), (some (34, true))⟩,
            ⟨(some 42), .idxS (.many 2) (.t 40) (.t 41), (some (34, true))⟩,
            ⟨(some 43), .load (.many 2) (.t 42), (some (34, true))⟩,
            ⟨(some 44), .call .auto false (.t 35) [.t 39, .t 43], (some (34, true))⟩,
            ⟨(some 45), .bin .lss 0 (.t 44) (.c (.int .i64 0)), (some (34, true))⟩,
            ⟨(some 46), .un .not (.t 45), (some (34, true))⟩,
            ⟨(some 47), .pick (.t 34) (.t 46) (.c (.bool false)), none⟩] true [0, 1, 4, 11, 12, 47])
          (.cond (.t 47)
           .skip
           (.exit 2)
           [0, 1, 4, 11, 12]))
         (.block 3
          (.region [] [] [
            ⟨(some 48), .mov (.t 11), none⟩,
            ⟨(some 49), .bin .add 0 (.t 48) (.c (.int .i64 1)), none⟩,
            ⟨(some 11), .mov (.t 49), none⟩] false [0, 1, 4, 11, 12])
          [0, 1, 4, 11, 12]))
        [0, 1, 4, 11, 12])
       [0, 1, 4, 11, 12])
     (.seq
      (.block 4
       (.loop
        (.seq
         (.seq
          (.region [] [] [
            ⟨(some 50), .mov (.t 11), none⟩,
            ⟨(some 51), .mov (.t 12), none⟩,
            ⟨(some 52), .bin .leq 0 (.t 50) (.t 51), none⟩,
            ⟨(some 53), .mov (.t 52), none⟩,
            ⟨(some 54), .mov (.t 4), (some (53, true))⟩,
            ⟨(some 55), .mov (.t 0), (some (53, true))⟩,
            ⟨(some 56), .mov (.t 1), (some (53, true))⟩,
            ⟨(some 57), .idxS (.many 2) (.t 55) (.t 56), (some (53, true))⟩,
            ⟨(some 58), .load (.many 2) (.t 57), (some (53, true))⟩,
            ⟨(some 59), .mov (.t 0), (some (53, true))⟩,
            ⟨(some 60), .mov (.t 12), (some (53, true))⟩,
            ⟨(some 61), .idxS (.many 2) (.t 59) (.t 60), (some (53, true))⟩,
            ⟨(some 62), .load (.many 2) (.t 61), (some (53, true))⟩,
            ⟨(some 63), .call .auto false (.t 54) [.t 58, .t 62], (some (53, true))⟩,
            ⟨(some 64), .bin .lss 0 (.t 63) (.c (.int .i64 0)), (some (53, true))⟩,
            ⟨(some 65), .pick (.t 53) (.t 64) (.c (.bool false)), none⟩] true [0, 1, 4, 11, 12, 65])
          (.cond (.t 65)
           .skip
           (.exit 4)
           [0, 1, 4, 11, 12]))
         (.block 5
          (.region [] [] [
            ⟨(some 66), .mov (.t 12), none⟩,
            ⟨(some 67), .bin .sub 0 (.t 66) (.c (.int .i64 1)), none⟩,
            ⟨(some 12), .mov (.t 67), none⟩] false [0, 1, 4, 11, 12])
          [0, 1, 4, 11, 12]))
        [0, 1, 4, 11, 12])
       [0, 1, 4, 11, 12])
     (.seq
      (.seq
       (.region [] [] [
         ⟨(some 68), .mov (.t 11), none⟩,
         ⟨(some 69), .mov (.t 12), none⟩,
         ⟨(some 70), .bin .gtr 0 (.t 68) (.t 69), none⟩] false [0, 1, 4, 11, 12, 70])
       (.cond (.t 70)
        (.exit 0)
        .skip
        [0, 1, 4, 11, 12]))
     (.seq
      (.region [] [] [
        ⟨(some 71), .mov (.t 0), none⟩,
        ⟨(some 72), .mov (.t 11), none⟩,
        ⟨(some 73), .mov (.t 0), none⟩,
        ⟨(some 74), .mov (.t 12), none⟩,
        ⟨(some 75), .mov (.t 0), none⟩,
        ⟨(some 76), .mov (.t 12), none⟩,
        ⟨(some 77), .idxS (.many 2) (.t 75) (.t 76), none⟩,
        ⟨(some 78), .load (.many 2) (.t 77), none⟩,
        ⟨(some 79), .mov (.t 0), none⟩,
        ⟨(some 80), .mov (.t 11), none⟩,
        ⟨(some 81), .idxS (.many 2) (.t 79) (.t 80), none⟩,
        ⟨(some 82), .load (.many 2) (.t 81), none⟩,
        ⟨(some 83), .idxS (.many 2) (.t 71) (.t 72), none⟩,
        ⟨none, .store 2 (.t 83) (.t 78), none⟩,
        ⟨(some 84), .idxS (.many 2) (.t 73) (.t 74), none⟩,
        ⟨none, .store 2 (.t 84) (.t 82), none⟩] true [0, 1, 4, 11, 12])
     (.seq
      (.region [] [] [
        ⟨(some 85), .mov (.t 11), none⟩,
        ⟨(some 86), .bin .add 0 (.t 85) (.c (.int .i64 1)), none⟩,
        ⟨(some 11), .mov (.t 86), none⟩] false [0, 1, 4, 11, 12])
      (.region [] [] [
        ⟨(some 87), .mov (.t 12), none⟩,
        ⟨(some 88), .bin .sub 0 (.t 87) (.c (.int .i64 1)), none⟩,
        ⟨(some 12), .mov (.t 88), none⟩] false [0, 1, 4, 11, 12]))))))
     [0, 1, 4, 11, 12])
    [0, 1, 4, 11, 12])
   [11])
 (.seq
  (.region [] [] [
    ⟨(some 89), .mov (.t 11), none⟩,
    ⟨(some 10), .mov (.t 89), none⟩] false [10])
  .ret))))),
 [.t 10]⟩
/-- slices.partitionCmpFunc[spokeshave/profile.Spot] -/
def a145 : AFunc := ⟨
 (.seq
  (.region [] [] [
    ⟨(some 10), .mov (.c (.int .i64 0)), none⟩,
    ⟨(some 11), .mov (.c (.bool false)), none⟩] false [0, 1, 2, 3, 4])
 (.seq
  (.region [] [] [
    ⟨(some 14), .mov (.t 0), none⟩,
    ⟨(some 15), .mov (.t 1), none⟩,
    ⟨(some 16), .mov (.t 0), none⟩,
    ⟨(some 17), .mov (.t 3), none⟩,
    ⟨(some 18), .mov (.t 0), none⟩,
    ⟨(some 19), .mov (.t 3), none⟩,
    ⟨(some 20), .idxS (.many 2) (.t 18) (.t 19), none⟩,
    ⟨(some 21), .load (.many 2) (.t 20), none⟩,
    ⟨(some 22), .mov (.t 0), none⟩,
    ⟨(some 23), .mov (.t 1), none⟩,
    ⟨(some 24), .idxS (.many 2) (.t 22) (.t 23), none⟩,
    ⟨(some 25), .load (.many 2) (.t 24), none⟩,
    ⟨(some 26), .idxS (.many 2) (.t 14) (.t 15), none⟩,
    ⟨none, .store 2 (.t 26) (.t 21), none⟩,
    ⟨(some 27), .idxS (.many 2) (.t 16) (.t 17), none⟩,
    ⟨none, .store 2 (.t 27) (.t 25), none⟩] true [0, 1, 2, 4])
 (.seq
  (.region [] [] [
    ⟨(some 28), .mov (.t 1), none⟩,
    ⟨(some 29), .bin .add 0 (.t 28) (.c (.int .i64 1)), none⟩,
    ⟨(some 30), .mov (.t 2), none⟩,
    ⟨(some 31), .bin .sub 0 (.t 30) (.c (.int .i64 1)), none⟩,
    ⟨(some 12), .mov (.t 29), none⟩,
    ⟨(some 13), .mov (.t 31), none⟩] false [0, 1, 4, 12, 13])
 (.seq
  (.block 0
   (.loop
    (.seq
     (.seq
      (.region [] [] [
        ⟨(some 32), .mov (.t 12), none⟩,
        ⟨(some 33), .mov (.t 13), none⟩,
        ⟨(some 34), .bin .leq 0 (.t 32) (.t 33), none⟩,
        ⟨(some 35), .mov (.t 34), none⟩,
        ⟨(some 36), .mov (.t 4), (some (35, true))⟩,
        ⟨(some 37), .mov (.t 0), (some (35, true))⟩,
        ⟨(some 38), .mov (.t 12), (some (35, true))⟩,
        ⟨(some 39), .idxS (.many 2) (.t 37) (.t 38), (some (35, true))⟩,
        ⟨(some 40), .load (.many 2) (.t 39), (some (35, true))⟩,
        ⟨(some 41), .mov (.t 0), (some (35, true))⟩,
        ⟨(some 42), .mov (.t 1), (some (35, true))⟩,
        ⟨(some 43), .idxS (.many 2) (.t 41) (.t 42), (some (35, true))⟩,
        ⟨(some 44), .load (.many 2) (.t 43), (some (35, true))⟩,
        ⟨(some 45), .call .auto false (.t 36) [.t 40, .t 44], (some (35, true))⟩,
        ⟨(some 46), .bin .lss 0 (.t 45) (.c (.int .i64 0)), (some (35, true))⟩,
        ⟨(some 47), .pick (.t 35) (.t 46) (.c (.bool false)), none⟩] true [0, 1, 4, 12, 13, 47])
      (.cond (.t 47)
       .skip
       (.exit 0)
       [0, 1, 4, 12, 13]))
     (.block 1
      (.region [] [] [
        ⟨(some 48), .mov (.t 12), none⟩,
        ⟨(some 49), .bin .add 0 (.t 48) (.c (.int .i64 1)), none⟩,
        ⟨(some 12), .mov (.t 49), none⟩] false [0, 1, 4, 12, 13])
      [0, 1, 4, 12, 13]))
    [0, 1, 4, 12, 13])
   [0, 1, 4, 12, 13])
 (.seq
  (.block 2
   (.loop
    (.seq
     (.seq
      (.region [] [] [
        ⟨(some 50), .mov (.t 12), none⟩,
        ⟨(some 51), .mov (.t 13), none⟩,
        ⟨(some 52), .bin .leq 0 (.t 50) (.t 51), none⟩,
        ⟨(some 53), .mov (.t 52), none⟩,
        ⟨(some 54), .mov (.t 4), (some (53, true))⟩,
        ⟨(some 55), .mov (.t 0), (some (53, true))⟩,
        ⟨(some 56), .mov (.t 13), (some (53, true))⟩,
        ⟨(some 57), .idxS (.many 2) (.t 55) (.t 56), (some (53, true))⟩,
        ⟨(some 58), .load (.many 2) (.t 57), (some (53, true))⟩,
        ⟨(some 59), .mov (.t 0), (some (53, true))⟩,
        ⟨(some 60), .mov (.t 1), (some (53, true))⟩,
        ⟨(some 61), .idxS (.many 2) (.t 59) (.t 60), (some (53, true))⟩,
        ⟨(some 62), .load (.many 2) (.t 61), (some (53, true))⟩,
        ⟨(some 63), .call .auto false (.t 54) [.t 58, .t 62], (some (53, true))⟩,
        ⟨(some 64), .bin .lss 0 (.t 63) (.c (.int .i64 0)), (some (53, true))⟩,
        ⟨(some 65), .un .not (.t 64), (some (53, true))⟩,
        ⟨(some 66), .pick (.t 53) (.t 65) (.c (.bool false)), none⟩] true [0, 1, 4, 12, 13, 66])
      (.cond (.t 66)
       .skip
       (.exit 2)
       [0, 1, 4, 12, 13]))
     (.block 3
      (.region [] [] [
        ⟨(some 67), .mov (.t 13), none⟩,
        ⟨(some 68), .bin .sub 0 (.t 67) (.c (.int .i64 1)), none⟩,
        ⟨(some 13), .mov (.t 68), none⟩] false [0, 1, 4, 12, 13])
      [0, 1, 4, 12, 13]))
    [0, 1, 4, 12, 13])
   [0, 1, 4, 12, 13])
 (.seq
  (.seq
   (.region [] [] [
     ⟨(some 69), .mov (.t 12), none⟩,
     ⟨(some 70), .mov (.t 13), none⟩,
     ⟨(some 71), .bin .gtr 0 (.t 69) (.t 70), none⟩] false [0, 1, 4, 12, 13, 71])
   (.cond (.t 71)
    (.seq
     (.region [] [] [
       ⟨(some 72), .mov (.t 0), none⟩,
       ⟨(some 73), .mov (.t 13), none⟩,
       ⟨(some 74), .mov (.t 0), none⟩,
       ⟨(some 75), .mov (.t 1), none⟩,
       ⟨(some 76), .mov (.t 0), none⟩,
       ⟨(some 77), .mov (.t 1), none⟩,
       ⟨(some 78), .idxS (.many 2) (.t 76) (.t 77), none⟩,
       ⟨(some 79), .load (.many 2) (.t 78), none⟩,
       ⟨(some 80), .mov (.t 0), none⟩,
       ⟨(some 81), .mov (.t 13), none⟩,
       ⟨(some 82), .idxS (.many 2) (.t 80) (.t 81), none⟩,
       ⟨(some 83), .load (.many 2) (.t 82), none⟩,
       ⟨(some 84), .idxS (.many 2) (.t 72) (.t 73), none⟩,
       ⟨none, .store 2 (.t 84) (.t 79), none⟩,
       ⟨(some 85), .idxS (.many 2) (.t 74) (.t 75), none⟩,
       ⟨none, .store 2 (.t 85) (.t 83), none⟩] true [13])
    (.seq
     (.region [] [] [
       ⟨(some 86), .mov (.t 13), none⟩,
       ⟨(some 10), .mov (.t 86), none⟩,
       ⟨(some 11), .mov (.c (.bool true)), none⟩] false [10, 11])
     .ret))
    .skip
    [0, 1, 4, 12, 13]))
 (.seq
  (.region [] [] [
    ⟨(some 87), .mov (.t 0), none⟩,
    ⟨(some 88), .mov (.t 12), none⟩,
    ⟨(some 89), .mov (.t 0), none⟩,
    ⟨(some 90), .mov (.t 13), none⟩,
    ⟨(some 91), .mov (.t 0), none⟩,
    ⟨(some 92), .mov (.t 13), none⟩,
    ⟨(some 93), .idxS (.many 2) (.t 91) (.t 92), none⟩,
    ⟨(some 94), .load (.many 2) (.t 93), none⟩,
    ⟨(some 95), .mov (.t 0), none⟩,
    ⟨(some 96), .mov (.t 12), none⟩,
    ⟨(some 97), .idxS (.many 2) (.t 95) (.t 96), none⟩,
    ⟨(some 98), .load (.many 2) (.t 97), none⟩,
    ⟨(some 99), .idxS (.many 2) (.t 87) (.t 88), none⟩,
    ⟨none, .store 2 (.t 99) (.t 94), none⟩,
    ⟨(some 100), .idxS (.many 2) (.t 89) (.t 90), none⟩,
    ⟨none, .store 2 (.t 100) (.t 98), none⟩] true [0, 1, 4, 12, 13])
 (.seq
  (.region [] [] [
    ⟨(some 101), .mov (.t 12), none⟩,
    ⟨(some 102), .bin .add 0 (.t 101) (.c (.int .i64 1)), none⟩,
    ⟨(some 12), .mov (.t 102), none⟩] false [0, 1, 4, 12, 13])
 (.seq
  (.region [] [] [
    ⟨(some 103), .mov (.t 13), none⟩,
    ⟨(some 104), .bin .sub 0 (.t 103) (.c (.int .i64 1)), none⟩,
    ⟨(some 13), .mov (.t 104), none⟩] false [0, 1, 4, 12, 13])
 (.seq
  (.block 4
   (.loop
    (.block 5
     (.seq
      (.block 6
       (.loop
        (.seq
         (.seq
          (.region [] [] [
            ⟨(some 105), .mov (.t 12), none⟩,
            ⟨(some 106), .mov (.t 13), none⟩,
            ⟨(some 107), .bin .leq 0 (.t 105) (.t 106), none⟩,
            ⟨(some 108), .mov (.t 107), none⟩,
            ⟨(some 109), .mov (.t 4), (some (108, true))⟩,
            ⟨(some 110), .mov (.t 0), (some (108, true))⟩,
            ⟨(some 111), .mov (.t 12), (some (108, true))⟩,
            ⟨(some 112), .idxS (.many 2) (.t 110) (.t 111), (some (108, true))⟩,
            ⟨(some 113), .load (.many 2) (.t 112), (some (108, true))⟩,
            ⟨(some 114), .mov (.t 0), (some (108, true))⟩,
            ⟨(some 115), .mov (.t 1), (some (108, true))⟩,
            ⟨(some 116), .idxS (.many 2) (.t 114) (.t 115), (some (108, true))⟩,
            ⟨(some 117), .load (.many 2) (.t 116), (some (108, true))⟩,
            ⟨(some 118), .call .auto false (.t 109) [.t 113, .t 117], (some (108, true))⟩,
            ⟨(some 119), .bin .lss 0 (.t 118) (.c (.int .i64 0)), (some (108, true))⟩,
            ⟨(some 120), .pick (.t 108) (.t 119) (.c (.bool false)), none⟩] true [0, 1, 4, 12, 13, 120])
          (.cond (.t 120)
           .skip
           (.exit 6)
           [0, 1, 4, 12, 13]))
         (.block 7
          (.region [] [] [
            ⟨(some 121), .mov (.t 12), none⟩,
            ⟨(some 122), .bin .add 0 (.t 121) (.c (.int .i64 1)), none⟩,
            ⟨(some 12), .mov (.t 122), none⟩] false [0, 1, 4, 12, 13])
          [0, 1, 4, 12, 13]))
        [0, 1, 4, 12, 13])
       [0, 1, 4, 12, 13])
     (.seq
      (.block 8
       (.loop
        (.seq
         (.seq
          (.region [] [] [
            ⟨(some 123), .mov (.t 12), none⟩,
            ⟨(some 124), .mov (.t 13), none⟩,
            ⟨(some 125), .bin .leq 0 (.t 123) (.t 124), none⟩,
            ⟨(some 126), .mov (.t 125), none⟩,
            ⟨(some 127), .mov (.t 4), (some (126, true))⟩,
            ⟨(some 128), .mov (.t 0), (some (126, true))⟩,
            ⟨(some 129), .mov (.t 13), (some (126, true))⟩,
            ⟨(some 130), .idxS (.many 2) (.t 128) (.t 129), (some (126, true))⟩,
            ⟨(some 131), .load (.many 2) (.t 130), (some (126, true))⟩,
            ⟨(some 132), .mov (.t 0), (some (126, true))⟩,
            ⟨(some 133), .mov (.t 1), (some (126, true))⟩,
            ⟨(some 134), .idxS (.many 2) (.t 132) (.t 133), (some (126, true))⟩,
            ⟨(some 135), .load (.many 2) (.t 134), (some (126, true))⟩,
            ⟨(some 136), .call .auto false (.t 127) [.t 131, .t 135], (some (126, true))⟩,
            ⟨(some 137), .bin .lss 0 (.t 136) (.c (.int .i64 0)), (some (126, true))⟩,
            ⟨(some 138), .un .not (.t 137), (some (126, true))⟩,
            ⟨(some 139), .pick (.t 126) (.t 138) (.c (.bool false)), none⟩] true [0, 1, 4, 12, 13, 139])
          (.cond (.t 139)
           .skip
           (.exit 8)
           [0, 1, 4, 12, 13]))
         (.block 9
          (.region [] [] [
            ⟨(some 140), .mov (.t 13), none⟩,
            ⟨(some 141), .bin .sub 0 (.t 140) (.c (.int .i64 1)), none⟩,
            ⟨(some 13), .mov (.t 141), none⟩] false [0, 1, 4, 12, 13])
          [0, 1, 4, 12, 13]))
        [0, 1, 4, 12, 13])
       [0, 1, 4, 12, 13])
     (.seq
      (.seq
       (.region [] [] [
         ⟨(some 142), .mov (.t 12), none⟩,
         ⟨(some 143), .mov (.t 13), none⟩,
         ⟨(some 144), .bin .gtr 0 (.t 142) (.t 143), none⟩] false [0, 1, 4, 12, 13, 144])
       (.cond (.t 144)
        (.exit 4)
        .skip
        [0, 1, 4, 12, 13]))
     (.seq
      (.region [] [] [
        ⟨(some 145), .mov (.t 0), none⟩,
        ⟨(some 146), .mov (.t 12), none⟩,
        ⟨(some 147), .mov (.t 0), none⟩,
        ⟨(some 148), .mov (.t 13), none⟩,
        ⟨(some 149), .mov (.t 0), none⟩,
        ⟨(some 150), .mov (.t 13), none⟩,
        ⟨(some 151), .idxS (.many 2) (.t 149) (.t 150), none⟩,
        ⟨(some 152), .load (.many 2) (.t 151), none⟩,
        ⟨(some 153), .mov (.t 0), none⟩,
        ⟨(some 154), .mov (.t 12), none⟩,
        ⟨(some 155), .idxS (.many 2) (.t 153) (.t 154), none⟩,
        ⟨(some 156), .load (.many 2) (.t 155), none⟩,
        ⟨(some 157), .idxS (.many 2) (.t 145) (.t 146), none⟩,
        ⟨none, .store 2 (.t 157) (.t 152), none⟩,
        ⟨(some 158), .idxS (.many 2) (.t 147) (.t 148), none⟩,
        ⟨none, .store 2 (.t 158) (.t 156), none⟩] true [0, 1, 4, 12, 13])
     (.seq
      (.region [] [] [
        ⟨(some 159), .mov (.t 12), none⟩,
        ⟨(some 160), .bin .add 0 (.t 159) (.c (.int .i64 1)), none⟩,
        ⟨(some 12), .mov (.t 160), none⟩] false [0, 1, 4, 12, 13])
      (.region [] [] [
        ⟨(some 161), .mov (.t 13), none⟩,
        ⟨(some 162), .bin .sub 0 (.t 161) (.c (.int .i64 1)), none⟩,
        ⟨(some 13), .mov (.t 162), none⟩] false [0, 1, 4, 12, 13]))))))
     [0, 1, 4, 12, 13])
    [0, 1, 4, 12, 13])
   [0, 1, 13])
 (.seq
  (.region [] [] [
    ⟨(some 163), .mov (.t 0), none⟩,
    ⟨(some 164), .mov (.t 13), none⟩,
    ⟨(some 165), .mov (.t 0), none⟩,
    ⟨(some 166), .mov (.t 1), none⟩,
    ⟨(some 167), .mov (.t 0), none⟩,
    ⟨(some 168), .mov (.t 1), none⟩,
    ⟨(some 169), .idxS (.many 2) (.t 167) (.t 168), none⟩,
    ⟨(some 170), .load (.many 2) (.t 169), none⟩,
    ⟨(some 171), .mov (.t 0), none⟩,
    ⟨(some 172), .mov (.t 13), none⟩,
    ⟨(some 173), .idxS (.many 2) (.t 171) (.t 172), none⟩,
    ⟨(some 174), .load (.many 2) (.t 173), none⟩,
    ⟨(some 175), .idxS (.many 2) (.t 163) (.t 164), none⟩,
    ⟨none, .store 2 (.t 175) (.t 170), none⟩,
    ⟨(some 176), .idxS (.many 2) (.t 165) (.t 166), none⟩,
    ⟨none, .store 2 (.t 176) (.t 174), none⟩] true [13])
 (.seq
  (.region [] [] [
    ⟨(some 177), .mov (.t 13), none⟩,
    ⟨(some 10), .mov (.t 177), none⟩,
    ⟨(some 11), .mov (.c (.bool false)), none⟩] false [10, 11])
  .ret)))))))))))),
 [.t 10, .t 11]⟩
/-- math/bits.Len32 -/
def a146 : AFunc := ⟨
 (.seq
  (.region [] [] [
    ⟨(some 2), .mov (.c (.int .i64 0)), none⟩] false [0, 2])
 (.seq
  (.seq
   (.region [] [] [
     ⟨(some 3), .mov (.t 0), none⟩,
     ⟨(some 4), .bin .geq 0 (.t 3) (.c (.int .u32 65536)), none⟩] false [0, 2, 4])
   (.cond (.t 4)
    (.seq
     (.region [] [] [
       ⟨(some 5), .mov (.t 0), none⟩,
       ⟨(some 6), .bin .shr 0 (.t 5) (.c (.int .u64 16)), none⟩,
       ⟨(some 0), .mov (.t 6), none⟩] false [0])
     (.region [] [] [
       ⟨(some 2), .mov (.c (.int .i64 16)), none⟩] false [0, 2]))
    .skip
    [0, 2]))
 (.seq
  (.seq
   (.region [] [] [
     ⟨(some 7), .mov (.t 0), none⟩,
     ⟨(some 8), .bin .geq 0 (.t 7) (.c (.int .u32 256)), none⟩] false [0, 2, 8])
   (.cond (.t 8)
    (.seq
     (.region [] [] [
       ⟨(some 9), .mov (.t 0), none⟩,
       ⟨(some 10), .bin .shr 0 (.t 9) (.c (.int .u64 8)), none⟩,
       ⟨(some 0), .mov (.t 10), none⟩] false [0, 2])
     (.region [] [] [
       ⟨(some 11), .mov (.t 2), none⟩,
       ⟨(some 12), .bin .add 0 (.t 11) (.c (.int .i64 8)), none⟩,
       ⟨(some 2), .mov (.t 12), none⟩] false [0, 2]))
    .skip
    [0, 2]))
 (.seq
  (.region [] [] [
    ⟨(some 13), .mov (.t 2), none⟩,
    ⟨(some 14), .mov (.t 0), none⟩,
    ⟨(some 15), .conv .u8 (.t 14), none⟩,
    ⟨(some 16), .idxStr (.c (.str ⟨#[0, 1, 2, 2, 3, 3, 3, 3, 4, 4, 4, 4, 4, 4, 4, 4, 5, 5, 5, 5, 5, 5, 5, 5, 5, 5, 5, 5, 5, 5, 5, 5, 6, 6, 6, 6, 6, 6, 6, 6, 6, 6, 6, 6, 6, 6, 6, 6, 6, 6, 6, 6, 6, 6, 6, 6, 6, 6, 6, 6, 6, 6, 6, 6, 7, 7, 7, 7, 7, 7, 7, 7, 7, 7, 7, 7, 7, 7, 7, 7, 7, 7, 7, 7, 7, 7, 7, 7, 7, 7, 7, 7, 7, 7, 7, 7, 7, 7, 7, 7, 7, 7, 7, 7, 7, 7, 7, 7, 7, 7, 7, 7, 7, 7, 7, 7, 7, 7, 7, 7, 7, 7, 7, 7, 7, 7, 7, 7, 8, 8, 8, 8, 8, 8, 8, 8, 8, 8, 8, 8, 8, 8, 8, 8, 8, 8, 8, 8, 8, 8, 8, 8, 8, 8, 8, 8, 8, 8, 8, 8, 8, 8, 8, 8, 8, 8, 8, 8, 8, 8, 8, 8, 8, 8, 8, 8, 8, 8, 8, 8, 8, 8, 8, 8, 8, 8, 8, 8, 8, 8, 8, 8, 8, 8, 8, 8, 8, 8, 8, 8, 8, 8, 8, 8, 8, 8, 8, 8, 8, 8, 8, 8, 8, 8, 8, 8, 8, 8, 8, 8, 8, 8, 8, 8, 8, 8, 8, 8, 8, 8, 8, 8, 8, 8, 8, 8, 8, 8, 8, 8, 8, 8, 8, 8, 8, 8, 8, 8, 8, 8, 8, 8, 8, 8, 8, 8]⟩)) (.t 15), none⟩,
    ⟨(some 17), .conv .i64 (.t 16), none⟩,
    ⟨(some 18), .bin .add 0 (.t 13) (.t 17), none⟩,
    ⟨(some 2), .mov (.t 18), none⟩] false [2])
  .ret)))),
 [.t 2]⟩
/-- math/bits.Len64 -/
def a147 : AFunc := ⟨
 (.seq
  (.region [] [] [
    ⟨(some 2), .mov (.c (.int .i64 0)), none⟩] false [0, 2])
 (.seq
  (.seq
   (.region [] [] [
     ⟨(some 3), .mov (.t 0), none⟩,
     ⟨(some 4), .bin .geq 0 (.t 3) (.c (.int .u64 4294967296)), none⟩] false [0, 2, 4])
   (.cond (.t 4)
    (.seq
     (.region [] [] [
       ⟨(some 5), .mov (.t 0), none⟩,
       ⟨(some 6), .bin .shr 0 (.t 5) (.c (.int .u64 32)), none⟩,
       ⟨(some 0), .mov (.t 6), none⟩] false [0])
     (.region [] [] [
       ⟨(some 2), .mov (.c (.int .i64 32)), none⟩] false [0, 2]))
    .skip
    [0, 2]))
 (.seq
  (.seq
   (.region [] [] [
     ⟨(some 7), .mov (.t 0), none⟩,
     ⟨(some 8), .bin .geq 0 (.t 7) (.c (.int .u64 65536)), none⟩] false [0, 2, 8])
   (.cond (.t 8)
    (.seq
     (.region [] [] [
       ⟨(some 9), .mov (.t 0), none⟩,
       ⟨(some 10), .bin .shr 0 (.t 9) (.c (.int .u64 16)), none⟩,
       ⟨(some 0), .mov (.t 10), none⟩] false [0, 2])
     (.region [] [] [
       ⟨(some 11), .mov (.t 2), none⟩,
       ⟨(some 12), .bin .add 0 (.t 11) (.c (.int .i64 16)), none⟩,
       ⟨(some 2), .mov (.t 12), none⟩] false [0, 2]))
    .skip
    [0, 2]))
 (.seq
  (.seq
   (.region [] [] [
     ⟨(some 13), .mov (.t 0), none⟩,
     ⟨(some 14), .bin .geq 0 (.t 13) (.c (.int .u64 256)), none⟩] false [0, 2, 14])
   (.cond (.t 14)
    (.seq
     (.region [] [] [
       ⟨(some 15), .mov (.t 0), none⟩,
       ⟨(some 16), .bin .shr 0 (.t 15) (.c (.int .u64 8)), none⟩,
       ⟨(some 0), .mov (.t 16), none⟩] false [0, 2])
     (.region [] [] [
       ⟨(some 17), .mov (.t 2), none⟩,
       ⟨(some 18), .bin .add 0 (.t 17) (.c (.int .i64 8)), none⟩,
       ⟨(some 2), .mov (.t 18), none⟩] false [0, 2]))
    .skip
    [0, 2]))
 (.seq
  (.region [] [] [
    ⟨(some 19), .mov (.t 2), none⟩,
    ⟨(some 20), .mov (.t 0), none⟩,
    ⟨(some 21), .conv .u8 (.t 20), none⟩,
    ⟨(some 22), .idxStr (.c (.str ⟨#[0, 1, 2, 2, 3, 3, 3, 3, 4, 4, 4, 4, 4, 4, 4, 4, 5, 5, 5, 5, 5, 5, 5, 5, 5, 5, 5, 5, 5, 5, 5, 5, 6, 6, 6, 6, 6, 6, 6, 6, 6, 6, 6, 6, 6, 6, 6, 6, 6, 6, 6, 6, 6, 6, 6, 6, 6, 6, 6, 6, 6, 6, 6, 6, 7, 7, 7, 7, 7, 7, 7, 7, 7, 7, 7, 7, 7, 7, 7, 7, 7, 7, 7, 7, 7, 7, 7, 7, 7, 7, 7, 7, 7, 7, 7, 7, 7, 7, 7, 7, 7, 7, 7, 7, 7, 7, 7, 7, 7, 7, 7, 7, 7, 7, 7, 7, 7, 7, 7, 7, 7, 7, 7, 7, 7, 7, 7, 7, 8, 8, 8, 8, 8, 8, 8, 8, 8, 8, 8, 8, 8, 8, 8, 8, 8, 8, 8, 8, 8, 8, 8, 8, 8, 8, 8, 8, 8, 8, 8, 8, 8, 8, 8, 8, 8, 8, 8, 8, 8, 8, 8, 8, 8, 8, 8, 8, 8, 8, 8, 8, 8, 8, 8, 8, 8, 8, 8, 8, 8, 8, 8, 8, 8, 8, 8, 8, 8, 8, 8, 8, 8, 8, 8, 8, 8, 8, 8, 8, 8, 8, 8, 8, 8, 8, 8, 8, 8, 8, 8, 8, 8, 8, 8, 8, 8, 8, 8, 8, 8, 8, 8, 8, 8, 8, 8, 8, 8, 8, 8, 8, 8, 8, 8, 8, 8, 8, 8, 8, 8, 8, 8, 8, 8, 8, 8, 8]⟩)) (.t 21), none⟩,
    ⟨(some 23), .conv .i64 (.t 22), none⟩,
    ⟨(some 24), .bin .add 0 (.t 19) (.t 23), none⟩,
    ⟨(some 2), .mov (.t 24), none⟩] false [2])
  .ret))))),
 [.t 2]⟩
/-- cmp.Compare[int64] -/
def a148 : AFunc := ⟨
 (.seq
  (.region [] [] [
    ⟨(some 4), .mov (.c (.int .i64 0)), none⟩] false [0, 1])
 (.seq
  (.region [] [] [
    ⟨(some 7), .mov (.t 0), none⟩,
    ⟨(some 8), .call .pure false (.f 196) [.t 7], none⟩,
    ⟨(some 5), .mov (.t 8), none⟩] false [0, 1, 5])
 (.seq
  (.region [] [] [
    ⟨(some 9), .mov (.t 1), none⟩,
    ⟨(some 10), .call .pure false (.f 196) [.t 9], none⟩,
    ⟨(some 6), .mov (.t 10), none⟩] false [0, 1, 5, 6])
 (.seq
  (.seq
   (.region [] [] [
     ⟨(some 11), .mov (.t 5), none⟩] false [0, 1, 6, 11])
   (.cond (.t 11)
    (.seq
     (.seq
      (.region [] [] [
        ⟨(some 12), .mov (.t 6), none⟩] false [12])
      (.cond (.t 12)
       (.seq
        (.region [] [] [
          ⟨(some 4), .mov (.c (.int .i64 0)), none⟩] false [4])
        .ret)
       .skip
       []))
    (.seq
     (.region [] [] [
       ⟨(some 4), .mov (.c (.int .i64 (-1))), none⟩] false [4])
     .ret))
    .skip
    [0, 1, 6]))
 (.seq
  (.seq
   (.region [] [] [
     ⟨(some 13), .mov (.t 6), none⟩] false [0, 1, 13])
   (.cond (.t 13)
    (.seq
     (.region [] [] [
       ⟨(some 4), .mov (.c (.int .i64 1)), none⟩] false [4])
     .ret)
    .skip
    [0, 1]))
 (.seq
  (.seq
   (.region [] [] [
     ⟨(some 14), .mov (.t 0), none⟩,
     ⟨(some 15), .mov (.t 1), none⟩,
     ⟨(some 16), .bin .lss 0 (.t 14) (.t 15), none⟩] false [0, 1, 16])
   (.cond (.t 16)
    (.seq
     (.region [] [] [
       ⟨(some 4), .mov (.c (.int .i64 (-1))), none⟩] false [4])
     .ret)
    .skip
    [0, 1]))
 (.seq
  (.seq
   (.region [] [] [
     ⟨(some 17), .mov (.t 0), none⟩,
     ⟨(some 18), .mov (.t 1), none⟩,
     ⟨(some 19), .bin .gtr 0 (.t 17) (.t 18), none⟩] false [19])
   (.cond (.t 19)
    (.seq
     (.region [] [] [
       ⟨(some 4), .mov (.c (.int .i64 1)), none⟩] false [4])
     .ret)
    .skip
    []))
 (.seq
  (.region [] [] [
    ⟨(some 4), .mov (.c (.int .i64 0)), none⟩] false [4])
  .ret)))))))),
 [.t 4]⟩
/-- (spokeshave/profile.segment).has -/
def a157 : AFunc := ⟨
 (.seq
  (.region [] [] [
    ⟨(some 2), .box (.t 0), none⟩,
    ⟨(some 3), .box (.t 1), none⟩,
    ⟨(some 4), .mov (.c (.bool false)), none⟩] false [2, 3])
 (.seq
  (.region [] [] [
    ⟨(some 7), .idxA 2 (.many 2) (.t 2) (.c (.int .i64 0)), none⟩,
    ⟨(some 8), .load (.many 2) (.t 7), none⟩,
    ⟨(some 9), .load (.many 2) (.t 3), none⟩,
    ⟨(some 10), .call .pure false (.f 97) [.t 8, .t 9], none⟩,
    ⟨(some 11), .idxA 2 (.many 2) (.t 2) (.c (.int .i64 1)), none⟩,
    ⟨(some 12), .load (.many 2) (.t 11), none⟩,
    ⟨(some 13), .load (.many 2) (.t 3), none⟩,
    ⟨(some 14), .call .pure false (.f 97) [.t 12, .t 13], none⟩,
    ⟨(some 5), .alloc [.int .i64 0, .int .i64 0], none⟩,
    ⟨(some 6), .alloc [.int .i64 0, .int .i64 0], none⟩,
    ⟨none, .storeN 2 (.t 5) (.t 10), none⟩,
    ⟨none, .storeN 2 (.t 6) (.t 14), none⟩] true [5, 6])
 (.seq
  (.region [] [] [
    ⟨(some 15), .load (.many 2) (.t 5), none⟩,
    ⟨(some 16), .load (.many 2) (.t 6), none⟩,
    ⟨(some 17), .call .pure false (.f 96) [.t 15, .t 16], none⟩,
    ⟨(some 18), .bin .eql 0 (.t 17) (.c (.int .i64 0)), none⟩,
    ⟨(some 19), .mov (.t 18), none⟩,
    ⟨(some 20), .idxA 2 .one (.t 5) (.c (.int .i64 0)), (some (19, true))⟩,
    ⟨(some 21), .load .one (.t 20), (some (19, true))⟩,
    ⟨(some 22), .idxA 2 .one (.t 6) (.c (.int .i64 0)), (some (19, true))⟩,
    ⟨(some 23), .load .one (.t 22), (some (19, true))⟩,
    ⟨(some 24), .bin .mul 0 (.t 21) (.t 23), (some (19, true))⟩,
    ⟨(some 25), .idxA 2 .one (.t 5) (.c (.int .i64 1)), (some (19, true))⟩,
    ⟨(some 26), .load .one (.t 25), (some (19, true))⟩,
    ⟨(some 27), .idxA 2 .one (.t 6) (.c (.int .i64 1)), (some (19, true))⟩,
    ⟨(some 28), .load .one (.t 27), (some (19, true))⟩,
    ⟨(some 29), .bin .mul 0 (.t 26) (.t 28), (some (19, true))⟩,
    ⟨(some 30), .bin .add 0 (.t 24) (.t 29), (some (19, true))⟩,
    ⟨(some 31), .bin .lss 0 (.t 30) (.c (.int .i64 0)), (some (19, true))⟩,
    ⟨(some 32), .pick (.t 19) (.t 31) (.c (.bool false)), none⟩,
    ⟨(some 4), .mov (.t 32), none⟩] false [4])
  .ret))),
 [.t 4]⟩
/-- (spokeshave/profile.segment).crosses -/
def a158 : AFunc := ⟨
 (.seq
  (.region [] [] [
    ⟨(some 2), .box (.t 0), none⟩,
    ⟨(some 3), .box (.t 1), none⟩,
    ⟨(some 4), .mov (.c (.bool false)), none⟩] false [2, 3])
 (.seq
  (.region [] [] [
    ⟨(some 5), .mov (.f 197), none⟩] false [2, 3, 5])
 (.seq
  (.region [] [] [
    ⟨(some 6), .mov (.t 5), none⟩,
    ⟨(some 7), .load (.many 4) (.t 2), none⟩,
    ⟨(some 8), .idxA 2 (.many 2) (.t 3) (.c (.int .i64 0)), none⟩,
    ⟨(some 9), .load (.many 2) (.t 8), none⟩,
    ⟨(some 10), .call .auto false (.t 6) [.t 7, .t 9], none⟩,
    ⟨(some 11), .mov (.t 5), none⟩,
    ⟨(some 12), .load (.many 4) (.t 2), none⟩,
    ⟨(some 13), .idxA 2 (.many 2) (.t 3) (.c (.int .i64 1)), none⟩,
    ⟨(some 14), .load (.many 2) (.t 13), none⟩,
    ⟨(some 15), .call .auto false (.t 11) [.t 12, .t 14], none⟩,
    ⟨(some 16), .bin .mul 0 (.t 10) (.t 15), none⟩,
    ⟨(some 17), .bin .lss 0 (.t 16) (.c (.int .i64 0)), none⟩,
    ⟨(some 18), .mov (.t 17), none⟩,
    ⟨(some 19), .mov (.t 5), (some (18, true))⟩,
    ⟨(some 20), .load (.many 4) (.t 3), (some (18, true))⟩,
    ⟨(some 21), .idxA 2 (.many 2) (.t 2) (.c (.int .i64 0)), (some (18, true))⟩,
    ⟨(some 22), .load (.many 2) (.t 21), (some (18, true))⟩,
    ⟨(some 23), .call .auto false (.t 19) [.t 20, .t 22], (some (18, true))⟩,
    ⟨(some 24), .mov (.t 5), (some (18, true))⟩,
    ⟨(some 25), .load (.many 4) (.t 3), (some (18, true))⟩,
    ⟨(some 26), .idxA 2 (.many 2) (.t 2) (.c (.int .i64 1)), (some (18, true))⟩,
    ⟨(some 27), .load (.many 2) (.t 26), (some (18, true))⟩,
    ⟨(some 28), .call .auto false (.t 24) [.t 25, .t 27], (some (18, true))⟩,
    ⟨(some 29), .bin .mul 0 (.t 23) (.t 28), (some (18, true))⟩,
    ⟨(some 30), .bin .lss 0 (.t 29) (.c (.int .i64 0)), (some (18, true))⟩,
    ⟨(some 31), .pick (.t 18) (.t 30) (.c (.bool false)), none⟩,
    ⟨(some 4), .mov (.t 31), none⟩] true [4])
  .ret))),
 [.t 4]⟩
/-- (spokeshave/profile.net).next -/
def a159 : AFunc := ⟨
 (.seq
  (.region [] [] [
    ⟨(some 3), .box (.t 0), none⟩,
    ⟨(some 4), .box (.t 1), none⟩,
    ⟨(some 5), .box (.t 2), none⟩,
    ⟨(some 6), .alloc [.int .i64 0, .int .i64 0], none⟩] false [3, 4, 5, 6])
 (.seq
  (.region [] [] [
    ⟨(some 15), .fldA 0 .one (.t 3), none⟩,
    ⟨(some 16), .load .one (.t 15), none⟩,
    ⟨(some 17), .load (.many 2) (.t 5), none⟩,
    ⟨(some 18), .look (.slT true []) 2 (.t 16) (.t 17) false, none⟩,
    ⟨(some 7), .mov (.t 18), none⟩] false [4, 5, 6, 7])
 (.seq
  (.region [] [] [
    ⟨(some 19), .mov (.t 7), none⟩,
    ⟨(some 20), .idxS (.many 2) (.t 19) (.c (.int .i64 0)), none⟩,
    ⟨(some 21), .load (.many 2) (.t 20), none⟩,
    ⟨(some 8), .alloc [.int .i64 0, .int .i64 0], none⟩,
    ⟨none, .store 2 (.t 8) (.t 21), none⟩] false [4, 5, 6, 7, 8])
 (.seq
  (.region [] [] [
    ⟨(some 22), .load (.many 2) (.t 4), none⟩,
    ⟨(some 23), .load (.many 2) (.t 5), none⟩,
    ⟨(some 24), .call .pure false (.f 97) [.t 22, .t 23], none⟩,
    ⟨(some 9), .alloc [.int .i64 0, .int .i64 0], none⟩,
    ⟨none, .store 2 (.t 9) (.t 24), none⟩] false [5, 6, 7, 8, 9])
 (.seq
  (.region [] [] [
    ⟨(some 25), .mkFn 198 [] [.t 5, .t 9], none⟩,
    ⟨(some 10), .mov (.t 25), none⟩] false [5, 6, 7, 8, 10])
 (.seq
  (.seq
   (.region [] [] [
     ⟨(some 26), .mov (.t 7), none⟩,
     ⟨(some 27), .slice (.many 2) (.t 26) (some (.c (.int .i64 1))) none none, none⟩,
     ⟨(some 28), .len (.t 27), none⟩,
     ⟨(some 29), .mov (.c (.int .i64 0)), none⟩] false [5, 6, 8, 10, 27, 28, 29])
   (.block 0
    (.loop
     (.seq
      (.region [] [] [
        ⟨(some 30), .bin .lss 0 (.t 29) (.t 28), none⟩] false [5, 6, 8, 10, 27, 28, 29, 30])
     (.seq
      (.cond (.t 30)
       .skip
       (.exit 0)
       [5, 6, 8, 10, 27, 28, 29])
     (.seq
      (.block 1
       (.seq
        (.region [] [] [
          ⟨(some 31), .idxS (.many 2) (.t 27) (.t 29), none⟩,
          ⟨(some 32), .load (.many 2) (.t 31), none⟩,
          ⟨(some 12), .alloc [.int .i64 0, .int .i64 0], none⟩,
          ⟨none, .store 2 (.t 12) (.t 32), none⟩] false [5, 6, 8, 10, 12, 27, 28, 29])
       (.seq
        (.region [] [] [
          ⟨(some 33), .mov (.t 10), none⟩,
          ⟨(some 34), .load (.many 2) (.t 12), none⟩,
          ⟨(some 35), .call .auto false (.t 33) [.t 34], none⟩,
          ⟨(some 36), .mov (.t 10), none⟩,
          ⟨(some 37), .load (.many 2) (.t 8), none⟩,
          ⟨(some 38), .call .auto false (.t 36) [.t 37], none⟩,
          ⟨(some 13), .mov (.t 35), none⟩,
          ⟨(some 14), .mov (.t 38), none⟩] true [5, 6, 8, 10, 12, 13, 14, 27, 28, 29])
       (.seq
        (.region [] [] [
          ⟨(some 39), .mov (.t 13), none⟩,
          ⟨(some 40), .mov (.t 39), none⟩,
          ⟨(some 41), .mov (.t 14), (some (40, true))⟩,
          ⟨(some 42), .un .not (.t 41), (some (40, true))⟩,
          ⟨(some 43), .pick (.t 40) (.t 42) (.c (.bool false)), none⟩,
          ⟨(some 44), .mov (.t 43), none⟩,
          ⟨(some 45), .mov (.t 13), (some (44, false))⟩,
          ⟨(some 46), .mov (.t 14), (some (44, false))⟩,
          ⟨(some 47), .bin .eql 1 (.t 45) (.t 46), (some (44, false))⟩,
          ⟨(some 48), .mov (.t 47), (some (44, false))⟩,
          ⟨(some 49), .load (.many 2) (.t 12), (some (48, true))⟩,
          ⟨(some 50), .load (.many 2) (.t 5), (some (48, true))⟩,
          ⟨(some 51), .call .pure false (.f 97) [.t 49, .t 50], (some (48, true))⟩,
          ⟨(some 52), .load (.many 2) (.t 8), (some (48, true))⟩,
          ⟨(some 53), .load (.many 2) (.t 5), (some (48, true))⟩,
          ⟨(some 54), .call .pure false (.f 97) [.t 52, .t 53], (some (48, true))⟩,
          ⟨(some 55), .call .pure false (.f 199) [.t 51, .t 54], (some (48, true))⟩,
          ⟨(some 56), .bin .gtr 0 (.t 55) (.c (.int .i64 0)), (some (48, true))⟩,
          ⟨(some 57), .pick (.t 48) (.t 56) (.c (.bool false)), (some (44, false))⟩,
          ⟨(some 58), .pick (.t 44) (.c (.bool true)) (.t 57), none⟩] true [5, 6, 8, 10, 12, 27, 28, 29, 58])
        (.cond (.t 58)
         (.region [] [] [
           ⟨(some 59), .load (.many 2) (.t 12), none⟩,
           ⟨none, .store 2 (.t 8) (.t 59), none⟩] false [5, 6, 8, 10, 27, 28, 29])
         .skip
         [5, 6, 8, 10, 27, 28, 29]))))
       [5, 6, 8, 10, 27, 28, 29])
      (.region [] [] [
        ⟨(some 60), .bin .add 0 (.t 29) (.c (.int .i64 1)), none⟩,
        ⟨(some 29), .mov (.t 60), none⟩] false [5, 6, 8, 10, 27, 28, 29]))))
     [5, 6, 8, 10, 27, 28, 29])
    [6, 8]))
 (.seq
  (.region [] [] [
    ⟨(some 61), .load (.many 2) (.t 8), none⟩,
    ⟨none, .store 2 (.t 6) (.t 61), none⟩] false [6])
  .ret))))))),
 [.cell 6 (.many 2)]⟩
/-- slices.DeleteFunc[[]spokeshave/profile.Spot,spokeshave/profile.Spot] -/
def a160 : AFunc := ⟨
 (.seq
  (.region [] [] [
    ⟨(some 4), .nilv (.many 2), none⟩] false [0, 1])
 (.seq
  (.region [] [] [
    ⟨(some 8), .mov (.t 0), none⟩,
    ⟨(some 9), .mov (.t 1), none⟩,
    ⟨(some 10), .call .inl false (.f 92) [.t 8, .t 9], none⟩,
    ⟨(some 5), .mov (.t 10), none⟩] false [0, 1, 5])
 (.seq
  (.seq
   (.region [] [] [
     ⟨(some 11), .mov (.t 5), none⟩,
     ⟨(some 12), .bin .eql 0 (.t 11) (.c (.int .i64 (-1))), none⟩] false [0, 1, 5, 12])
   (.cond (.t 12)
    (.seq
     (.region [] [] [
       ⟨(some 13), .mov (.t 0), none⟩,
       ⟨(some 4), .mov (.t 13), none⟩] false [4])
     .ret)
    .skip
    [0, 1, 5]))
 (.seq
  (.seq
   (.region [] [] [
     ⟨(some 14), .mov (.t 5), none⟩,
     ⟨(some 15), .bin .add 0 (.t 14) (.c (.int .i64 1)), none⟩,
     ⟨(some 6), .mov (.t 15), none⟩] false [0, 1, 5, 6])
   (.block 0
    (.loop
     (.seq
      (.seq
       (.region [] [] [
         ⟨(some 16), .mov (.t 6), none⟩,
         ⟨(some 17), .mov (.t 0), none⟩,
         ⟨(some 18), .len (.t 17), none⟩,
         ⟨(some 19), .bin .lss 0 (.t 16) (.t 18), none⟩] false [0, 1, 5, 6, 19])
       (.cond (.t 19)
        .skip
        (.exit 0)
        [0, 1, 5, 6]))
     (.seq
      (.block 1
       (.seq
        (.region [] [] [
          ⟨(some 22), .mov (.t 0), none⟩,
          ⟨(some 23), .mov (.t 6), none⟩,
          ⟨(some 24), .idxS (.many 2) (.t 22) (.t 23), none⟩,
          ⟨(some 25), .load (.many 2) (.t 24), none⟩,
          ⟨(some 7), .alloc [.int .i64 0, .int .i64 0], none⟩,
          ⟨none, .store 2 (.t 7) (.t 25), none⟩] false [0, 1, 5, 6, 7])
       (.seq
        (.region [] [] [
          ⟨(some 26), .mov (.t 1), none⟩,
          ⟨(some 27), .load (.many 2) (.t 7), none⟩,
          ⟨(some 28), .call .auto false (.t 26) [.t 27], none⟩,
          ⟨(some 29), .un .not (.t 28), none⟩] false [0, 1, 5, 6, 7, 29])
        (.cond (.t 29)
         (.seq
          (.region [] [] [
            ⟨(some 30), .mov (.t 0), none⟩,
            ⟨(some 31), .mov (.t 5), none⟩,
            ⟨(some 32), .load (.many 2) (.t 7), none⟩,
            ⟨(some 33), .idxS (.many 2) (.t 30) (.t 31), none⟩,
            ⟨none, .store 2 (.t 33) (.t 32), none⟩] false [0, 1, 5, 6])
          (.region [] [] [
            ⟨(some 34), .mov (.t 5), none⟩,
            ⟨(some 35), .bin .add 0 (.t 34) (.c (.int .i64 1)), none⟩,
            ⟨(some 5), .mov (.t 35), none⟩] false [0, 1, 5, 6]))
         .skip
         [0, 1, 5, 6])))
       [0, 1, 5, 6])
      (.region [] [] [
        ⟨(some 20), .mov (.t 6), none⟩,
        ⟨(some 21), .bin .add 0 (.t 20) (.c (.int .i64 1)), none⟩,
        ⟨(some 6), .mov (.t 21), none⟩] false [0, 1, 5, 6])))
     [0, 1, 5, 6])
    [0, 5]))
 (.seq
  (.region [] [] [
    ⟨(some 36), .mov (.t 0), none⟩,
    ⟨(some 37), .mov (.t 5), none⟩,
    ⟨(some 38), .slice (.many 2) (.t 36) (some (.t 37)) none none, none⟩,
    ⟨none, .clear [.int .i64 0, .int .i64 0] (.t 38), none⟩] false [0, 5])
 (.seq
  (.region [] [] [
    ⟨(some 39), .mov (.t 0), none⟩,
    ⟨(some 40), .mov (.t 5), none⟩,
    ⟨(some 41), .slice (.many 2) (.t 39) none (some (.t 40)) none, none⟩,
    ⟨(some 4), .mov (.t 41), none⟩] false [4])
  .ret)))))),
 [.t 4]⟩
/-- (spokeshave/profile.net).begun$1 -/
def a161 : AFunc := ⟨
 (.seq
  (.region [] [] [
    ⟨(some 2), .box (.t 0), none⟩,
    ⟨(some 3), .mov (.c (.bool false)), none⟩] false [1, 2])
 (.seq
  (.region [] [] [
    ⟨(some 4), .load (.many 2) (.t 1), none⟩,
    ⟨(some 5), .load (.many 2) (.t 2), none⟩,
    ⟨(some 6), .call .pure false (.f 162) [.t 4, .t 5], none⟩,
    ⟨(some 7), .un .not (.t 6), none⟩,
    ⟨(some 3), .mov (.t 7), none⟩] false [3])
  .ret)),
 [.t 3]⟩
/-- (spokeshave/profile.net).corner -/
def a162 : AFunc := ⟨
 (.seq
  (.region [] [] [
    ⟨(some 2), .box (.t 0), none⟩,
    ⟨(some 3), .box (.t 1), none⟩,
    ⟨(some 4), .mov (.c (.bool false)), none⟩] false [2, 3])
 (.seq
  (.region [] [] [
    ⟨(some 5), .fldA 0 .one (.t 2), none⟩,
    ⟨(some 6), .load .one (.t 5), none⟩,
    ⟨(some 7), .load (.many 2) (.t 3), none⟩,
    ⟨(some 8), .look (.slT true []) 2 (.t 6) (.t 7) false, none⟩,
    ⟨(some 9), .len (.t 8), none⟩,
    ⟨(some 10), .bin .neq 0 (.t 9) (.c (.int .i64 1)), none⟩,
    ⟨(some 11), .mov (.t 10), none⟩,
    ⟨(some 12), .fldA 1 .one (.t 2), (some (11, false))⟩,
    ⟨(some 13), .load .one (.t 12), (some (11, false))⟩,
    ⟨(some 14), .load (.many 2) (.t 3), (some (11, false))⟩,
    ⟨(some 15), .look (.slT true []) 2 (.t 13) (.t 14) false, (some (11, false))⟩,
    ⟨(some 16), .idxS (.many 2) (.t 15) (.c (.int .i64 0)), (some (11, false))⟩,
    ⟨(some 17), .load (.many 2) (.t 16), (some (11, false))⟩,
    ⟨(some 18), .load (.many 2) (.t 3), (some (11, false))⟩,
    ⟨(some 19), .fldA 0 .one (.t 2), (some (11, false))⟩,
    ⟨(some 20), .load .one (.t 19), (some (11, false))⟩,
    ⟨(some 21), .load (.many 2) (.t 3), (some (11, false))⟩,
    ⟨(some 22), .look (.slT true []) 2 (.t 20) (.t 21) false, (some (11, false))⟩,
    ⟨(some 23), .idxS (.many 2) (.t 22) (.c (.int .i64 0)), (some (11, false))⟩,
    ⟨(some 24), .load (.many 2) (.t 23), (some (11, false))⟩,
    ⟨(some 25), .call .pure false (.f 59) [.t 17, .t 18, .t 24], (some (11, false))⟩,
    ⟨(some 26), .bin .neq 0 (.t 25) (.c (.int .i64 0)), (some (11, false))⟩,
    ⟨(some 27), .pick (.t 11) (.c (.bool true)) (.t 26), none⟩,
    ⟨(some 4), .mov (.t 27), none⟩] true [4])
  .ret)),
 [.t 4]⟩
/-- slices.CompareFunc[[]spokeshave/profile.Spot,[]spokeshave/profile.Spot,spokeshave/profile.Spot,spokeshave/profile.Spot] -/
def a163 : AFunc := ⟨
 (.seq
  (.region [] [] [
    ⟨(some 6), .mov (.c (.int .i64 0)), none⟩] false [0, 1, 2])
 (.seq
  (.seq
   (.region [] [] [
     ⟨(some 11), .mov (.t 0), none⟩,
     ⟨(some 12), .len (.t 11), none⟩,
     ⟨(some 13), .mov (.c (.int .i64 0)), none⟩] false [0, 1, 2, 11, 12, 13])
   (.block 0
    (.loop
     (.seq
      (.region [] [] [
        ⟨(some 14), .bin .lss 0 (.t 13) (.t 12), none⟩] false [0, 1, 2, 11, 12, 13, 14])
     (.seq
      (.cond (.t 14)
       .skip
       (.exit 0)
       [0, 1, 2, 11, 12, 13])
     (.seq
      (.block 1
       (.seq
        (.region [] [] [
          ⟨(some 15), .mov (.t 13), none⟩,
          ⟨(some 16), .idxS (.many 2) (.t 11) (.t 13), none⟩,
          ⟨(some 17), .load (.many 2) (.t 16), none⟩,
          ⟨(some 8), .alloc [.int .i64 0, .int .i64 0], none⟩,
          ⟨(some 7), .mov (.t 15), none⟩,
          ⟨none, .store 2 (.t 8) (.t 17), none⟩] false [0, 1, 2, 7, 8, 11, 12, 13])
       (.seq
        (.seq
         (.region [] [] [
           ⟨(some 18), .mov (.t 7), none⟩,
           ⟨(some 19), .mov (.t 1), none⟩,
           ⟨(some 20), .len (.t 19), none⟩,
           ⟨(some 21), .bin .geq 0 (.t 18) (.t 20), none⟩] false [0, 1, 2, 7, 8, 11, 12, 13, 21])
         (.cond (.t 21)
          (.seq
           (.region [] [] [
             ⟨(some 6), .mov (.c (.int .i64 1)), none⟩] false [6])
           .ret)
          .skip
          [0, 1, 2, 7, 8, 11, 12, 13]))
       (.seq
        (.region [] [] [
          ⟨(some 22), .mov (.t 1), none⟩,
          ⟨(some 23), .mov (.t 7), none⟩,
          ⟨(some 24), .idxS (.many 2) (.t 22) (.t 23), none⟩,
          ⟨(some 25), .load (.many 2) (.t 24), none⟩,
          ⟨(some 9), .alloc [.int .i64 0, .int .i64 0], none⟩,
          ⟨none, .store 2 (.t 9) (.t 25), none⟩] false [0, 1, 2, 8, 9, 11, 12, 13])
       (.seq
        (.region [] [] [
          ⟨(some 26), .mov (.t 2), none⟩,
          ⟨(some 27), .load (.many 2) (.t 8), none⟩,
          ⟨(some 28), .load (.many 2) (.t 9), none⟩,
          ⟨(some 29), .call .auto false (.t 26) [.t 27, .t 28], none⟩,
          ⟨(some 10), .mov (.t 29), none⟩] false [0, 1, 2, 10, 11, 12, 13])
       (.seq
        (.region [] [] [
          ⟨(some 30), .mov (.t 10), none⟩,
          ⟨(some 31), .bin .neq 0 (.t 30) (.c (.int .i64 0)), none⟩] false [0, 1, 2, 10, 11, 12, 13, 31])
        (.cond (.t 31)
         (.seq
          (.region [] [] [
            ⟨(some 32), .mov (.t 10), none⟩,
            ⟨(some 6), .mov (.t 32), none⟩] false [6])
          .ret)
         .skip
         [0, 1, 2, 11, 12, 13]))))))
       [0, 1, 2, 11, 12, 13])
      (.region [] [] [
        ⟨(some 33), .bin .add 0 (.t 13) (.c (.int .i64 1)), none⟩,
        ⟨(some 13), .mov (.t 33), none⟩] false [0, 1, 2, 11, 12, 13]))))
     [0, 1, 2, 11, 12, 13])
    [0, 1]))
 (.seq
  (.seq
   (.region [] [] [
     ⟨(some 34), .mov (.t 0), none⟩,
     ⟨(some 35), .len (.t 34), none⟩,
     ⟨(some 36), .mov (.t 1), none⟩,
     ⟨(some 37), .len (.t 36), none⟩,
     ⟨(some 38), .bin .lss 0 (.t 35) (.t 37), none⟩] false [38])
   (.cond (.t 38)
    (.seq
     (.region [] [] [
       ⟨(some 6), .mov (.c (.int .i64 (-1))), none⟩] false [6])
     .ret)
    .skip
    []))
 (.seq
  (.region [] [] [
    ⟨(some 6), .mov (.c (.int .i64 0)), none⟩] false [6])
  .ret)))),
 [.t 6]⟩
/-- slices.SortFunc[[][]spokeshave/profile.Spot,[]spokeshave/profile.Spot] -/
def a164 : AFunc := ⟨
 (.seq
  (.region [] [] [
    ⟨(some 5), .mov (.t 0), none⟩,
    ⟨(some 6), .len (.t 5), none⟩,
    ⟨(some 4), .mov (.t 6), none⟩] false [0, 1, 4])
  (.region [] [] [
    ⟨(some 7), .mov (.t 0), none⟩,
    ⟨(some 8), .mov (.t 4), none⟩,
    ⟨(some 9), .mov (.t 4), none⟩,
    ⟨(some 10), .conv .u64 (.t 9), none⟩,
    ⟨(some 11), .call .pure false (.f 94) [.t 10], none⟩,
    ⟨(some 12), .mov (.t 1), none⟩,
    ⟨(some 13), .call .inl false (.f 200) [.t 7, .c (.int .i64 0), .t 8, .t 11, .t 12], none⟩] false [])),
 []⟩
/-- spokeshave/profile.sorted$1 -/
def a165 : AFunc := ⟨
 (.seq
  (.region [] [] [
    ⟨(some 4), .mov (.c (.int .i64 0)), none⟩] false [0, 1])
 (.seq
  (.region [] [] [
    ⟨(some 5), .mov (.t 0), none⟩,
    ⟨(some 6), .mov (.t 1), none⟩,
    ⟨(some 7), .call .pure false (.f 163) [.t 5, .t 6, .f 56], none⟩,
    ⟨(some 4), .mov (.t 7), none⟩] false [4])
  .ret)),
 [.t 4]⟩
/-- spokeshave/num.Gcd -/
def a166 : AFunc := ⟨
 (.seq
  (.region [] [] [
    ⟨(some 2), .box (.t 0), none⟩,
    ⟨(some 3), .box (.t 1), none⟩,
    ⟨(some 4), .alloc [.bool false, .slT true []], none⟩] false [2, 3, 4])
 (.seq
  (.region [] [] [
    ⟨(some 13), .load (.many 2) (.t 2), none⟩,
    ⟨(some 14), .call .pure false (.f 201) [.t 13], none⟩,
    ⟨(some 15), .load (.many 2) (.t 3), none⟩,
    ⟨(some 16), .call .pure false (.f 201) [.t 15], none⟩,
    ⟨(some 5), .alloc [.bool false, .slT true []], none⟩,
    ⟨(some 6), .alloc [.bool false, .slT true []], none⟩,
    ⟨none, .storeN 2 (.t 5) (.t 14), none⟩,
    ⟨none, .storeN 2 (.t 6) (.t 16), none⟩] true [4, 5, 6])
 (.seq
  (.seq
   (.region [] [] [
     ⟨(some 17), .load (.many 2) (.t 5), none⟩,
     ⟨(some 18), .call .pure false (.f 167) [.t 17], none⟩,
     ⟨(some 19), .bin .eql 0 (.t 18) (.c (.int .i64 0)), none⟩] false [4, 5, 6, 19])
   (.cond (.t 19)
    (.seq
     (.region [] [] [
       ⟨(some 20), .load (.many 2) (.t 6), none⟩,
       ⟨none, .store 2 (.t 4) (.t 20), none⟩] false [4])
     .ret)
    .skip
    [4, 5, 6]))
 (.seq
  (.seq
   (.region [] [] [
     ⟨(some 21), .load (.many 2) (.t 6), none⟩,
     ⟨(some 22), .call .pure false (.f 167) [.t 21], none⟩,
     ⟨(some 23), .bin .eql 0 (.t 22) (.c (.int .i64 0)), none⟩] false [4, 5, 6, 23])
   (.cond (.t 23)
    (.seq
     (.region [] [] [
       ⟨(some 24), .load (.many 2) (.t 5), none⟩,
       ⟨none, .store 2 (.t 4) (.t 24), none⟩] false [4])
     .ret)
    .skip
    [4, 5, 6]))
 (.seq
  (.region [] [] [
    ⟨(some 25), .mkSl [.int .u64 0] .one 0 [], none⟩,
    ⟨(some 26), .fldA 1 .one (.t 5), none⟩,
    ⟨(some 27), .load .one (.t 26), none⟩,
    ⟨(some 28), .appN .one 8 (.t 25) (.t 27), none⟩,
    ⟨(some 29), .mkSl [.int .u64 0] .one 0 [], none⟩,
    ⟨(some 30), .fldA 1 .one (.t 6), none⟩,
    ⟨(some 31), .load .one (.t 30), none⟩,
    ⟨(some 32), .appN .one 8 (.t 29) (.t 31), none⟩,
    ⟨(some 7), .mov (.t 28), none⟩,
    ⟨(some 8), .mov (.t 32), none⟩] true [4, 7, 8])
 (.seq
  (.region [] [] [
    ⟨(some 9), .mov (.c (.int .i64 0)), none⟩] false [4, 7, 8, 9])
 (.seq
  (.block 0
   (.loop
    (.seq
     (.seq
      (.region [] [] [
        ⟨(some 33), .mov (.t 7), none⟩,
        ⟨(some 34), .idxS .one (.t 33) (.c (.int .i64 0)), none⟩,
        ⟨(some 35), .load .one (.t 34), none⟩,
        ⟨(some 36), .bin .and 0 (.t 35) (.c (.int .u64 1)), none⟩,
        ⟨(some 37), .bin .eql 0 (.t 36) (.c (.int .u64 0)), none⟩,
        ⟨(some 38), .mov (.t 37), none⟩,
        ⟨(some 39), .mov (.t 8), (some (38, true))⟩,
        ⟨(some 40), .idxS .one (.t 39) (.c (.int .i64 0)), (some (38, true))⟩,
        ⟨(some 41), .load .one (.t 40), (some (38, true))⟩,
        ⟨(some 42), .bin .and 0 (.t 41) (.c (.int .u64 1)), (some (38, true))⟩,
        ⟨(some 43), .bin .eql 0 (.t 42) (.c (.int .u64 0)), (some (38, true))⟩,
        ⟨(some 44), .pick (.t 38) (.t 43) (.c (.bool false)), none⟩] false [4, 7, 8, 9, 44])
      (.cond (.t 44)
       .skip
       (.exit 0)
       [4, 7, 8, 9]))
     (.block 1
      (.seq
       (.region [] [] [
         ⟨(some 45), .mov (.t 7), none⟩,
         ⟨(some 46), .call .inl false (.f 202) [.t 45], none⟩] false [4, 7, 8, 9])
      (.seq
       (.region [] [] [
         ⟨(some 47), .mov (.t 8), none⟩,
         ⟨(some 48), .call .inl false (.f 202) [.t 47], none⟩] false [4, 7, 8, 9])
       (.region [] [] [
         ⟨(some 49), .mov (.t 9), none⟩,
         ⟨(some 50), .bin .add 0 (.t 49) (.c (.int .i64 1)), none⟩,
         ⟨(some 9), .mov (.t 50), none⟩] false [4, 7, 8, 9])))
      [4, 7, 8, 9]))
    [4, 7, 8, 9])
   [4, 7, 8, 9])
 (.seq
  (.block 2
   (.loop
    (.seq
     (.seq
      (.region [] [] [
        ⟨(some 51), .mov (.t 7), none⟩,
        ⟨(some 52), .idxS .one (.t 51) (.c (.int .i64 0)), none⟩,
        ⟨(some 53), .load .one (.t 52), none⟩,
        ⟨(some 54), .bin .and 0 (.t 53) (.c (.int .u64 1)), none⟩,
        ⟨(some 55), .bin .eql 0 (.t 54) (.c (.int .u64 0)), none⟩] false [4, 7, 8, 9, 55])
      (.cond (.t 55)
       .skip
       (.exit 2)
       [4, 7, 8, 9]))
     (.block 3
      (.region [] [] [
        ⟨(some 56), .mov (.t 7), none⟩,
        ⟨(some 57), .call .inl false (.f 202) [.t 56], none⟩] false [4, 7, 8, 9])
      [4, 7, 8, 9]))
    [4, 7, 8, 9])
   [4, 7, 8, 9])
  (.block 4
   (.loop
    (.block 5
     (.seq
      (.block 6
       (.loop
        (.seq
         (.seq
          (.region [] [] [
            ⟨(some 58), .mov (.t 8), none⟩,
            ⟨(some 59), .idxS .one (.t 58) (.c (.int .i64 0)), none⟩,
            ⟨(some 60), .load .one (.t 59), none⟩,
            ⟨(some 61), .bin .and 0 (.t 60) (.c (.int .u64 1)), none⟩,
            ⟨(some 62), .bin .eql 0 (.t 61) (.c (.int .u64 0)), none⟩] false [4, 7, 8, 9, 62])
          (.cond (.t 62)
           .skip
           (.exit 6)
           [4, 7, 8, 9]))
         (.block 7
          (.region [] [] [
            ⟨(some 63), .mov (.t 8), none⟩,
            ⟨(some 64), .call .inl false (.f 202) [.t 63], none⟩] false [4, 7, 8, 9])
          [4, 7, 8, 9]))
        [4, 7, 8, 9])
       [4, 7, 8, 9])
     (.seq
      (.region [7, 8] [] [
        ⟨(some 65), .mov (.t 7), none⟩,
        ⟨(some 66), .call .pure false (.f 172) [.c (.bool false), .t 65], none⟩,
        ⟨(some 67), .fld 1 .one (.t 66), none⟩,
        ⟨(some 68), .mov (.t 8), none⟩,
        ⟨(some 69), .call .pure false (.f 172) [.c (.bool false), .t 68], none⟩,
        ⟨(some 70), .fld 1 .one (.t 69), none⟩,
        ⟨(some 10), .mov (.t 67), none⟩,
        ⟨(some 11), .mov (.t 70), none⟩] false [4, 9, 10, 11])
     (.seq
      (.region [] [] [
        ⟨(some 71), .mov (.t 10), none⟩,
        ⟨(some 72), .mov (.t 11), none⟩,
        ⟨(some 73), .call .pure false (.f 169) [.t 71, .t 72], none⟩,
        ⟨(some 12), .mov (.t 73), none⟩] false [4, 9, 10, 11, 12])
     (.seq
      (.seq
       (.region [] [] [
         ⟨(some 74), .mov (.t 12), none⟩,
         ⟨(some 75), .bin .eql 0 (.t 74) (.c (.int .i64 0)), none⟩] false [4, 9, 10, 11, 12, 75])
       (.cond (.t 75)
        (.seq
         (.region [] [] [
           ⟨(some 76), .mov (.t 10), none⟩,
           ⟨(some 77), .mov (.t 9), none⟩,
           ⟨(some 78), .call .pure false (.f 203) [.t 76, .t 77], none⟩,
           ⟨(some 79), .call .pure false (.f 172) [.c (.bool false), .t 78], none⟩,
           ⟨none, .store 2 (.t 4) (.t 79), none⟩] false [4])
         .ret)
        .skip
        [4, 9, 10, 11, 12]))
     (.seq
      (.seq
       (.region [] [] [
         ⟨(some 80), .mov (.t 12), none⟩,
         ⟨(some 81), .bin .gtr 0 (.t 80) (.c (.int .i64 0)), none⟩] false [4, 9, 10, 11, 81])
       (.cond (.t 81)
        (.region [] [] [
          ⟨(some 82), .mov (.t 11), none⟩,
          ⟨(some 83), .mov (.t 10), none⟩,
          ⟨(some 10), .mov (.t 82), none⟩,
          ⟨(some 11), .mov (.t 83), none⟩] false [4, 9, 10, 11])
        .skip
        [4, 9, 10, 11]))
      (.region [] [] [
        ⟨(some 84), .mkSl [.int .u64 0] .one 0 [], none⟩,
        ⟨(some 85), .mov (.t 10), none⟩,
        ⟨(some 86), .appN .one 8 (.t 84) (.t 85), none⟩,
        ⟨(some 87), .mov (.t 11), none⟩,
        ⟨(some 88), .mov (.t 10), none⟩,
        ⟨(some 89), .call .inl false (.f 204) [.t 87, .t 88], none⟩,
        ⟨(some 7), .mov (.t 86), none⟩,
        ⟨(some 8), .mov (.t 89), none⟩] false [4, 7, 8, 9]))))))
     [4, 7, 8, 9])
    [4, 7, 8, 9])
   [4]))))))))),
 [.cell 4 (.many 2)]⟩
/-- (spokeshave/num.Int).Sign -/
def a167 : AFunc := ⟨
 (.seq
  (.region [] [] [
    ⟨(some 1), .box (.t 0), none⟩,
    ⟨(some 2), .mov (.c (.int .i64 0)), none⟩] false [1])
 (.seq
  (.block 0
   (.seq
    (.region [] [] [
      ⟨(some 4), .fldA 1 .one (.t 1), none⟩,
      ⟨(some 5), .load .one (.t 4), none⟩,
      ⟨(some 6), .len (.t 5), none⟩,
      ⟨(some 7), .bin .eql 0 (.t 6) (.c (.int .i64 0)), none⟩,
      ⟨(some 3), .mov (.t 7), none⟩] false [1, 3])
    (.cond (.t 3)
     (.seq
      (.region [] [] [
        ⟨(some 2), .mov (.c (.int .i64 0)), none⟩] false [2])
      .ret)
     (.seq
      (.region [] [] [
        ⟨(some 9), .fldA 0 .one (.t 1), none⟩,
        ⟨(some 10), .load .one (.t 9), none⟩,
        ⟨(some 8), .mov (.t 10), none⟩] false [8])
      (.cond (.t 8)
       (.seq
        (.region [] [] [
          ⟨(some 2), .mov (.c (.int .i64 (-1))), none⟩] false [2])
        .ret)
       .skip
       []))
     []))
   [])
 (.seq
  (.region [] [] [
    ⟨(some 2), .mov (.c (.int .i64 1)), none⟩] false [2])
  .ret))),
 [.t 2]⟩
/-- (spokeshave/num.Int).Neg -/
def a168 : AFunc := ⟨
 (.seq
  (.region [] [] [
    ⟨(some 1), .box (.t 0), none⟩,
    ⟨(some 2), .alloc [.bool false, .slT true []], none⟩] false [1, 2])
 (.seq
  (.region [] [] [
    ⟨(some 3), .fldA 0 .one (.t 1), none⟩,
    ⟨(some 4), .load .one (.t 3), none⟩,
    ⟨(some 5), .un .not (.t 4), none⟩,
    ⟨(some 6), .mov (.t 5), none⟩,
    ⟨(some 7), .fldA 1 .one (.t 1), (some (6, true))⟩,
    ⟨(some 8), .load .one (.t 7), (some (6, true))⟩,
    ⟨(some 9), .len (.t 8), (some (6, true))⟩,
    ⟨(some 10), .bin .gtr 0 (.t 9) (.c (.int .i64 0)), (some (6, true))⟩,
    ⟨(some 11), .pick (.t 6) (.t 10) (.c (.bool false)), none⟩,
    ⟨(some 12), .fldA 1 .one (.t 1), none⟩,
    ⟨(some 13), .load .one (.t 12), none⟩,
    ⟨(some 14), .build [.bool false, .slT true []] [(0, 1, .t 11), (1, 1, .t 13)], none⟩,
    ⟨none, .store 2 (.t 2) (.t 14), none⟩] false [2])
  .ret)),
 [.cell 2 (.many 2)]⟩

end Go.Va
