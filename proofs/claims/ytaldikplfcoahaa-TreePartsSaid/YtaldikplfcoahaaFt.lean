/- MADE BY PROGRAM (facts.py): facts on the types and functions of the translation, reckoned by the kernel. -/
import Derived.Test.YtaldikplfcoahaaHC
import Derived.Test.YtaldikplfcoahaaProg
namespace Go.Proofs.Ytaldikplfcoahaa
open Go.Proofs

theorem kd0 : kindB Try.prog 0 = some false := by kernel_rfl
theorem ce0 : Try.prog.cellsOf 0 = 1 := by kernel_rfl
theorem by0 : Try.prog.bytesOf 0 = 0 := by kernel_rfl
theorem in0 : (Try.prog.info? 0).isSome = true := by kernel_rfl
theorem kd1 : kindB Try.prog 1 = some false := by kernel_rfl
theorem ce1 : Try.prog.cellsOf 1 = 1 := by kernel_rfl
theorem by1 : Try.prog.bytesOf 1 = 8 := by kernel_rfl
theorem in1 : (Try.prog.info? 1).isSome = true := by kernel_rfl
theorem ze1 : zeroV Try.prog 1 = some [.val .nilFunc] := by kernel_rfl
theorem zl1 : (zeroV Try.prog 1).map List.length = some 1 := by kernel_rfl
theorem kd2 : kindB Try.prog 2 = some false := by kernel_rfl
theorem ce2 : Try.prog.cellsOf 2 = 1 := by kernel_rfl
theorem by2 : Try.prog.bytesOf 2 = 8 := by kernel_rfl
theorem in2 : (Try.prog.info? 2).isSome = true := by kernel_rfl
theorem ze2 : zeroV Try.prog 2 = some [.val (.int .i64 0)] := by kernel_rfl
theorem zl2 : (zeroV Try.prog 2).map List.length = some 1 := by kernel_rfl
theorem kd3 : kindB Try.prog 3 = some false := by kernel_rfl
theorem ce3 : Try.prog.cellsOf 3 = 1 := by kernel_rfl
theorem by3 : Try.prog.bytesOf 3 = 8 := by kernel_rfl
theorem in3 : (Try.prog.info? 3).isSome = true := by kernel_rfl
theorem ze3 : zeroV Try.prog 3 = some [.val (.int .i64 0)] := by kernel_rfl
theorem zl3 : (zeroV Try.prog 3).map List.length = some 1 := by kernel_rfl
theorem kd4 : kindB Try.prog 4 = some false := by kernel_rfl
theorem ce4 : Try.prog.cellsOf 4 = 1 := by kernel_rfl
theorem by4 : Try.prog.bytesOf 4 = 1 := by kernel_rfl
theorem in4 : (Try.prog.info? 4).isSome = true := by kernel_rfl
theorem ze4 : zeroV Try.prog 4 = some [.val (.bool false)] := by kernel_rfl
theorem zl4 : (zeroV Try.prog 4).map List.length = some 1 := by kernel_rfl
theorem kd5 : kindB Try.prog 5 = some false := by kernel_rfl
theorem ce5 : Try.prog.cellsOf 5 = 1 := by kernel_rfl
theorem by5 : Try.prog.bytesOf 5 = 1 := by kernel_rfl
theorem in5 : (Try.prog.info? 5).isSome = true := by kernel_rfl
theorem ze5 : zeroV Try.prog 5 = some [.val (.int .u8 0)] := by kernel_rfl
theorem zl5 : (zeroV Try.prog 5).map List.length = some 1 := by kernel_rfl
theorem kd6 : kindB Try.prog 6 = some false := by kernel_rfl
theorem ce6 : Try.prog.cellsOf 6 = 1 := by kernel_rfl
theorem by6 : Try.prog.bytesOf 6 = 1 := by kernel_rfl
theorem in6 : (Try.prog.info? 6).isSome = true := by kernel_rfl
theorem ze6 : zeroV Try.prog 6 = some [.val (.int .u8 0)] := by kernel_rfl
theorem zl6 : (zeroV Try.prog 6).map List.length = some 1 := by kernel_rfl
theorem kd7 : kindB Try.prog 7 = some true := by kernel_rfl
theorem ce7 : Try.prog.cellsOf 7 = 4 := by kernel_rfl
theorem by7 : Try.prog.bytesOf 7 = 24 := by kernel_rfl
theorem in7 : (Try.prog.info? 7).isSome = true := by kernel_rfl
theorem ze7 : zeroV Try.prog 7 = some [.val (.int .i64 0), .val (.int .i64 0), .val (.bool false), .val (.int .u8 0)] := by kernel_rfl
theorem zl7 : (zeroV Try.prog 7).map List.length = some 4 := by kernel_rfl
theorem kd8 : kindB Try.prog 8 = some true := by kernel_rfl
theorem ce8 : Try.prog.cellsOf 8 = 4 := by kernel_rfl
theorem by8 : Try.prog.bytesOf 8 = 24 := by kernel_rfl
theorem in8 : (Try.prog.info? 8).isSome = true := by kernel_rfl
theorem ze8 : zeroV Try.prog 8 = some [.val (.int .i64 0), .val (.int .i64 0), .val (.bool false), .val (.int .u8 0)] := by kernel_rfl
theorem zl8 : (zeroV Try.prog 8).map List.length = some 4 := by kernel_rfl
theorem kd9 : kindB Try.prog 9 = some false := by kernel_rfl
theorem ce9 : Try.prog.cellsOf 9 = 1 := by kernel_rfl
theorem by9 : Try.prog.bytesOf 9 = 16 := by kernel_rfl
theorem in9 : (Try.prog.info? 9).isSome = true := by kernel_rfl
theorem ze9 : zeroV Try.prog 9 = some [.val (.string ByteArray.empty)] := by kernel_rfl
theorem zl9 : (zeroV Try.prog 9).map List.length = some 1 := by kernel_rfl
theorem kd10 : kindB Try.prog 10 = some false := by kernel_rfl
theorem ce10 : Try.prog.cellsOf 10 = 1 := by kernel_rfl
theorem by10 : Try.prog.bytesOf 10 = 16 := by kernel_rfl
theorem in10 : (Try.prog.info? 10).isSome = true := by kernel_rfl
theorem ze10 : zeroV Try.prog 10 = some [.val (.string ByteArray.empty)] := by kernel_rfl
theorem zl10 : (zeroV Try.prog 10).map List.length = some 1 := by kernel_rfl
theorem kd11 : kindB Try.prog 11 = some false := by kernel_rfl
theorem ce11 : Try.prog.cellsOf 11 = 1 := by kernel_rfl
theorem by11 : Try.prog.bytesOf 11 = 16 := by kernel_rfl
theorem in11 : (Try.prog.info? 11).isSome = true := by kernel_rfl
theorem ze11 : zeroV Try.prog 11 = some [.val (.string ByteArray.empty)] := by kernel_rfl
theorem zl11 : (zeroV Try.prog 11).map List.length = some 1 := by kernel_rfl
theorem kd12 : kindB Try.prog 12 = some false := by kernel_rfl
theorem ce12 : Try.prog.cellsOf 12 = 1 := by kernel_rfl
theorem by12 : Try.prog.bytesOf 12 = 8 := by kernel_rfl
theorem in12 : (Try.prog.info? 12).isSome = true := by kernel_rfl
theorem ze12 : zeroV Try.prog 12 = some [.val (.int .u64 0)] := by kernel_rfl
theorem zl12 : (zeroV Try.prog 12).map List.length = some 1 := by kernel_rfl
theorem kd13 : kindB Try.prog 13 = some true := by kernel_rfl
theorem ce13 : Try.prog.cellsOf 13 = 2 := by kernel_rfl
theorem by13 : Try.prog.bytesOf 13 = 24 := by kernel_rfl
theorem in13 : (Try.prog.info? 13).isSome = true := by kernel_rfl
theorem ze13 : zeroV Try.prog 13 = some [.val (.string ByteArray.empty), .val (.int .u64 0)] := by kernel_rfl
theorem zl13 : (zeroV Try.prog 13).map List.length = some 2 := by kernel_rfl
theorem kd14 : kindB Try.prog 14 = some true := by kernel_rfl
theorem ce14 : Try.prog.cellsOf 14 = 2 := by kernel_rfl
theorem by14 : Try.prog.bytesOf 14 = 24 := by kernel_rfl
theorem in14 : (Try.prog.info? 14).isSome = true := by kernel_rfl
theorem ze14 : zeroV Try.prog 14 = some [.val (.string ByteArray.empty), .val (.int .u64 0)] := by kernel_rfl
theorem zl14 : (zeroV Try.prog 14).map List.length = some 2 := by kernel_rfl
theorem kd15 : kindB Try.prog 15 = some false := by kernel_rfl
theorem ce15 : Try.prog.cellsOf 15 = 1 := by kernel_rfl
theorem by15 : Try.prog.bytesOf 15 = 8 := by kernel_rfl
theorem in15 : (Try.prog.info? 15).isSome = true := by kernel_rfl
theorem ze15 : zeroV Try.prog 15 = some [.val (.pointer none)] := by kernel_rfl
theorem zl15 : (zeroV Try.prog 15).map List.length = some 1 := by kernel_rfl
theorem kd16 : kindB Try.prog 16 = some false := by kernel_rfl
theorem ce16 : Try.prog.cellsOf 16 = 1 := by kernel_rfl
theorem by16 : Try.prog.bytesOf 16 = 8 := by kernel_rfl
theorem in16 : (Try.prog.info? 16).isSome = true := by kernel_rfl
theorem ze16 : zeroV Try.prog 16 = some [.val (.pointer none)] := by kernel_rfl
theorem zl16 : (zeroV Try.prog 16).map List.length = some 1 := by kernel_rfl
theorem kd17 : kindB Try.prog 17 = some false := by kernel_rfl
theorem ce17 : Try.prog.cellsOf 17 = 1 := by kernel_rfl
theorem by17 : Try.prog.bytesOf 17 = 8 := by kernel_rfl
theorem in17 : (Try.prog.info? 17).isSome = true := by kernel_rfl
theorem ze17 : zeroV Try.prog 17 = some [.val (.pointer none)] := by kernel_rfl
theorem zl17 : (zeroV Try.prog 17).map List.length = some 1 := by kernel_rfl
theorem kd18 : kindB Try.prog 18 = some true := by kernel_rfl
theorem ce18 : Try.prog.cellsOf 18 = 1 := by kernel_rfl
theorem by18 : Try.prog.bytesOf 18 = 8 := by kernel_rfl
theorem in18 : (Try.prog.info? 18).isSome = true := by kernel_rfl
theorem ze18 : zeroV Try.prog 18 = some [.val (.pointer none)] := by kernel_rfl
theorem zl18 : (zeroV Try.prog 18).map List.length = some 1 := by kernel_rfl
theorem kd19 : kindB Try.prog 19 = some true := by kernel_rfl
theorem ce19 : Try.prog.cellsOf 19 = 1 := by kernel_rfl
theorem by19 : Try.prog.bytesOf 19 = 8 := by kernel_rfl
theorem in19 : (Try.prog.info? 19).isSome = true := by kernel_rfl
theorem ze19 : zeroV Try.prog 19 = some [.val (.pointer none)] := by kernel_rfl
theorem zl19 : (zeroV Try.prog 19).map List.length = some 1 := by kernel_rfl
theorem kd20 : kindB Try.prog 20 = some false := by kernel_rfl
theorem ce20 : Try.prog.cellsOf 20 = 1 := by kernel_rfl
theorem by20 : Try.prog.bytesOf 20 = 16 := by kernel_rfl
theorem in20 : (Try.prog.info? 20).isSome = true := by kernel_rfl
theorem ze20 : zeroV Try.prog 20 = some [.val .nilIface] := by kernel_rfl
theorem zl20 : (zeroV Try.prog 20).map List.length = some 1 := by kernel_rfl
theorem kd21 : kindB Try.prog 21 = some false := by kernel_rfl
theorem ce21 : Try.prog.cellsOf 21 = 1 := by kernel_rfl
theorem by21 : Try.prog.bytesOf 21 = 4 := by kernel_rfl
theorem in21 : (Try.prog.info? 21).isSome = true := by kernel_rfl
theorem ze21 : zeroV Try.prog 21 = some [.val (.int .i32 0)] := by kernel_rfl
theorem zl21 : (zeroV Try.prog 21).map List.length = some 1 := by kernel_rfl
theorem kd22 : kindB Try.prog 22 = some true := by kernel_rfl
theorem ce22 : Try.prog.cellsOf 22 = 12 := by kernel_rfl
theorem by22 : Try.prog.bytesOf 22 = 96 := by kernel_rfl
theorem in22 : (Try.prog.info? 22).isSome = true := by kernel_rfl
theorem ze22 : zeroV Try.prog 22 = some [.val (.int .i64 0), .val (.int .i64 0), .val (.int .i64 0), .val (.int .i64 0), .val (.int .i64 0), .val (.int .i64 0), .val (.int .i64 0), .val (.int .i64 0), .val (.int .i64 0), .val (.int .i64 0), .val (.int .i64 0), .val (.int .i64 0)] := by kernel_rfl
theorem zl22 : (zeroV Try.prog 22).map List.length = some 12 := by kernel_rfl
theorem kd23 : kindB Try.prog 23 = some false := by kernel_rfl
theorem ce23 : Try.prog.cellsOf 23 = 1 := by kernel_rfl
theorem by23 : Try.prog.bytesOf 23 = 24 := by kernel_rfl
theorem in23 : (Try.prog.info? 23).isSome = true := by kernel_rfl
theorem ze23 : zeroV Try.prog 23 = some [.val (.slice none 0 0)] := by kernel_rfl
theorem zl23 : (zeroV Try.prog 23).map List.length = some 1 := by kernel_rfl
theorem kd24 : kindB Try.prog 24 = some true := by kernel_rfl
theorem ce24 : Try.prog.cellsOf 24 = 13 := by kernel_rfl
theorem by24 : Try.prog.bytesOf 24 = 120 := by kernel_rfl
theorem in24 : (Try.prog.info? 24).isSome = true := by kernel_rfl
theorem ze24 : zeroV Try.prog 24 = some [.val (.int .i64 0), .val (.int .i64 0), .val (.int .i64 0), .val (.int .i64 0), .val (.int .i64 0), .val (.int .i64 0), .val (.int .i64 0), .val (.int .i64 0), .val (.int .i64 0), .val (.int .i64 0), .val (.int .i64 0), .val (.int .i64 0), .val (.slice none 0 0)] := by kernel_rfl
theorem zl24 : (zeroV Try.prog 24).map List.length = some 13 := by kernel_rfl
theorem kd25 : kindB Try.prog 25 = some true := by kernel_rfl
theorem ce25 : Try.prog.cellsOf 25 = 13 := by kernel_rfl
theorem by25 : Try.prog.bytesOf 25 = 120 := by kernel_rfl
theorem in25 : (Try.prog.info? 25).isSome = true := by kernel_rfl
theorem ze25 : zeroV Try.prog 25 = some [.val (.int .i64 0), .val (.int .i64 0), .val (.int .i64 0), .val (.int .i64 0), .val (.int .i64 0), .val (.int .i64 0), .val (.int .i64 0), .val (.int .i64 0), .val (.int .i64 0), .val (.int .i64 0), .val (.int .i64 0), .val (.int .i64 0), .val (.slice none 0 0)] := by kernel_rfl
theorem zl25 : (zeroV Try.prog 25).map List.length = some 13 := by kernel_rfl
theorem kd26 : kindB Try.prog 26 = some false := by kernel_rfl
theorem ce26 : Try.prog.cellsOf 26 = 1 := by kernel_rfl
theorem by26 : Try.prog.bytesOf 26 = 8 := by kernel_rfl
theorem in26 : (Try.prog.info? 26).isSome = true := by kernel_rfl
theorem ze26 : zeroV Try.prog 26 = some [.val .nilFunc] := by kernel_rfl
theorem zl26 : (zeroV Try.prog 26).map List.length = some 1 := by kernel_rfl
theorem kd27 : kindB Try.prog 27 = some false := by kernel_rfl
theorem ce27 : Try.prog.cellsOf 27 = 1 := by kernel_rfl
theorem by27 : Try.prog.bytesOf 27 = 8 := by kernel_rfl
theorem in27 : (Try.prog.info? 27).isSome = true := by kernel_rfl
theorem ze27 : zeroV Try.prog 27 = some [.val .nilFunc] := by kernel_rfl
theorem zl27 : (zeroV Try.prog 27).map List.length = some 1 := by kernel_rfl
theorem kd28 : kindB Try.prog 28 = some false := by kernel_rfl
theorem ce28 : Try.prog.cellsOf 28 = 1 := by kernel_rfl
theorem by28 : Try.prog.bytesOf 28 = 8 := by kernel_rfl
theorem in28 : (Try.prog.info? 28).isSome = true := by kernel_rfl
theorem ze28 : zeroV Try.prog 28 = some [.val .nilFunc] := by kernel_rfl
theorem zl28 : (zeroV Try.prog 28).map List.length = some 1 := by kernel_rfl
theorem kd29 : kindB Try.prog 29 = some false := by kernel_rfl
theorem ce29 : Try.prog.cellsOf 29 = 1 := by kernel_rfl
theorem by29 : Try.prog.bytesOf 29 = 24 := by kernel_rfl
theorem in29 : (Try.prog.info? 29).isSome = true := by kernel_rfl
theorem ze29 : zeroV Try.prog 29 = some [.val (.slice none 0 0)] := by kernel_rfl
theorem zl29 : (zeroV Try.prog 29).map List.length = some 1 := by kernel_rfl
theorem kd30 : kindB Try.prog 30 = some false := by kernel_rfl
theorem ce30 : Try.prog.cellsOf 30 = 1 := by kernel_rfl
theorem by30 : Try.prog.bytesOf 30 = 8 := by kernel_rfl
theorem in30 : (Try.prog.info? 30).isSome = true := by kernel_rfl
theorem ze30 : zeroV Try.prog 30 = some [.val .nilFunc] := by kernel_rfl
theorem zl30 : (zeroV Try.prog 30).map List.length = some 1 := by kernel_rfl
theorem kd31 : kindB Try.prog 31 = some false := by kernel_rfl
theorem ce31 : Try.prog.cellsOf 31 = 1 := by kernel_rfl
theorem by31 : Try.prog.bytesOf 31 = 8 := by kernel_rfl
theorem in31 : (Try.prog.info? 31).isSome = true := by kernel_rfl
theorem ze31 : zeroV Try.prog 31 = some [.val .nilFunc] := by kernel_rfl
theorem zl31 : (zeroV Try.prog 31).map List.length = some 1 := by kernel_rfl
theorem kd32 : kindB Try.prog 32 = some false := by kernel_rfl
theorem ce32 : Try.prog.cellsOf 32 = 1 := by kernel_rfl
theorem by32 : Try.prog.bytesOf 32 = 8 := by kernel_rfl
theorem in32 : (Try.prog.info? 32).isSome = true := by kernel_rfl
theorem ze32 : zeroV Try.prog 32 = some [.val .nilFunc] := by kernel_rfl
theorem zl32 : (zeroV Try.prog 32).map List.length = some 1 := by kernel_rfl
theorem kd33 : kindB Try.prog 33 = some false := by kernel_rfl
theorem ce33 : Try.prog.cellsOf 33 = 1 := by kernel_rfl
theorem by33 : Try.prog.bytesOf 33 = 8 := by kernel_rfl
theorem in33 : (Try.prog.info? 33).isSome = true := by kernel_rfl
theorem ze33 : zeroV Try.prog 33 = some [.val .nilFunc] := by kernel_rfl
theorem zl33 : (zeroV Try.prog 33).map List.length = some 1 := by kernel_rfl
theorem kd34 : kindB Try.prog 34 = some false := by kernel_rfl
theorem ce34 : Try.prog.cellsOf 34 = 1 := by kernel_rfl
theorem by34 : Try.prog.bytesOf 34 = 8 := by kernel_rfl
theorem in34 : (Try.prog.info? 34).isSome = true := by kernel_rfl
theorem ze34 : zeroV Try.prog 34 = some [.val .nilFunc] := by kernel_rfl
theorem zl34 : (zeroV Try.prog 34).map List.length = some 1 := by kernel_rfl
theorem kd35 : kindB Try.prog 35 = some false := by kernel_rfl
theorem ce35 : Try.prog.cellsOf 35 = 1 := by kernel_rfl
theorem by35 : Try.prog.bytesOf 35 = 8 := by kernel_rfl
theorem in35 : (Try.prog.info? 35).isSome = true := by kernel_rfl
theorem ze35 : zeroV Try.prog 35 = some [.val .nilFunc] := by kernel_rfl
theorem zl35 : (zeroV Try.prog 35).map List.length = some 1 := by kernel_rfl
theorem kd36 : kindB Try.prog 36 = some false := by kernel_rfl
theorem ce36 : Try.prog.cellsOf 36 = 1 := by kernel_rfl
theorem by36 : Try.prog.bytesOf 36 = 24 := by kernel_rfl
theorem in36 : (Try.prog.info? 36).isSome = true := by kernel_rfl
theorem ze36 : zeroV Try.prog 36 = some [.val (.slice none 0 0)] := by kernel_rfl
theorem zl36 : (zeroV Try.prog 36).map List.length = some 1 := by kernel_rfl
theorem kd37 : kindB Try.prog 37 = some false := by kernel_rfl
theorem ce37 : Try.prog.cellsOf 37 = 1 := by kernel_rfl
theorem by37 : Try.prog.bytesOf 37 = 8 := by kernel_rfl
theorem in37 : (Try.prog.info? 37).isSome = true := by kernel_rfl
theorem ze37 : zeroV Try.prog 37 = some [.val .nilFunc] := by kernel_rfl
theorem zl37 : (zeroV Try.prog 37).map List.length = some 1 := by kernel_rfl
theorem kd38 : kindB Try.prog 38 = some false := by kernel_rfl
theorem ce38 : Try.prog.cellsOf 38 = 1 := by kernel_rfl
theorem by38 : Try.prog.bytesOf 38 = 24 := by kernel_rfl
theorem in38 : (Try.prog.info? 38).isSome = true := by kernel_rfl
theorem ze38 : zeroV Try.prog 38 = some [.val (.slice none 0 0)] := by kernel_rfl
theorem zl38 : (zeroV Try.prog 38).map List.length = some 1 := by kernel_rfl
theorem kd39 : kindB Try.prog 39 = some true := by kernel_rfl
theorem ce39 : Try.prog.cellsOf 39 = 13 := by kernel_rfl
theorem by39 : Try.prog.bytesOf 39 = 120 := by kernel_rfl
theorem in39 : (Try.prog.info? 39).isSome = true := by kernel_rfl
theorem ze39 : zeroV Try.prog 39 = some [.val (.int .i64 0), .val (.int .i64 0), .val (.int .i64 0), .val (.int .i64 0), .val (.int .i64 0), .val (.int .i64 0), .val (.int .i64 0), .val (.int .i64 0), .val (.int .i64 0), .val (.int .i64 0), .val (.int .i64 0), .val (.int .i64 0), .val (.slice none 0 0)] := by kernel_rfl
theorem zl39 : (zeroV Try.prog 39).map List.length = some 13 := by kernel_rfl
theorem kd40 : kindB Try.prog 40 = some true := by kernel_rfl
theorem ce40 : Try.prog.cellsOf 40 = 13 := by kernel_rfl
theorem by40 : Try.prog.bytesOf 40 = 120 := by kernel_rfl
theorem in40 : (Try.prog.info? 40).isSome = true := by kernel_rfl
theorem ze40 : zeroV Try.prog 40 = some [.val (.int .i64 0), .val (.int .i64 0), .val (.int .i64 0), .val (.int .i64 0), .val (.int .i64 0), .val (.int .i64 0), .val (.int .i64 0), .val (.int .i64 0), .val (.int .i64 0), .val (.int .i64 0), .val (.int .i64 0), .val (.int .i64 0), .val (.slice none 0 0)] := by kernel_rfl
theorem zl40 : (zeroV Try.prog 40).map List.length = some 13 := by kernel_rfl
theorem kd41 : kindB Try.prog 41 = some false := by kernel_rfl
theorem ce41 : Try.prog.cellsOf 41 = 1 := by kernel_rfl
theorem by41 : Try.prog.bytesOf 41 = 8 := by kernel_rfl
theorem in41 : (Try.prog.info? 41).isSome = true := by kernel_rfl
theorem ze41 : zeroV Try.prog 41 = some [.val .nilFunc] := by kernel_rfl
theorem zl41 : (zeroV Try.prog 41).map List.length = some 1 := by kernel_rfl
theorem kd42 : kindB Try.prog 42 = some false := by kernel_rfl
theorem ce42 : Try.prog.cellsOf 42 = 1 := by kernel_rfl
theorem by42 : Try.prog.bytesOf 42 = 8 := by kernel_rfl
theorem in42 : (Try.prog.info? 42).isSome = true := by kernel_rfl
theorem ze42 : zeroV Try.prog 42 = some [.val .nilFunc] := by kernel_rfl
theorem zl42 : (zeroV Try.prog 42).map List.length = some 1 := by kernel_rfl
theorem kd43 : kindB Try.prog 43 = some false := by kernel_rfl
theorem ce43 : Try.prog.cellsOf 43 = 1 := by kernel_rfl
theorem by43 : Try.prog.bytesOf 43 = 8 := by kernel_rfl
theorem in43 : (Try.prog.info? 43).isSome = true := by kernel_rfl
theorem ze43 : zeroV Try.prog 43 = some [.val (.int .i64 0)] := by kernel_rfl
theorem zl43 : (zeroV Try.prog 43).map List.length = some 1 := by kernel_rfl
theorem kd44 : kindB Try.prog 44 = some false := by kernel_rfl
theorem ce44 : Try.prog.cellsOf 44 = 1 := by kernel_rfl
theorem by44 : Try.prog.bytesOf 44 = 8 := by kernel_rfl
theorem in44 : (Try.prog.info? 44).isSome = true := by kernel_rfl
theorem ze44 : zeroV Try.prog 44 = some [.val .nilFunc] := by kernel_rfl
theorem zl44 : (zeroV Try.prog 44).map List.length = some 1 := by kernel_rfl
theorem kd45 : kindB Try.prog 45 = some false := by kernel_rfl
theorem ce45 : Try.prog.cellsOf 45 = 1 := by kernel_rfl
theorem by45 : Try.prog.bytesOf 45 = 8 := by kernel_rfl
theorem in45 : (Try.prog.info? 45).isSome = true := by kernel_rfl
theorem ze45 : zeroV Try.prog 45 = some [.val (.pointer none)] := by kernel_rfl
theorem zl45 : (zeroV Try.prog 45).map List.length = some 1 := by kernel_rfl
theorem kd46 : kindB Try.prog 46 = some false := by kernel_rfl
theorem ce46 : Try.prog.cellsOf 46 = 1 := by kernel_rfl
theorem by46 : Try.prog.bytesOf 46 = 8 := by kernel_rfl
theorem in46 : (Try.prog.info? 46).isSome = true := by kernel_rfl
theorem ze46 : zeroV Try.prog 46 = some [.val .nilFunc] := by kernel_rfl
theorem zl46 : (zeroV Try.prog 46).map List.length = some 1 := by kernel_rfl
theorem kd47 : kindB Try.prog 47 = some false := by kernel_rfl
theorem ce47 : Try.prog.cellsOf 47 = 1 := by kernel_rfl
theorem by47 : Try.prog.bytesOf 47 = 8 := by kernel_rfl
theorem in47 : (Try.prog.info? 47).isSome = true := by kernel_rfl
theorem ze47 : zeroV Try.prog 47 = some [.val .nilFunc] := by kernel_rfl
theorem zl47 : (zeroV Try.prog 47).map List.length = some 1 := by kernel_rfl
theorem kd48 : kindB Try.prog 48 = some false := by kernel_rfl
theorem ce48 : Try.prog.cellsOf 48 = 1 := by kernel_rfl
theorem by48 : Try.prog.bytesOf 48 = 8 := by kernel_rfl
theorem in48 : (Try.prog.info? 48).isSome = true := by kernel_rfl
theorem ze48 : zeroV Try.prog 48 = some [.val .nilFunc] := by kernel_rfl
theorem zl48 : (zeroV Try.prog 48).map List.length = some 1 := by kernel_rfl
theorem kd49 : kindB Try.prog 49 = some false := by kernel_rfl
theorem ce49 : Try.prog.cellsOf 49 = 1 := by kernel_rfl
theorem by49 : Try.prog.bytesOf 49 = 8 := by kernel_rfl
theorem in49 : (Try.prog.info? 49).isSome = true := by kernel_rfl
theorem ze49 : zeroV Try.prog 49 = some [.val .nilFunc] := by kernel_rfl
theorem zl49 : (zeroV Try.prog 49).map List.length = some 1 := by kernel_rfl
theorem kd50 : kindB Try.prog 50 = some true := by kernel_rfl
theorem ce50 : Try.prog.cellsOf 50 = 13 := by kernel_rfl
theorem by50 : Try.prog.bytesOf 50 = 104 := by kernel_rfl
theorem in50 : (Try.prog.info? 50).isSome = true := by kernel_rfl
theorem ze50 : zeroV Try.prog 50 = some [.val (.int .i64 0), .val (.int .i64 0), .val (.int .i64 0), .val (.int .i64 0), .val (.int .i64 0), .val (.int .i64 0), .val (.int .i64 0), .val (.int .i64 0), .val (.int .i64 0), .val (.int .i64 0), .val (.int .i64 0), .val (.int .i64 0), .val (.int .i64 0)] := by kernel_rfl
theorem zl50 : (zeroV Try.prog 50).map List.length = some 13 := by kernel_rfl
theorem kd51 : kindB Try.prog 51 = some false := by kernel_rfl
theorem ce51 : Try.prog.cellsOf 51 = 1 := by kernel_rfl
theorem by51 : Try.prog.bytesOf 51 = 8 := by kernel_rfl
theorem in51 : (Try.prog.info? 51).isSome = true := by kernel_rfl
theorem ze51 : zeroV Try.prog 51 = some [.val .nilFunc] := by kernel_rfl
theorem zl51 : (zeroV Try.prog 51).map List.length = some 1 := by kernel_rfl
theorem kd52 : kindB Try.prog 52 = some false := by kernel_rfl
theorem ce52 : Try.prog.cellsOf 52 = 1 := by kernel_rfl
theorem by52 : Try.prog.bytesOf 52 = 8 := by kernel_rfl
theorem in52 : (Try.prog.info? 52).isSome = true := by kernel_rfl
theorem ze52 : zeroV Try.prog 52 = some [.val .nilFunc] := by kernel_rfl
theorem zl52 : (zeroV Try.prog 52).map List.length = some 1 := by kernel_rfl
theorem kd53 : kindB Try.prog 53 = some false := by kernel_rfl
theorem ce53 : Try.prog.cellsOf 53 = 1 := by kernel_rfl
theorem by53 : Try.prog.bytesOf 53 = 8 := by kernel_rfl
theorem in53 : (Try.prog.info? 53).isSome = true := by kernel_rfl
theorem ze53 : zeroV Try.prog 53 = some [.val .nilFunc] := by kernel_rfl
theorem zl53 : (zeroV Try.prog 53).map List.length = some 1 := by kernel_rfl
theorem kd54 : kindB Try.prog 54 = some true := by kernel_rfl
theorem ce54 : Try.prog.cellsOf 54 = 2 := by kernel_rfl
theorem by54 : Try.prog.bytesOf 54 = 16 := by kernel_rfl
theorem in54 : (Try.prog.info? 54).isSome = true := by kernel_rfl
theorem ze54 : zeroV Try.prog 54 = some [.val (.int .i64 0), .val (.int .i64 0)] := by kernel_rfl
theorem zl54 : (zeroV Try.prog 54).map List.length = some 2 := by kernel_rfl
theorem kd55 : kindB Try.prog 55 = some true := by kernel_rfl
theorem ce55 : Try.prog.cellsOf 55 = 2 := by kernel_rfl
theorem by55 : Try.prog.bytesOf 55 = 16 := by kernel_rfl
theorem in55 : (Try.prog.info? 55).isSome = true := by kernel_rfl
theorem ze55 : zeroV Try.prog 55 = some [.val (.int .i64 0), .val (.int .i64 0)] := by kernel_rfl
theorem zl55 : (zeroV Try.prog 55).map List.length = some 2 := by kernel_rfl
theorem kd56 : kindB Try.prog 56 = some false := by kernel_rfl
theorem ce56 : Try.prog.cellsOf 56 = 1 := by kernel_rfl
theorem by56 : Try.prog.bytesOf 56 = 24 := by kernel_rfl
theorem in56 : (Try.prog.info? 56).isSome = true := by kernel_rfl
theorem ze56 : zeroV Try.prog 56 = some [.val (.slice none 0 0)] := by kernel_rfl
theorem zl56 : (zeroV Try.prog 56).map List.length = some 1 := by kernel_rfl
theorem kd57 : kindB Try.prog 57 = some true := by kernel_rfl
theorem ce57 : Try.prog.cellsOf 57 = 2 := by kernel_rfl
theorem by57 : Try.prog.bytesOf 57 = 16 := by kernel_rfl
theorem in57 : (Try.prog.info? 57).isSome = true := by kernel_rfl
theorem ze57 : zeroV Try.prog 57 = some [.val (.int .i64 0), .val (.int .i64 0)] := by kernel_rfl
theorem zl57 : (zeroV Try.prog 57).map List.length = some 2 := by kernel_rfl
theorem kd58 : kindB Try.prog 58 = some true := by kernel_rfl
theorem ce58 : Try.prog.cellsOf 58 = 2 := by kernel_rfl
theorem by58 : Try.prog.bytesOf 58 = 16 := by kernel_rfl
theorem in58 : (Try.prog.info? 58).isSome = true := by kernel_rfl
theorem ze58 : zeroV Try.prog 58 = some [.val (.int .i64 0), .val (.int .i64 0)] := by kernel_rfl
theorem zl58 : (zeroV Try.prog 58).map List.length = some 2 := by kernel_rfl
theorem kd59 : kindB Try.prog 59 = some false := by kernel_rfl
theorem ce59 : Try.prog.cellsOf 59 = 1 := by kernel_rfl
theorem by59 : Try.prog.bytesOf 59 = 8 := by kernel_rfl
theorem in59 : (Try.prog.info? 59).isSome = true := by kernel_rfl
theorem ze59 : zeroV Try.prog 59 = some [.val .nilFunc] := by kernel_rfl
theorem zl59 : (zeroV Try.prog 59).map List.length = some 1 := by kernel_rfl
theorem kd60 : kindB Try.prog 60 = some false := by kernel_rfl
theorem ce60 : Try.prog.cellsOf 60 = 1 := by kernel_rfl
theorem by60 : Try.prog.bytesOf 60 = 8 := by kernel_rfl
theorem in60 : (Try.prog.info? 60).isSome = true := by kernel_rfl
theorem ze60 : zeroV Try.prog 60 = some [.val .nilFunc] := by kernel_rfl
theorem zl60 : (zeroV Try.prog 60).map List.length = some 1 := by kernel_rfl
theorem kd61 : kindB Try.prog 61 = some false := by kernel_rfl
theorem ce61 : Try.prog.cellsOf 61 = 1 := by kernel_rfl
theorem by61 : Try.prog.bytesOf 61 = 8 := by kernel_rfl
theorem in61 : (Try.prog.info? 61).isSome = true := by kernel_rfl
theorem ze61 : zeroV Try.prog 61 = some [.val .nilFunc] := by kernel_rfl
theorem zl61 : (zeroV Try.prog 61).map List.length = some 1 := by kernel_rfl
theorem kd62 : kindB Try.prog 62 = some false := by kernel_rfl
theorem ce62 : Try.prog.cellsOf 62 = 1 := by kernel_rfl
theorem by62 : Try.prog.bytesOf 62 = 8 := by kernel_rfl
theorem in62 : (Try.prog.info? 62).isSome = true := by kernel_rfl
theorem ze62 : zeroV Try.prog 62 = some [.val .nilFunc] := by kernel_rfl
theorem zl62 : (zeroV Try.prog 62).map List.length = some 1 := by kernel_rfl
theorem kd63 : kindB Try.prog 63 = some false := by kernel_rfl
theorem ce63 : Try.prog.cellsOf 63 = 1 := by kernel_rfl
theorem by63 : Try.prog.bytesOf 63 = 0 := by kernel_rfl
theorem in63 : (Try.prog.info? 63).isSome = true := by kernel_rfl
theorem kd64 : kindB Try.prog 64 = some false := by kernel_rfl
theorem ce64 : Try.prog.cellsOf 64 = 1 := by kernel_rfl
theorem by64 : Try.prog.bytesOf 64 = 8 := by kernel_rfl
theorem in64 : (Try.prog.info? 64).isSome = true := by kernel_rfl
theorem ze64 : zeroV Try.prog 64 = some [.val .nilFunc] := by kernel_rfl
theorem zl64 : (zeroV Try.prog 64).map List.length = some 1 := by kernel_rfl
theorem kd65 : kindB Try.prog 65 = some true := by kernel_rfl
theorem ce65 : Try.prog.cellsOf 65 = 2 := by kernel_rfl
theorem by65 : Try.prog.bytesOf 65 = 16 := by kernel_rfl
theorem in65 : (Try.prog.info? 65).isSome = true := by kernel_rfl
theorem ze65 : zeroV Try.prog 65 = some [.val (.int .i64 0), .val (.int .i64 0)] := by kernel_rfl
theorem zl65 : (zeroV Try.prog 65).map List.length = some 2 := by kernel_rfl
theorem kd66 : kindB Try.prog 66 = some false := by kernel_rfl
theorem ce66 : Try.prog.cellsOf 66 = 1 := by kernel_rfl
theorem by66 : Try.prog.bytesOf 66 = 8 := by kernel_rfl
theorem in66 : (Try.prog.info? 66).isSome = true := by kernel_rfl
theorem ze66 : zeroV Try.prog 66 = some [.val .nilFunc] := by kernel_rfl
theorem zl66 : (zeroV Try.prog 66).map List.length = some 1 := by kernel_rfl
theorem kd67 : kindB Try.prog 67 = some true := by kernel_rfl
theorem ce67 : Try.prog.cellsOf 67 = 13 := by kernel_rfl
theorem by67 : Try.prog.bytesOf 67 = 13 := by kernel_rfl
theorem in67 : (Try.prog.info? 67).isSome = true := by kernel_rfl
theorem ze67 : zeroV Try.prog 67 = some [.val (.bool false), .val (.bool false), .val (.bool false), .val (.bool false), .val (.bool false), .val (.bool false), .val (.bool false), .val (.bool false), .val (.bool false), .val (.bool false), .val (.bool false), .val (.bool false), .val (.bool false)] := by kernel_rfl
theorem zl67 : (zeroV Try.prog 67).map List.length = some 13 := by kernel_rfl
theorem kd68 : kindB Try.prog 68 = some true := by kernel_rfl
theorem ce68 : Try.prog.cellsOf 68 = 169 := by kernel_rfl
theorem by68 : Try.prog.bytesOf 68 = 169 := by kernel_rfl
theorem in68 : (Try.prog.info? 68).isSome = true := by kernel_rfl
theorem ze68 : zeroV Try.prog 68 = some [.val (.bool false), .val (.bool false), .val (.bool false), .val (.bool false), .val (.bool false), .val (.bool false), .val (.bool false), .val (.bool false), .val (.bool false), .val (.bool false), .val (.bool false), .val (.bool false), .val (.bool false), .val (.bool false), .val (.bool false), .val (.bool false), .val (.bool false), .val (.bool false), .val (.bool false), .val (.bool false), .val (.bool false), .val (.bool false), .val (.bool false), .val (.bool false), .val (.bool false), .val (.bool false), .val (.bool false), .val (.bool false), .val (.bool false), .val (.bool false), .val (.bool false), .val (.bool false), .val (.bool false), .val (.bool false), .val (.bool false), .val (.bool false), .val (.bool false), .val (.bool false), .val (.bool false), .val (.bool false), .val (.bool false), .val (.bool false), .val (.bool false), .val (.bool false), .val (.bool false), .val (.bool false), .val (.bool false), .val (.bool false), .val (.bool false), .val (.bool false), .val (.bool false), .val (.bool false), .val (.bool false), .val (.bool false), .val (.bool false), .val (.bool false), .val (.bool false), .val (.bool false), .val (.bool false), .val (.bool false), .val (.bool false), .val (.bool false), .val (.bool false), .val (.bool false), .val (.bool false), .val (.bool false), .val (.bool false), .val (.bool false), .val (.bool false), .val (.bool false), .val (.bool false), .val (.bool false), .val (.bool false), .val (.bool false), .val (.bool false), .val (.bool false), .val (.bool false), .val (.bool false), .val (.bool false), .val (.bool false), .val (.bool false), .val (.bool false), .val (.bool false), .val (.bool false), .val (.bool false), .val (.bool false), .val (.bool false), .val (.bool false), .val (.bool false), .val (.bool false), .val (.bool false), .val (.bool false), .val (.bool false), .val (.bool false), .val (.bool false), .val (.bool false), .val (.bool false), .val (.bool false), .val (.bool false), .val (.bool false), .val (.bool false), .val (.bool false), .val (.bool false), .val (.bool false), .val (.bool false), .val (.bool false), .val (.bool false), .val (.bool false), .val (.bool false), .val (.bool false), .val (.bool false), .val (.bool false), .val (.bool false), .val (.bool false), .val (.bool false), .val (.bool false), .val (.bool false), .val (.bool false), .val (.bool false), .val (.bool false), .val (.bool false), .val (.bool false), .val (.bool false), .val (.bool false), .val (.bool false), .val (.bool false), .val (.bool false), .val (.bool false), .val (.bool false), .val (.bool false), .val (.bool false), .val (.bool false), .val (.bool false), .val (.bool false), .val (.bool false), .val (.bool false), .val (.bool false), .val (.bool false), .val (.bool false), .val (.bool false), .val (.bool false), .val (.bool false), .val (.bool false), .val (.bool false), .val (.bool false), .val (.bool false), .val (.bool false), .val (.bool false), .val (.bool false), .val (.bool false), .val (.bool false), .val (.bool false), .val (.bool false), .val (.bool false), .val (.bool false), .val (.bool false), .val (.bool false), .val (.bool false), .val (.bool false), .val (.bool false), .val (.bool false), .val (.bool false), .val (.bool false), .val (.bool false), .val (.bool false), .val (.bool false), .val (.bool false), .val (.bool false), .val (.bool false)] := by kernel_rfl
theorem zl68 : (zeroV Try.prog 68).map List.length = some 169 := by kernel_rfl
theorem kd69 : kindB Try.prog 69 = some false := by kernel_rfl
theorem ce69 : Try.prog.cellsOf 69 = 1 := by kernel_rfl
theorem by69 : Try.prog.bytesOf 69 = 8 := by kernel_rfl
theorem in69 : (Try.prog.info? 69).isSome = true := by kernel_rfl
theorem ze69 : zeroV Try.prog 69 = some [.val .nilFunc] := by kernel_rfl
theorem zl69 : (zeroV Try.prog 69).map List.length = some 1 := by kernel_rfl
theorem kd70 : kindB Try.prog 70 = some false := by kernel_rfl
theorem ce70 : Try.prog.cellsOf 70 = 1 := by kernel_rfl
theorem by70 : Try.prog.bytesOf 70 = 8 := by kernel_rfl
theorem in70 : (Try.prog.info? 70).isSome = true := by kernel_rfl
theorem ze70 : zeroV Try.prog 70 = some [.val .nilFunc] := by kernel_rfl
theorem zl70 : (zeroV Try.prog 70).map List.length = some 1 := by kernel_rfl
theorem kd71 : kindB Try.prog 71 = some false := by kernel_rfl
theorem ce71 : Try.prog.cellsOf 71 = 1 := by kernel_rfl
theorem by71 : Try.prog.bytesOf 71 = 8 := by kernel_rfl
theorem in71 : (Try.prog.info? 71).isSome = true := by kernel_rfl
theorem ze71 : zeroV Try.prog 71 = some [.val .nilFunc] := by kernel_rfl
theorem zl71 : (zeroV Try.prog 71).map List.length = some 1 := by kernel_rfl
theorem kd72 : kindB Try.prog 72 = some false := by kernel_rfl
theorem ce72 : Try.prog.cellsOf 72 = 1 := by kernel_rfl
theorem by72 : Try.prog.bytesOf 72 = 8 := by kernel_rfl
theorem in72 : (Try.prog.info? 72).isSome = true := by kernel_rfl
theorem ze72 : zeroV Try.prog 72 = some [.val (.pointer none)] := by kernel_rfl
theorem zl72 : (zeroV Try.prog 72).map List.length = some 1 := by kernel_rfl
theorem kd73 : kindB Try.prog 73 = some false := by kernel_rfl
theorem ce73 : Try.prog.cellsOf 73 = 1 := by kernel_rfl
theorem by73 : Try.prog.bytesOf 73 = 8 := by kernel_rfl
theorem in73 : (Try.prog.info? 73).isSome = true := by kernel_rfl
theorem ze73 : zeroV Try.prog 73 = some [.val .nilFunc] := by kernel_rfl
theorem zl73 : (zeroV Try.prog 73).map List.length = some 1 := by kernel_rfl
theorem kd74 : kindB Try.prog 74 = some false := by kernel_rfl
theorem ce74 : Try.prog.cellsOf 74 = 1 := by kernel_rfl
theorem by74 : Try.prog.bytesOf 74 = 8 := by kernel_rfl
theorem in74 : (Try.prog.info? 74).isSome = true := by kernel_rfl
theorem ze74 : zeroV Try.prog 74 = some [.val .nilFunc] := by kernel_rfl
theorem zl74 : (zeroV Try.prog 74).map List.length = some 1 := by kernel_rfl
theorem kd75 : kindB Try.prog 75 = some false := by kernel_rfl
theorem ce75 : Try.prog.cellsOf 75 = 1 := by kernel_rfl
theorem by75 : Try.prog.bytesOf 75 = 8 := by kernel_rfl
theorem in75 : (Try.prog.info? 75).isSome = true := by kernel_rfl
theorem ze75 : zeroV Try.prog 75 = some [.val .nilFunc] := by kernel_rfl
theorem zl75 : (zeroV Try.prog 75).map List.length = some 1 := by kernel_rfl
theorem kd76 : kindB Try.prog 76 = some false := by kernel_rfl
theorem ce76 : Try.prog.cellsOf 76 = 1 := by kernel_rfl
theorem by76 : Try.prog.bytesOf 76 = 8 := by kernel_rfl
theorem in76 : (Try.prog.info? 76).isSome = true := by kernel_rfl
theorem ze76 : zeroV Try.prog 76 = some [.val .nilFunc] := by kernel_rfl
theorem zl76 : (zeroV Try.prog 76).map List.length = some 1 := by kernel_rfl
theorem kd77 : kindB Try.prog 77 = some false := by kernel_rfl
theorem ce77 : Try.prog.cellsOf 77 = 1 := by kernel_rfl
theorem by77 : Try.prog.bytesOf 77 = 8 := by kernel_rfl
theorem in77 : (Try.prog.info? 77).isSome = true := by kernel_rfl
theorem ze77 : zeroV Try.prog 77 = some [.val (.pointer none)] := by kernel_rfl
theorem zl77 : (zeroV Try.prog 77).map List.length = some 1 := by kernel_rfl
theorem kd78 : kindB Try.prog 78 = some false := by kernel_rfl
theorem ce78 : Try.prog.cellsOf 78 = 1 := by kernel_rfl
theorem by78 : Try.prog.bytesOf 78 = 8 := by kernel_rfl
theorem in78 : (Try.prog.info? 78).isSome = true := by kernel_rfl
theorem ze78 : zeroV Try.prog 78 = some [.val .nilFunc] := by kernel_rfl
theorem zl78 : (zeroV Try.prog 78).map List.length = some 1 := by kernel_rfl
theorem kd79 : kindB Try.prog 79 = some true := by kernel_rfl
theorem ce79 : Try.prog.cellsOf 79 = 2 := by kernel_rfl
theorem by79 : Try.prog.bytesOf 79 = 32 := by kernel_rfl
theorem in79 : (Try.prog.info? 79).isSome = true := by kernel_rfl
theorem ze79 : zeroV Try.prog 79 = some [.val (.slice none 0 0), .val (.bool false)] := by kernel_rfl
theorem zl79 : (zeroV Try.prog 79).map List.length = some 2 := by kernel_rfl
theorem kd80 : kindB Try.prog 80 = some true := by kernel_rfl
theorem ce80 : Try.prog.cellsOf 80 = 2 := by kernel_rfl
theorem by80 : Try.prog.bytesOf 80 = 32 := by kernel_rfl
theorem in80 : (Try.prog.info? 80).isSome = true := by kernel_rfl
theorem ze80 : zeroV Try.prog 80 = some [.val (.slice none 0 0), .val (.bool false)] := by kernel_rfl
theorem zl80 : (zeroV Try.prog 80).map List.length = some 2 := by kernel_rfl
theorem kd81 : kindB Try.prog 81 = some false := by kernel_rfl
theorem ce81 : Try.prog.cellsOf 81 = 1 := by kernel_rfl
theorem by81 : Try.prog.bytesOf 81 = 8 := by kernel_rfl
theorem in81 : (Try.prog.info? 81).isSome = true := by kernel_rfl
theorem ze81 : zeroV Try.prog 81 = some [.val .nilFunc] := by kernel_rfl
theorem zl81 : (zeroV Try.prog 81).map List.length = some 1 := by kernel_rfl
theorem kd82 : kindB Try.prog 82 = some false := by kernel_rfl
theorem ce82 : Try.prog.cellsOf 82 = 1 := by kernel_rfl
theorem by82 : Try.prog.bytesOf 82 = 8 := by kernel_rfl
theorem in82 : (Try.prog.info? 82).isSome = true := by kernel_rfl
theorem ze82 : zeroV Try.prog 82 = some [.val .nilFunc] := by kernel_rfl
theorem zl82 : (zeroV Try.prog 82).map List.length = some 1 := by kernel_rfl
theorem kd83 : kindB Try.prog 83 = some false := by kernel_rfl
theorem ce83 : Try.prog.cellsOf 83 = 1 := by kernel_rfl
theorem by83 : Try.prog.bytesOf 83 = 8 := by kernel_rfl
theorem in83 : (Try.prog.info? 83).isSome = true := by kernel_rfl
theorem ze83 : zeroV Try.prog 83 = some [.val .nilFunc] := by kernel_rfl
theorem zl83 : (zeroV Try.prog 83).map List.length = some 1 := by kernel_rfl
theorem kd84 : kindB Try.prog 84 = some false := by kernel_rfl
theorem ce84 : Try.prog.cellsOf 84 = 1 := by kernel_rfl
theorem by84 : Try.prog.bytesOf 84 = 8 := by kernel_rfl
theorem in84 : (Try.prog.info? 84).isSome = true := by kernel_rfl
theorem ze84 : zeroV Try.prog 84 = some [.val (.int .u64 0)] := by kernel_rfl
theorem zl84 : (zeroV Try.prog 84).map List.length = some 1 := by kernel_rfl
theorem kd85 : kindB Try.prog 85 = some false := by kernel_rfl
theorem ce85 : Try.prog.cellsOf 85 = 1 := by kernel_rfl
theorem by85 : Try.prog.bytesOf 85 = 8 := by kernel_rfl
theorem in85 : (Try.prog.info? 85).isSome = true := by kernel_rfl
theorem ze85 : zeroV Try.prog 85 = some [.val .nilFunc] := by kernel_rfl
theorem zl85 : (zeroV Try.prog 85).map List.length = some 1 := by kernel_rfl
theorem kd86 : kindB Try.prog 86 = some false := by kernel_rfl
theorem ce86 : Try.prog.cellsOf 86 = 1 := by kernel_rfl
theorem by86 : Try.prog.bytesOf 86 = 8 := by kernel_rfl
theorem in86 : (Try.prog.info? 86).isSome = true := by kernel_rfl
theorem ze86 : zeroV Try.prog 86 = some [.val .nilFunc] := by kernel_rfl
theorem zl86 : (zeroV Try.prog 86).map List.length = some 1 := by kernel_rfl
theorem kd87 : kindB Try.prog 87 = some false := by kernel_rfl
theorem ce87 : Try.prog.cellsOf 87 = 1 := by kernel_rfl
theorem by87 : Try.prog.bytesOf 87 = 8 := by kernel_rfl
theorem in87 : (Try.prog.info? 87).isSome = true := by kernel_rfl
theorem ze87 : zeroV Try.prog 87 = some [.val .nilFunc] := by kernel_rfl
theorem zl87 : (zeroV Try.prog 87).map List.length = some 1 := by kernel_rfl
theorem kd88 : kindB Try.prog 88 = some false := by kernel_rfl
theorem ce88 : Try.prog.cellsOf 88 = 1 := by kernel_rfl
theorem by88 : Try.prog.bytesOf 88 = 8 := by kernel_rfl
theorem in88 : (Try.prog.info? 88).isSome = true := by kernel_rfl
theorem ze88 : zeroV Try.prog 88 = some [.val .nilFunc] := by kernel_rfl
theorem zl88 : (zeroV Try.prog 88).map List.length = some 1 := by kernel_rfl
theorem kd89 : kindB Try.prog 89 = some false := by kernel_rfl
theorem ce89 : Try.prog.cellsOf 89 = 1 := by kernel_rfl
theorem by89 : Try.prog.bytesOf 89 = 8 := by kernel_rfl
theorem in89 : (Try.prog.info? 89).isSome = true := by kernel_rfl
theorem ze89 : zeroV Try.prog 89 = some [.val .nilFunc] := by kernel_rfl
theorem zl89 : (zeroV Try.prog 89).map List.length = some 1 := by kernel_rfl
theorem kd90 : kindB Try.prog 90 = some false := by kernel_rfl
theorem ce90 : Try.prog.cellsOf 90 = 1 := by kernel_rfl
theorem by90 : Try.prog.bytesOf 90 = 8 := by kernel_rfl
theorem in90 : (Try.prog.info? 90).isSome = true := by kernel_rfl
theorem ze90 : zeroV Try.prog 90 = some [.val .nilFunc] := by kernel_rfl
theorem zl90 : (zeroV Try.prog 90).map List.length = some 1 := by kernel_rfl
theorem kd91 : kindB Try.prog 91 = some true := by kernel_rfl
theorem ce91 : Try.prog.cellsOf 91 = 1 := by kernel_rfl
theorem by91 : Try.prog.bytesOf 91 = 24 := by kernel_rfl
theorem in91 : (Try.prog.info? 91).isSome = true := by kernel_rfl
theorem ze91 : zeroV Try.prog 91 = some [.val (.slice none 0 0)] := by kernel_rfl
theorem zl91 : (zeroV Try.prog 91).map List.length = some 1 := by kernel_rfl
theorem kd92 : kindB Try.prog 92 = some true := by kernel_rfl
theorem ce92 : Try.prog.cellsOf 92 = 1 := by kernel_rfl
theorem by92 : Try.prog.bytesOf 92 = 24 := by kernel_rfl
theorem in92 : (Try.prog.info? 92).isSome = true := by kernel_rfl
theorem ze92 : zeroV Try.prog 92 = some [.val (.slice none 0 0)] := by kernel_rfl
theorem zl92 : (zeroV Try.prog 92).map List.length = some 1 := by kernel_rfl
theorem kd93 : kindB Try.prog 93 = some false := by kernel_rfl
theorem ce93 : Try.prog.cellsOf 93 = 1 := by kernel_rfl
theorem by93 : Try.prog.bytesOf 93 = 8 := by kernel_rfl
theorem in93 : (Try.prog.info? 93).isSome = true := by kernel_rfl
theorem ze93 : zeroV Try.prog 93 = some [.val .nilFunc] := by kernel_rfl
theorem zl93 : (zeroV Try.prog 93).map List.length = some 1 := by kernel_rfl
theorem kd94 : kindB Try.prog 94 = some true := by kernel_rfl
theorem ce94 : Try.prog.cellsOf 94 = 1 := by kernel_rfl
theorem by94 : Try.prog.bytesOf 94 = 8 := by kernel_rfl
theorem in94 : (Try.prog.info? 94).isSome = true := by kernel_rfl
theorem ze94 : zeroV Try.prog 94 = some [.val (.int .i64 0)] := by kernel_rfl
theorem zl94 : (zeroV Try.prog 94).map List.length = some 1 := by kernel_rfl
theorem kd95 : kindB Try.prog 95 = some true := by kernel_rfl
theorem ce95 : Try.prog.cellsOf 95 = 1 := by kernel_rfl
theorem by95 : Try.prog.bytesOf 95 = 8 := by kernel_rfl
theorem in95 : (Try.prog.info? 95).isSome = true := by kernel_rfl
theorem ze95 : zeroV Try.prog 95 = some [.val (.int .i64 0)] := by kernel_rfl
theorem zl95 : (zeroV Try.prog 95).map List.length = some 1 := by kernel_rfl
theorem kd96 : kindB Try.prog 96 = some false := by kernel_rfl
theorem ce96 : Try.prog.cellsOf 96 = 1 := by kernel_rfl
theorem by96 : Try.prog.bytesOf 96 = 0 := by kernel_rfl
theorem in96 : (Try.prog.info? 96).isSome = true := by kernel_rfl
theorem kd97 : kindB Try.prog 97 = some false := by kernel_rfl
theorem ce97 : Try.prog.cellsOf 97 = 1 := by kernel_rfl
theorem by97 : Try.prog.bytesOf 97 = 8 := by kernel_rfl
theorem in97 : (Try.prog.info? 97).isSome = true := by kernel_rfl
theorem ze97 : zeroV Try.prog 97 = some [.val .nilFunc] := by kernel_rfl
theorem zl97 : (zeroV Try.prog 97).map List.length = some 1 := by kernel_rfl
theorem kd98 : kindB Try.prog 98 = some false := by kernel_rfl
theorem ce98 : Try.prog.cellsOf 98 = 1 := by kernel_rfl
theorem by98 : Try.prog.bytesOf 98 = 8 := by kernel_rfl
theorem in98 : (Try.prog.info? 98).isSome = true := by kernel_rfl
theorem ze98 : zeroV Try.prog 98 = some [.val .nilFunc] := by kernel_rfl
theorem zl98 : (zeroV Try.prog 98).map List.length = some 1 := by kernel_rfl
theorem kd99 : kindB Try.prog 99 = some false := by kernel_rfl
theorem ce99 : Try.prog.cellsOf 99 = 1 := by kernel_rfl
theorem by99 : Try.prog.bytesOf 99 = 8 := by kernel_rfl
theorem in99 : (Try.prog.info? 99).isSome = true := by kernel_rfl
theorem ze99 : zeroV Try.prog 99 = some [.val .nilFunc] := by kernel_rfl
theorem zl99 : (zeroV Try.prog 99).map List.length = some 1 := by kernel_rfl
theorem kd100 : kindB Try.prog 100 = some false := by kernel_rfl
theorem ce100 : Try.prog.cellsOf 100 = 1 := by kernel_rfl
theorem by100 : Try.prog.bytesOf 100 = 8 := by kernel_rfl
theorem in100 : (Try.prog.info? 100).isSome = true := by kernel_rfl
theorem ze100 : zeroV Try.prog 100 = some [.val .nilFunc] := by kernel_rfl
theorem zl100 : (zeroV Try.prog 100).map List.length = some 1 := by kernel_rfl
theorem kd101 : kindB Try.prog 101 = some false := by kernel_rfl
theorem ce101 : Try.prog.cellsOf 101 = 1 := by kernel_rfl
theorem by101 : Try.prog.bytesOf 101 = 8 := by kernel_rfl
theorem in101 : (Try.prog.info? 101).isSome = true := by kernel_rfl
theorem ze101 : zeroV Try.prog 101 = some [.val (.int .u64 0)] := by kernel_rfl
theorem zl101 : (zeroV Try.prog 101).map List.length = some 1 := by kernel_rfl
theorem kd102 : kindB Try.prog 102 = some false := by kernel_rfl
theorem ce102 : Try.prog.cellsOf 102 = 1 := by kernel_rfl
theorem by102 : Try.prog.bytesOf 102 = 8 := by kernel_rfl
theorem in102 : (Try.prog.info? 102).isSome = true := by kernel_rfl
theorem ze102 : zeroV Try.prog 102 = some [.val .nilFunc] := by kernel_rfl
theorem zl102 : (zeroV Try.prog 102).map List.length = some 1 := by kernel_rfl
theorem kd103 : kindB Try.prog 103 = some false := by kernel_rfl
theorem ce103 : Try.prog.cellsOf 103 = 1 := by kernel_rfl
theorem by103 : Try.prog.bytesOf 103 = 8 := by kernel_rfl
theorem in103 : (Try.prog.info? 103).isSome = true := by kernel_rfl
theorem ze103 : zeroV Try.prog 103 = some [.val .nilFunc] := by kernel_rfl
theorem zl103 : (zeroV Try.prog 103).map List.length = some 1 := by kernel_rfl
theorem kd104 : kindB Try.prog 104 = some false := by kernel_rfl
theorem ce104 : Try.prog.cellsOf 104 = 1 := by kernel_rfl
theorem by104 : Try.prog.bytesOf 104 = 8 := by kernel_rfl
theorem in104 : (Try.prog.info? 104).isSome = true := by kernel_rfl
theorem ze104 : zeroV Try.prog 104 = some [.val .nilFunc] := by kernel_rfl
theorem zl104 : (zeroV Try.prog 104).map List.length = some 1 := by kernel_rfl
theorem kd105 : kindB Try.prog 105 = some false := by kernel_rfl
theorem ce105 : Try.prog.cellsOf 105 = 1 := by kernel_rfl
theorem by105 : Try.prog.bytesOf 105 = 8 := by kernel_rfl
theorem in105 : (Try.prog.info? 105).isSome = true := by kernel_rfl
theorem ze105 : zeroV Try.prog 105 = some [.val (.int .i64 0)] := by kernel_rfl
theorem zl105 : (zeroV Try.prog 105).map List.length = some 1 := by kernel_rfl
theorem kd106 : kindB Try.prog 106 = some false := by kernel_rfl
theorem ce106 : Try.prog.cellsOf 106 = 1 := by kernel_rfl
theorem by106 : Try.prog.bytesOf 106 = 0 := by kernel_rfl
theorem in106 : (Try.prog.info? 106).isSome = true := by kernel_rfl
theorem kd107 : kindB Try.prog 107 = some false := by kernel_rfl
theorem ce107 : Try.prog.cellsOf 107 = 1 := by kernel_rfl
theorem by107 : Try.prog.bytesOf 107 = 8 := by kernel_rfl
theorem in107 : (Try.prog.info? 107).isSome = true := by kernel_rfl
theorem ze107 : zeroV Try.prog 107 = some [.val .nilFunc] := by kernel_rfl
theorem zl107 : (zeroV Try.prog 107).map List.length = some 1 := by kernel_rfl
theorem kd108 : kindB Try.prog 108 = some false := by kernel_rfl
theorem ce108 : Try.prog.cellsOf 108 = 1 := by kernel_rfl
theorem by108 : Try.prog.bytesOf 108 = 8 := by kernel_rfl
theorem in108 : (Try.prog.info? 108).isSome = true := by kernel_rfl
theorem ze108 : zeroV Try.prog 108 = some [.val .nilFunc] := by kernel_rfl
theorem zl108 : (zeroV Try.prog 108).map List.length = some 1 := by kernel_rfl
theorem kd109 : kindB Try.prog 109 = some false := by kernel_rfl
theorem ce109 : Try.prog.cellsOf 109 = 1 := by kernel_rfl
theorem by109 : Try.prog.bytesOf 109 = 8 := by kernel_rfl
theorem in109 : (Try.prog.info? 109).isSome = true := by kernel_rfl
theorem ze109 : zeroV Try.prog 109 = some [.val .nilFunc] := by kernel_rfl
theorem zl109 : (zeroV Try.prog 109).map List.length = some 1 := by kernel_rfl
theorem kd110 : kindB Try.prog 110 = some false := by kernel_rfl
theorem ce110 : Try.prog.cellsOf 110 = 1 := by kernel_rfl
theorem by110 : Try.prog.bytesOf 110 = 8 := by kernel_rfl
theorem in110 : (Try.prog.info? 110).isSome = true := by kernel_rfl
theorem ze110 : zeroV Try.prog 110 = some [.val .nilFunc] := by kernel_rfl
theorem zl110 : (zeroV Try.prog 110).map List.length = some 1 := by kernel_rfl
theorem kd111 : kindB Try.prog 111 = some false := by kernel_rfl
theorem ce111 : Try.prog.cellsOf 111 = 1 := by kernel_rfl
theorem by111 : Try.prog.bytesOf 111 = 8 := by kernel_rfl
theorem in111 : (Try.prog.info? 111).isSome = true := by kernel_rfl
theorem ze111 : zeroV Try.prog 111 = some [.val .nilFunc] := by kernel_rfl
theorem zl111 : (zeroV Try.prog 111).map List.length = some 1 := by kernel_rfl
theorem kd112 : kindB Try.prog 112 = some false := by kernel_rfl
theorem ce112 : Try.prog.cellsOf 112 = 1 := by kernel_rfl
theorem by112 : Try.prog.bytesOf 112 = 8 := by kernel_rfl
theorem in112 : (Try.prog.info? 112).isSome = true := by kernel_rfl
theorem ze112 : zeroV Try.prog 112 = some [.val .nilFunc] := by kernel_rfl
theorem zl112 : (zeroV Try.prog 112).map List.length = some 1 := by kernel_rfl
theorem kd113 : kindB Try.prog 113 = some false := by kernel_rfl
theorem ce113 : Try.prog.cellsOf 113 = 1 := by kernel_rfl
theorem by113 : Try.prog.bytesOf 113 = 4 := by kernel_rfl
theorem in113 : (Try.prog.info? 113).isSome = true := by kernel_rfl
theorem ze113 : zeroV Try.prog 113 = some [.val (.int .u32 0)] := by kernel_rfl
theorem zl113 : (zeroV Try.prog 113).map List.length = some 1 := by kernel_rfl
theorem kd114 : kindB Try.prog 114 = some false := by kernel_rfl
theorem ce114 : Try.prog.cellsOf 114 = 1 := by kernel_rfl
theorem by114 : Try.prog.bytesOf 114 = 8 := by kernel_rfl
theorem in114 : (Try.prog.info? 114).isSome = true := by kernel_rfl
theorem ze114 : zeroV Try.prog 114 = some [.val .nilFunc] := by kernel_rfl
theorem zl114 : (zeroV Try.prog 114).map List.length = some 1 := by kernel_rfl
theorem kd115 : kindB Try.prog 115 = some false := by kernel_rfl
theorem ce115 : Try.prog.cellsOf 115 = 1 := by kernel_rfl
theorem by115 : Try.prog.bytesOf 115 = 8 := by kernel_rfl
theorem in115 : (Try.prog.info? 115).isSome = true := by kernel_rfl
theorem ze115 : zeroV Try.prog 115 = some [.val (.int .u64 0)] := by kernel_rfl
theorem zl115 : (zeroV Try.prog 115).map List.length = some 1 := by kernel_rfl
theorem kd116 : kindB Try.prog 116 = some false := by kernel_rfl
theorem ce116 : Try.prog.cellsOf 116 = 1 := by kernel_rfl
theorem by116 : Try.prog.bytesOf 116 = 8 := by kernel_rfl
theorem in116 : (Try.prog.info? 116).isSome = true := by kernel_rfl
theorem ze116 : zeroV Try.prog 116 = some [.val .nilFunc] := by kernel_rfl
theorem zl116 : (zeroV Try.prog 116).map List.length = some 1 := by kernel_rfl
theorem kd117 : kindB Try.prog 117 = some false := by kernel_rfl
theorem ce117 : Try.prog.cellsOf 117 = 1 := by kernel_rfl
theorem by117 : Try.prog.bytesOf 117 = 8 := by kernel_rfl
theorem in117 : (Try.prog.info? 117).isSome = true := by kernel_rfl
theorem ze117 : zeroV Try.prog 117 = some [.val .nilFunc] := by kernel_rfl
theorem zl117 : (zeroV Try.prog 117).map List.length = some 1 := by kernel_rfl
theorem kd118 : kindB Try.prog 118 = some false := by kernel_rfl
theorem ce118 : Try.prog.cellsOf 118 = 1 := by kernel_rfl
theorem by118 : Try.prog.bytesOf 118 = 8 := by kernel_rfl
theorem in118 : (Try.prog.info? 118).isSome = true := by kernel_rfl
theorem ze118 : zeroV Try.prog 118 = some [.val (.pointer none)] := by kernel_rfl
theorem zl118 : (zeroV Try.prog 118).map List.length = some 1 := by kernel_rfl
theorem kd119 : kindB Try.prog 119 = some false := by kernel_rfl
theorem ce119 : Try.prog.cellsOf 119 = 1 := by kernel_rfl
theorem by119 : Try.prog.bytesOf 119 = 8 := by kernel_rfl
theorem in119 : (Try.prog.info? 119).isSome = true := by kernel_rfl
theorem ze119 : zeroV Try.prog 119 = some [.val .nilFunc] := by kernel_rfl
theorem zl119 : (zeroV Try.prog 119).map List.length = some 1 := by kernel_rfl
theorem kd120 : kindB Try.prog 120 = some false := by kernel_rfl
theorem ce120 : Try.prog.cellsOf 120 = 1 := by kernel_rfl
theorem by120 : Try.prog.bytesOf 120 = 8 := by kernel_rfl
theorem in120 : (Try.prog.info? 120).isSome = true := by kernel_rfl
theorem ze120 : zeroV Try.prog 120 = some [.val (.pointer none)] := by kernel_rfl
theorem zl120 : (zeroV Try.prog 120).map List.length = some 1 := by kernel_rfl
theorem kd121 : kindB Try.prog 121 = some false := by kernel_rfl
theorem ce121 : Try.prog.cellsOf 121 = 1 := by kernel_rfl
theorem by121 : Try.prog.bytesOf 121 = 0 := by kernel_rfl
theorem in121 : (Try.prog.info? 121).isSome = true := by kernel_rfl
theorem kd122 : kindB Try.prog 122 = some false := by kernel_rfl
theorem ce122 : Try.prog.cellsOf 122 = 1 := by kernel_rfl
theorem by122 : Try.prog.bytesOf 122 = 8 := by kernel_rfl
theorem in122 : (Try.prog.info? 122).isSome = true := by kernel_rfl
theorem ze122 : zeroV Try.prog 122 = some [.val .nilFunc] := by kernel_rfl
theorem zl122 : (zeroV Try.prog 122).map List.length = some 1 := by kernel_rfl
theorem kd123 : kindB Try.prog 123 = some false := by kernel_rfl
theorem ce123 : Try.prog.cellsOf 123 = 1 := by kernel_rfl
theorem by123 : Try.prog.bytesOf 123 = 8 := by kernel_rfl
theorem in123 : (Try.prog.info? 123).isSome = true := by kernel_rfl
theorem ze123 : zeroV Try.prog 123 = some [.val .nilFunc] := by kernel_rfl
theorem zl123 : (zeroV Try.prog 123).map List.length = some 1 := by kernel_rfl
theorem kd124 : kindB Try.prog 124 = some true := by kernel_rfl
theorem ce124 : Try.prog.cellsOf 124 = 4 := by kernel_rfl
theorem by124 : Try.prog.bytesOf 124 = 40 := by kernel_rfl
theorem in124 : (Try.prog.info? 124).isSome = true := by kernel_rfl
theorem ze124 : zeroV Try.prog 124 = some [.val (.pointer none), .val (.pointer none), .val (.pointer none), .val (.string ByteArray.empty)] := by kernel_rfl
theorem zl124 : (zeroV Try.prog 124).map List.length = some 4 := by kernel_rfl
theorem kd125 : kindB Try.prog 125 = some true := by kernel_rfl
theorem ce125 : Try.prog.cellsOf 125 = 4 := by kernel_rfl
theorem by125 : Try.prog.bytesOf 125 = 40 := by kernel_rfl
theorem in125 : (Try.prog.info? 125).isSome = true := by kernel_rfl
theorem ze125 : zeroV Try.prog 125 = some [.val (.pointer none), .val (.pointer none), .val (.pointer none), .val (.string ByteArray.empty)] := by kernel_rfl
theorem zl125 : (zeroV Try.prog 125).map List.length = some 4 := by kernel_rfl
theorem kd126 : kindB Try.prog 126 = some true := by kernel_rfl
theorem ce126 : Try.prog.cellsOf 126 = 0 := by kernel_rfl
theorem by126 : Try.prog.bytesOf 126 = 0 := by kernel_rfl
theorem in126 : (Try.prog.info? 126).isSome = true := by kernel_rfl
theorem ze126 : zeroV Try.prog 126 = some [] := by kernel_rfl
theorem zl126 : (zeroV Try.prog 126).map List.length = some 0 := by kernel_rfl
theorem kd127 : kindB Try.prog 127 = some true := by kernel_rfl
theorem ce127 : Try.prog.cellsOf 127 = 0 := by kernel_rfl
theorem by127 : Try.prog.bytesOf 127 = 0 := by kernel_rfl
theorem in127 : (Try.prog.info? 127).isSome = true := by kernel_rfl
theorem ze127 : zeroV Try.prog 127 = some [] := by kernel_rfl
theorem zl127 : (zeroV Try.prog 127).map List.length = some 0 := by kernel_rfl
theorem kd128 : kindB Try.prog 128 = some true := by kernel_rfl
theorem ce128 : Try.prog.cellsOf 128 = 0 := by kernel_rfl
theorem by128 : Try.prog.bytesOf 128 = 0 := by kernel_rfl
theorem in128 : (Try.prog.info? 128).isSome = true := by kernel_rfl
theorem ze128 : zeroV Try.prog 128 = some [] := by kernel_rfl
theorem zl128 : (zeroV Try.prog 128).map List.length = some 0 := by kernel_rfl
theorem kd129 : kindB Try.prog 129 = some false := by kernel_rfl
theorem ce129 : Try.prog.cellsOf 129 = 1 := by kernel_rfl
theorem by129 : Try.prog.bytesOf 129 = 8 := by kernel_rfl
theorem in129 : (Try.prog.info? 129).isSome = true := by kernel_rfl
theorem ze129 : zeroV Try.prog 129 = some [.val .nilFunc] := by kernel_rfl
theorem zl129 : (zeroV Try.prog 129).map List.length = some 1 := by kernel_rfl
theorem kd130 : kindB Try.prog 130 = some false := by kernel_rfl
theorem ce130 : Try.prog.cellsOf 130 = 1 := by kernel_rfl
theorem by130 : Try.prog.bytesOf 130 = 1 := by kernel_rfl
theorem in130 : (Try.prog.info? 130).isSome = true := by kernel_rfl
theorem ze130 : zeroV Try.prog 130 = some [.val (.int .u8 0)] := by kernel_rfl
theorem zl130 : (zeroV Try.prog 130).map List.length = some 1 := by kernel_rfl
theorem kd131 : kindB Try.prog 131 = some false := by kernel_rfl
theorem ce131 : Try.prog.cellsOf 131 = 1 := by kernel_rfl
theorem by131 : Try.prog.bytesOf 131 = 1 := by kernel_rfl
theorem in131 : (Try.prog.info? 131).isSome = true := by kernel_rfl
theorem ze131 : zeroV Try.prog 131 = some [.val (.int .u8 0)] := by kernel_rfl
theorem zl131 : (zeroV Try.prog 131).map List.length = some 1 := by kernel_rfl
theorem kd132 : kindB Try.prog 132 = some false := by kernel_rfl
theorem ce132 : Try.prog.cellsOf 132 = 1 := by kernel_rfl
theorem by132 : Try.prog.bytesOf 132 = 8 := by kernel_rfl
theorem in132 : (Try.prog.info? 132).isSome = true := by kernel_rfl
theorem ze132 : zeroV Try.prog 132 = some [.val .nilFunc] := by kernel_rfl
theorem zl132 : (zeroV Try.prog 132).map List.length = some 1 := by kernel_rfl
theorem kd133 : kindB Try.prog 133 = some false := by kernel_rfl
theorem ce133 : Try.prog.cellsOf 133 = 1 := by kernel_rfl
theorem by133 : Try.prog.bytesOf 133 = 8 := by kernel_rfl
theorem in133 : (Try.prog.info? 133).isSome = true := by kernel_rfl
theorem ze133 : zeroV Try.prog 133 = some [.val (.pointer none)] := by kernel_rfl
theorem zl133 : (zeroV Try.prog 133).map List.length = some 1 := by kernel_rfl
theorem kd134 : kindB Try.prog 134 = some false := by kernel_rfl
theorem ce134 : Try.prog.cellsOf 134 = 1 := by kernel_rfl
theorem by134 : Try.prog.bytesOf 134 = 4 := by kernel_rfl
theorem in134 : (Try.prog.info? 134).isSome = true := by kernel_rfl
theorem ze134 : zeroV Try.prog 134 = some [.val (.int .i32 0)] := by kernel_rfl
theorem zl134 : (zeroV Try.prog 134).map List.length = some 1 := by kernel_rfl
theorem kd135 : kindB Try.prog 135 = some false := by kernel_rfl
theorem ce135 : Try.prog.cellsOf 135 = 1 := by kernel_rfl
theorem by135 : Try.prog.bytesOf 135 = 4 := by kernel_rfl
theorem in135 : (Try.prog.info? 135).isSome = true := by kernel_rfl
theorem ze135 : zeroV Try.prog 135 = some [.val (.int .i32 0)] := by kernel_rfl
theorem zl135 : (zeroV Try.prog 135).map List.length = some 1 := by kernel_rfl
theorem kd136 : kindB Try.prog 136 = some true := by kernel_rfl
theorem ce136 : Try.prog.cellsOf 136 = 11 := by kernel_rfl
theorem by136 : Try.prog.bytesOf 136 = 48 := by kernel_rfl
theorem in136 : (Try.prog.info? 136).isSome = true := by kernel_rfl
theorem ze136 : zeroV Try.prog 136 = some [.val (.int .u64 0), .val (.int .u64 0), .val (.int .u32 0), .val (.int .u8 0), .val (.int .u8 0), .val (.int .u8 0), .val (.int .u8 0), .val .nilFunc, .val (.pointer none), .val (.int .i32 0), .val (.int .i32 0)] := by kernel_rfl
theorem zl136 : (zeroV Try.prog 136).map List.length = some 11 := by kernel_rfl
theorem kd137 : kindB Try.prog 137 = some true := by kernel_rfl
theorem ce137 : Try.prog.cellsOf 137 = 11 := by kernel_rfl
theorem by137 : Try.prog.bytesOf 137 = 48 := by kernel_rfl
theorem in137 : (Try.prog.info? 137).isSome = true := by kernel_rfl
theorem ze137 : zeroV Try.prog 137 = some [.val (.int .u64 0), .val (.int .u64 0), .val (.int .u32 0), .val (.int .u8 0), .val (.int .u8 0), .val (.int .u8 0), .val (.int .u8 0), .val .nilFunc, .val (.pointer none), .val (.int .i32 0), .val (.int .i32 0)] := by kernel_rfl
theorem zl137 : (zeroV Try.prog 137).map List.length = some 11 := by kernel_rfl
theorem kd138 : kindB Try.prog 138 = some false := by kernel_rfl
theorem ce138 : Try.prog.cellsOf 138 = 1 := by kernel_rfl
theorem by138 : Try.prog.bytesOf 138 = 8 := by kernel_rfl
theorem in138 : (Try.prog.info? 138).isSome = true := by kernel_rfl
theorem ze138 : zeroV Try.prog 138 = some [.val .nilFunc] := by kernel_rfl
theorem zl138 : (zeroV Try.prog 138).map List.length = some 1 := by kernel_rfl
theorem kd139 : kindB Try.prog 139 = some false := by kernel_rfl
theorem ce139 : Try.prog.cellsOf 139 = 1 := by kernel_rfl
theorem by139 : Try.prog.bytesOf 139 = 8 := by kernel_rfl
theorem in139 : (Try.prog.info? 139).isSome = true := by kernel_rfl
theorem ze139 : zeroV Try.prog 139 = some [.val (.pointer none)] := by kernel_rfl
theorem zl139 : (zeroV Try.prog 139).map List.length = some 1 := by kernel_rfl
theorem kd140 : kindB Try.prog 140 = some false := by kernel_rfl
theorem ce140 : Try.prog.cellsOf 140 = 1 := by kernel_rfl
theorem by140 : Try.prog.bytesOf 140 = 8 := by kernel_rfl
theorem in140 : (Try.prog.info? 140).isSome = true := by kernel_rfl
theorem ze140 : zeroV Try.prog 140 = some [.val (.float .f64 0)] := by kernel_rfl
theorem zl140 : (zeroV Try.prog 140).map List.length = some 1 := by kernel_rfl
theorem lf22 : leafs Try.prog 50 22 = some [0, 0, 0, 0, 0, 0, 0, 0, 0, 0, 0, 0] := by kernel_rfl
theorem eg22 : Try.prog.eqGuardType Try.prog.depth 22 = false := by kernel_rfl
theorem eql22 {xs ys : List V} {σ : Store} {K : V → Store → Prop} : binV Try.prog .eql 22 (.agg xs) (.agg ys) σ K = (match allEq [0, 0, 0, 0, 0, 0, 0, 0, 0, 0, 0, 0] xs ys with | some r => K (.val (.bool (r))) σ | none => False) := by simp only [binV, kd22, eg22, lf22, true_and]; cases allEq [0, 0, 0, 0, 0, 0, 0, 0, 0, 0, 0, 0] xs ys <;> rfl
theorem neq22 {xs ys : List V} {σ : Store} {K : V → Store → Prop} : binV Try.prog .neq 22 (.agg xs) (.agg ys) σ K = (match allEq [0, 0, 0, 0, 0, 0, 0, 0, 0, 0, 0, 0] xs ys with | some r => K (.val (.bool (!r))) σ | none => False) := by simp only [binV, kd22, eg22, lf22, true_and]; cases allEq [0, 0, 0, 0, 0, 0, 0, 0, 0, 0, 0, 0] xs ys <;> rfl
theorem lf50 : leafs Try.prog 50 50 = some [0, 0, 0, 0, 0, 0, 0, 0, 0, 0, 0, 0, 0] := by kernel_rfl
theorem eg50 : Try.prog.eqGuardType Try.prog.depth 50 = false := by kernel_rfl
theorem eql50 {xs ys : List V} {σ : Store} {K : V → Store → Prop} : binV Try.prog .eql 50 (.agg xs) (.agg ys) σ K = (match allEq [0, 0, 0, 0, 0, 0, 0, 0, 0, 0, 0, 0, 0] xs ys with | some r => K (.val (.bool (r))) σ | none => False) := by simp only [binV, kd50, eg50, lf50, true_and]; cases allEq [0, 0, 0, 0, 0, 0, 0, 0, 0, 0, 0, 0, 0] xs ys <;> rfl
theorem neq50 {xs ys : List V} {σ : Store} {K : V → Store → Prop} : binV Try.prog .neq 50 (.agg xs) (.agg ys) σ K = (match allEq [0, 0, 0, 0, 0, 0, 0, 0, 0, 0, 0, 0, 0] xs ys with | some r => K (.val (.bool (!r))) σ | none => False) := by simp only [binV, kd50, eg50, lf50, true_and]; cases allEq [0, 0, 0, 0, 0, 0, 0, 0, 0, 0, 0, 0, 0] xs ys <;> rfl
theorem lf55 : leafs Try.prog 50 55 = some [0, 0] := by kernel_rfl
theorem eg55 : Try.prog.eqGuardType Try.prog.depth 55 = false := by kernel_rfl
theorem eql55 {xs ys : List V} {σ : Store} {K : V → Store → Prop} : binV Try.prog .eql 55 (.agg xs) (.agg ys) σ K = (match allEq [0, 0] xs ys with | some r => K (.val (.bool (r))) σ | none => False) := by simp only [binV, kd55, eg55, lf55, true_and]; cases allEq [0, 0] xs ys <;> rfl
theorem neq55 {xs ys : List V} {σ : Store} {K : V → Store → Prop} : binV Try.prog .neq 55 (.agg xs) (.agg ys) σ K = (match allEq [0, 0] xs ys with | some r => K (.val (.bool (!r))) σ | none => False) := by simp only [binV, kd55, eg55, lf55, true_and]; cases allEq [0, 0] xs ys <;> rfl
theorem lf58 : leafs Try.prog 50 58 = some [0, 0] := by kernel_rfl
theorem eg58 : Try.prog.eqGuardType Try.prog.depth 58 = false := by kernel_rfl
theorem eql58 {xs ys : List V} {σ : Store} {K : V → Store → Prop} : binV Try.prog .eql 58 (.agg xs) (.agg ys) σ K = (match allEq [0, 0] xs ys with | some r => K (.val (.bool (r))) σ | none => False) := by simp only [binV, kd58, eg58, lf58, true_and]; cases allEq [0, 0] xs ys <;> rfl
theorem neq58 {xs ys : List V} {σ : Store} {K : V → Store → Prop} : binV Try.prog .neq 58 (.agg xs) (.agg ys) σ K = (match allEq [0, 0] xs ys with | some r => K (.val (.bool (!r))) σ | none => False) := by simp only [binV, kd58, eg58, lf58, true_and]; cases allEq [0, 0] xs ys <;> rfl
theorem lf65 : leafs Try.prog 50 65 = some [0, 0] := by kernel_rfl
theorem eg65 : Try.prog.eqGuardType Try.prog.depth 65 = false := by kernel_rfl
theorem eql65 {xs ys : List V} {σ : Store} {K : V → Store → Prop} : binV Try.prog .eql 65 (.agg xs) (.agg ys) σ K = (match allEq [0, 0] xs ys with | some r => K (.val (.bool (r))) σ | none => False) := by simp only [binV, kd65, eg65, lf65, true_and]; cases allEq [0, 0] xs ys <;> rfl
theorem neq65 {xs ys : List V} {σ : Store} {K : V → Store → Prop} : binV Try.prog .neq 65 (.agg xs) (.agg ys) σ K = (match allEq [0, 0] xs ys with | some r => K (.val (.bool (!r))) σ | none => False) := by simp only [binV, kd65, eg65, lf65, true_and]; cases allEq [0, 0] xs ys <;> rfl
theorem lf67 : leafs Try.prog 50 67 = some [1, 1, 1, 1, 1, 1, 1, 1, 1, 1, 1, 1, 1] := by kernel_rfl
theorem eg67 : Try.prog.eqGuardType Try.prog.depth 67 = false := by kernel_rfl
theorem eql67 {xs ys : List V} {σ : Store} {K : V → Store → Prop} : binV Try.prog .eql 67 (.agg xs) (.agg ys) σ K = (match allEq [1, 1, 1, 1, 1, 1, 1, 1, 1, 1, 1, 1, 1] xs ys with | some r => K (.val (.bool (r))) σ | none => False) := by simp only [binV, kd67, eg67, lf67, true_and]; cases allEq [1, 1, 1, 1, 1, 1, 1, 1, 1, 1, 1, 1, 1] xs ys <;> rfl
theorem neq67 {xs ys : List V} {σ : Store} {K : V → Store → Prop} : binV Try.prog .neq 67 (.agg xs) (.agg ys) σ K = (match allEq [1, 1, 1, 1, 1, 1, 1, 1, 1, 1, 1, 1, 1] xs ys with | some r => K (.val (.bool (!r))) σ | none => False) := by simp only [binV, kd67, eg67, lf67, true_and]; cases allEq [1, 1, 1, 1, 1, 1, 1, 1, 1, 1, 1, 1, 1] xs ys <;> rfl
theorem lf95 : leafs Try.prog 50 95 = some [0] := by kernel_rfl
theorem eg95 : Try.prog.eqGuardType Try.prog.depth 95 = false := by kernel_rfl
theorem eql95 {xs ys : List V} {σ : Store} {K : V → Store → Prop} : binV Try.prog .eql 95 (.agg xs) (.agg ys) σ K = (match allEq [0] xs ys with | some r => K (.val (.bool (r))) σ | none => False) := by simp only [binV, kd95, eg95, lf95, true_and]; cases allEq [0] xs ys <;> rfl
theorem neq95 {xs ys : List V} {σ : Store} {K : V → Store → Prop} : binV Try.prog .neq 95 (.agg xs) (.agg ys) σ K = (match allEq [0] xs ys with | some r => K (.val (.bool (!r))) σ | none => False) := by simp only [binV, kd95, eg95, lf95, true_and]; cases allEq [0] xs ys <;> rfl
theorem en3 : entersB Try.prog 3 = true := by kernel_rfl
theorem en4 : entersB Try.prog 4 = true := by kernel_rfl
theorem en5 : entersB Try.prog 5 = true := by kernel_rfl
theorem en6 : entersB Try.prog 6 = true := by kernel_rfl
theorem en7 : entersB Try.prog 7 = true := by kernel_rfl
theorem en8 : entersB Try.prog 8 = true := by kernel_rfl
theorem en9 : entersB Try.prog 9 = true := by kernel_rfl
theorem en10 : entersB Try.prog 10 = true := by kernel_rfl
theorem en11 : entersB Try.prog 11 = true := by kernel_rfl
theorem en12 : entersB Try.prog 12 = true := by kernel_rfl
theorem en13 : entersB Try.prog 13 = true := by kernel_rfl
theorem en14 : entersB Try.prog 14 = true := by kernel_rfl
theorem en15 : entersB Try.prog 15 = true := by kernel_rfl
theorem en16 : entersB Try.prog 16 = true := by kernel_rfl
theorem en17 : entersB Try.prog 17 = true := by kernel_rfl
theorem en18 : entersB Try.prog 18 = true := by kernel_rfl
theorem en19 : entersB Try.prog 19 = true := by kernel_rfl
theorem en20 : entersB Try.prog 20 = true := by kernel_rfl
theorem en21 : entersB Try.prog 21 = true := by kernel_rfl
theorem en22 : entersB Try.prog 22 = true := by kernel_rfl
theorem en23 : entersB Try.prog 23 = true := by kernel_rfl
theorem en24 : entersB Try.prog 24 = true := by kernel_rfl
theorem en25 : entersB Try.prog 25 = true := by kernel_rfl
theorem en26 : entersB Try.prog 26 = true := by kernel_rfl
theorem en27 : entersB Try.prog 27 = true := by kernel_rfl
theorem en28 : entersB Try.prog 28 = true := by kernel_rfl
theorem en29 : entersB Try.prog 29 = true := by kernel_rfl
theorem en30 : entersB Try.prog 30 = true := by kernel_rfl
theorem en31 : entersB Try.prog 31 = true := by kernel_rfl
theorem en32 : entersB Try.prog 32 = true := by kernel_rfl
theorem en33 : entersB Try.prog 33 = true := by kernel_rfl
theorem en34 : entersB Try.prog 34 = true := by kernel_rfl
theorem en35 : entersB Try.prog 35 = true := by kernel_rfl
theorem en36 : entersB Try.prog 36 = true := by kernel_rfl
theorem en37 : entersB Try.prog 37 = true := by kernel_rfl
theorem en38 : entersB Try.prog 38 = true := by kernel_rfl
theorem en39 : entersB Try.prog 39 = true := by kernel_rfl
theorem en40 : entersB Try.prog 40 = true := by kernel_rfl
theorem en41 : entersB Try.prog 41 = true := by kernel_rfl
theorem en42 : entersB Try.prog 42 = true := by kernel_rfl
theorem en43 : entersB Try.prog 43 = true := by kernel_rfl
theorem en44 : entersB Try.prog 44 = true := by kernel_rfl
theorem en45 : entersB Try.prog 45 = true := by kernel_rfl
theorem en46 : entersB Try.prog 46 = true := by kernel_rfl
theorem en47 : entersB Try.prog 47 = true := by kernel_rfl
theorem en48 : entersB Try.prog 48 = true := by kernel_rfl
theorem en49 : entersB Try.prog 49 = true := by kernel_rfl
theorem en50 : entersB Try.prog 50 = true := by kernel_rfl
theorem en51 : entersB Try.prog 51 = true := by kernel_rfl
theorem en52 : entersB Try.prog 52 = true := by kernel_rfl
theorem en53 : entersB Try.prog 53 = true := by kernel_rfl
theorem en54 : entersB Try.prog 54 = true := by kernel_rfl
theorem en55 : entersB Try.prog 55 = true := by kernel_rfl
theorem en56 : entersB Try.prog 56 = true := by kernel_rfl
theorem en57 : entersB Try.prog 57 = true := by kernel_rfl
theorem en58 : entersB Try.prog 58 = true := by kernel_rfl
theorem en59 : entersB Try.prog 59 = true := by kernel_rfl
theorem en60 : entersB Try.prog 60 = true := by kernel_rfl
theorem en61 : entersB Try.prog 61 = true := by kernel_rfl
theorem en62 : entersB Try.prog 62 = true := by kernel_rfl
theorem en63 : entersB Try.prog 63 = true := by kernel_rfl
theorem en64 : entersB Try.prog 64 = true := by kernel_rfl
theorem en65 : entersB Try.prog 65 = true := by kernel_rfl
theorem en66 : entersB Try.prog 66 = true := by kernel_rfl
theorem en67 : entersB Try.prog 67 = true := by kernel_rfl
theorem en68 : entersB Try.prog 68 = true := by kernel_rfl
theorem en69 : entersB Try.prog 69 = true := by kernel_rfl
theorem en70 : entersB Try.prog 70 = true := by kernel_rfl
theorem en71 : entersB Try.prog 71 = true := by kernel_rfl
theorem en72 : entersB Try.prog 72 = true := by kernel_rfl
theorem en73 : entersB Try.prog 73 = true := by kernel_rfl
theorem en74 : entersB Try.prog 74 = true := by kernel_rfl
theorem en75 : entersB Try.prog 75 = true := by kernel_rfl
theorem en76 : entersB Try.prog 76 = true := by kernel_rfl
theorem en77 : entersB Try.prog 77 = true := by kernel_rfl
theorem en78 : entersB Try.prog 78 = true := by kernel_rfl
theorem en79 : entersB Try.prog 79 = true := by kernel_rfl
theorem en80 : entersB Try.prog 80 = true := by kernel_rfl
theorem en81 : entersB Try.prog 81 = true := by kernel_rfl
theorem en82 : entersB Try.prog 82 = true := by kernel_rfl
theorem en83 : entersB Try.prog 83 = true := by kernel_rfl
theorem en84 : entersB Try.prog 84 = true := by kernel_rfl
theorem en85 : entersB Try.prog 85 = true := by kernel_rfl
theorem en86 : entersB Try.prog 86 = true := by kernel_rfl
theorem en87 : entersB Try.prog 87 = true := by kernel_rfl
theorem en88 : entersB Try.prog 88 = true := by kernel_rfl
theorem en89 : entersB Try.prog 89 = true := by kernel_rfl
theorem en90 : entersB Try.prog 90 = true := by kernel_rfl
theorem mixed : Try.prog.follows .mixedOrders = true := by kernel_rfl

attribute [go_sem] kd0 ce0 in0 kd1 ce1 in1 ze1 kd2 ce2 in2 ze2 kd3
  ce3 in3 ze3 kd4 ce4 in4 ze4 kd5 ce5 in5 ze5 kd6
  ce6 in6 ze6 kd7 ce7 in7 ze7 kd8 ce8 in8 ze8 kd9
  ce9 in9 ze9 kd10 ce10 in10 ze10 kd11 ce11 in11 ze11 kd12
  ce12 in12 ze12 kd13 ce13 in13 ze13 kd14 ce14 in14 ze14 kd15
  ce15 in15 ze15 kd16 ce16 in16 ze16 kd17 ce17 in17 ze17 kd18
  ce18 in18 ze18 kd19 ce19 in19 ze19 kd20 ce20 in20 ze20 kd21
  ce21 in21 ze21 kd22 ce22 in22 ze22 kd23 ce23 in23 ze23 kd24
  ce24 in24 ze24 kd25 ce25 in25 ze25 kd26 ce26 in26 ze26 kd27
  ce27 in27 ze27 kd28 ce28 in28 ze28 kd29 ce29 in29 ze29 kd30
  ce30 in30 ze30 kd31 ce31 in31 ze31 kd32 ce32 in32 ze32 kd33
  ce33 in33 ze33 kd34 ce34 in34 ze34 kd35 ce35 in35 ze35 kd36
  ce36 in36 ze36 kd37 ce37 in37 ze37 kd38 ce38 in38 ze38 kd39
  ce39 in39 ze39 kd40 ce40 in40 ze40 kd41 ce41 in41 ze41 kd42
  ce42 in42 ze42 kd43 ce43 in43 ze43 kd44 ce44 in44 ze44 kd45
  ce45 in45 ze45 kd46 ce46 in46 ze46 kd47 ce47 in47 ze47 kd48
  ce48 in48 ze48 kd49 ce49 in49 ze49 kd50 ce50 in50 ze50 kd51
  ce51 in51 ze51 kd52 ce52 in52 ze52 kd53 ce53 in53 ze53 kd54
  ce54 in54 ze54 kd55 ce55 in55 ze55 kd56 ce56 in56 ze56 kd57
  ce57 in57 ze57 kd58 ce58 in58 ze58 kd59 ce59 in59 ze59 kd60
  ce60 in60 ze60 kd61 ce61 in61 ze61 kd62 ce62 in62 ze62 kd63
  ce63 in63 kd64 ce64 in64 ze64 kd65 ce65 in65 ze65 kd66 ce66
  in66 ze66 kd67 ce67 in67 ze67 kd68 ce68 in68 ze68 kd69 ce69
  in69 ze69 kd70 ce70 in70 ze70 kd71 ce71 in71 ze71 kd72 ce72
  in72 ze72 kd73 ce73 in73 ze73 kd74 ce74 in74 ze74 kd75 ce75
  in75 ze75 kd76 ce76 in76 ze76 kd77 ce77 in77 ze77 kd78 ce78
  in78 ze78 kd79 ce79 in79 ze79 kd80 ce80 in80 ze80 kd81 ce81
  in81 ze81 kd82 ce82 in82 ze82 kd83 ce83 in83 ze83 kd84 ce84
  in84 ze84 kd85 ce85 in85 ze85 kd86 ce86 in86 ze86 kd87 ce87
  in87 ze87 kd88 ce88 in88 ze88 kd89 ce89 in89 ze89 kd90 ce90
  in90 ze90 kd91 ce91 in91 ze91 kd92 ce92 in92 ze92 kd93 ce93
  in93 ze93 kd94 ce94 in94 ze94 kd95 ce95 in95 ze95 kd96 ce96
  in96 kd97 ce97 in97 ze97 kd98 ce98 in98 ze98 kd99 ce99 in99
  ze99 kd100 ce100 in100 ze100 kd101 ce101 in101 ze101 kd102 ce102 in102
  ze102 kd103 ce103 in103 ze103 kd104 ce104 in104 ze104 kd105 ce105 in105
  ze105 kd106 ce106 in106 kd107 ce107 in107 ze107 kd108 ce108 in108 ze108
  kd109 ce109 in109 ze109 kd110 ce110 in110 ze110 kd111 ce111 in111 ze111
  kd112 ce112 in112 ze112 kd113 ce113 in113 ze113 kd114 ce114 in114 ze114
  kd115 ce115 in115 ze115 kd116 ce116 in116 ze116 kd117 ce117 in117 ze117
  kd118 ce118 in118 ze118 kd119 ce119 in119 ze119 kd120 ce120 in120 ze120
  kd121 ce121 in121 kd122 ce122 in122 ze122 kd123 ce123 in123 ze123 kd124
  ce124 in124 ze124 kd125 ce125 in125 ze125 kd126 ce126 in126 ze126 kd127
  ce127 in127 ze127 kd128 ce128 in128 ze128 kd129 ce129 in129 ze129 kd130
  ce130 in130 ze130 kd131 ce131 in131 ze131 kd132 ce132 in132 ze132 kd133
  ce133 in133 ze133 kd134 ce134 in134 ze134 kd135 ce135 in135 ze135 kd136
  ce136 in136 ze136 kd137 ce137 in137 ze137 kd138 ce138 in138 ze138 kd139
  ce139 in139 ze139 kd140 ce140 in140 ze140 eql22 neq22 eql50 neq50 eql55
  neq55 eql58 neq58 eql65 neq65 eql67 neq67 eql95 neq95 Try.underlying0 Try.underlying1 Try.underlying2
  Try.underlying3 Try.underlying4 Try.underlying5 Try.underlying6 Try.underlying7 Try.underlying8 Try.underlying9 Try.underlying10 Try.underlying11 Try.underlying12 Try.underlying13 Try.underlying14
  Try.underlying15 Try.underlying16 Try.underlying17 Try.underlying18 Try.underlying19 Try.underlying20 Try.underlying21 Try.underlying22 Try.underlying23 Try.underlying24 Try.underlying25 Try.underlying26
  Try.underlying27 Try.underlying28 Try.underlying29 Try.underlying30 Try.underlying31 Try.underlying32 Try.underlying33 Try.underlying34 Try.underlying35 Try.underlying36 Try.underlying37 Try.underlying38
  Try.underlying39 Try.underlying40 Try.underlying41 Try.underlying42 Try.underlying43 Try.underlying44 Try.underlying45 Try.underlying46 Try.underlying47 Try.underlying48 Try.underlying49 Try.underlying50
  Try.underlying51 Try.underlying52 Try.underlying53 Try.underlying54 Try.underlying55 Try.underlying56 Try.underlying57 Try.underlying58 Try.underlying59 Try.underlying60 Try.underlying61 Try.underlying62
  Try.underlying63 Try.underlying64 Try.underlying65 Try.underlying66 Try.underlying67 Try.underlying68 Try.underlying69 Try.underlying70 Try.underlying71 Try.underlying72 Try.underlying73 Try.underlying74
  Try.underlying75 Try.underlying76 Try.underlying77 Try.underlying78 Try.underlying79 Try.underlying80 Try.underlying81 Try.underlying82 Try.underlying83 Try.underlying84 Try.underlying85 Try.underlying86
  Try.underlying87 Try.underlying88 Try.underlying89 Try.underlying90 Try.underlying91 Try.underlying92 Try.underlying93 Try.underlying94 Try.underlying95 Try.underlying96 Try.underlying97 Try.underlying98
  Try.underlying99 Try.underlying100 Try.underlying101 Try.underlying102 Try.underlying103 Try.underlying104 Try.underlying105 Try.underlying106 Try.underlying107 Try.underlying108 Try.underlying109 Try.underlying110
  Try.underlying111 Try.underlying112 Try.underlying113 Try.underlying114 Try.underlying115 Try.underlying116 Try.underlying117 Try.underlying118 Try.underlying119 Try.underlying120 Try.underlying121 Try.underlying122
  Try.underlying123 Try.underlying124 Try.underlying125 Try.underlying126 Try.underlying127 Try.underlying128 Try.underlying129 Try.underlying130 Try.underlying131 Try.underlying132 Try.underlying133 Try.underlying134
  Try.underlying135 Try.underlying136 Try.underlying137 Try.underlying138 Try.underlying139 Try.underlying140
end Go.Proofs.Ytaldikplfcoahaa
