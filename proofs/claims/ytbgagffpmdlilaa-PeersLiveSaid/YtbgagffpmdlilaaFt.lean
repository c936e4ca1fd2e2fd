/- MADE BY PROGRAM (facts.py): facts on the types and functions of the translation, reckoned by the kernel. -/
import Derived.Test.YtbgagffpmdlilaaHC
import Derived.Test.YtbgagffpmdlilaaProg
namespace Go.Proofs.Ytbgagffpmdlilaa
open Go.Proofs

theorem kd0 : kindB Try.prog 0 = some false := by kernel_rfl
theorem ce0 : Try.prog.cellsOf 0 = 1 := by kernel_rfl
theorem by0 : Try.prog.bytesOf 0 = 0 := by kernel_rfl
theorem in0 : (Try.prog.info? 0).isSome = true := by kernel_rfl
theorem kd1 : kindB Try.prog 1 = some false := by kernel_rfl
theorem ce1 : Try.prog.cellsOf 1 = 1 := by kernel_rfl
theorem by1 : Try.prog.bytesOf 1 = 8 := by kernel_rfl
theorem in1 : (Try.prog.info? 1).isSome = true := by kernel_rfl
theorem ze1 : zeroV Try.prog 1 = some [.val .nilFunc] := by kernel_rfl
theorem zl1 : (zeroV Try.prog 1).map List.length = some 1 := by kernel_rfl
theorem kd2 : kindB Try.prog 2 = some false := by kernel_rfl
theorem ce2 : Try.prog.cellsOf 2 = 1 := by kernel_rfl
theorem by2 : Try.prog.bytesOf 2 = 8 := by kernel_rfl
theorem in2 : (Try.prog.info? 2).isSome = true := by kernel_rfl
theorem ze2 : zeroV Try.prog 2 = some [.val (.int .i64 0)] := by kernel_rfl
theorem zl2 : (zeroV Try.prog 2).map List.length = some 1 := by kernel_rfl
theorem kd3 : kindB Try.prog 3 = some false := by kernel_rfl
theorem ce3 : Try.prog.cellsOf 3 = 1 := by kernel_rfl
theorem by3 : Try.prog.bytesOf 3 = 8 := by kernel_rfl
theorem in3 : (Try.prog.info? 3).isSome = true := by kernel_rfl
theorem ze3 : zeroV Try.prog 3 = some [.val (.int .i64 0)] := by kernel_rfl
theorem zl3 : (zeroV Try.prog 3).map List.length = some 1 := by kernel_rfl
theorem kd4 : kindB Try.prog 4 = some false := by kernel_rfl
theorem ce4 : Try.prog.cellsOf 4 = 1 := by kernel_rfl
theorem by4 : Try.prog.bytesOf 4 = 1 := by kernel_rfl
theorem in4 : (Try.prog.info? 4).isSome = true := by kernel_rfl
theorem ze4 : zeroV Try.prog 4 = some [.val (.bool false)] := by kernel_rfl
theorem zl4 : (zeroV Try.prog 4).map List.length = some 1 := by kernel_rfl
theorem kd5 : kindB Try.prog 5 = some false := by kernel_rfl
theorem ce5 : Try.prog.cellsOf 5 = 1 := by kernel_rfl
theorem by5 : Try.prog.bytesOf 5 = 1 := by kernel_rfl
theorem in5 : (Try.prog.info? 5).isSome = true := by kernel_rfl
theorem ze5 : zeroV Try.prog 5 = some [.val (.int .u8 0)] := by kernel_rfl
theorem zl5 : (zeroV Try.prog 5).map List.length = some 1 := by kernel_rfl
theorem kd6 : kindB Try.prog 6 = some false := by kernel_rfl
theorem ce6 : Try.prog.cellsOf 6 = 1 := by kernel_rfl
theorem by6 : Try.prog.bytesOf 6 = 1 := by kernel_rfl
theorem in6 : (Try.prog.info? 6).isSome = true := by kernel_rfl
theorem ze6 : zeroV Try.prog 6 = some [.val (.int .u8 0)] := by kernel_rfl
theorem zl6 : (zeroV Try.prog 6).map List.length = some 1 := by kernel_rfl
theorem kd7 : kindB Try.prog 7 = some true := by kernel_rfl
theorem ce7 : Try.prog.cellsOf 7 = 4 := by kernel_rfl
theorem by7 : Try.prog.bytesOf 7 = 24 := by kernel_rfl
theorem in7 : (Try.prog.info? 7).isSome = true := by kernel_rfl
theorem ze7 : zeroV Try.prog 7 = some [.val (.int .i64 0), .val (.int .i64 0), .val (.bool false), .val (.int .u8 0)] := by kernel_rfl
theorem zl7 : (zeroV Try.prog 7).map List.length = some 4 := by kernel_rfl
theorem kd8 : kindB Try.prog 8 = some true := by kernel_rfl
theorem ce8 : Try.prog.cellsOf 8 = 4 := by kernel_rfl
theorem by8 : Try.prog.bytesOf 8 = 24 := by kernel_rfl
theorem in8 : (Try.prog.info? 8).isSome = true := by kernel_rfl
theorem ze8 : zeroV Try.prog 8 = some [.val (.int .i64 0), .val (.int .i64 0), .val (.bool false), .val (.int .u8 0)] := by kernel_rfl
theorem zl8 : (zeroV Try.prog 8).map List.length = some 4 := by kernel_rfl
theorem kd9 : kindB Try.prog 9 = some false := by kernel_rfl
theorem ce9 : Try.prog.cellsOf 9 = 1 := by kernel_rfl
theorem by9 : Try.prog.bytesOf 9 = 16 := by kernel_rfl
theorem in9 : (Try.prog.info? 9).isSome = true := by kernel_rfl
theorem ze9 : zeroV Try.prog 9 = some [.val (.string ByteArray.empty)] := by kernel_rfl
theorem zl9 : (zeroV Try.prog 9).map List.length = some 1 := by kernel_rfl
theorem kd10 : kindB Try.prog 10 = some false := by kernel_rfl
theorem ce10 : Try.prog.cellsOf 10 = 1 := by kernel_rfl
theorem by10 : Try.prog.bytesOf 10 = 16 := by kernel_rfl
theorem in10 : (Try.prog.info? 10).isSome = true := by kernel_rfl
theorem ze10 : zeroV Try.prog 10 = some [.val (.string ByteArray.empty)] := by kernel_rfl
theorem zl10 : (zeroV Try.prog 10).map List.length = some 1 := by kernel_rfl
theorem kd11 : kindB Try.prog 11 = some false := by kernel_rfl
theorem ce11 : Try.prog.cellsOf 11 = 1 := by kernel_rfl
theorem by11 : Try.prog.bytesOf 11 = 16 := by kernel_rfl
theorem in11 : (Try.prog.info? 11).isSome = true := by kernel_rfl
theorem ze11 : zeroV Try.prog 11 = some [.val (.string ByteArray.empty)] := by kernel_rfl
theorem zl11 : (zeroV Try.prog 11).map List.length = some 1 := by kernel_rfl
theorem kd12 : kindB Try.prog 12 = some false := by kernel_rfl
theorem ce12 : Try.prog.cellsOf 12 = 1 := by kernel_rfl
theorem by12 : Try.prog.bytesOf 12 = 8 := by kernel_rfl
theorem in12 : (Try.prog.info? 12).isSome = true := by kernel_rfl
theorem ze12 : zeroV Try.prog 12 = some [.val (.int .u64 0)] := by kernel_rfl
theorem zl12 : (zeroV Try.prog 12).map List.length = some 1 := by kernel_rfl
theorem kd13 : kindB Try.prog 13 = some true := by kernel_rfl
theorem ce13 : Try.prog.cellsOf 13 = 2 := by kernel_rfl
theorem by13 : Try.prog.bytesOf 13 = 24 := by kernel_rfl
theorem in13 : (Try.prog.info? 13).isSome = true := by kernel_rfl
theorem ze13 : zeroV Try.prog 13 = some [.val (.string ByteArray.empty), .val (.int .u64 0)] := by kernel_rfl
theorem zl13 : (zeroV Try.prog 13).map List.length = some 2 := by kernel_rfl
theorem kd14 : kindB Try.prog 14 = some true := by kernel_rfl
theorem ce14 : Try.prog.cellsOf 14 = 2 := by kernel_rfl
theorem by14 : Try.prog.bytesOf 14 = 24 := by kernel_rfl
theorem in14 : (Try.prog.info? 14).isSome = true := by kernel_rfl
theorem ze14 : zeroV Try.prog 14 = some [.val (.string ByteArray.empty), .val (.int .u64 0)] := by kernel_rfl
theorem zl14 : (zeroV Try.prog 14).map List.length = some 2 := by kernel_rfl
theorem kd15 : kindB Try.prog 15 = some false := by kernel_rfl
theorem ce15 : Try.prog.cellsOf 15 = 1 := by kernel_rfl
theorem by15 : Try.prog.bytesOf 15 = 8 := by kernel_rfl
theorem in15 : (Try.prog.info? 15).isSome = true := by kernel_rfl
theorem ze15 : zeroV Try.prog 15 = some [.val (.pointer none)] := by kernel_rfl
theorem zl15 : (zeroV Try.prog 15).map List.length = some 1 := by kernel_rfl
theorem kd16 : kindB Try.prog 16 = some false := by kernel_rfl
theorem ce16 : Try.prog.cellsOf 16 = 1 := by kernel_rfl
theorem by16 : Try.prog.bytesOf 16 = 8 := by kernel_rfl
theorem in16 : (Try.prog.info? 16).isSome = true := by kernel_rfl
theorem ze16 : zeroV Try.prog 16 = some [.val (.pointer none)] := by kernel_rfl
theorem zl16 : (zeroV Try.prog 16).map List.length = some 1 := by kernel_rfl
theorem kd17 : kindB Try.prog 17 = some false := by kernel_rfl
theorem ce17 : Try.prog.cellsOf 17 = 1 := by kernel_rfl
theorem by17 : Try.prog.bytesOf 17 = 8 := by kernel_rfl
theorem in17 : (Try.prog.info? 17).isSome = true := by kernel_rfl
theorem ze17 : zeroV Try.prog 17 = some [.val (.pointer none)] := by kernel_rfl
theorem zl17 : (zeroV Try.prog 17).map List.length = some 1 := by kernel_rfl
theorem kd18 : kindB Try.prog 18 = some true := by kernel_rfl
theorem ce18 : Try.prog.cellsOf 18 = 1 := by kernel_rfl
theorem by18 : Try.prog.bytesOf 18 = 8 := by kernel_rfl
theorem in18 : (Try.prog.info? 18).isSome = true := by kernel_rfl
theorem ze18 : zeroV Try.prog 18 = some [.val (.pointer none)] := by kernel_rfl
theorem zl18 : (zeroV Try.prog 18).map List.length = some 1 := by kernel_rfl
theorem kd19 : kindB Try.prog 19 = some true := by kernel_rfl
theorem ce19 : Try.prog.cellsOf 19 = 1 := by kernel_rfl
theorem by19 : Try.prog.bytesOf 19 = 8 := by kernel_rfl
theorem in19 : (Try.prog.info? 19).isSome = true := by kernel_rfl
theorem ze19 : zeroV Try.prog 19 = some [.val (.pointer none)] := by kernel_rfl
theorem zl19 : (zeroV Try.prog 19).map List.length = some 1 := by kernel_rfl
theorem kd20 : kindB Try.prog 20 = some false := by kernel_rfl
theorem ce20 : Try.prog.cellsOf 20 = 1 := by kernel_rfl
theorem by20 : Try.prog.bytesOf 20 = 16 := by kernel_rfl
theorem in20 : (Try.prog.info? 20).isSome = true := by kernel_rfl
theorem ze20 : zeroV Try.prog 20 = some [.val .nilIface] := by kernel_rfl
theorem zl20 : (zeroV Try.prog 20).map List.length = some 1 := by kernel_rfl
theorem kd21 : kindB Try.prog 21 = some false := by kernel_rfl
theorem ce21 : Try.prog.cellsOf 21 = 1 := by kernel_rfl
theorem by21 : Try.prog.bytesOf 21 = 4 := by kernel_rfl
theorem in21 : (Try.prog.info? 21).isSome = true := by kernel_rfl
theorem ze21 : zeroV Try.prog 21 = some [.val (.int .i32 0)] := by kernel_rfl
theorem zl21 : (zeroV Try.prog 21).map List.length = some 1 := by kernel_rfl
theorem kd22 : kindB Try.prog 22 = some true := by kernel_rfl
theorem ce22 : Try.prog.cellsOf 22 = 12 := by kernel_rfl
theorem by22 : Try.prog.bytesOf 22 = 96 := by kernel_rfl
theorem in22 : (Try.prog.info? 22).isSome = true := by kernel_rfl
theorem ze22 : zeroV Try.prog 22 = some [.val (.int .i64 0), .val (.int .i64 0), .val (.int .i64 0), .val (.int .i64 0), .val (.int .i64 0), .val (.int .i64 0), .val (.int .i64 0), .val (.int .i64 0), .val (.int .i64 0), .val (.int .i64 0), .val (.int .i64 0), .val (.int .i64 0)] := by kernel_rfl
theorem zl22 : (zeroV Try.prog 22).map List.length = some 12 := by kernel_rfl
theorem kd23 : kindB Try.prog 23 = some false := by kernel_rfl
theorem ce23 : Try.prog.cellsOf 23 = 1 := by kernel_rfl
theorem by23 : Try.prog.bytesOf 23 = 24 := by kernel_rfl
theorem in23 : (Try.prog.info? 23).isSome = true := by kernel_rfl
theorem ze23 : zeroV Try.prog 23 = some [.val (.slice none 0 0)] := by kernel_rfl
theorem zl23 : (zeroV Try.prog 23).map List.length = some 1 := by kernel_rfl
theorem kd24 : kindB Try.prog 24 = some true := by kernel_rfl
theorem ce24 : Try.prog.cellsOf 24 = 13 := by kernel_rfl
theorem by24 : Try.prog.bytesOf 24 = 120 := by kernel_rfl
theorem in24 : (Try.prog.info? 24).isSome = true := by kernel_rfl
theorem ze24 : zeroV Try.prog 24 = some [.val (.int .i64 0), .val (.int .i64 0), .val (.int .i64 0), .val (.int .i64 0), .val (.int .i64 0), .val (.int .i64 0), .val (.int .i64 0), .val (.int .i64 0), .val (.int .i64 0), .val (.int .i64 0), .val (.int .i64 0), .val (.int .i64 0), .val (.slice none 0 0)] := by kernel_rfl
theorem zl24 : (zeroV Try.prog 24).map List.length = some 13 := by kernel_rfl
theorem kd25 : kindB Try.prog 25 = some true := by kernel_rfl
theorem ce25 : Try.prog.cellsOf 25 = 13 := by kernel_rfl
theorem by25 : Try.prog.bytesOf 25 = 120 := by kernel_rfl
theorem in25 : (Try.prog.info? 25).isSome = true := by kernel_rfl
theorem ze25 : zeroV Try.prog 25 = some [.val (.int .i64 0), .val (.int .i64 0), .val (.int .i64 0), .val (.int .i64 0), .val (.int .i64 0), .val (.int .i64 0), .val (.int .i64 0), .val (.int .i64 0), .val (.int .i64 0), .val (.int .i64 0), .val (.int .i64 0), .val (.int .i64 0), .val (.slice none 0 0)] := by kernel_rfl
theorem zl25 : (zeroV Try.prog 25).map List.length = some 13 := by kernel_rfl
theorem kd26 : kindB Try.prog 26 = some false := by kernel_rfl
theorem ce26 : Try.prog.cellsOf 26 = 1 := by kernel_rfl
theorem by26 : Try.prog.bytesOf 26 = 24 := by kernel_rfl
theorem in26 : (Try.prog.info? 26).isSome = true := by kernel_rfl
theorem ze26 : zeroV Try.prog 26 = some [.val (.slice none 0 0)] := by kernel_rfl
theorem zl26 : (zeroV Try.prog 26).map List.length = some 1 := by kernel_rfl
theorem kd27 : kindB Try.prog 27 = some false := by kernel_rfl
theorem ce27 : Try.prog.cellsOf 27 = 1 := by kernel_rfl
theorem by27 : Try.prog.bytesOf 27 = 8 := by kernel_rfl
theorem in27 : (Try.prog.info? 27).isSome = true := by kernel_rfl
theorem ze27 : zeroV Try.prog 27 = some [.val .nilFunc] := by kernel_rfl
theorem zl27 : (zeroV Try.prog 27).map List.length = some 1 := by kernel_rfl
theorem kd28 : kindB Try.prog 28 = some false := by kernel_rfl
theorem ce28 : Try.prog.cellsOf 28 = 1 := by kernel_rfl
theorem by28 : Try.prog.bytesOf 28 = 8 := by kernel_rfl
theorem in28 : (Try.prog.info? 28).isSome = true := by kernel_rfl
theorem ze28 : zeroV Try.prog 28 = some [.val .nilFunc] := by kernel_rfl
theorem zl28 : (zeroV Try.prog 28).map List.length = some 1 := by kernel_rfl
theorem kd29 : kindB Try.prog 29 = some false := by kernel_rfl
theorem ce29 : Try.prog.cellsOf 29 = 1 := by kernel_rfl
theorem by29 : Try.prog.bytesOf 29 = 8 := by kernel_rfl
theorem in29 : (Try.prog.info? 29).isSome = true := by kernel_rfl
theorem ze29 : zeroV Try.prog 29 = some [.val .nilFunc] := by kernel_rfl
theorem zl29 : (zeroV Try.prog 29).map List.length = some 1 := by kernel_rfl
theorem kd30 : kindB Try.prog 30 = some false := by kernel_rfl
theorem ce30 : Try.prog.cellsOf 30 = 1 := by kernel_rfl
theorem by30 : Try.prog.bytesOf 30 = 24 := by kernel_rfl
theorem in30 : (Try.prog.info? 30).isSome = true := by kernel_rfl
theorem ze30 : zeroV Try.prog 30 = some [.val (.slice none 0 0)] := by kernel_rfl
theorem zl30 : (zeroV Try.prog 30).map List.length = some 1 := by kernel_rfl
theorem kd31 : kindB Try.prog 31 = some true := by kernel_rfl
theorem ce31 : Try.prog.cellsOf 31 = 13 := by kernel_rfl
theorem by31 : Try.prog.bytesOf 31 = 120 := by kernel_rfl
theorem in31 : (Try.prog.info? 31).isSome = true := by kernel_rfl
theorem ze31 : zeroV Try.prog 31 = some [.val (.int .i64 0), .val (.int .i64 0), .val (.int .i64 0), .val (.int .i64 0), .val (.int .i64 0), .val (.int .i64 0), .val (.int .i64 0), .val (.int .i64 0), .val (.int .i64 0), .val (.int .i64 0), .val (.int .i64 0), .val (.int .i64 0), .val (.slice none 0 0)] := by kernel_rfl
theorem zl31 : (zeroV Try.prog 31).map List.length = some 13 := by kernel_rfl
theorem kd32 : kindB Try.prog 32 = some true := by kernel_rfl
theorem ce32 : Try.prog.cellsOf 32 = 13 := by kernel_rfl
theorem by32 : Try.prog.bytesOf 32 = 120 := by kernel_rfl
theorem in32 : (Try.prog.info? 32).isSome = true := by kernel_rfl
theorem ze32 : zeroV Try.prog 32 = some [.val (.int .i64 0), .val (.int .i64 0), .val (.int .i64 0), .val (.int .i64 0), .val (.int .i64 0), .val (.int .i64 0), .val (.int .i64 0), .val (.int .i64 0), .val (.int .i64 0), .val (.int .i64 0), .val (.int .i64 0), .val (.int .i64 0), .val (.slice none 0 0)] := by kernel_rfl
theorem zl32 : (zeroV Try.prog 32).map List.length = some 13 := by kernel_rfl
theorem kd33 : kindB Try.prog 33 = some false := by kernel_rfl
theorem ce33 : Try.prog.cellsOf 33 = 1 := by kernel_rfl
theorem by33 : Try.prog.bytesOf 33 = 8 := by kernel_rfl
theorem in33 : (Try.prog.info? 33).isSome = true := by kernel_rfl
theorem ze33 : zeroV Try.prog 33 = some [.val .nilFunc] := by kernel_rfl
theorem zl33 : (zeroV Try.prog 33).map List.length = some 1 := by kernel_rfl
theorem kd34 : kindB Try.prog 34 = some false := by kernel_rfl
theorem ce34 : Try.prog.cellsOf 34 = 1 := by kernel_rfl
theorem by34 : Try.prog.bytesOf 34 = 8 := by kernel_rfl
theorem in34 : (Try.prog.info? 34).isSome = true := by kernel_rfl
theorem ze34 : zeroV Try.prog 34 = some [.val .nilFunc] := by kernel_rfl
theorem zl34 : (zeroV Try.prog 34).map List.length = some 1 := by kernel_rfl
theorem kd35 : kindB Try.prog 35 = some false := by kernel_rfl
theorem ce35 : Try.prog.cellsOf 35 = 1 := by kernel_rfl
theorem by35 : Try.prog.bytesOf 35 = 8 := by kernel_rfl
theorem in35 : (Try.prog.info? 35).isSome = true := by kernel_rfl
theorem ze35 : zeroV Try.prog 35 = some [.val (.int .i64 0)] := by kernel_rfl
theorem zl35 : (zeroV Try.prog 35).map List.length = some 1 := by kernel_rfl
theorem kd36 : kindB Try.prog 36 = some false := by kernel_rfl
theorem ce36 : Try.prog.cellsOf 36 = 1 := by kernel_rfl
theorem by36 : Try.prog.bytesOf 36 = 8 := by kernel_rfl
theorem in36 : (Try.prog.info? 36).isSome = true := by kernel_rfl
theorem ze36 : zeroV Try.prog 36 = some [.val .nilFunc] := by kernel_rfl
theorem zl36 : (zeroV Try.prog 36).map List.length = some 1 := by kernel_rfl
theorem kd37 : kindB Try.prog 37 = some false := by kernel_rfl
theorem ce37 : Try.prog.cellsOf 37 = 1 := by kernel_rfl
theorem by37 : Try.prog.bytesOf 37 = 8 := by kernel_rfl
theorem in37 : (Try.prog.info? 37).isSome = true := by kernel_rfl
theorem ze37 : zeroV Try.prog 37 = some [.val (.pointer none)] := by kernel_rfl
theorem zl37 : (zeroV Try.prog 37).map List.length = some 1 := by kernel_rfl
theorem kd38 : kindB Try.prog 38 = some false := by kernel_rfl
theorem ce38 : Try.prog.cellsOf 38 = 1 := by kernel_rfl
theorem by38 : Try.prog.bytesOf 38 = 8 := by kernel_rfl
theorem in38 : (Try.prog.info? 38).isSome = true := by kernel_rfl
theorem ze38 : zeroV Try.prog 38 = some [.val .nilFunc] := by kernel_rfl
theorem zl38 : (zeroV Try.prog 38).map List.length = some 1 := by kernel_rfl
theorem kd39 : kindB Try.prog 39 = some false := by kernel_rfl
theorem ce39 : Try.prog.cellsOf 39 = 1 := by kernel_rfl
theorem by39 : Try.prog.bytesOf 39 = 8 := by kernel_rfl
theorem in39 : (Try.prog.info? 39).isSome = true := by kernel_rfl
theorem ze39 : zeroV Try.prog 39 = some [.val .nilFunc] := by kernel_rfl
theorem zl39 : (zeroV Try.prog 39).map List.length = some 1 := by kernel_rfl
theorem kd40 : kindB Try.prog 40 = some false := by kernel_rfl
theorem ce40 : Try.prog.cellsOf 40 = 1 := by kernel_rfl
theorem by40 : Try.prog.bytesOf 40 = 8 := by kernel_rfl
theorem in40 : (Try.prog.info? 40).isSome = true := by kernel_rfl
theorem ze40 : zeroV Try.prog 40 = some [.val .nilFunc] := by kernel_rfl
theorem zl40 : (zeroV Try.prog 40).map List.length = some 1 := by kernel_rfl
theorem kd41 : kindB Try.prog 41 = some false := by kernel_rfl
theorem ce41 : Try.prog.cellsOf 41 = 1 := by kernel_rfl
theorem by41 : Try.prog.bytesOf 41 = 8 := by kernel_rfl
theorem in41 : (Try.prog.info? 41).isSome = true := by kernel_rfl
theorem ze41 : zeroV Try.prog 41 = some [.val .nilFunc] := by kernel_rfl
theorem zl41 : (zeroV Try.prog 41).map List.length = some 1 := by kernel_rfl
theorem kd42 : kindB Try.prog 42 = some false := by kernel_rfl
theorem ce42 : Try.prog.cellsOf 42 = 1 := by kernel_rfl
theorem by42 : Try.prog.bytesOf 42 = 24 := by kernel_rfl
theorem in42 : (Try.prog.info? 42).isSome = true := by kernel_rfl
theorem ze42 : zeroV Try.prog 42 = some [.val (.slice none 0 0)] := by kernel_rfl
theorem zl42 : (zeroV Try.prog 42).map List.length = some 1 := by kernel_rfl
theorem kd43 : kindB Try.prog 43 = some false := by kernel_rfl
theorem ce43 : Try.prog.cellsOf 43 = 1 := by kernel_rfl
theorem by43 : Try.prog.bytesOf 43 = 8 := by kernel_rfl
theorem in43 : (Try.prog.info? 43).isSome = true := by kernel_rfl
theorem ze43 : zeroV Try.prog 43 = some [.val (.pointer none)] := by kernel_rfl
theorem zl43 : (zeroV Try.prog 43).map List.length = some 1 := by kernel_rfl
theorem kd44 : kindB Try.prog 44 = some false := by kernel_rfl
theorem ce44 : Try.prog.cellsOf 44 = 1 := by kernel_rfl
theorem by44 : Try.prog.bytesOf 44 = 0 := by kernel_rfl
theorem in44 : (Try.prog.info? 44).isSome = true := by kernel_rfl
theorem kd45 : kindB Try.prog 45 = some false := by kernel_rfl
theorem ce45 : Try.prog.cellsOf 45 = 1 := by kernel_rfl
theorem by45 : Try.prog.bytesOf 45 = 8 := by kernel_rfl
theorem in45 : (Try.prog.info? 45).isSome = true := by kernel_rfl
theorem ze45 : zeroV Try.prog 45 = some [.val .nilFunc] := by kernel_rfl
theorem zl45 : (zeroV Try.prog 45).map List.length = some 1 := by kernel_rfl
theorem kd46 : kindB Try.prog 46 = some false := by kernel_rfl
theorem ce46 : Try.prog.cellsOf 46 = 1 := by kernel_rfl
theorem by46 : Try.prog.bytesOf 46 = 24 := by kernel_rfl
theorem in46 : (Try.prog.info? 46).isSome = true := by kernel_rfl
theorem ze46 : zeroV Try.prog 46 = some [.val (.slice none 0 0)] := by kernel_rfl
theorem zl46 : (zeroV Try.prog 46).map List.length = some 1 := by kernel_rfl
theorem kd47 : kindB Try.prog 47 = some false := by kernel_rfl
theorem ce47 : Try.prog.cellsOf 47 = 1 := by kernel_rfl
theorem by47 : Try.prog.bytesOf 47 = 8 := by kernel_rfl
theorem in47 : (Try.prog.info? 47).isSome = true := by kernel_rfl
theorem ze47 : zeroV Try.prog 47 = some [.val .nilFunc] := by kernel_rfl
theorem zl47 : (zeroV Try.prog 47).map List.length = some 1 := by kernel_rfl
theorem kd48 : kindB Try.prog 48 = some false := by kernel_rfl
theorem ce48 : Try.prog.cellsOf 48 = 1 := by kernel_rfl
theorem by48 : Try.prog.bytesOf 48 = 0 := by kernel_rfl
theorem in48 : (Try.prog.info? 48).isSome = true := by kernel_rfl
theorem kd49 : kindB Try.prog 49 = some false := by kernel_rfl
theorem ce49 : Try.prog.cellsOf 49 = 1 := by kernel_rfl
theorem by49 : Try.prog.bytesOf 49 = 8 := by kernel_rfl
theorem in49 : (Try.prog.info? 49).isSome = true := by kernel_rfl
theorem ze49 : zeroV Try.prog 49 = some [.val .nilFunc] := by kernel_rfl
theorem zl49 : (zeroV Try.prog 49).map List.length = some 1 := by kernel_rfl
theorem kd50 : kindB Try.prog 50 = some false := by kernel_rfl
theorem ce50 : Try.prog.cellsOf 50 = 1 := by kernel_rfl
theorem by50 : Try.prog.bytesOf 50 = 8 := by kernel_rfl
theorem in50 : (Try.prog.info? 50).isSome = true := by kernel_rfl
theorem ze50 : zeroV Try.prog 50 = some [.val (.int .u64 0)] := by kernel_rfl
theorem zl50 : (zeroV Try.prog 50).map List.length = some 1 := by kernel_rfl
theorem kd51 : kindB Try.prog 51 = some false := by kernel_rfl
theorem ce51 : Try.prog.cellsOf 51 = 1 := by kernel_rfl
theorem by51 : Try.prog.bytesOf 51 = 4 := by kernel_rfl
theorem in51 : (Try.prog.info? 51).isSome = true := by kernel_rfl
theorem ze51 : zeroV Try.prog 51 = some [.val (.int .u32 0)] := by kernel_rfl
theorem zl51 : (zeroV Try.prog 51).map List.length = some 1 := by kernel_rfl
theorem kd52 : kindB Try.prog 52 = some true := by kernel_rfl
theorem ce52 : Try.prog.cellsOf 52 = 12 := by kernel_rfl
theorem by52 : Try.prog.bytesOf 52 = 48 := by kernel_rfl
theorem in52 : (Try.prog.info? 52).isSome = true := by kernel_rfl
theorem ze52 : zeroV Try.prog 52 = some [.val (.int .u32 0), .val (.int .u32 0), .val (.int .u32 0), .val (.int .u32 0), .val (.int .u32 0), .val (.int .u32 0), .val (.int .u32 0), .val (.int .u32 0), .val (.int .u32 0), .val (.int .u32 0), .val (.int .u32 0), .val (.int .u32 0)] := by kernel_rfl
theorem zl52 : (zeroV Try.prog 52).map List.length = some 12 := by kernel_rfl
theorem kd53 : kindB Try.prog 53 = some true := by kernel_rfl
theorem ce53 : Try.prog.cellsOf 53 = 12 := by kernel_rfl
theorem by53 : Try.prog.bytesOf 53 = 48 := by kernel_rfl
theorem in53 : (Try.prog.info? 53).isSome = true := by kernel_rfl
theorem ze53 : zeroV Try.prog 53 = some [.val (.int .u32 0), .val (.int .u32 0), .val (.int .u32 0), .val (.int .u32 0), .val (.int .u32 0), .val (.int .u32 0), .val (.int .u32 0), .val (.int .u32 0), .val (.int .u32 0), .val (.int .u32 0), .val (.int .u32 0), .val (.int .u32 0)] := by kernel_rfl
theorem zl53 : (zeroV Try.prog 53).map List.length = some 12 := by kernel_rfl
theorem kd54 : kindB Try.prog 54 = some true := by kernel_rfl
theorem ce54 : Try.prog.cellsOf 54 = 17 := by kernel_rfl
theorem by54 : Try.prog.bytesOf 54 = 88 := by kernel_rfl
theorem in54 : (Try.prog.info? 54).isSome = true := by kernel_rfl
theorem ze54 : zeroV Try.prog 54 = some [.val (.int .u64 0), .val (.int .i64 0), .val (.int .u32 0), .val (.int .i64 0), .val (.int .i64 0), .val (.int .u32 0), .val (.int .u32 0), .val (.int .u32 0), .val (.int .u32 0), .val (.int .u32 0), .val (.int .u32 0), .val (.int .u32 0), .val (.int .u32 0), .val (.int .u32 0), .val (.int .u32 0), .val (.int .u32 0), .val (.int .u32 0)] := by kernel_rfl
theorem zl54 : (zeroV Try.prog 54).map List.length = some 17 := by kernel_rfl
theorem kd55 : kindB Try.prog 55 = some true := by kernel_rfl
theorem ce55 : Try.prog.cellsOf 55 = 17 := by kernel_rfl
theorem by55 : Try.prog.bytesOf 55 = 88 := by kernel_rfl
theorem in55 : (Try.prog.info? 55).isSome = true := by kernel_rfl
theorem ze55 : zeroV Try.prog 55 = some [.val (.int .u64 0), .val (.int .i64 0), .val (.int .u32 0), .val (.int .i64 0), .val (.int .i64 0), .val (.int .u32 0), .val (.int .u32 0), .val (.int .u32 0), .val (.int .u32 0), .val (.int .u32 0), .val (.int .u32 0), .val (.int .u32 0), .val (.int .u32 0), .val (.int .u32 0), .val (.int .u32 0), .val (.int .u32 0), .val (.int .u32 0)] := by kernel_rfl
theorem zl55 : (zeroV Try.prog 55).map List.length = some 17 := by kernel_rfl
theorem kd56 : kindB Try.prog 56 = some true := by kernel_rfl
theorem ce56 : Try.prog.cellsOf 56 = 18 := by kernel_rfl
theorem by56 : Try.prog.bytesOf 56 = 96 := by kernel_rfl
theorem in56 : (Try.prog.info? 56).isSome = true := by kernel_rfl
theorem ze56 : zeroV Try.prog 56 = some [.val (.int .i64 0), .val (.int .u64 0), .val (.int .i64 0), .val (.int .u32 0), .val (.int .i64 0), .val (.int .i64 0), .val (.int .u32 0), .val (.int .u32 0), .val (.int .u32 0), .val (.int .u32 0), .val (.int .u32 0), .val (.int .u32 0), .val (.int .u32 0), .val (.int .u32 0), .val (.int .u32 0), .val (.int .u32 0), .val (.int .u32 0), .val (.int .u32 0)] := by kernel_rfl
theorem zl56 : (zeroV Try.prog 56).map List.length = some 18 := by kernel_rfl
theorem kd57 : kindB Try.prog 57 = some true := by kernel_rfl
theorem ce57 : Try.prog.cellsOf 57 = 18 := by kernel_rfl
theorem by57 : Try.prog.bytesOf 57 = 96 := by kernel_rfl
theorem in57 : (Try.prog.info? 57).isSome = true := by kernel_rfl
theorem ze57 : zeroV Try.prog 57 = some [.val (.int .i64 0), .val (.int .u64 0), .val (.int .i64 0), .val (.int .u32 0), .val (.int .i64 0), .val (.int .i64 0), .val (.int .u32 0), .val (.int .u32 0), .val (.int .u32 0), .val (.int .u32 0), .val (.int .u32 0), .val (.int .u32 0), .val (.int .u32 0), .val (.int .u32 0), .val (.int .u32 0), .val (.int .u32 0), .val (.int .u32 0), .val (.int .u32 0)] := by kernel_rfl
theorem zl57 : (zeroV Try.prog 57).map List.length = some 18 := by kernel_rfl
theorem kd58 : kindB Try.prog 58 = some false := by kernel_rfl
theorem ce58 : Try.prog.cellsOf 58 = 1 := by kernel_rfl
theorem by58 : Try.prog.bytesOf 58 = 0 := by kernel_rfl
theorem in58 : (Try.prog.info? 58).isSome = true := by kernel_rfl
theorem kd59 : kindB Try.prog 59 = some false := by kernel_rfl
theorem ce59 : Try.prog.cellsOf 59 = 1 := by kernel_rfl
theorem by59 : Try.prog.bytesOf 59 = 8 := by kernel_rfl
theorem in59 : (Try.prog.info? 59).isSome = true := by kernel_rfl
theorem ze59 : zeroV Try.prog 59 = some [.val .nilFunc] := by kernel_rfl
theorem zl59 : (zeroV Try.prog 59).map List.length = some 1 := by kernel_rfl
theorem kd60 : kindB Try.prog 60 = some false := by kernel_rfl
theorem ce60 : Try.prog.cellsOf 60 = 1 := by kernel_rfl
theorem by60 : Try.prog.bytesOf 60 = 8 := by kernel_rfl
theorem in60 : (Try.prog.info? 60).isSome = true := by kernel_rfl
theorem ze60 : zeroV Try.prog 60 = some [.val .nilFunc] := by kernel_rfl
theorem zl60 : (zeroV Try.prog 60).map List.length = some 1 := by kernel_rfl
theorem kd61 : kindB Try.prog 61 = some false := by kernel_rfl
theorem ce61 : Try.prog.cellsOf 61 = 1 := by kernel_rfl
theorem by61 : Try.prog.bytesOf 61 = 24 := by kernel_rfl
theorem in61 : (Try.prog.info? 61).isSome = true := by kernel_rfl
theorem ze61 : zeroV Try.prog 61 = some [.val (.slice none 0 0)] := by kernel_rfl
theorem zl61 : (zeroV Try.prog 61).map List.length = some 1 := by kernel_rfl
theorem kd62 : kindB Try.prog 62 = some false := by kernel_rfl
theorem ce62 : Try.prog.cellsOf 62 = 1 := by kernel_rfl
theorem by62 : Try.prog.bytesOf 62 = 8 := by kernel_rfl
theorem in62 : (Try.prog.info? 62).isSome = true := by kernel_rfl
theorem ze62 : zeroV Try.prog 62 = some [.val (.pointer none)] := by kernel_rfl
theorem zl62 : (zeroV Try.prog 62).map List.length = some 1 := by kernel_rfl
theorem kd63 : kindB Try.prog 63 = some false := by kernel_rfl
theorem ce63 : Try.prog.cellsOf 63 = 1 := by kernel_rfl
theorem by63 : Try.prog.bytesOf 63 = 0 := by kernel_rfl
theorem in63 : (Try.prog.info? 63).isSome = true := by kernel_rfl
theorem kd64 : kindB Try.prog 64 = some false := by kernel_rfl
theorem ce64 : Try.prog.cellsOf 64 = 1 := by kernel_rfl
theorem by64 : Try.prog.bytesOf 64 = 8 := by kernel_rfl
theorem in64 : (Try.prog.info? 64).isSome = true := by kernel_rfl
theorem ze64 : zeroV Try.prog 64 = some [.val .nilFunc] := by kernel_rfl
theorem zl64 : (zeroV Try.prog 64).map List.length = some 1 := by kernel_rfl
theorem kd65 : kindB Try.prog 65 = some false := by kernel_rfl
theorem ce65 : Try.prog.cellsOf 65 = 1 := by kernel_rfl
theorem by65 : Try.prog.bytesOf 65 = 8 := by kernel_rfl
theorem in65 : (Try.prog.info? 65).isSome = true := by kernel_rfl
theorem ze65 : zeroV Try.prog 65 = some [.val .nilFunc] := by kernel_rfl
theorem zl65 : (zeroV Try.prog 65).map List.length = some 1 := by kernel_rfl
theorem kd66 : kindB Try.prog 66 = some true := by kernel_rfl
theorem ce66 : Try.prog.cellsOf 66 = 4 := by kernel_rfl
theorem by66 : Try.prog.bytesOf 66 = 32 := by kernel_rfl
theorem in66 : (Try.prog.info? 66).isSome = true := by kernel_rfl
theorem ze66 : zeroV Try.prog 66 = some [.val (.int .i64 0), .val (.int .i64 0), .val (.int .i64 0), .val (.bool false)] := by kernel_rfl
theorem zl66 : (zeroV Try.prog 66).map List.length = some 4 := by kernel_rfl
theorem kd67 : kindB Try.prog 67 = some true := by kernel_rfl
theorem ce67 : Try.prog.cellsOf 67 = 4 := by kernel_rfl
theorem by67 : Try.prog.bytesOf 67 = 32 := by kernel_rfl
theorem in67 : (Try.prog.info? 67).isSome = true := by kernel_rfl
theorem ze67 : zeroV Try.prog 67 = some [.val (.int .i64 0), .val (.int .i64 0), .val (.int .i64 0), .val (.bool false)] := by kernel_rfl
theorem zl67 : (zeroV Try.prog 67).map List.length = some 4 := by kernel_rfl
theorem kd68 : kindB Try.prog 68 = some false := by kernel_rfl
theorem ce68 : Try.prog.cellsOf 68 = 1 := by kernel_rfl
theorem by68 : Try.prog.bytesOf 68 = 8 := by kernel_rfl
theorem in68 : (Try.prog.info? 68).isSome = true := by kernel_rfl
theorem ze68 : zeroV Try.prog 68 = some [.val .nilFunc] := by kernel_rfl
theorem zl68 : (zeroV Try.prog 68).map List.length = some 1 := by kernel_rfl
theorem kd69 : kindB Try.prog 69 = some false := by kernel_rfl
theorem ce69 : Try.prog.cellsOf 69 = 1 := by kernel_rfl
theorem by69 : Try.prog.bytesOf 69 = 8 := by kernel_rfl
theorem in69 : (Try.prog.info? 69).isSome = true := by kernel_rfl
theorem ze69 : zeroV Try.prog 69 = some [.val .nilFunc] := by kernel_rfl
theorem zl69 : (zeroV Try.prog 69).map List.length = some 1 := by kernel_rfl
theorem kd70 : kindB Try.prog 70 = some false := by kernel_rfl
theorem ce70 : Try.prog.cellsOf 70 = 1 := by kernel_rfl
theorem by70 : Try.prog.bytesOf 70 = 8 := by kernel_rfl
theorem in70 : (Try.prog.info? 70).isSome = true := by kernel_rfl
theorem ze70 : zeroV Try.prog 70 = some [.val .nilFunc] := by kernel_rfl
theorem zl70 : (zeroV Try.prog 70).map List.length = some 1 := by kernel_rfl
theorem kd71 : kindB Try.prog 71 = some false := by kernel_rfl
theorem ce71 : Try.prog.cellsOf 71 = 1 := by kernel_rfl
theorem by71 : Try.prog.bytesOf 71 = 8 := by kernel_rfl
theorem in71 : (Try.prog.info? 71).isSome = true := by kernel_rfl
theorem ze71 : zeroV Try.prog 71 = some [.val .nilFunc] := by kernel_rfl
theorem zl71 : (zeroV Try.prog 71).map List.length = some 1 := by kernel_rfl
theorem kd72 : kindB Try.prog 72 = some false := by kernel_rfl
theorem ce72 : Try.prog.cellsOf 72 = 1 := by kernel_rfl
theorem by72 : Try.prog.bytesOf 72 = 8 := by kernel_rfl
theorem in72 : (Try.prog.info? 72).isSome = true := by kernel_rfl
theorem ze72 : zeroV Try.prog 72 = some [.val .nilFunc] := by kernel_rfl
theorem zl72 : (zeroV Try.prog 72).map List.length = some 1 := by kernel_rfl
theorem kd73 : kindB Try.prog 73 = some false := by kernel_rfl
theorem ce73 : Try.prog.cellsOf 73 = 1 := by kernel_rfl
theorem by73 : Try.prog.bytesOf 73 = 8 := by kernel_rfl
theorem in73 : (Try.prog.info? 73).isSome = true := by kernel_rfl
theorem ze73 : zeroV Try.prog 73 = some [.val .nilFunc] := by kernel_rfl
theorem zl73 : (zeroV Try.prog 73).map List.length = some 1 := by kernel_rfl
theorem kd74 : kindB Try.prog 74 = some false := by kernel_rfl
theorem ce74 : Try.prog.cellsOf 74 = 1 := by kernel_rfl
theorem by74 : Try.prog.bytesOf 74 = 8 := by kernel_rfl
theorem in74 : (Try.prog.info? 74).isSome = true := by kernel_rfl
theorem ze74 : zeroV Try.prog 74 = some [.val .nilFunc] := by kernel_rfl
theorem zl74 : (zeroV Try.prog 74).map List.length = some 1 := by kernel_rfl
theorem kd75 : kindB Try.prog 75 = some false := by kernel_rfl
theorem ce75 : Try.prog.cellsOf 75 = 1 := by kernel_rfl
theorem by75 : Try.prog.bytesOf 75 = 0 := by kernel_rfl
theorem in75 : (Try.prog.info? 75).isSome = true := by kernel_rfl
theorem kd76 : kindB Try.prog 76 = some false := by kernel_rfl
theorem ce76 : Try.prog.cellsOf 76 = 1 := by kernel_rfl
theorem by76 : Try.prog.bytesOf 76 = 8 := by kernel_rfl
theorem in76 : (Try.prog.info? 76).isSome = true := by kernel_rfl
theorem ze76 : zeroV Try.prog 76 = some [.val .nilFunc] := by kernel_rfl
theorem zl76 : (zeroV Try.prog 76).map List.length = some 1 := by kernel_rfl
theorem kd77 : kindB Try.prog 77 = some false := by kernel_rfl
theorem ce77 : Try.prog.cellsOf 77 = 1 := by kernel_rfl
theorem by77 : Try.prog.bytesOf 77 = 8 := by kernel_rfl
theorem in77 : (Try.prog.info? 77).isSome = true := by kernel_rfl
theorem ze77 : zeroV Try.prog 77 = some [.val .nilFunc] := by kernel_rfl
theorem zl77 : (zeroV Try.prog 77).map List.length = some 1 := by kernel_rfl
theorem kd78 : kindB Try.prog 78 = some false := by kernel_rfl
theorem ce78 : Try.prog.cellsOf 78 = 1 := by kernel_rfl
theorem by78 : Try.prog.bytesOf 78 = 8 := by kernel_rfl
theorem in78 : (Try.prog.info? 78).isSome = true := by kernel_rfl
theorem ze78 : zeroV Try.prog 78 = some [.val .nilFunc] := by kernel_rfl
theorem zl78 : (zeroV Try.prog 78).map List.length = some 1 := by kernel_rfl
theorem kd79 : kindB Try.prog 79 = some false := by kernel_rfl
theorem ce79 : Try.prog.cellsOf 79 = 1 := by kernel_rfl
theorem by79 : Try.prog.bytesOf 79 = 8 := by kernel_rfl
theorem in79 : (Try.prog.info? 79).isSome = true := by kernel_rfl
theorem ze79 : zeroV Try.prog 79 = some [.val .nilFunc] := by kernel_rfl
theorem zl79 : (zeroV Try.prog 79).map List.length = some 1 := by kernel_rfl
theorem kd80 : kindB Try.prog 80 = some false := by kernel_rfl
theorem ce80 : Try.prog.cellsOf 80 = 1 := by kernel_rfl
theorem by80 : Try.prog.bytesOf 80 = 8 := by kernel_rfl
theorem in80 : (Try.prog.info? 80).isSome = true := by kernel_rfl
theorem ze80 : zeroV Try.prog 80 = some [.val .nilFunc] := by kernel_rfl
theorem zl80 : (zeroV Try.prog 80).map List.length = some 1 := by kernel_rfl
theorem kd81 : kindB Try.prog 81 = some false := by kernel_rfl
theorem ce81 : Try.prog.cellsOf 81 = 1 := by kernel_rfl
theorem by81 : Try.prog.bytesOf 81 = 8 := by kernel_rfl
theorem in81 : (Try.prog.info? 81).isSome = true := by kernel_rfl
theorem ze81 : zeroV Try.prog 81 = some [.val .nilFunc] := by kernel_rfl
theorem zl81 : (zeroV Try.prog 81).map List.length = some 1 := by kernel_rfl
theorem kd82 : kindB Try.prog 82 = some false := by kernel_rfl
theorem ce82 : Try.prog.cellsOf 82 = 1 := by kernel_rfl
theorem by82 : Try.prog.bytesOf 82 = 8 := by kernel_rfl
theorem in82 : (Try.prog.info? 82).isSome = true := by kernel_rfl
theorem ze82 : zeroV Try.prog 82 = some [.val (.pointer none)] := by kernel_rfl
theorem zl82 : (zeroV Try.prog 82).map List.length = some 1 := by kernel_rfl
theorem kd83 : kindB Try.prog 83 = some true := by kernel_rfl
theorem ce83 : Try.prog.cellsOf 83 = 13 := by kernel_rfl
theorem by83 : Try.prog.bytesOf 83 = 104 := by kernel_rfl
theorem in83 : (Try.prog.info? 83).isSome = true := by kernel_rfl
theorem ze83 : zeroV Try.prog 83 = some [.val (.int .i64 0), .val (.int .i64 0), .val (.int .i64 0), .val (.int .i64 0), .val (.int .i64 0), .val (.int .i64 0), .val (.int .i64 0), .val (.int .i64 0), .val (.int .i64 0), .val (.int .i64 0), .val (.int .i64 0), .val (.int .i64 0), .val (.int .i64 0)] := by kernel_rfl
theorem zl83 : (zeroV Try.prog 83).map List.length = some 13 := by kernel_rfl
theorem kd84 : kindB Try.prog 84 = some true := by kernel_rfl
theorem ce84 : Try.prog.cellsOf 84 = 13 := by kernel_rfl
theorem by84 : Try.prog.bytesOf 84 = 13 := by kernel_rfl
theorem in84 : (Try.prog.info? 84).isSome = true := by kernel_rfl
theorem ze84 : zeroV Try.prog 84 = some [.val (.bool false), .val (.bool false), .val (.bool false), .val (.bool false), .val (.bool false), .val (.bool false), .val (.bool false), .val (.bool false), .val (.bool false), .val (.bool false), .val (.bool false), .val (.bool false), .val (.bool false)] := by kernel_rfl
theorem zl84 : (zeroV Try.prog 84).map List.length = some 13 := by kernel_rfl
theorem kd85 : kindB Try.prog 85 = some true := by kernel_rfl
theorem ce85 : Try.prog.cellsOf 85 = 169 := by kernel_rfl
theorem by85 : Try.prog.bytesOf 85 = 169 := by kernel_rfl
theorem in85 : (Try.prog.info? 85).isSome = true := by kernel_rfl
theorem ze85 : zeroV Try.prog 85 = some [.val (.bool false), .val (.bool false), .val (.bool false), .val (.bool false), .val (.bool false), .val (.bool false), .val (.bool false), .val (.bool false), .val (.bool false), .val (.bool false), .val (.bool false), .val (.bool false), .val (.bool false), .val (.bool false), .val (.bool false), .val (.bool false), .val (.bool false), .val (.bool false), .val (.bool false), .val (.bool false), .val (.bool false), .val (.bool false), .val (.bool false), .val (.bool false), .val (.bool false), .val (.bool false), .val (.bool false), .val (.bool false), .val (.bool false), .val (.bool false), .val (.bool false), .val (.bool false), .val (.bool false), .val (.bool false), .val (.bool false), .val (.bool false), .val (.bool false), .val (.bool false), .val (.bool false), .val (.bool false), .val (.bool false), .val (.bool false), .val (.bool false), .val (.bool false), .val (.bool false), .val (.bool false), .val (.bool false), .val (.bool false), .val (.bool false), .val (.bool false), .val (.bool false), .val (.bool false), .val (.bool false), .val (.bool false), .val (.bool false), .val (.bool false), .val (.bool false), .val (.bool false), .val (.bool false), .val (.bool false), .val (.bool false), .val (.bool false), .val (.bool false), .val (.bool false), .val (.bool false), .val (.bool false), .val (.bool false), .val (.bool false), .val (.bool false), .val (.bool false), .val (.bool false), .val (.bool false), .val (.bool false), .val (.bool false), .val (.bool false), .val (.bool false), .val (.bool false), .val (.bool false), .val (.bool false), .val (.bool false), .val (.bool false), .val (.bool false), .val (.bool false), .val (.bool false), .val (.bool false), .val (.bool false), .val (.bool false), .val (.bool false), .val (.bool false), .val (.bool false), .val (.bool false), .val (.bool false), .val (.bool false), .val (.bool false), .val (.bool false), .val (.bool false), .val (.bool false), .val (.bool false), .val (.bool false), .val (.bool false), .val (.bool false), .val (.bool false), .val (.bool false), .val (.bool false), .val (.bool false), .val (.bool false), .val (.bool false), .val (.bool false), .val (.bool false), .val (.bool false), .val (.bool false), .val (.bool false), .val (.bool false), .val (.bool false), .val (.bool false), .val (.bool false), .val (.bool false), .val (.bool false), .val (.bool false), .val (.bool false), .val (.bool false), .val (.bool false), .val (.bool false), .val (.bool false), .val (.bool false), .val (.bool false), .val (.bool false), .val (.bool false), .val (.bool false), .val (.bool false), .val (.bool false), .val (.bool false), .val (.bool false), .val (.bool false), .val (.bool false), .val (.bool false), .val (.bool false), .val (.bool false), .val (.bool false), .val (.bool false), .val (.bool false), .val (.bool false), .val (.bool false), .val (.bool false), .val (.bool false), .val (.bool false), .val (.bool false), .val (.bool false), .val (.bool false), .val (.bool false), .val (.bool false), .val (.bool false), .val (.bool false), .val (.bool false), .val (.bool false), .val (.bool false), .val (.bool false), .val (.bool false), .val (.bool false), .val (.bool false), .val (.bool false), .val (.bool false), .val (.bool false), .val (.bool false), .val (.bool false), .val (.bool false), .val (.bool false), .val (.bool false), .val (.bool false)] := by kernel_rfl
theorem zl85 : (zeroV Try.prog 85).map List.length = some 169 := by kernel_rfl
theorem kd86 : kindB Try.prog 86 = some true := by kernel_rfl
theorem ce86 : Try.prog.cellsOf 86 = 183 := by kernel_rfl
theorem by86 : Try.prog.bytesOf 86 = 288 := by kernel_rfl
theorem in86 : (Try.prog.info? 86).isSome = true := by kernel_rfl
theorem ze86 : zeroV Try.prog 86 = some [.val (.int .i64 0), .val (.int .i64 0), .val (.int .i64 0), .val (.int .i64 0), .val (.int .i64 0), .val (.int .i64 0), .val (.int .i64 0), .val (.int .i64 0), .val (.int .i64 0), .val (.int .i64 0), .val (.int .i64 0), .val (.int .i64 0), .val (.int .i64 0), .val (.int .i64 0), .val (.bool false), .val (.bool false), .val (.bool false), .val (.bool false), .val (.bool false), .val (.bool false), .val (.bool false), .val (.bool false), .val (.bool false), .val (.bool false), .val (.bool false), .val (.bool false), .val (.bool false), .val (.bool false), .val (.bool false), .val (.bool false), .val (.bool false), .val (.bool false), .val (.bool false), .val (.bool false), .val (.bool false), .val (.bool false), .val (.bool false), .val (.bool false), .val (.bool false), .val (.bool false), .val (.bool false), .val (.bool false), .val (.bool false), .val (.bool false), .val (.bool false), .val (.bool false), .val (.bool false), .val (.bool false), .val (.bool false), .val (.bool false), .val (.bool false), .val (.bool false), .val (.bool false), .val (.bool false), .val (.bool false), .val (.bool false), .val (.bool false), .val (.bool false), .val (.bool false), .val (.bool false), .val (.bool false), .val (.bool false), .val (.bool false), .val (.bool false), .val (.bool false), .val (.bool false), .val (.bool false), .val (.bool false), .val (.bool false), .val (.bool false), .val (.bool false), .val (.bool false), .val (.bool false), .val (.bool false), .val (.bool false), .val (.bool false), .val (.bool false), .val (.bool false), .val (.bool false), .val (.bool false), .val (.bool false), .val (.bool false), .val (.bool false), .val (.bool false), .val (.bool false), .val (.bool false), .val (.bool false), .val (.bool false), .val (.bool false), .val (.bool false), .val (.bool false), .val (.bool false), .val (.bool false), .val (.bool false), .val (.bool false), .val (.bool false), .val (.bool false), .val (.bool false), .val (.bool false), .val (.bool false), .val (.bool false), .val (.bool false), .val (.bool false), .val (.bool false), .val (.bool false), .val (.bool false), .val (.bool false), .val (.bool false), .val (.bool false), .val (.bool false), .val (.bool false), .val (.bool false), .val (.bool false), .val (.bool false), .val (.bool false), .val (.bool false), .val (.bool false), .val (.bool false), .val (.bool false), .val (.bool false), .val (.bool false), .val (.bool false), .val (.bool false), .val (.bool false), .val (.bool false), .val (.bool false), .val (.bool false), .val (.bool false), .val (.bool false), .val (.bool false), .val (.bool false), .val (.bool false), .val (.bool false), .val (.bool false), .val (.bool false), .val (.bool false), .val (.bool false), .val (.bool false), .val (.bool false), .val (.bool false), .val (.bool false), .val (.bool false), .val (.bool false), .val (.bool false), .val (.bool false), .val (.bool false), .val (.bool false), .val (.bool false), .val (.bool false), .val (.bool false), .val (.bool false), .val (.bool false), .val (.bool false), .val (.bool false), .val (.bool false), .val (.bool false), .val (.bool false), .val (.bool false), .val (.bool false), .val (.bool false), .val (.bool false), .val (.bool false), .val (.bool false), .val (.bool false), .val (.bool false), .val (.bool false), .val (.bool false), .val (.bool false), .val (.bool false), .val (.bool false), .val (.bool false), .val (.bool false), .val (.bool false), .val (.bool false), .val (.bool false), .val (.bool false), .val (.bool false), .val (.bool false), .val (.bool false), .val (.bool false), .val (.bool false), .val (.bool false), .val (.bool false)] := by kernel_rfl
theorem zl86 : (zeroV Try.prog 86).map List.length = some 183 := by kernel_rfl
theorem kd87 : kindB Try.prog 87 = some true := by kernel_rfl
theorem ce87 : Try.prog.cellsOf 87 = 183 := by kernel_rfl
theorem by87 : Try.prog.bytesOf 87 = 288 := by kernel_rfl
theorem in87 : (Try.prog.info? 87).isSome = true := by kernel_rfl
theorem ze87 : zeroV Try.prog 87 = some [.val (.int .i64 0), .val (.int .i64 0), .val (.int .i64 0), .val (.int .i64 0), .val (.int .i64 0), .val (.int .i64 0), .val (.int .i64 0), .val (.int .i64 0), .val (.int .i64 0), .val (.int .i64 0), .val (.int .i64 0), .val (.int .i64 0), .val (.int .i64 0), .val (.int .i64 0), .val (.bool false), .val (.bool false), .val (.bool false), .val (.bool false), .val (.bool false), .val (.bool false), .val (.bool false), .val (.bool false), .val (.bool false), .val (.bool false), .val (.bool false), .val (.bool false), .val (.bool false), .val (.bool false), .val (.bool false), .val (.bool false), .val (.bool false), .val (.bool false), .val (.bool false), .val (.bool false), .val (.bool false), .val (.bool false), .val (.bool false), .val (.bool false), .val (.bool false), .val (.bool false), .val (.bool false), .val (.bool false), .val (.bool false), .val (.bool false), .val (.bool false), .val (.bool false), .val (.bool false), .val (.bool false), .val (.bool false), .val (.bool false), .val (.bool false), .val (.bool false), .val (.bool false), .val (.bool false), .val (.bool false), .val (.bool false), .val (.bool false), .val (.bool false), .val (.bool false), .val (.bool false), .val (.bool false), .val (.bool false), .val (.bool false), .val (.bool false), .val (.bool false), .val (.bool false), .val (.bool false), .val (.bool false), .val (.bool false), .val (.bool false), .val (.bool false), .val (.bool false), .val (.bool false), .val (.bool false), .val (.bool false), .val (.bool false), .val (.bool false), .val (.bool false), .val (.bool false), .val (.bool false), .val (.bool false), .val (.bool false), .val (.bool false), .val (.bool false), .val (.bool false), .val (.bool false), .val (.bool false), .val (.bool false), .val (.bool false), .val (.bool false), .val (.bool false), .val (.bool false), .val (.bool false), .val (.bool false), .val (.bool false), .val (.bool false), .val (.bool false), .val (.bool false), .val (.bool false), .val (.bool false), .val (.bool false), .val (.bool false), .val (.bool false), .val (.bool false), .val (.bool false), .val (.bool false), .val (.bool false), .val (.bool false), .val (.bool false), .val (.bool false), .val (.bool false), .val (.bool false), .val (.bool false), .val (.bool false), .val (.bool false), .val (.bool false), .val (.bool false), .val (.bool false), .val (.bool false), .val (.bool false), .val (.bool false), .val (.bool false), .val (.bool false), .val (.bool false), .val (.bool false), .val (.bool false), .val (.bool false), .val (.bool false), .val (.bool false), .val (.bool false), .val (.bool false), .val (.bool false), .val (.bool false), .val (.bool false), .val (.bool false), .val (.bool false), .val (.bool false), .val (.bool false), .val (.bool false), .val (.bool false), .val (.bool false), .val (.bool false), .val (.bool false), .val (.bool false), .val (.bool false), .val (.bool false), .val (.bool false), .val (.bool false), .val (.bool false), .val (.bool false), .val (.bool false), .val (.bool false), .val (.bool false), .val (.bool false), .val (.bool false), .val (.bool false), .val (.bool false), .val (.bool false), .val (.bool false), .val (.bool false), .val (.bool false), .val (.bool false), .val (.bool false), .val (.bool false), .val (.bool false), .val (.bool false), .val (.bool false), .val (.bool false), .val (.bool false), .val (.bool false), .val (.bool false), .val (.bool false), .val (.bool false), .val (.bool false), .val (.bool false), .val (.bool false), .val (.bool false), .val (.bool false), .val (.bool false), .val (.bool false), .val (.bool false), .val (.bool false), .val (.bool false)] := by kernel_rfl
theorem zl87 : (zeroV Try.prog 87).map List.length = some 183 := by kernel_rfl
theorem kd88 : kindB Try.prog 88 = some false := by kernel_rfl
theorem ce88 : Try.prog.cellsOf 88 = 1 := by kernel_rfl
theorem by88 : Try.prog.bytesOf 88 = 8 := by kernel_rfl
theorem in88 : (Try.prog.info? 88).isSome = true := by kernel_rfl
theorem ze88 : zeroV Try.prog 88 = some [.val .nilFunc] := by kernel_rfl
theorem zl88 : (zeroV Try.prog 88).map List.length = some 1 := by kernel_rfl
theorem kd89 : kindB Try.prog 89 = some false := by kernel_rfl
theorem ce89 : Try.prog.cellsOf 89 = 1 := by kernel_rfl
theorem by89 : Try.prog.bytesOf 89 = 8 := by kernel_rfl
theorem in89 : (Try.prog.info? 89).isSome = true := by kernel_rfl
theorem ze89 : zeroV Try.prog 89 = some [.val .nilFunc] := by kernel_rfl
theorem zl89 : (zeroV Try.prog 89).map List.length = some 1 := by kernel_rfl
theorem kd90 : kindB Try.prog 90 = some true := by kernel_rfl
theorem ce90 : Try.prog.cellsOf 90 = 2 := by kernel_rfl
theorem by90 : Try.prog.bytesOf 90 = 32 := by kernel_rfl
theorem in90 : (Try.prog.info? 90).isSome = true := by kernel_rfl
theorem ze90 : zeroV Try.prog 90 = some [.val (.int .i64 0), .val (.slice none 0 0)] := by kernel_rfl
theorem zl90 : (zeroV Try.prog 90).map List.length = some 2 := by kernel_rfl
theorem kd91 : kindB Try.prog 91 = some true := by kernel_rfl
theorem ce91 : Try.prog.cellsOf 91 = 2 := by kernel_rfl
theorem by91 : Try.prog.bytesOf 91 = 32 := by kernel_rfl
theorem in91 : (Try.prog.info? 91).isSome = true := by kernel_rfl
theorem ze91 : zeroV Try.prog 91 = some [.val (.int .i64 0), .val (.slice none 0 0)] := by kernel_rfl
theorem zl91 : (zeroV Try.prog 91).map List.length = some 2 := by kernel_rfl
theorem kd92 : kindB Try.prog 92 = some true := by kernel_rfl
theorem ce92 : Try.prog.cellsOf 92 = 24 := by kernel_rfl
theorem by92 : Try.prog.bytesOf 92 = 384 := by kernel_rfl
theorem in92 : (Try.prog.info? 92).isSome = true := by kernel_rfl
theorem ze92 : zeroV Try.prog 92 = some [.val (.int .i64 0), .val (.slice none 0 0), .val (.int .i64 0), .val (.slice none 0 0), .val (.int .i64 0), .val (.slice none 0 0), .val (.int .i64 0), .val (.slice none 0 0), .val (.int .i64 0), .val (.slice none 0 0), .val (.int .i64 0), .val (.slice none 0 0), .val (.int .i64 0), .val (.slice none 0 0), .val (.int .i64 0), .val (.slice none 0 0), .val (.int .i64 0), .val (.slice none 0 0), .val (.int .i64 0), .val (.slice none 0 0), .val (.int .i64 0), .val (.slice none 0 0), .val (.int .i64 0), .val (.slice none 0 0)] := by kernel_rfl
theorem zl92 : (zeroV Try.prog 92).map List.length = some 24 := by kernel_rfl
theorem kd93 : kindB Try.prog 93 = some true := by kernel_rfl
theorem ce93 : Try.prog.cellsOf 93 = 25 := by kernel_rfl
theorem by93 : Try.prog.bytesOf 93 = 392 := by kernel_rfl
theorem in93 : (Try.prog.info? 93).isSome = true := by kernel_rfl
theorem ze93 : zeroV Try.prog 93 = some [.val (.int .i64 0), .val (.int .i64 0), .val (.slice none 0 0), .val (.int .i64 0), .val (.slice none 0 0), .val (.int .i64 0), .val (.slice none 0 0), .val (.int .i64 0), .val (.slice none 0 0), .val (.int .i64 0), .val (.slice none 0 0), .val (.int .i64 0), .val (.slice none 0 0), .val (.int .i64 0), .val (.slice none 0 0), .val (.int .i64 0), .val (.slice none 0 0), .val (.int .i64 0), .val (.slice none 0 0), .val (.int .i64 0), .val (.slice none 0 0), .val (.int .i64 0), .val (.slice none 0 0), .val (.int .i64 0), .val (.slice none 0 0)] := by kernel_rfl
theorem zl93 : (zeroV Try.prog 93).map List.length = some 25 := by kernel_rfl
theorem kd94 : kindB Try.prog 94 = some true := by kernel_rfl
theorem ce94 : Try.prog.cellsOf 94 = 25 := by kernel_rfl
theorem by94 : Try.prog.bytesOf 94 = 392 := by kernel_rfl
theorem in94 : (Try.prog.info? 94).isSome = true := by kernel_rfl
theorem ze94 : zeroV Try.prog 94 = some [.val (.int .i64 0), .val (.int .i64 0), .val (.slice none 0 0), .val (.int .i64 0), .val (.slice none 0 0), .val (.int .i64 0), .val (.slice none 0 0), .val (.int .i64 0), .val (.slice none 0 0), .val (.int .i64 0), .val (.slice none 0 0), .val (.int .i64 0), .val (.slice none 0 0), .val (.int .i64 0), .val (.slice none 0 0), .val (.int .i64 0), .val (.slice none 0 0), .val (.int .i64 0), .val (.slice none 0 0), .val (.int .i64 0), .val (.slice none 0 0), .val (.int .i64 0), .val (.slice none 0 0), .val (.int .i64 0), .val (.slice none 0 0)] := by kernel_rfl
theorem zl94 : (zeroV Try.prog 94).map List.length = some 25 := by kernel_rfl
theorem kd95 : kindB Try.prog 95 = some false := by kernel_rfl
theorem ce95 : Try.prog.cellsOf 95 = 1 := by kernel_rfl
theorem by95 : Try.prog.bytesOf 95 = 8 := by kernel_rfl
theorem in95 : (Try.prog.info? 95).isSome = true := by kernel_rfl
theorem ze95 : zeroV Try.prog 95 = some [.val .nilFunc] := by kernel_rfl
theorem zl95 : (zeroV Try.prog 95).map List.length = some 1 := by kernel_rfl
theorem kd96 : kindB Try.prog 96 = some false := by kernel_rfl
theorem ce96 : Try.prog.cellsOf 96 = 1 := by kernel_rfl
theorem by96 : Try.prog.bytesOf 96 = 8 := by kernel_rfl
theorem in96 : (Try.prog.info? 96).isSome = true := by kernel_rfl
theorem ze96 : zeroV Try.prog 96 = some [.val .nilFunc] := by kernel_rfl
theorem zl96 : (zeroV Try.prog 96).map List.length = some 1 := by kernel_rfl
theorem kd97 : kindB Try.prog 97 = some false := by kernel_rfl
theorem ce97 : Try.prog.cellsOf 97 = 1 := by kernel_rfl
theorem by97 : Try.prog.bytesOf 97 = 8 := by kernel_rfl
theorem in97 : (Try.prog.info? 97).isSome = true := by kernel_rfl
theorem ze97 : zeroV Try.prog 97 = some [.val .nilFunc] := by kernel_rfl
theorem zl97 : (zeroV Try.prog 97).map List.length = some 1 := by kernel_rfl
theorem kd98 : kindB Try.prog 98 = some false := by kernel_rfl
theorem ce98 : Try.prog.cellsOf 98 = 1 := by kernel_rfl
theorem by98 : Try.prog.bytesOf 98 = 24 := by kernel_rfl
theorem in98 : (Try.prog.info? 98).isSome = true := by kernel_rfl
theorem ze98 : zeroV Try.prog 98 = some [.val (.slice none 0 0)] := by kernel_rfl
theorem zl98 : (zeroV Try.prog 98).map List.length = some 1 := by kernel_rfl
theorem kd99 : kindB Try.prog 99 = some false := by kernel_rfl
theorem ce99 : Try.prog.cellsOf 99 = 1 := by kernel_rfl
theorem by99 : Try.prog.bytesOf 99 = 8 := by kernel_rfl
theorem in99 : (Try.prog.info? 99).isSome = true := by kernel_rfl
theorem ze99 : zeroV Try.prog 99 = some [.val .nilFunc] := by kernel_rfl
theorem zl99 : (zeroV Try.prog 99).map List.length = some 1 := by kernel_rfl
theorem kd100 : kindB Try.prog 100 = some false := by kernel_rfl
theorem ce100 : Try.prog.cellsOf 100 = 1 := by kernel_rfl
theorem by100 : Try.prog.bytesOf 100 = 8 := by kernel_rfl
theorem in100 : (Try.prog.info? 100).isSome = true := by kernel_rfl
theorem ze100 : zeroV Try.prog 100 = some [.val (.pointer none)] := by kernel_rfl
theorem zl100 : (zeroV Try.prog 100).map List.length = some 1 := by kernel_rfl
theorem kd101 : kindB Try.prog 101 = some false := by kernel_rfl
theorem ce101 : Try.prog.cellsOf 101 = 1 := by kernel_rfl
theorem by101 : Try.prog.bytesOf 101 = 0 := by kernel_rfl
theorem in101 : (Try.prog.info? 101).isSome = true := by kernel_rfl
theorem kd102 : kindB Try.prog 102 = some false := by kernel_rfl
theorem ce102 : Try.prog.cellsOf 102 = 1 := by kernel_rfl
theorem by102 : Try.prog.bytesOf 102 = 8 := by kernel_rfl
theorem in102 : (Try.prog.info? 102).isSome = true := by kernel_rfl
theorem ze102 : zeroV Try.prog 102 = some [.val .nilFunc] := by kernel_rfl
theorem zl102 : (zeroV Try.prog 102).map List.length = some 1 := by kernel_rfl
theorem kd103 : kindB Try.prog 103 = some false := by kernel_rfl
theorem ce103 : Try.prog.cellsOf 103 = 1 := by kernel_rfl
theorem by103 : Try.prog.bytesOf 103 = 8 := by kernel_rfl
theorem in103 : (Try.prog.info? 103).isSome = true := by kernel_rfl
theorem ze103 : zeroV Try.prog 103 = some [.val (.pointer none)] := by kernel_rfl
theorem zl103 : (zeroV Try.prog 103).map List.length = some 1 := by kernel_rfl
theorem kd104 : kindB Try.prog 104 = some false := by kernel_rfl
theorem ce104 : Try.prog.cellsOf 104 = 1 := by kernel_rfl
theorem by104 : Try.prog.bytesOf 104 = 0 := by kernel_rfl
theorem in104 : (Try.prog.info? 104).isSome = true := by kernel_rfl
theorem kd105 : kindB Try.prog 105 = some false := by kernel_rfl
theorem ce105 : Try.prog.cellsOf 105 = 1 := by kernel_rfl
theorem by105 : Try.prog.bytesOf 105 = 8 := by kernel_rfl
theorem in105 : (Try.prog.info? 105).isSome = true := by kernel_rfl
theorem ze105 : zeroV Try.prog 105 = some [.val .nilFunc] := by kernel_rfl
theorem zl105 : (zeroV Try.prog 105).map List.length = some 1 := by kernel_rfl
theorem kd106 : kindB Try.prog 106 = some false := by kernel_rfl
theorem ce106 : Try.prog.cellsOf 106 = 1 := by kernel_rfl
theorem by106 : Try.prog.bytesOf 106 = 8 := by kernel_rfl
theorem in106 : (Try.prog.info? 106).isSome = true := by kernel_rfl
theorem ze106 : zeroV Try.prog 106 = some [.val .nilFunc] := by kernel_rfl
theorem zl106 : (zeroV Try.prog 106).map List.length = some 1 := by kernel_rfl
theorem kd107 : kindB Try.prog 107 = some false := by kernel_rfl
theorem ce107 : Try.prog.cellsOf 107 = 1 := by kernel_rfl
theorem by107 : Try.prog.bytesOf 107 = 24 := by kernel_rfl
theorem in107 : (Try.prog.info? 107).isSome = true := by kernel_rfl
theorem ze107 : zeroV Try.prog 107 = some [.val (.slice none 0 0)] := by kernel_rfl
theorem zl107 : (zeroV Try.prog 107).map List.length = some 1 := by kernel_rfl
theorem kd108 : kindB Try.prog 108 = some true := by kernel_rfl
theorem ce108 : Try.prog.cellsOf 108 = 2 := by kernel_rfl
theorem by108 : Try.prog.bytesOf 108 = 32 := by kernel_rfl
theorem in108 : (Try.prog.info? 108).isSome = true := by kernel_rfl
theorem ze108 : zeroV Try.prog 108 = some [.val (.int .i64 0), .val (.slice none 0 0)] := by kernel_rfl
theorem zl108 : (zeroV Try.prog 108).map List.length = some 2 := by kernel_rfl
theorem kd109 : kindB Try.prog 109 = some true := by kernel_rfl
theorem ce109 : Try.prog.cellsOf 109 = 2 := by kernel_rfl
theorem by109 : Try.prog.bytesOf 109 = 32 := by kernel_rfl
theorem in109 : (Try.prog.info? 109).isSome = true := by kernel_rfl
theorem ze109 : zeroV Try.prog 109 = some [.val (.int .i64 0), .val (.slice none 0 0)] := by kernel_rfl
theorem zl109 : (zeroV Try.prog 109).map List.length = some 2 := by kernel_rfl
theorem kd110 : kindB Try.prog 110 = some false := by kernel_rfl
theorem ce110 : Try.prog.cellsOf 110 = 1 := by kernel_rfl
theorem by110 : Try.prog.bytesOf 110 = 24 := by kernel_rfl
theorem in110 : (Try.prog.info? 110).isSome = true := by kernel_rfl
theorem ze110 : zeroV Try.prog 110 = some [.val (.slice none 0 0)] := by kernel_rfl
theorem zl110 : (zeroV Try.prog 110).map List.length = some 1 := by kernel_rfl
theorem kd111 : kindB Try.prog 111 = some false := by kernel_rfl
theorem ce111 : Try.prog.cellsOf 111 = 1 := by kernel_rfl
theorem by111 : Try.prog.bytesOf 111 = 8 := by kernel_rfl
theorem in111 : (Try.prog.info? 111).isSome = true := by kernel_rfl
theorem ze111 : zeroV Try.prog 111 = some [.val .nilFunc] := by kernel_rfl
theorem zl111 : (zeroV Try.prog 111).map List.length = some 1 := by kernel_rfl
theorem kd112 : kindB Try.prog 112 = some false := by kernel_rfl
theorem ce112 : Try.prog.cellsOf 112 = 1 := by kernel_rfl
theorem by112 : Try.prog.bytesOf 112 = 8 := by kernel_rfl
theorem in112 : (Try.prog.info? 112).isSome = true := by kernel_rfl
theorem ze112 : zeroV Try.prog 112 = some [.val .nilFunc] := by kernel_rfl
theorem zl112 : (zeroV Try.prog 112).map List.length = some 1 := by kernel_rfl
theorem kd113 : kindB Try.prog 113 = some false := by kernel_rfl
theorem ce113 : Try.prog.cellsOf 113 = 1 := by kernel_rfl
theorem by113 : Try.prog.bytesOf 113 = 24 := by kernel_rfl
theorem in113 : (Try.prog.info? 113).isSome = true := by kernel_rfl
theorem ze113 : zeroV Try.prog 113 = some [.val (.slice none 0 0)] := by kernel_rfl
theorem zl113 : (zeroV Try.prog 113).map List.length = some 1 := by kernel_rfl
theorem kd114 : kindB Try.prog 114 = some false := by kernel_rfl
theorem ce114 : Try.prog.cellsOf 114 = 1 := by kernel_rfl
theorem by114 : Try.prog.bytesOf 114 = 24 := by kernel_rfl
theorem in114 : (Try.prog.info? 114).isSome = true := by kernel_rfl
theorem ze114 : zeroV Try.prog 114 = some [.val (.slice none 0 0)] := by kernel_rfl
theorem zl114 : (zeroV Try.prog 114).map List.length = some 1 := by kernel_rfl
theorem kd115 : kindB Try.prog 115 = some false := by kernel_rfl
theorem ce115 : Try.prog.cellsOf 115 = 1 := by kernel_rfl
theorem by115 : Try.prog.bytesOf 115 = 0 := by kernel_rfl
theorem in115 : (Try.prog.info? 115).isSome = true := by kernel_rfl
theorem kd116 : kindB Try.prog 116 = some false := by kernel_rfl
theorem ce116 : Try.prog.cellsOf 116 = 1 := by kernel_rfl
theorem by116 : Try.prog.bytesOf 116 = 8 := by kernel_rfl
theorem in116 : (Try.prog.info? 116).isSome = true := by kernel_rfl
theorem ze116 : zeroV Try.prog 116 = some [.val .nilFunc] := by kernel_rfl
theorem zl116 : (zeroV Try.prog 116).map List.length = some 1 := by kernel_rfl
theorem kd117 : kindB Try.prog 117 = some false := by kernel_rfl
theorem ce117 : Try.prog.cellsOf 117 = 1 := by kernel_rfl
theorem by117 : Try.prog.bytesOf 117 = 24 := by kernel_rfl
theorem in117 : (Try.prog.info? 117).isSome = true := by kernel_rfl
theorem ze117 : zeroV Try.prog 117 = some [.val (.slice none 0 0)] := by kernel_rfl
theorem zl117 : (zeroV Try.prog 117).map List.length = some 1 := by kernel_rfl
theorem kd118 : kindB Try.prog 118 = some false := by kernel_rfl
theorem ce118 : Try.prog.cellsOf 118 = 1 := by kernel_rfl
theorem by118 : Try.prog.bytesOf 118 = 0 := by kernel_rfl
theorem in118 : (Try.prog.info? 118).isSome = true := by kernel_rfl
theorem kd119 : kindB Try.prog 119 = some false := by kernel_rfl
theorem ce119 : Try.prog.cellsOf 119 = 1 := by kernel_rfl
theorem by119 : Try.prog.bytesOf 119 = 8 := by kernel_rfl
theorem in119 : (Try.prog.info? 119).isSome = true := by kernel_rfl
theorem ze119 : zeroV Try.prog 119 = some [.val .nilFunc] := by kernel_rfl
theorem zl119 : (zeroV Try.prog 119).map List.length = some 1 := by kernel_rfl
theorem kd120 : kindB Try.prog 120 = some false := by kernel_rfl
theorem ce120 : Try.prog.cellsOf 120 = 1 := by kernel_rfl
theorem by120 : Try.prog.bytesOf 120 = 8 := by kernel_rfl
theorem in120 : (Try.prog.info? 120).isSome = true := by kernel_rfl
theorem ze120 : zeroV Try.prog 120 = some [.val .nilFunc] := by kernel_rfl
theorem zl120 : (zeroV Try.prog 120).map List.length = some 1 := by kernel_rfl
theorem kd121 : kindB Try.prog 121 = some false := by kernel_rfl
theorem ce121 : Try.prog.cellsOf 121 = 1 := by kernel_rfl
theorem by121 : Try.prog.bytesOf 121 = 8 := by kernel_rfl
theorem in121 : (Try.prog.info? 121).isSome = true := by kernel_rfl
theorem ze121 : zeroV Try.prog 121 = some [.val .nilFunc] := by kernel_rfl
theorem zl121 : (zeroV Try.prog 121).map List.length = some 1 := by kernel_rfl
theorem kd122 : kindB Try.prog 122 = some false := by kernel_rfl
theorem ce122 : Try.prog.cellsOf 122 = 1 := by kernel_rfl
theorem by122 : Try.prog.bytesOf 122 = 8 := by kernel_rfl
theorem in122 : (Try.prog.info? 122).isSome = true := by kernel_rfl
theorem ze122 : zeroV Try.prog 122 = some [.val .nilFunc] := by kernel_rfl
theorem zl122 : (zeroV Try.prog 122).map List.length = some 1 := by kernel_rfl
theorem kd123 : kindB Try.prog 123 = some false := by kernel_rfl
theorem ce123 : Try.prog.cellsOf 123 = 1 := by kernel_rfl
theorem by123 : Try.prog.bytesOf 123 = 8 := by kernel_rfl
theorem in123 : (Try.prog.info? 123).isSome = true := by kernel_rfl
theorem ze123 : zeroV Try.prog 123 = some [.val .nilFunc] := by kernel_rfl
theorem zl123 : (zeroV Try.prog 123).map List.length = some 1 := by kernel_rfl
theorem kd124 : kindB Try.prog 124 = some false := by kernel_rfl
theorem ce124 : Try.prog.cellsOf 124 = 1 := by kernel_rfl
theorem by124 : Try.prog.bytesOf 124 = 8 := by kernel_rfl
theorem in124 : (Try.prog.info? 124).isSome = true := by kernel_rfl
theorem ze124 : zeroV Try.prog 124 = some [.val .nilFunc] := by kernel_rfl
theorem zl124 : (zeroV Try.prog 124).map List.length = some 1 := by kernel_rfl
theorem kd125 : kindB Try.prog 125 = some false := by kernel_rfl
theorem ce125 : Try.prog.cellsOf 125 = 1 := by kernel_rfl
theorem by125 : Try.prog.bytesOf 125 = 8 := by kernel_rfl
theorem in125 : (Try.prog.info? 125).isSome = true := by kernel_rfl
theorem ze125 : zeroV Try.prog 125 = some [.val .nilFunc] := by kernel_rfl
theorem zl125 : (zeroV Try.prog 125).map List.length = some 1 := by kernel_rfl
theorem kd126 : kindB Try.prog 126 = some false := by kernel_rfl
theorem ce126 : Try.prog.cellsOf 126 = 1 := by kernel_rfl
theorem by126 : Try.prog.bytesOf 126 = 8 := by kernel_rfl
theorem in126 : (Try.prog.info? 126).isSome = true := by kernel_rfl
theorem ze126 : zeroV Try.prog 126 = some [.val .nilFunc] := by kernel_rfl
theorem zl126 : (zeroV Try.prog 126).map List.length = some 1 := by kernel_rfl
theorem kd127 : kindB Try.prog 127 = some false := by kernel_rfl
theorem ce127 : Try.prog.cellsOf 127 = 1 := by kernel_rfl
theorem by127 : Try.prog.bytesOf 127 = 8 := by kernel_rfl
theorem in127 : (Try.prog.info? 127).isSome = true := by kernel_rfl
theorem ze127 : zeroV Try.prog 127 = some [.val .nilFunc] := by kernel_rfl
theorem zl127 : (zeroV Try.prog 127).map List.length = some 1 := by kernel_rfl
theorem kd128 : kindB Try.prog 128 = some false := by kernel_rfl
theorem ce128 : Try.prog.cellsOf 128 = 1 := by kernel_rfl
theorem by128 : Try.prog.bytesOf 128 = 8 := by kernel_rfl
theorem in128 : (Try.prog.info? 128).isSome = true := by kernel_rfl
theorem ze128 : zeroV Try.prog 128 = some [.val .nilFunc] := by kernel_rfl
theorem zl128 : (zeroV Try.prog 128).map List.length = some 1 := by kernel_rfl
theorem kd129 : kindB Try.prog 129 = some false := by kernel_rfl
theorem ce129 : Try.prog.cellsOf 129 = 1 := by kernel_rfl
theorem by129 : Try.prog.bytesOf 129 = 8 := by kernel_rfl
theorem in129 : (Try.prog.info? 129).isSome = true := by kernel_rfl
theorem ze129 : zeroV Try.prog 129 = some [.val .nilFunc] := by kernel_rfl
theorem zl129 : (zeroV Try.prog 129).map List.length = some 1 := by kernel_rfl
theorem kd130 : kindB Try.prog 130 = some false := by kernel_rfl
theorem ce130 : Try.prog.cellsOf 130 = 1 := by kernel_rfl
theorem by130 : Try.prog.bytesOf 130 = 8 := by kernel_rfl
theorem in130 : (Try.prog.info? 130).isSome = true := by kernel_rfl
theorem ze130 : zeroV Try.prog 130 = some [.val .nilFunc] := by kernel_rfl
theorem zl130 : (zeroV Try.prog 130).map List.length = some 1 := by kernel_rfl
theorem kd131 : kindB Try.prog 131 = some false := by kernel_rfl
theorem ce131 : Try.prog.cellsOf 131 = 1 := by kernel_rfl
theorem by131 : Try.prog.bytesOf 131 = 8 := by kernel_rfl
theorem in131 : (Try.prog.info? 131).isSome = true := by kernel_rfl
theorem ze131 : zeroV Try.prog 131 = some [.val .nilFunc] := by kernel_rfl
theorem zl131 : (zeroV Try.prog 131).map List.length = some 1 := by kernel_rfl
theorem kd132 : kindB Try.prog 132 = some false := by kernel_rfl
theorem ce132 : Try.prog.cellsOf 132 = 1 := by kernel_rfl
theorem by132 : Try.prog.bytesOf 132 = 8 := by kernel_rfl
theorem in132 : (Try.prog.info? 132).isSome = true := by kernel_rfl
theorem ze132 : zeroV Try.prog 132 = some [.val .nilFunc] := by kernel_rfl
theorem zl132 : (zeroV Try.prog 132).map List.length = some 1 := by kernel_rfl
theorem kd133 : kindB Try.prog 133 = some false := by kernel_rfl
theorem ce133 : Try.prog.cellsOf 133 = 1 := by kernel_rfl
theorem by133 : Try.prog.bytesOf 133 = 0 := by kernel_rfl
theorem in133 : (Try.prog.info? 133).isSome = true := by kernel_rfl
theorem kd134 : kindB Try.prog 134 = some false := by kernel_rfl
theorem ce134 : Try.prog.cellsOf 134 = 1 := by kernel_rfl
theorem by134 : Try.prog.bytesOf 134 = 8 := by kernel_rfl
theorem in134 : (Try.prog.info? 134).isSome = true := by kernel_rfl
theorem ze134 : zeroV Try.prog 134 = some [.val .nilFunc] := by kernel_rfl
theorem zl134 : (zeroV Try.prog 134).map List.length = some 1 := by kernel_rfl
theorem kd135 : kindB Try.prog 135 = some true := by kernel_rfl
theorem ce135 : Try.prog.cellsOf 135 = 2 := by kernel_rfl
theorem by135 : Try.prog.bytesOf 135 = 16 := by kernel_rfl
theorem in135 : (Try.prog.info? 135).isSome = true := by kernel_rfl
theorem ze135 : zeroV Try.prog 135 = some [.val (.int .i64 0), .val (.int .i64 0)] := by kernel_rfl
theorem zl135 : (zeroV Try.prog 135).map List.length = some 2 := by kernel_rfl
theorem kd136 : kindB Try.prog 136 = some true := by kernel_rfl
theorem ce136 : Try.prog.cellsOf 136 = 2 := by kernel_rfl
theorem by136 : Try.prog.bytesOf 136 = 16 := by kernel_rfl
theorem in136 : (Try.prog.info? 136).isSome = true := by kernel_rfl
theorem ze136 : zeroV Try.prog 136 = some [.val (.int .i64 0), .val (.int .i64 0)] := by kernel_rfl
theorem zl136 : (zeroV Try.prog 136).map List.length = some 2 := by kernel_rfl
theorem kd137 : kindB Try.prog 137 = some false := by kernel_rfl
theorem ce137 : Try.prog.cellsOf 137 = 1 := by kernel_rfl
theorem by137 : Try.prog.bytesOf 137 = 8 := by kernel_rfl
theorem in137 : (Try.prog.info? 137).isSome = true := by kernel_rfl
theorem ze137 : zeroV Try.prog 137 = some [.val .nilFunc] := by kernel_rfl
theorem zl137 : (zeroV Try.prog 137).map List.length = some 1 := by kernel_rfl
theorem kd138 : kindB Try.prog 138 = some false := by kernel_rfl
theorem ce138 : Try.prog.cellsOf 138 = 1 := by kernel_rfl
theorem by138 : Try.prog.bytesOf 138 = 8 := by kernel_rfl
theorem in138 : (Try.prog.info? 138).isSome = true := by kernel_rfl
theorem ze138 : zeroV Try.prog 138 = some [.val .nilFunc] := by kernel_rfl
theorem zl138 : (zeroV Try.prog 138).map List.length = some 1 := by kernel_rfl
theorem kd139 : kindB Try.prog 139 = some false := by kernel_rfl
theorem ce139 : Try.prog.cellsOf 139 = 1 := by kernel_rfl
theorem by139 : Try.prog.bytesOf 139 = 8 := by kernel_rfl
theorem in139 : (Try.prog.info? 139).isSome = true := by kernel_rfl
theorem ze139 : zeroV Try.prog 139 = some [.val .nilFunc] := by kernel_rfl
theorem zl139 : (zeroV Try.prog 139).map List.length = some 1 := by kernel_rfl
theorem kd140 : kindB Try.prog 140 = some false := by kernel_rfl
theorem ce140 : Try.prog.cellsOf 140 = 1 := by kernel_rfl
theorem by140 : Try.prog.bytesOf 140 = 8 := by kernel_rfl
theorem in140 : (Try.prog.info? 140).isSome = true := by kernel_rfl
theorem ze140 : zeroV Try.prog 140 = some [.val .nilFunc] := by kernel_rfl
theorem zl140 : (zeroV Try.prog 140).map List.length = some 1 := by kernel_rfl
theorem kd141 : kindB Try.prog 141 = some true := by kernel_rfl
theorem ce141 : Try.prog.cellsOf 141 = 2 := by kernel_rfl
theorem by141 : Try.prog.bytesOf 141 = 16 := by kernel_rfl
theorem in141 : (Try.prog.info? 141).isSome = true := by kernel_rfl
theorem ze141 : zeroV Try.prog 141 = some [.val (.int .i64 0), .val (.int .i64 0)] := by kernel_rfl
theorem zl141 : (zeroV Try.prog 141).map List.length = some 2 := by kernel_rfl
theorem kd142 : kindB Try.prog 142 = some false := by kernel_rfl
theorem ce142 : Try.prog.cellsOf 142 = 1 := by kernel_rfl
theorem by142 : Try.prog.bytesOf 142 = 8 := by kernel_rfl
theorem in142 : (Try.prog.info? 142).isSome = true := by kernel_rfl
theorem ze142 : zeroV Try.prog 142 = some [.val (.pointer none)] := by kernel_rfl
theorem zl142 : (zeroV Try.prog 142).map List.length = some 1 := by kernel_rfl
theorem kd143 : kindB Try.prog 143 = some false := by kernel_rfl
theorem ce143 : Try.prog.cellsOf 143 = 1 := by kernel_rfl
theorem by143 : Try.prog.bytesOf 143 = 8 := by kernel_rfl
theorem in143 : (Try.prog.info? 143).isSome = true := by kernel_rfl
theorem ze143 : zeroV Try.prog 143 = some [.val .nilFunc] := by kernel_rfl
theorem zl143 : (zeroV Try.prog 143).map List.length = some 1 := by kernel_rfl
theorem kd144 : kindB Try.prog 144 = some false := by kernel_rfl
theorem ce144 : Try.prog.cellsOf 144 = 1 := by kernel_rfl
theorem by144 : Try.prog.bytesOf 144 = 8 := by kernel_rfl
theorem in144 : (Try.prog.info? 144).isSome = true := by kernel_rfl
theorem ze144 : zeroV Try.prog 144 = some [.val .nilFunc] := by kernel_rfl
theorem zl144 : (zeroV Try.prog 144).map List.length = some 1 := by kernel_rfl
theorem kd145 : kindB Try.prog 145 = some false := by kernel_rfl
theorem ce145 : Try.prog.cellsOf 145 = 1 := by kernel_rfl
theorem by145 : Try.prog.bytesOf 145 = 8 := by kernel_rfl
theorem in145 : (Try.prog.info? 145).isSome = true := by kernel_rfl
theorem ze145 : zeroV Try.prog 145 = some [.val .nilFunc] := by kernel_rfl
theorem zl145 : (zeroV Try.prog 145).map List.length = some 1 := by kernel_rfl
theorem kd146 : kindB Try.prog 146 = some false := by kernel_rfl
theorem ce146 : Try.prog.cellsOf 146 = 1 := by kernel_rfl
theorem by146 : Try.prog.bytesOf 146 = 8 := by kernel_rfl
theorem in146 : (Try.prog.info? 146).isSome = true := by kernel_rfl
theorem ze146 : zeroV Try.prog 146 = some [.val (.pointer none)] := by kernel_rfl
theorem zl146 : (zeroV Try.prog 146).map List.length = some 1 := by kernel_rfl
theorem kd147 : kindB Try.prog 147 = some false := by kernel_rfl
theorem ce147 : Try.prog.cellsOf 147 = 1 := by kernel_rfl
theorem by147 : Try.prog.bytesOf 147 = 8 := by kernel_rfl
theorem in147 : (Try.prog.info? 147).isSome = true := by kernel_rfl
theorem ze147 : zeroV Try.prog 147 = some [.val .nilFunc] := by kernel_rfl
theorem zl147 : (zeroV Try.prog 147).map List.length = some 1 := by kernel_rfl
theorem kd148 : kindB Try.prog 148 = some true := by kernel_rfl
theorem ce148 : Try.prog.cellsOf 148 = 2 := by kernel_rfl
theorem by148 : Try.prog.bytesOf 148 = 32 := by kernel_rfl
theorem in148 : (Try.prog.info? 148).isSome = true := by kernel_rfl
theorem ze148 : zeroV Try.prog 148 = some [.val (.slice none 0 0), .val (.bool false)] := by kernel_rfl
theorem zl148 : (zeroV Try.prog 148).map List.length = some 2 := by kernel_rfl
theorem kd149 : kindB Try.prog 149 = some true := by kernel_rfl
theorem ce149 : Try.prog.cellsOf 149 = 2 := by kernel_rfl
theorem by149 : Try.prog.bytesOf 149 = 32 := by kernel_rfl
theorem in149 : (Try.prog.info? 149).isSome = true := by kernel_rfl
theorem ze149 : zeroV Try.prog 149 = some [.val (.slice none 0 0), .val (.bool false)] := by kernel_rfl
theorem zl149 : (zeroV Try.prog 149).map List.length = some 2 := by kernel_rfl
theorem kd150 : kindB Try.prog 150 = some false := by kernel_rfl
theorem ce150 : Try.prog.cellsOf 150 = 1 := by kernel_rfl
theorem by150 : Try.prog.bytesOf 150 = 8 := by kernel_rfl
theorem in150 : (Try.prog.info? 150).isSome = true := by kernel_rfl
theorem ze150 : zeroV Try.prog 150 = some [.val .nilFunc] := by kernel_rfl
theorem zl150 : (zeroV Try.prog 150).map List.length = some 1 := by kernel_rfl
theorem kd151 : kindB Try.prog 151 = some false := by kernel_rfl
theorem ce151 : Try.prog.cellsOf 151 = 1 := by kernel_rfl
theorem by151 : Try.prog.bytesOf 151 = 8 := by kernel_rfl
theorem in151 : (Try.prog.info? 151).isSome = true := by kernel_rfl
theorem ze151 : zeroV Try.prog 151 = some [.val .nilFunc] := by kernel_rfl
theorem zl151 : (zeroV Try.prog 151).map List.length = some 1 := by kernel_rfl
theorem kd152 : kindB Try.prog 152 = some false := by kernel_rfl
theorem ce152 : Try.prog.cellsOf 152 = 1 := by kernel_rfl
theorem by152 : Try.prog.bytesOf 152 = 8 := by kernel_rfl
theorem in152 : (Try.prog.info? 152).isSome = true := by kernel_rfl
theorem ze152 : zeroV Try.prog 152 = some [.val .nilFunc] := by kernel_rfl
theorem zl152 : (zeroV Try.prog 152).map List.length = some 1 := by kernel_rfl
theorem kd153 : kindB Try.prog 153 = some false := by kernel_rfl
theorem ce153 : Try.prog.cellsOf 153 = 1 := by kernel_rfl
theorem by153 : Try.prog.bytesOf 153 = 8 := by kernel_rfl
theorem in153 : (Try.prog.info? 153).isSome = true := by kernel_rfl
theorem ze153 : zeroV Try.prog 153 = some [.val .nilFunc] := by kernel_rfl
theorem zl153 : (zeroV Try.prog 153).map List.length = some 1 := by kernel_rfl
theorem kd154 : kindB Try.prog 154 = some false := by kernel_rfl
theorem ce154 : Try.prog.cellsOf 154 = 1 := by kernel_rfl
theorem by154 : Try.prog.bytesOf 154 = 8 := by kernel_rfl
theorem in154 : (Try.prog.info? 154).isSome = true := by kernel_rfl
theorem ze154 : zeroV Try.prog 154 = some [.val .nilFunc] := by kernel_rfl
theorem zl154 : (zeroV Try.prog 154).map List.length = some 1 := by kernel_rfl
theorem kd155 : kindB Try.prog 155 = some false := by kernel_rfl
theorem ce155 : Try.prog.cellsOf 155 = 1 := by kernel_rfl
theorem by155 : Try.prog.bytesOf 155 = 8 := by kernel_rfl
theorem in155 : (Try.prog.info? 155).isSome = true := by kernel_rfl
theorem ze155 : zeroV Try.prog 155 = some [.val .nilFunc] := by kernel_rfl
theorem zl155 : (zeroV Try.prog 155).map List.length = some 1 := by kernel_rfl
theorem kd156 : kindB Try.prog 156 = some true := by kernel_rfl
theorem ce156 : Try.prog.cellsOf 156 = 2 := by kernel_rfl
theorem by156 : Try.prog.bytesOf 156 = 16 := by kernel_rfl
theorem in156 : (Try.prog.info? 156).isSome = true := by kernel_rfl
theorem ze156 : zeroV Try.prog 156 = some [.val (.int .u64 0), .val (.int .u64 0)] := by kernel_rfl
theorem zl156 : (zeroV Try.prog 156).map List.length = some 2 := by kernel_rfl
theorem kd157 : kindB Try.prog 157 = some true := by kernel_rfl
theorem ce157 : Try.prog.cellsOf 157 = 2 := by kernel_rfl
theorem by157 : Try.prog.bytesOf 157 = 16 := by kernel_rfl
theorem in157 : (Try.prog.info? 157).isSome = true := by kernel_rfl
theorem ze157 : zeroV Try.prog 157 = some [.val (.int .u64 0), .val (.int .u64 0)] := by kernel_rfl
theorem zl157 : (zeroV Try.prog 157).map List.length = some 2 := by kernel_rfl
theorem kd158 : kindB Try.prog 158 = some true := by kernel_rfl
theorem ce158 : Try.prog.cellsOf 158 = 24 := by kernel_rfl
theorem by158 : Try.prog.bytesOf 158 = 192 := by kernel_rfl
theorem in158 : (Try.prog.info? 158).isSome = true := by kernel_rfl
theorem ze158 : zeroV Try.prog 158 = some [.val (.int .u64 0), .val (.int .u64 0), .val (.int .u64 0), .val (.int .u64 0), .val (.int .u64 0), .val (.int .u64 0), .val (.int .u64 0), .val (.int .u64 0), .val (.int .u64 0), .val (.int .u64 0), .val (.int .u64 0), .val (.int .u64 0), .val (.int .u64 0), .val (.int .u64 0), .val (.int .u64 0), .val (.int .u64 0), .val (.int .u64 0), .val (.int .u64 0), .val (.int .u64 0), .val (.int .u64 0), .val (.int .u64 0), .val (.int .u64 0), .val (.int .u64 0), .val (.int .u64 0)] := by kernel_rfl
theorem zl158 : (zeroV Try.prog 158).map List.length = some 24 := by kernel_rfl
theorem kd159 : kindB Try.prog 159 = some true := by kernel_rfl
theorem ce159 : Try.prog.cellsOf 159 = 38 := by kernel_rfl
theorem by159 : Try.prog.bytesOf 159 = 320 := by kernel_rfl
theorem in159 : (Try.prog.info? 159).isSome = true := by kernel_rfl
theorem ze159 : zeroV Try.prog 159 = some [.val (.int .i64 0), .val (.int .i64 0), .val (.int .i64 0), .val (.int .i64 0), .val (.int .i64 0), .val (.int .i64 0), .val (.int .i64 0), .val (.int .i64 0), .val (.int .i64 0), .val (.int .i64 0), .val (.int .i64 0), .val (.int .i64 0), .val (.slice none 0 0), .val (.int .i64 0), .val (.int .u64 0), .val (.int .u64 0), .val (.int .u64 0), .val (.int .u64 0), .val (.int .u64 0), .val (.int .u64 0), .val (.int .u64 0), .val (.int .u64 0), .val (.int .u64 0), .val (.int .u64 0), .val (.int .u64 0), .val (.int .u64 0), .val (.int .u64 0), .val (.int .u64 0), .val (.int .u64 0), .val (.int .u64 0), .val (.int .u64 0), .val (.int .u64 0), .val (.int .u64 0), .val (.int .u64 0), .val (.int .u64 0), .val (.int .u64 0), .val (.int .u64 0), .val (.int .u64 0)] := by kernel_rfl
theorem zl159 : (zeroV Try.prog 159).map List.length = some 38 := by kernel_rfl
theorem kd160 : kindB Try.prog 160 = some true := by kernel_rfl
theorem ce160 : Try.prog.cellsOf 160 = 38 := by kernel_rfl
theorem by160 : Try.prog.bytesOf 160 = 320 := by kernel_rfl
theorem in160 : (Try.prog.info? 160).isSome = true := by kernel_rfl
theorem ze160 : zeroV Try.prog 160 = some [.val (.int .i64 0), .val (.int .i64 0), .val (.int .i64 0), .val (.int .i64 0), .val (.int .i64 0), .val (.int .i64 0), .val (.int .i64 0), .val (.int .i64 0), .val (.int .i64 0), .val (.int .i64 0), .val (.int .i64 0), .val (.int .i64 0), .val (.slice none 0 0), .val (.int .i64 0), .val (.int .u64 0), .val (.int .u64 0), .val (.int .u64 0), .val (.int .u64 0), .val (.int .u64 0), .val (.int .u64 0), .val (.int .u64 0), .val (.int .u64 0), .val (.int .u64 0), .val (.int .u64 0), .val (.int .u64 0), .val (.int .u64 0), .val (.int .u64 0), .val (.int .u64 0), .val (.int .u64 0), .val (.int .u64 0), .val (.int .u64 0), .val (.int .u64 0), .val (.int .u64 0), .val (.int .u64 0), .val (.int .u64 0), .val (.int .u64 0), .val (.int .u64 0), .val (.int .u64 0)] := by kernel_rfl
theorem zl160 : (zeroV Try.prog 160).map List.length = some 38 := by kernel_rfl
theorem kd161 : kindB Try.prog 161 = some false := by kernel_rfl
theorem ce161 : Try.prog.cellsOf 161 = 1 := by kernel_rfl
theorem by161 : Try.prog.bytesOf 161 = 8 := by kernel_rfl
theorem in161 : (Try.prog.info? 161).isSome = true := by kernel_rfl
theorem ze161 : zeroV Try.prog 161 = some [.val .nilFunc] := by kernel_rfl
theorem zl161 : (zeroV Try.prog 161).map List.length = some 1 := by kernel_rfl
theorem kd162 : kindB Try.prog 162 = some false := by kernel_rfl
theorem ce162 : Try.prog.cellsOf 162 = 1 := by kernel_rfl
theorem by162 : Try.prog.bytesOf 162 = 8 := by kernel_rfl
theorem in162 : (Try.prog.info? 162).isSome = true := by kernel_rfl
theorem ze162 : zeroV Try.prog 162 = some [.val .nilFunc] := by kernel_rfl
theorem zl162 : (zeroV Try.prog 162).map List.length = some 1 := by kernel_rfl
theorem kd163 : kindB Try.prog 163 = some false := by kernel_rfl
theorem ce163 : Try.prog.cellsOf 163 = 1 := by kernel_rfl
theorem by163 : Try.prog.bytesOf 163 = 8 := by kernel_rfl
theorem in163 : (Try.prog.info? 163).isSome = true := by kernel_rfl
theorem ze163 : zeroV Try.prog 163 = some [.val .nilFunc] := by kernel_rfl
theorem zl163 : (zeroV Try.prog 163).map List.length = some 1 := by kernel_rfl
theorem kd164 : kindB Try.prog 164 = some false := by kernel_rfl
theorem ce164 : Try.prog.cellsOf 164 = 1 := by kernel_rfl
theorem by164 : Try.prog.bytesOf 164 = 8 := by kernel_rfl
theorem in164 : (Try.prog.info? 164).isSome = true := by kernel_rfl
theorem ze164 : zeroV Try.prog 164 = some [.val .nilFunc] := by kernel_rfl
theorem zl164 : (zeroV Try.prog 164).map List.length = some 1 := by kernel_rfl
theorem kd165 : kindB Try.prog 165 = some false := by kernel_rfl
theorem ce165 : Try.prog.cellsOf 165 = 1 := by kernel_rfl
theorem by165 : Try.prog.bytesOf 165 = 8 := by kernel_rfl
theorem in165 : (Try.prog.info? 165).isSome = true := by kernel_rfl
theorem ze165 : zeroV Try.prog 165 = some [.val .nilFunc] := by kernel_rfl
theorem zl165 : (zeroV Try.prog 165).map List.length = some 1 := by kernel_rfl
theorem kd166 : kindB Try.prog 166 = some false := by kernel_rfl
theorem ce166 : Try.prog.cellsOf 166 = 1 := by kernel_rfl
theorem by166 : Try.prog.bytesOf 166 = 8 := by kernel_rfl
theorem in166 : (Try.prog.info? 166).isSome = true := by kernel_rfl
theorem ze166 : zeroV Try.prog 166 = some [.val .nilFunc] := by kernel_rfl
theorem zl166 : (zeroV Try.prog 166).map List.length = some 1 := by kernel_rfl
theorem kd167 : kindB Try.prog 167 = some false := by kernel_rfl
theorem ce167 : Try.prog.cellsOf 167 = 1 := by kernel_rfl
theorem by167 : Try.prog.bytesOf 167 = 8 := by kernel_rfl
theorem in167 : (Try.prog.info? 167).isSome = true := by kernel_rfl
theorem ze167 : zeroV Try.prog 167 = some [.val .nilFunc] := by kernel_rfl
theorem zl167 : (zeroV Try.prog 167).map List.length = some 1 := by kernel_rfl
theorem kd168 : kindB Try.prog 168 = some false := by kernel_rfl
theorem ce168 : Try.prog.cellsOf 168 = 1 := by kernel_rfl
theorem by168 : Try.prog.bytesOf 168 = 8 := by kernel_rfl
theorem in168 : (Try.prog.info? 168).isSome = true := by kernel_rfl
theorem ze168 : zeroV Try.prog 168 = some [.val (.pointer none)] := by kernel_rfl
theorem zl168 : (zeroV Try.prog 168).map List.length = some 1 := by kernel_rfl
theorem kd169 : kindB Try.prog 169 = some false := by kernel_rfl
theorem ce169 : Try.prog.cellsOf 169 = 1 := by kernel_rfl
theorem by169 : Try.prog.bytesOf 169 = 8 := by kernel_rfl
theorem in169 : (Try.prog.info? 169).isSome = true := by kernel_rfl
theorem ze169 : zeroV Try.prog 169 = some [.val .nilFunc] := by kernel_rfl
theorem zl169 : (zeroV Try.prog 169).map List.length = some 1 := by kernel_rfl
theorem kd170 : kindB Try.prog 170 = some false := by kernel_rfl
theorem ce170 : Try.prog.cellsOf 170 = 1 := by kernel_rfl
theorem by170 : Try.prog.bytesOf 170 = 8 := by kernel_rfl
theorem in170 : (Try.prog.info? 170).isSome = true := by kernel_rfl
theorem ze170 : zeroV Try.prog 170 = some [.val .nilFunc] := by kernel_rfl
theorem zl170 : (zeroV Try.prog 170).map List.length = some 1 := by kernel_rfl
theorem kd171 : kindB Try.prog 171 = some false := by kernel_rfl
theorem ce171 : Try.prog.cellsOf 171 = 1 := by kernel_rfl
theorem by171 : Try.prog.bytesOf 171 = 8 := by kernel_rfl
theorem in171 : (Try.prog.info? 171).isSome = true := by kernel_rfl
theorem ze171 : zeroV Try.prog 171 = some [.val .nilFunc] := by kernel_rfl
theorem zl171 : (zeroV Try.prog 171).map List.length = some 1 := by kernel_rfl
theorem kd172 : kindB Try.prog 172 = some false := by kernel_rfl
theorem ce172 : Try.prog.cellsOf 172 = 1 := by kernel_rfl
theorem by172 : Try.prog.bytesOf 172 = 8 := by kernel_rfl
theorem in172 : (Try.prog.info? 172).isSome = true := by kernel_rfl
theorem ze172 : zeroV Try.prog 172 = some [.val .nilFunc] := by kernel_rfl
theorem zl172 : (zeroV Try.prog 172).map List.length = some 1 := by kernel_rfl
theorem kd173 : kindB Try.prog 173 = some false := by kernel_rfl
theorem ce173 : Try.prog.cellsOf 173 = 1 := by kernel_rfl
theorem by173 : Try.prog.bytesOf 173 = 8 := by kernel_rfl
theorem in173 : (Try.prog.info? 173).isSome = true := by kernel_rfl
theorem ze173 : zeroV Try.prog 173 = some [.val .nilFunc] := by kernel_rfl
theorem zl173 : (zeroV Try.prog 173).map List.length = some 1 := by kernel_rfl
theorem kd174 : kindB Try.prog 174 = some false := by kernel_rfl
theorem ce174 : Try.prog.cellsOf 174 = 1 := by kernel_rfl
theorem by174 : Try.prog.bytesOf 174 = 8 := by kernel_rfl
theorem in174 : (Try.prog.info? 174).isSome = true := by kernel_rfl
theorem ze174 : zeroV Try.prog 174 = some [.val .nilFunc] := by kernel_rfl
theorem zl174 : (zeroV Try.prog 174).map List.length = some 1 := by kernel_rfl
theorem kd175 : kindB Try.prog 175 = some false := by kernel_rfl
theorem ce175 : Try.prog.cellsOf 175 = 1 := by kernel_rfl
theorem by175 : Try.prog.bytesOf 175 = 8 := by kernel_rfl
theorem in175 : (Try.prog.info? 175).isSome = true := by kernel_rfl
theorem ze175 : zeroV Try.prog 175 = some [.val (.float .f64 0)] := by kernel_rfl
theorem zl175 : (zeroV Try.prog 175).map List.length = some 1 := by kernel_rfl
theorem kd176 : kindB Try.prog 176 = some true := by kernel_rfl
theorem ce176 : Try.prog.cellsOf 176 = 3 := by kernel_rfl
theorem by176 : Try.prog.bytesOf 176 = 24 := by kernel_rfl
theorem in176 : (Try.prog.info? 176).isSome = true := by kernel_rfl
theorem ze176 : zeroV Try.prog 176 = some [.val (.int .i64 0), .val (.bool false), .val (.float .f64 0)] := by kernel_rfl
theorem zl176 : (zeroV Try.prog 176).map List.length = some 3 := by kernel_rfl
theorem kd177 : kindB Try.prog 177 = some true := by kernel_rfl
theorem ce177 : Try.prog.cellsOf 177 = 3 := by kernel_rfl
theorem by177 : Try.prog.bytesOf 177 = 24 := by kernel_rfl
theorem in177 : (Try.prog.info? 177).isSome = true := by kernel_rfl
theorem ze177 : zeroV Try.prog 177 = some [.val (.int .i64 0), .val (.bool false), .val (.float .f64 0)] := by kernel_rfl
theorem zl177 : (zeroV Try.prog 177).map List.length = some 3 := by kernel_rfl
theorem kd178 : kindB Try.prog 178 = some true := by kernel_rfl
theorem ce178 : Try.prog.cellsOf 178 = 5 := by kernel_rfl
theorem by178 : Try.prog.bytesOf 178 = 40 := by kernel_rfl
theorem in178 : (Try.prog.info? 178).isSome = true := by kernel_rfl
theorem ze178 : zeroV Try.prog 178 = some [.val (.int .i64 0), .val (.int .i64 0), .val (.int .i64 0), .val (.bool false), .val (.float .f64 0)] := by kernel_rfl
theorem zl178 : (zeroV Try.prog 178).map List.length = some 5 := by kernel_rfl
theorem kd179 : kindB Try.prog 179 = some true := by kernel_rfl
theorem ce179 : Try.prog.cellsOf 179 = 5 := by kernel_rfl
theorem by179 : Try.prog.bytesOf 179 = 40 := by kernel_rfl
theorem in179 : (Try.prog.info? 179).isSome = true := by kernel_rfl
theorem ze179 : zeroV Try.prog 179 = some [.val (.int .i64 0), .val (.int .i64 0), .val (.int .i64 0), .val (.bool false), .val (.float .f64 0)] := by kernel_rfl
theorem zl179 : (zeroV Try.prog 179).map List.length = some 5 := by kernel_rfl
theorem kd180 : kindB Try.prog 180 = some true := by kernel_rfl
theorem ce180 : Try.prog.cellsOf 180 = 6 := by kernel_rfl
theorem by180 : Try.prog.bytesOf 180 = 48 := by kernel_rfl
theorem in180 : (Try.prog.info? 180).isSome = true := by kernel_rfl
theorem ze180 : zeroV Try.prog 180 = some [.val (.int .i64 0), .val (.int .i64 0), .val (.int .i64 0), .val (.int .i64 0), .val (.bool false), .val (.float .f64 0)] := by kernel_rfl
theorem zl180 : (zeroV Try.prog 180).map List.length = some 6 := by kernel_rfl
theorem kd181 : kindB Try.prog 181 = some true := by kernel_rfl
theorem ce181 : Try.prog.cellsOf 181 = 6 := by kernel_rfl
theorem by181 : Try.prog.bytesOf 181 = 48 := by kernel_rfl
theorem in181 : (Try.prog.info? 181).isSome = true := by kernel_rfl
theorem ze181 : zeroV Try.prog 181 = some [.val (.int .i64 0), .val (.int .i64 0), .val (.int .i64 0), .val (.int .i64 0), .val (.bool false), .val (.float .f64 0)] := by kernel_rfl
theorem zl181 : (zeroV Try.prog 181).map List.length = some 6 := by kernel_rfl
theorem kd182 : kindB Try.prog 182 = some false := by kernel_rfl
theorem ce182 : Try.prog.cellsOf 182 = 1 := by kernel_rfl
theorem by182 : Try.prog.bytesOf 182 = 8 := by kernel_rfl
theorem in182 : (Try.prog.info? 182).isSome = true := by kernel_rfl
theorem ze182 : zeroV Try.prog 182 = some [.val .nilFunc] := by kernel_rfl
theorem zl182 : (zeroV Try.prog 182).map List.length = some 1 := by kernel_rfl
theorem kd183 : kindB Try.prog 183 = some false := by kernel_rfl
theorem ce183 : Try.prog.cellsOf 183 = 1 := by kernel_rfl
theorem by183 : Try.prog.bytesOf 183 = 8 := by kernel_rfl
theorem in183 : (Try.prog.info? 183).isSome = true := by kernel_rfl
theorem ze183 : zeroV Try.prog 183 = some [.val .nilFunc] := by kernel_rfl
theorem zl183 : (zeroV Try.prog 183).map List.length = some 1 := by kernel_rfl
theorem kd184 : kindB Try.prog 184 = some false := by kernel_rfl
theorem ce184 : Try.prog.cellsOf 184 = 1 := by kernel_rfl
theorem by184 : Try.prog.bytesOf 184 = 8 := by kernel_rfl
theorem in184 : (Try.prog.info? 184).isSome = true := by kernel_rfl
theorem ze184 : zeroV Try.prog 184 = some [.val (.map none)] := by kernel_rfl
theorem zl184 : (zeroV Try.prog 184).map List.length = some 1 := by kernel_rfl
theorem kd185 : kindB Try.prog 185 = some false := by kernel_rfl
theorem ce185 : Try.prog.cellsOf 185 = 1 := by kernel_rfl
theorem by185 : Try.prog.bytesOf 185 = 24 := by kernel_rfl
theorem in185 : (Try.prog.info? 185).isSome = true := by kernel_rfl
theorem ze185 : zeroV Try.prog 185 = some [.val (.slice none 0 0)] := by kernel_rfl
theorem zl185 : (zeroV Try.prog 185).map List.length = some 1 := by kernel_rfl
theorem kd186 : kindB Try.prog 186 = some true := by kernel_rfl
theorem ce186 : Try.prog.cellsOf 186 = 27 := by kernel_rfl
theorem by186 : Try.prog.bytesOf 186 = 136 := by kernel_rfl
theorem in186 : (Try.prog.info? 186).isSome = true := by kernel_rfl
theorem ze186 : zeroV Try.prog 186 = some [.val (.int .i64 0), .val (.int .u32 0), .val (.int .u32 0), .val (.int .u32 0), .val (.int .u32 0), .val (.int .u32 0), .val (.int .u32 0), .val (.int .u32 0), .val (.int .u32 0), .val (.int .u32 0), .val (.int .u32 0), .val (.int .u32 0), .val (.int .u32 0), .val (.int .u32 0), .val (.int .u32 0), .val (.int .u32 0), .val (.int .u32 0), .val (.int .u32 0), .val (.int .u32 0), .val (.int .u32 0), .val (.int .u32 0), .val (.int .u32 0), .val (.int .u32 0), .val (.int .u32 0), .val (.int .u32 0), .val (.map none), .val (.slice none 0 0)] := by kernel_rfl
theorem zl186 : (zeroV Try.prog 186).map List.length = some 27 := by kernel_rfl
theorem kd187 : kindB Try.prog 187 = some true := by kernel_rfl
theorem ce187 : Try.prog.cellsOf 187 = 27 := by kernel_rfl
theorem by187 : Try.prog.bytesOf 187 = 136 := by kernel_rfl
theorem in187 : (Try.prog.info? 187).isSome = true := by kernel_rfl
theorem ze187 : zeroV Try.prog 187 = some [.val (.int .i64 0), .val (.int .u32 0), .val (.int .u32 0), .val (.int .u32 0), .val (.int .u32 0), .val (.int .u32 0), .val (.int .u32 0), .val (.int .u32 0), .val (.int .u32 0), .val (.int .u32 0), .val (.int .u32 0), .val (.int .u32 0), .val (.int .u32 0), .val (.int .u32 0), .val (.int .u32 0), .val (.int .u32 0), .val (.int .u32 0), .val (.int .u32 0), .val (.int .u32 0), .val (.int .u32 0), .val (.int .u32 0), .val (.int .u32 0), .val (.int .u32 0), .val (.int .u32 0), .val (.int .u32 0), .val (.map none), .val (.slice none 0 0)] := by kernel_rfl
theorem zl187 : (zeroV Try.prog 187).map List.length = some 27 := by kernel_rfl
theorem kd188 : kindB Try.prog 188 = some true := by kernel_rfl
theorem ce188 : Try.prog.cellsOf 188 = 13 := by kernel_rfl
theorem by188 : Try.prog.bytesOf 188 = 312 := by kernel_rfl
theorem in188 : (Try.prog.info? 188).isSome = true := by kernel_rfl
theorem ze188 : zeroV Try.prog 188 = some [.val (.slice none 0 0), .val (.slice none 0 0), .val (.slice none 0 0), .val (.slice none 0 0), .val (.slice none 0 0), .val (.slice none 0 0), .val (.slice none 0 0), .val (.slice none 0 0), .val (.slice none 0 0), .val (.slice none 0 0), .val (.slice none 0 0), .val (.slice none 0 0), .val (.slice none 0 0)] := by kernel_rfl
theorem zl188 : (zeroV Try.prog 188).map List.length = some 13 := by kernel_rfl
theorem kd189 : kindB Try.prog 189 = some true := by kernel_rfl
theorem ce189 : Try.prog.cellsOf 189 = 26 := by kernel_rfl
theorem by189 : Try.prog.bytesOf 189 = 328 := by kernel_rfl
theorem in189 : (Try.prog.info? 189).isSome = true := by kernel_rfl
theorem ze189 : zeroV Try.prog 189 = some [.val (.bool false), .val (.bool false), .val (.bool false), .val (.bool false), .val (.bool false), .val (.bool false), .val (.bool false), .val (.bool false), .val (.bool false), .val (.bool false), .val (.bool false), .val (.bool false), .val (.bool false), .val (.slice none 0 0), .val (.slice none 0 0), .val (.slice none 0 0), .val (.slice none 0 0), .val (.slice none 0 0), .val (.slice none 0 0), .val (.slice none 0 0), .val (.slice none 0 0), .val (.slice none 0 0), .val (.slice none 0 0), .val (.slice none 0 0), .val (.slice none 0 0), .val (.slice none 0 0)] := by kernel_rfl
theorem zl189 : (zeroV Try.prog 189).map List.length = some 26 := by kernel_rfl
theorem kd190 : kindB Try.prog 190 = some true := by kernel_rfl
theorem ce190 : Try.prog.cellsOf 190 = 26 := by kernel_rfl
theorem by190 : Try.prog.bytesOf 190 = 328 := by kernel_rfl
theorem in190 : (Try.prog.info? 190).isSome = true := by kernel_rfl
theorem ze190 : zeroV Try.prog 190 = some [.val (.bool false), .val (.bool false), .val (.bool false), .val (.bool false), .val (.bool false), .val (.bool false), .val (.bool false), .val (.bool false), .val (.bool false), .val (.bool false), .val (.bool false), .val (.bool false), .val (.bool false), .val (.slice none 0 0), .val (.slice none 0 0), .val (.slice none 0 0), .val (.slice none 0 0), .val (.slice none 0 0), .val (.slice none 0 0), .val (.slice none 0 0), .val (.slice none 0 0), .val (.slice none 0 0), .val (.slice none 0 0), .val (.slice none 0 0), .val (.slice none 0 0), .val (.slice none 0 0)] := by kernel_rfl
theorem zl190 : (zeroV Try.prog 190).map List.length = some 26 := by kernel_rfl
theorem kd191 : kindB Try.prog 191 = some false := by kernel_rfl
theorem ce191 : Try.prog.cellsOf 191 = 1 := by kernel_rfl
theorem by191 : Try.prog.bytesOf 191 = 8 := by kernel_rfl
theorem in191 : (Try.prog.info? 191).isSome = true := by kernel_rfl
theorem ze191 : zeroV Try.prog 191 = some [.val .nilFunc] := by kernel_rfl
theorem zl191 : (zeroV Try.prog 191).map List.length = some 1 := by kernel_rfl
theorem kd192 : kindB Try.prog 192 = some false := by kernel_rfl
theorem ce192 : Try.prog.cellsOf 192 = 1 := by kernel_rfl
theorem by192 : Try.prog.bytesOf 192 = 8 := by kernel_rfl
theorem in192 : (Try.prog.info? 192).isSome = true := by kernel_rfl
theorem ze192 : zeroV Try.prog 192 = some [.val .nilFunc] := by kernel_rfl
theorem zl192 : (zeroV Try.prog 192).map List.length = some 1 := by kernel_rfl
theorem kd193 : kindB Try.prog 193 = some false := by kernel_rfl
theorem ce193 : Try.prog.cellsOf 193 = 1 := by kernel_rfl
theorem by193 : Try.prog.bytesOf 193 = 8 := by kernel_rfl
theorem in193 : (Try.prog.info? 193).isSome = true := by kernel_rfl
theorem ze193 : zeroV Try.prog 193 = some [.val .nilFunc] := by kernel_rfl
theorem zl193 : (zeroV Try.prog 193).map List.length = some 1 := by kernel_rfl
theorem kd194 : kindB Try.prog 194 = some true := by kernel_rfl
theorem ce194 : Try.prog.cellsOf 194 = 3 := by kernel_rfl
theorem by194 : Try.prog.bytesOf 194 = 24 := by kernel_rfl
theorem in194 : (Try.prog.info? 194).isSome = true := by kernel_rfl
theorem ze194 : zeroV Try.prog 194 = some [.val (.int .i64 0), .val (.bool false), .val (.int .u64 0)] := by kernel_rfl
theorem zl194 : (zeroV Try.prog 194).map List.length = some 3 := by kernel_rfl
theorem kd195 : kindB Try.prog 195 = some true := by kernel_rfl
theorem ce195 : Try.prog.cellsOf 195 = 3 := by kernel_rfl
theorem by195 : Try.prog.bytesOf 195 = 24 := by kernel_rfl
theorem in195 : (Try.prog.info? 195).isSome = true := by kernel_rfl
theorem ze195 : zeroV Try.prog 195 = some [.val (.int .i64 0), .val (.bool false), .val (.int .u64 0)] := by kernel_rfl
theorem zl195 : (zeroV Try.prog 195).map List.length = some 3 := by kernel_rfl
theorem kd196 : kindB Try.prog 196 = some true := by kernel_rfl
theorem ce196 : Try.prog.cellsOf 196 = 5 := by kernel_rfl
theorem by196 : Try.prog.bytesOf 196 = 40 := by kernel_rfl
theorem in196 : (Try.prog.info? 196).isSome = true := by kernel_rfl
theorem ze196 : zeroV Try.prog 196 = some [.val (.int .i64 0), .val (.int .i64 0), .val (.int .i64 0), .val (.bool false), .val (.int .u64 0)] := by kernel_rfl
theorem zl196 : (zeroV Try.prog 196).map List.length = some 5 := by kernel_rfl
theorem kd197 : kindB Try.prog 197 = some true := by kernel_rfl
theorem ce197 : Try.prog.cellsOf 197 = 5 := by kernel_rfl
theorem by197 : Try.prog.bytesOf 197 = 40 := by kernel_rfl
theorem in197 : (Try.prog.info? 197).isSome = true := by kernel_rfl
theorem ze197 : zeroV Try.prog 197 = some [.val (.int .i64 0), .val (.int .i64 0), .val (.int .i64 0), .val (.bool false), .val (.int .u64 0)] := by kernel_rfl
theorem zl197 : (zeroV Try.prog 197).map List.length = some 5 := by kernel_rfl
theorem kd198 : kindB Try.prog 198 = some false := by kernel_rfl
theorem ce198 : Try.prog.cellsOf 198 = 1 := by kernel_rfl
theorem by198 : Try.prog.bytesOf 198 = 8 := by kernel_rfl
theorem in198 : (Try.prog.info? 198).isSome = true := by kernel_rfl
theorem ze198 : zeroV Try.prog 198 = some [.val .nilFunc] := by kernel_rfl
theorem zl198 : (zeroV Try.prog 198).map List.length = some 1 := by kernel_rfl
theorem kd199 : kindB Try.prog 199 = some false := by kernel_rfl
theorem ce199 : Try.prog.cellsOf 199 = 1 := by kernel_rfl
theorem by199 : Try.prog.bytesOf 199 = 8 := by kernel_rfl
theorem in199 : (Try.prog.info? 199).isSome = true := by kernel_rfl
theorem ze199 : zeroV Try.prog 199 = some [.val .nilFunc] := by kernel_rfl
theorem zl199 : (zeroV Try.prog 199).map List.length = some 1 := by kernel_rfl
theorem kd200 : kindB Try.prog 200 = some false := by kernel_rfl
theorem ce200 : Try.prog.cellsOf 200 = 1 := by kernel_rfl
theorem by200 : Try.prog.bytesOf 200 = 8 := by kernel_rfl
theorem in200 : (Try.prog.info? 200).isSome = true := by kernel_rfl
theorem ze200 : zeroV Try.prog 200 = some [.val .nilFunc] := by kernel_rfl
theorem zl200 : (zeroV Try.prog 200).map List.length = some 1 := by kernel_rfl
theorem kd201 : kindB Try.prog 201 = some false := by kernel_rfl
theorem ce201 : Try.prog.cellsOf 201 = 1 := by kernel_rfl
theorem by201 : Try.prog.bytesOf 201 = 8 := by kernel_rfl
theorem in201 : (Try.prog.info? 201).isSome = true := by kernel_rfl
theorem ze201 : zeroV Try.prog 201 = some [.val .nilFunc] := by kernel_rfl
theorem zl201 : (zeroV Try.prog 201).map List.length = some 1 := by kernel_rfl
theorem kd202 : kindB Try.prog 202 = some true := by kernel_rfl
theorem ce202 : Try.prog.cellsOf 202 = 6 := by kernel_rfl
theorem by202 : Try.prog.bytesOf 202 = 48 := by kernel_rfl
theorem in202 : (Try.prog.info? 202).isSome = true := by kernel_rfl
theorem ze202 : zeroV Try.prog 202 = some [.val (.int .i64 0), .val (.int .i64 0), .val (.int .i64 0), .val (.int .i64 0), .val (.bool false), .val (.int .u64 0)] := by kernel_rfl
theorem zl202 : (zeroV Try.prog 202).map List.length = some 6 := by kernel_rfl
theorem kd203 : kindB Try.prog 203 = some true := by kernel_rfl
theorem ce203 : Try.prog.cellsOf 203 = 6 := by kernel_rfl
theorem by203 : Try.prog.bytesOf 203 = 48 := by kernel_rfl
theorem in203 : (Try.prog.info? 203).isSome = true := by kernel_rfl
theorem ze203 : zeroV Try.prog 203 = some [.val (.int .i64 0), .val (.int .i64 0), .val (.int .i64 0), .val (.int .i64 0), .val (.bool false), .val (.int .u64 0)] := by kernel_rfl
theorem zl203 : (zeroV Try.prog 203).map List.length = some 6 := by kernel_rfl
theorem kd204 : kindB Try.prog 204 = some false := by kernel_rfl
theorem ce204 : Try.prog.cellsOf 204 = 1 := by kernel_rfl
theorem by204 : Try.prog.bytesOf 204 = 8 := by kernel_rfl
theorem in204 : (Try.prog.info? 204).isSome = true := by kernel_rfl
theorem ze204 : zeroV Try.prog 204 = some [.val .nilFunc] := by kernel_rfl
theorem zl204 : (zeroV Try.prog 204).map List.length = some 1 := by kernel_rfl
theorem kd205 : kindB Try.prog 205 = some false := by kernel_rfl
theorem ce205 : Try.prog.cellsOf 205 = 1 := by kernel_rfl
theorem by205 : Try.prog.bytesOf 205 = 8 := by kernel_rfl
theorem in205 : (Try.prog.info? 205).isSome = true := by kernel_rfl
theorem ze205 : zeroV Try.prog 205 = some [.val .nilFunc] := by kernel_rfl
theorem zl205 : (zeroV Try.prog 205).map List.length = some 1 := by kernel_rfl
theorem kd206 : kindB Try.prog 206 = some false := by kernel_rfl
theorem ce206 : Try.prog.cellsOf 206 = 1 := by kernel_rfl
theorem by206 : Try.prog.bytesOf 206 = 8 := by kernel_rfl
theorem in206 : (Try.prog.info? 206).isSome = true := by kernel_rfl
theorem ze206 : zeroV Try.prog 206 = some [.val .nilFunc] := by kernel_rfl
theorem zl206 : (zeroV Try.prog 206).map List.length = some 1 := by kernel_rfl
theorem kd207 : kindB Try.prog 207 = some false := by kernel_rfl
theorem ce207 : Try.prog.cellsOf 207 = 1 := by kernel_rfl
theorem by207 : Try.prog.bytesOf 207 = 8 := by kernel_rfl
theorem in207 : (Try.prog.info? 207).isSome = true := by kernel_rfl
theorem ze207 : zeroV Try.prog 207 = some [.val .nilFunc] := by kernel_rfl
theorem zl207 : (zeroV Try.prog 207).map List.length = some 1 := by kernel_rfl
theorem kd208 : kindB Try.prog 208 = some false := by kernel_rfl
theorem ce208 : Try.prog.cellsOf 208 = 1 := by kernel_rfl
theorem by208 : Try.prog.bytesOf 208 = 8 := by kernel_rfl
theorem in208 : (Try.prog.info? 208).isSome = true := by kernel_rfl
theorem ze208 : zeroV Try.prog 208 = some [.val .nilFunc] := by kernel_rfl
theorem zl208 : (zeroV Try.prog 208).map List.length = some 1 := by kernel_rfl
theorem kd209 : kindB Try.prog 209 = some true := by kernel_rfl
theorem ce209 : Try.prog.cellsOf 209 = 1 := by kernel_rfl
theorem by209 : Try.prog.bytesOf 209 = 24 := by kernel_rfl
theorem in209 : (Try.prog.info? 209).isSome = true := by kernel_rfl
theorem ze209 : zeroV Try.prog 209 = some [.val (.slice none 0 0)] := by kernel_rfl
theorem zl209 : (zeroV Try.prog 209).map List.length = some 1 := by kernel_rfl
theorem kd210 : kindB Try.prog 210 = some true := by kernel_rfl
theorem ce210 : Try.prog.cellsOf 210 = 1 := by kernel_rfl
theorem by210 : Try.prog.bytesOf 210 = 24 := by kernel_rfl
theorem in210 : (Try.prog.info? 210).isSome = true := by kernel_rfl
theorem ze210 : zeroV Try.prog 210 = some [.val (.slice none 0 0)] := by kernel_rfl
theorem zl210 : (zeroV Try.prog 210).map List.length = some 1 := by kernel_rfl
theorem kd211 : kindB Try.prog 211 = some false := by kernel_rfl
theorem ce211 : Try.prog.cellsOf 211 = 1 := by kernel_rfl
theorem by211 : Try.prog.bytesOf 211 = 8 := by kernel_rfl
theorem in211 : (Try.prog.info? 211).isSome = true := by kernel_rfl
theorem ze211 : zeroV Try.prog 211 = some [.val .nilFunc] := by kernel_rfl
theorem zl211 : (zeroV Try.prog 211).map List.length = some 1 := by kernel_rfl
theorem kd212 : kindB Try.prog 212 = some true := by kernel_rfl
theorem ce212 : Try.prog.cellsOf 212 = 1 := by kernel_rfl
theorem by212 : Try.prog.bytesOf 212 = 8 := by kernel_rfl
theorem in212 : (Try.prog.info? 212).isSome = true := by kernel_rfl
theorem ze212 : zeroV Try.prog 212 = some [.val (.int .i64 0)] := by kernel_rfl
theorem zl212 : (zeroV Try.prog 212).map List.length = some 1 := by kernel_rfl
theorem kd213 : kindB Try.prog 213 = some true := by kernel_rfl
theorem ce213 : Try.prog.cellsOf 213 = 1 := by kernel_rfl
theorem by213 : Try.prog.bytesOf 213 = 8 := by kernel_rfl
theorem in213 : (Try.prog.info? 213).isSome = true := by kernel_rfl
theorem ze213 : zeroV Try.prog 213 = some [.val (.int .i64 0)] := by kernel_rfl
theorem zl213 : (zeroV Try.prog 213).map List.length = some 1 := by kernel_rfl
theorem kd214 : kindB Try.prog 214 = some false := by kernel_rfl
theorem ce214 : Try.prog.cellsOf 214 = 1 := by kernel_rfl
theorem by214 : Try.prog.bytesOf 214 = 0 := by kernel_rfl
theorem in214 : (Try.prog.info? 214).isSome = true := by kernel_rfl
theorem kd215 : kindB Try.prog 215 = some false := by kernel_rfl
theorem ce215 : Try.prog.cellsOf 215 = 1 := by kernel_rfl
theorem by215 : Try.prog.bytesOf 215 = 8 := by kernel_rfl
theorem in215 : (Try.prog.info? 215).isSome = true := by kernel_rfl
theorem ze215 : zeroV Try.prog 215 = some [.val .nilFunc] := by kernel_rfl
theorem zl215 : (zeroV Try.prog 215).map List.length = some 1 := by kernel_rfl
theorem kd216 : kindB Try.prog 216 = some false := by kernel_rfl
theorem ce216 : Try.prog.cellsOf 216 = 1 := by kernel_rfl
theorem by216 : Try.prog.bytesOf 216 = 8 := by kernel_rfl
theorem in216 : (Try.prog.info? 216).isSome = true := by kernel_rfl
theorem ze216 : zeroV Try.prog 216 = some [.val .nilFunc] := by kernel_rfl
theorem zl216 : (zeroV Try.prog 216).map List.length = some 1 := by kernel_rfl
theorem kd217 : kindB Try.prog 217 = some false := by kernel_rfl
theorem ce217 : Try.prog.cellsOf 217 = 1 := by kernel_rfl
theorem by217 : Try.prog.bytesOf 217 = 8 := by kernel_rfl
theorem in217 : (Try.prog.info? 217).isSome = true := by kernel_rfl
theorem ze217 : zeroV Try.prog 217 = some [.val .nilFunc] := by kernel_rfl
theorem zl217 : (zeroV Try.prog 217).map List.length = some 1 := by kernel_rfl
theorem kd218 : kindB Try.prog 218 = some false := by kernel_rfl
theorem ce218 : Try.prog.cellsOf 218 = 1 := by kernel_rfl
theorem by218 : Try.prog.bytesOf 218 = 8 := by kernel_rfl
theorem in218 : (Try.prog.info? 218).isSome = true := by kernel_rfl
theorem ze218 : zeroV Try.prog 218 = some [.val .nilFunc] := by kernel_rfl
theorem zl218 : (zeroV Try.prog 218).map List.length = some 1 := by kernel_rfl
theorem kd219 : kindB Try.prog 219 = some true := by kernel_rfl
theorem ce219 : Try.prog.cellsOf 219 = 2 := by kernel_rfl
theorem by219 : Try.prog.bytesOf 219 = 16 := by kernel_rfl
theorem in219 : (Try.prog.info? 219).isSome = true := by kernel_rfl
theorem ze219 : zeroV Try.prog 219 = some [.val (.int .i64 0), .val (.int .u32 0)] := by kernel_rfl
theorem zl219 : (zeroV Try.prog 219).map List.length = some 2 := by kernel_rfl
theorem kd220 : kindB Try.prog 220 = some true := by kernel_rfl
theorem ce220 : Try.prog.cellsOf 220 = 2 := by kernel_rfl
theorem by220 : Try.prog.bytesOf 220 = 16 := by kernel_rfl
theorem in220 : (Try.prog.info? 220).isSome = true := by kernel_rfl
theorem ze220 : zeroV Try.prog 220 = some [.val (.int .i64 0), .val (.int .u32 0)] := by kernel_rfl
theorem zl220 : (zeroV Try.prog 220).map List.length = some 2 := by kernel_rfl
theorem kd221 : kindB Try.prog 221 = some false := by kernel_rfl
theorem ce221 : Try.prog.cellsOf 221 = 1 := by kernel_rfl
theorem by221 : Try.prog.bytesOf 221 = 8 := by kernel_rfl
theorem in221 : (Try.prog.info? 221).isSome = true := by kernel_rfl
theorem ze221 : zeroV Try.prog 221 = some [.val .nilFunc] := by kernel_rfl
theorem zl221 : (zeroV Try.prog 221).map List.length = some 1 := by kernel_rfl
theorem kd222 : kindB Try.prog 222 = some false := by kernel_rfl
theorem ce222 : Try.prog.cellsOf 222 = 1 := by kernel_rfl
theorem by222 : Try.prog.bytesOf 222 = 8 := by kernel_rfl
theorem in222 : (Try.prog.info? 222).isSome = true := by kernel_rfl
theorem ze222 : zeroV Try.prog 222 = some [.val .nilFunc] := by kernel_rfl
theorem zl222 : (zeroV Try.prog 222).map List.length = some 1 := by kernel_rfl
theorem kd223 : kindB Try.prog 223 = some false := by kernel_rfl
theorem ce223 : Try.prog.cellsOf 223 = 1 := by kernel_rfl
theorem by223 : Try.prog.bytesOf 223 = 8 := by kernel_rfl
theorem in223 : (Try.prog.info? 223).isSome = true := by kernel_rfl
theorem ze223 : zeroV Try.prog 223 = some [.val .nilFunc] := by kernel_rfl
theorem zl223 : (zeroV Try.prog 223).map List.length = some 1 := by kernel_rfl
theorem kd224 : kindB Try.prog 224 = some false := by kernel_rfl
theorem ce224 : Try.prog.cellsOf 224 = 1 := by kernel_rfl
theorem by224 : Try.prog.bytesOf 224 = 8 := by kernel_rfl
theorem in224 : (Try.prog.info? 224).isSome = true := by kernel_rfl
theorem ze224 : zeroV Try.prog 224 = some [.val .nilFunc] := by kernel_rfl
theorem zl224 : (zeroV Try.prog 224).map List.length = some 1 := by kernel_rfl
theorem kd225 : kindB Try.prog 225 = some false := by kernel_rfl
theorem ce225 : Try.prog.cellsOf 225 = 1 := by kernel_rfl
theorem by225 : Try.prog.bytesOf 225 = 8 := by kernel_rfl
theorem in225 : (Try.prog.info? 225).isSome = true := by kernel_rfl
theorem ze225 : zeroV Try.prog 225 = some [.val .nilFunc] := by kernel_rfl
theorem zl225 : (zeroV Try.prog 225).map List.length = some 1 := by kernel_rfl
theorem kd226 : kindB Try.prog 226 = some false := by kernel_rfl
theorem ce226 : Try.prog.cellsOf 226 = 1 := by kernel_rfl
theorem by226 : Try.prog.bytesOf 226 = 8 := by kernel_rfl
theorem in226 : (Try.prog.info? 226).isSome = true := by kernel_rfl
theorem ze226 : zeroV Try.prog 226 = some [.val .nilFunc] := by kernel_rfl
theorem zl226 : (zeroV Try.prog 226).map List.length = some 1 := by kernel_rfl
theorem kd227 : kindB Try.prog 227 = some false := by kernel_rfl
theorem ce227 : Try.prog.cellsOf 227 = 1 := by kernel_rfl
theorem by227 : Try.prog.bytesOf 227 = 8 := by kernel_rfl
theorem in227 : (Try.prog.info? 227).isSome = true := by kernel_rfl
theorem ze227 : zeroV Try.prog 227 = some [.val (.int .u64 0)] := by kernel_rfl
theorem zl227 : (zeroV Try.prog 227).map List.length = some 1 := by kernel_rfl
theorem kd228 : kindB Try.prog 228 = some false := by kernel_rfl
theorem ce228 : Try.prog.cellsOf 228 = 1 := by kernel_rfl
theorem by228 : Try.prog.bytesOf 228 = 24 := by kernel_rfl
theorem in228 : (Try.prog.info? 228).isSome = true := by kernel_rfl
theorem ze228 : zeroV Try.prog 228 = some [.val (.slice none 0 0)] := by kernel_rfl
theorem zl228 : (zeroV Try.prog 228).map List.length = some 1 := by kernel_rfl
theorem kd229 : kindB Try.prog 229 = some false := by kernel_rfl
theorem ce229 : Try.prog.cellsOf 229 = 1 := by kernel_rfl
theorem by229 : Try.prog.bytesOf 229 = 8 := by kernel_rfl
theorem in229 : (Try.prog.info? 229).isSome = true := by kernel_rfl
theorem ze229 : zeroV Try.prog 229 = some [.val .nilFunc] := by kernel_rfl
theorem zl229 : (zeroV Try.prog 229).map List.length = some 1 := by kernel_rfl
theorem kd230 : kindB Try.prog 230 = some false := by kernel_rfl
theorem ce230 : Try.prog.cellsOf 230 = 1 := by kernel_rfl
theorem by230 : Try.prog.bytesOf 230 = 8 := by kernel_rfl
theorem in230 : (Try.prog.info? 230).isSome = true := by kernel_rfl
theorem ze230 : zeroV Try.prog 230 = some [.val .nilFunc] := by kernel_rfl
theorem zl230 : (zeroV Try.prog 230).map List.length = some 1 := by kernel_rfl
theorem kd231 : kindB Try.prog 231 = some false := by kernel_rfl
theorem ce231 : Try.prog.cellsOf 231 = 1 := by kernel_rfl
theorem by231 : Try.prog.bytesOf 231 = 8 := by kernel_rfl
theorem in231 : (Try.prog.info? 231).isSome = true := by kernel_rfl
theorem ze231 : zeroV Try.prog 231 = some [.val .nilFunc] := by kernel_rfl
theorem zl231 : (zeroV Try.prog 231).map List.length = some 1 := by kernel_rfl
theorem kd232 : kindB Try.prog 232 = some false := by kernel_rfl
theorem ce232 : Try.prog.cellsOf 232 = 1 := by kernel_rfl
theorem by232 : Try.prog.bytesOf 232 = 8 := by kernel_rfl
theorem in232 : (Try.prog.info? 232).isSome = true := by kernel_rfl
theorem ze232 : zeroV Try.prog 232 = some [.val .nilFunc] := by kernel_rfl
theorem zl232 : (zeroV Try.prog 232).map List.length = some 1 := by kernel_rfl
theorem kd233 : kindB Try.prog 233 = some false := by kernel_rfl
theorem ce233 : Try.prog.cellsOf 233 = 1 := by kernel_rfl
theorem by233 : Try.prog.bytesOf 233 = 8 := by kernel_rfl
theorem in233 : (Try.prog.info? 233).isSome = true := by kernel_rfl
theorem ze233 : zeroV Try.prog 233 = some [.val .nilFunc] := by kernel_rfl
theorem zl233 : (zeroV Try.prog 233).map List.length = some 1 := by kernel_rfl
theorem kd234 : kindB Try.prog 234 = some false := by kernel_rfl
theorem ce234 : Try.prog.cellsOf 234 = 1 := by kernel_rfl
theorem by234 : Try.prog.bytesOf 234 = 8 := by kernel_rfl
theorem in234 : (Try.prog.info? 234).isSome = true := by kernel_rfl
theorem ze234 : zeroV Try.prog 234 = some [.val .nilFunc] := by kernel_rfl
theorem zl234 : (zeroV Try.prog 234).map List.length = some 1 := by kernel_rfl
theorem kd235 : kindB Try.prog 235 = some false := by kernel_rfl
theorem ce235 : Try.prog.cellsOf 235 = 1 := by kernel_rfl
theorem by235 : Try.prog.bytesOf 235 = 8 := by kernel_rfl
theorem in235 : (Try.prog.info? 235).isSome = true := by kernel_rfl
theorem ze235 : zeroV Try.prog 235 = some [.val .nilFunc] := by kernel_rfl
theorem zl235 : (zeroV Try.prog 235).map List.length = some 1 := by kernel_rfl
theorem kd236 : kindB Try.prog 236 = some false := by kernel_rfl
theorem ce236 : Try.prog.cellsOf 236 = 1 := by kernel_rfl
theorem by236 : Try.prog.bytesOf 236 = 8 := by kernel_rfl
theorem in236 : (Try.prog.info? 236).isSome = true := by kernel_rfl
theorem ze236 : zeroV Try.prog 236 = some [.val .nilFunc] := by kernel_rfl
theorem zl236 : (zeroV Try.prog 236).map List.length = some 1 := by kernel_rfl
theorem kd237 : kindB Try.prog 237 = some false := by kernel_rfl
theorem ce237 : Try.prog.cellsOf 237 = 1 := by kernel_rfl
theorem by237 : Try.prog.bytesOf 237 = 8 := by kernel_rfl
theorem in237 : (Try.prog.info? 237).isSome = true := by kernel_rfl
theorem ze237 : zeroV Try.prog 237 = some [.val .nilFunc] := by kernel_rfl
theorem zl237 : (zeroV Try.prog 237).map List.length = some 1 := by kernel_rfl
theorem kd238 : kindB Try.prog 238 = some false := by kernel_rfl
theorem ce238 : Try.prog.cellsOf 238 = 1 := by kernel_rfl
theorem by238 : Try.prog.bytesOf 238 = 8 := by kernel_rfl
theorem in238 : (Try.prog.info? 238).isSome = true := by kernel_rfl
theorem ze238 : zeroV Try.prog 238 = some [.val .nilFunc] := by kernel_rfl
theorem zl238 : (zeroV Try.prog 238).map List.length = some 1 := by kernel_rfl
theorem kd239 : kindB Try.prog 239 = some false := by kernel_rfl
theorem ce239 : Try.prog.cellsOf 239 = 1 := by kernel_rfl
theorem by239 : Try.prog.bytesOf 239 = 8 := by kernel_rfl
theorem in239 : (Try.prog.info? 239).isSome = true := by kernel_rfl
theorem ze239 : zeroV Try.prog 239 = some [.val .nilFunc] := by kernel_rfl
theorem zl239 : (zeroV Try.prog 239).map List.length = some 1 := by kernel_rfl
theorem kd240 : kindB Try.prog 240 = some false := by kernel_rfl
theorem ce240 : Try.prog.cellsOf 240 = 1 := by kernel_rfl
theorem by240 : Try.prog.bytesOf 240 = 8 := by kernel_rfl
theorem in240 : (Try.prog.info? 240).isSome = true := by kernel_rfl
theorem ze240 : zeroV Try.prog 240 = some [.val .nilFunc] := by kernel_rfl
theorem zl240 : (zeroV Try.prog 240).map List.length = some 1 := by kernel_rfl
theorem kd241 : kindB Try.prog 241 = some false := by kernel_rfl
theorem ce241 : Try.prog.cellsOf 241 = 1 := by kernel_rfl
theorem by241 : Try.prog.bytesOf 241 = 8 := by kernel_rfl
theorem in241 : (Try.prog.info? 241).isSome = true := by kernel_rfl
theorem ze241 : zeroV Try.prog 241 = some [.val .nilFunc] := by kernel_rfl
theorem zl241 : (zeroV Try.prog 241).map List.length = some 1 := by kernel_rfl
theorem kd242 : kindB Try.prog 242 = some false := by kernel_rfl
theorem ce242 : Try.prog.cellsOf 242 = 1 := by kernel_rfl
theorem by242 : Try.prog.bytesOf 242 = 8 := by kernel_rfl
theorem in242 : (Try.prog.info? 242).isSome = true := by kernel_rfl
theorem ze242 : zeroV Try.prog 242 = some [.val .nilFunc] := by kernel_rfl
theorem zl242 : (zeroV Try.prog 242).map List.length = some 1 := by kernel_rfl
theorem kd243 : kindB Try.prog 243 = some false := by kernel_rfl
theorem ce243 : Try.prog.cellsOf 243 = 1 := by kernel_rfl
theorem by243 : Try.prog.bytesOf 243 = 8 := by kernel_rfl
theorem in243 : (Try.prog.info? 243).isSome = true := by kernel_rfl
theorem ze243 : zeroV Try.prog 243 = some [.val .nilFunc] := by kernel_rfl
theorem zl243 : (zeroV Try.prog 243).map List.length = some 1 := by kernel_rfl
theorem kd244 : kindB Try.prog 244 = some false := by kernel_rfl
theorem ce244 : Try.prog.cellsOf 244 = 1 := by kernel_rfl
theorem by244 : Try.prog.bytesOf 244 = 8 := by kernel_rfl
theorem in244 : (Try.prog.info? 244).isSome = true := by kernel_rfl
theorem ze244 : zeroV Try.prog 244 = some [.val .nilFunc] := by kernel_rfl
theorem zl244 : (zeroV Try.prog 244).map List.length = some 1 := by kernel_rfl
theorem kd245 : kindB Try.prog 245 = some false := by kernel_rfl
theorem ce245 : Try.prog.cellsOf 245 = 1 := by kernel_rfl
theorem by245 : Try.prog.bytesOf 245 = 8 := by kernel_rfl
theorem in245 : (Try.prog.info? 245).isSome = true := by kernel_rfl
theorem ze245 : zeroV Try.prog 245 = some [.val .nilFunc] := by kernel_rfl
theorem zl245 : (zeroV Try.prog 245).map List.length = some 1 := by kernel_rfl
theorem kd246 : kindB Try.prog 246 = some false := by kernel_rfl
theorem ce246 : Try.prog.cellsOf 246 = 1 := by kernel_rfl
theorem by246 : Try.prog.bytesOf 246 = 8 := by kernel_rfl
theorem in246 : (Try.prog.info? 246).isSome = true := by kernel_rfl
theorem ze246 : zeroV Try.prog 246 = some [.val .nilFunc] := by kernel_rfl
theorem zl246 : (zeroV Try.prog 246).map List.length = some 1 := by kernel_rfl
theorem kd247 : kindB Try.prog 247 = some false := by kernel_rfl
theorem ce247 : Try.prog.cellsOf 247 = 1 := by kernel_rfl
theorem by247 : Try.prog.bytesOf 247 = 8 := by kernel_rfl
theorem in247 : (Try.prog.info? 247).isSome = true := by kernel_rfl
theorem ze247 : zeroV Try.prog 247 = some [.val .nilFunc] := by kernel_rfl
theorem zl247 : (zeroV Try.prog 247).map List.length = some 1 := by kernel_rfl
theorem kd248 : kindB Try.prog 248 = some false := by kernel_rfl
theorem ce248 : Try.prog.cellsOf 248 = 1 := by kernel_rfl
theorem by248 : Try.prog.bytesOf 248 = 8 := by kernel_rfl
theorem in248 : (Try.prog.info? 248).isSome = true := by kernel_rfl
theorem ze248 : zeroV Try.prog 248 = some [.val .nilFunc] := by kernel_rfl
theorem zl248 : (zeroV Try.prog 248).map List.length = some 1 := by kernel_rfl
theorem kd249 : kindB Try.prog 249 = some false := by kernel_rfl
theorem ce249 : Try.prog.cellsOf 249 = 1 := by kernel_rfl
theorem by249 : Try.prog.bytesOf 249 = 8 := by kernel_rfl
theorem in249 : (Try.prog.info? 249).isSome = true := by kernel_rfl
theorem ze249 : zeroV Try.prog 249 = some [.val .nilFunc] := by kernel_rfl
theorem zl249 : (zeroV Try.prog 249).map List.length = some 1 := by kernel_rfl
theorem kd250 : kindB Try.prog 250 = some false := by kernel_rfl
theorem ce250 : Try.prog.cellsOf 250 = 1 := by kernel_rfl
theorem by250 : Try.prog.bytesOf 250 = 8 := by kernel_rfl
theorem in250 : (Try.prog.info? 250).isSome = true := by kernel_rfl
theorem ze250 : zeroV Try.prog 250 = some [.val (.int .i64 0)] := by kernel_rfl
theorem zl250 : (zeroV Try.prog 250).map List.length = some 1 := by kernel_rfl
theorem kd251 : kindB Try.prog 251 = some false := by kernel_rfl
theorem ce251 : Try.prog.cellsOf 251 = 1 := by kernel_rfl
theorem by251 : Try.prog.bytesOf 251 = 0 := by kernel_rfl
theorem in251 : (Try.prog.info? 251).isSome = true := by kernel_rfl
theorem kd252 : kindB Try.prog 252 = some false := by kernel_rfl
theorem ce252 : Try.prog.cellsOf 252 = 1 := by kernel_rfl
theorem by252 : Try.prog.bytesOf 252 = 8 := by kernel_rfl
theorem in252 : (Try.prog.info? 252).isSome = true := by kernel_rfl
theorem ze252 : zeroV Try.prog 252 = some [.val .nilFunc] := by kernel_rfl
theorem zl252 : (zeroV Try.prog 252).map List.length = some 1 := by kernel_rfl
theorem kd253 : kindB Try.prog 253 = some false := by kernel_rfl
theorem ce253 : Try.prog.cellsOf 253 = 1 := by kernel_rfl
theorem by253 : Try.prog.bytesOf 253 = 8 := by kernel_rfl
theorem in253 : (Try.prog.info? 253).isSome = true := by kernel_rfl
theorem ze253 : zeroV Try.prog 253 = some [.val .nilFunc] := by kernel_rfl
theorem zl253 : (zeroV Try.prog 253).map List.length = some 1 := by kernel_rfl
theorem kd254 : kindB Try.prog 254 = some false := by kernel_rfl
theorem ce254 : Try.prog.cellsOf 254 = 1 := by kernel_rfl
theorem by254 : Try.prog.bytesOf 254 = 8 := by kernel_rfl
theorem in254 : (Try.prog.info? 254).isSome = true := by kernel_rfl
theorem ze254 : zeroV Try.prog 254 = some [.val .nilFunc] := by kernel_rfl
theorem zl254 : (zeroV Try.prog 254).map List.length = some 1 := by kernel_rfl
theorem kd255 : kindB Try.prog 255 = some false := by kernel_rfl
theorem ce255 : Try.prog.cellsOf 255 = 1 := by kernel_rfl
theorem by255 : Try.prog.bytesOf 255 = 8 := by kernel_rfl
theorem in255 : (Try.prog.info? 255).isSome = true := by kernel_rfl
theorem ze255 : zeroV Try.prog 255 = some [.val .nilFunc] := by kernel_rfl
theorem zl255 : (zeroV Try.prog 255).map List.length = some 1 := by kernel_rfl
theorem kd256 : kindB Try.prog 256 = some false := by kernel_rfl
theorem ce256 : Try.prog.cellsOf 256 = 1 := by kernel_rfl
theorem by256 : Try.prog.bytesOf 256 = 8 := by kernel_rfl
theorem in256 : (Try.prog.info? 256).isSome = true := by kernel_rfl
theorem ze256 : zeroV Try.prog 256 = some [.val .nilFunc] := by kernel_rfl
theorem zl256 : (zeroV Try.prog 256).map List.length = some 1 := by kernel_rfl
theorem kd257 : kindB Try.prog 257 = some false := by kernel_rfl
theorem ce257 : Try.prog.cellsOf 257 = 1 := by kernel_rfl
theorem by257 : Try.prog.bytesOf 257 = 8 := by kernel_rfl
theorem in257 : (Try.prog.info? 257).isSome = true := by kernel_rfl
theorem ze257 : zeroV Try.prog 257 = some [.val .nilFunc] := by kernel_rfl
theorem zl257 : (zeroV Try.prog 257).map List.length = some 1 := by kernel_rfl
theorem kd258 : kindB Try.prog 258 = some false := by kernel_rfl
theorem ce258 : Try.prog.cellsOf 258 = 1 := by kernel_rfl
theorem by258 : Try.prog.bytesOf 258 = 24 := by kernel_rfl
theorem in258 : (Try.prog.info? 258).isSome = true := by kernel_rfl
theorem ze258 : zeroV Try.prog 258 = some [.val (.slice none 0 0)] := by kernel_rfl
theorem zl258 : (zeroV Try.prog 258).map List.length = some 1 := by kernel_rfl
theorem kd259 : kindB Try.prog 259 = some false := by kernel_rfl
theorem ce259 : Try.prog.cellsOf 259 = 1 := by kernel_rfl
theorem by259 : Try.prog.bytesOf 259 = 8 := by kernel_rfl
theorem in259 : (Try.prog.info? 259).isSome = true := by kernel_rfl
theorem ze259 : zeroV Try.prog 259 = some [.val .nilFunc] := by kernel_rfl
theorem zl259 : (zeroV Try.prog 259).map List.length = some 1 := by kernel_rfl
theorem kd260 : kindB Try.prog 260 = some false := by kernel_rfl
theorem ce260 : Try.prog.cellsOf 260 = 1 := by kernel_rfl
theorem by260 : Try.prog.bytesOf 260 = 8 := by kernel_rfl
theorem in260 : (Try.prog.info? 260).isSome = true := by kernel_rfl
theorem ze260 : zeroV Try.prog 260 = some [.val .nilFunc] := by kernel_rfl
theorem zl260 : (zeroV Try.prog 260).map List.length = some 1 := by kernel_rfl
theorem kd261 : kindB Try.prog 261 = some false := by kernel_rfl
theorem ce261 : Try.prog.cellsOf 261 = 1 := by kernel_rfl
theorem by261 : Try.prog.bytesOf 261 = 8 := by kernel_rfl
theorem in261 : (Try.prog.info? 261).isSome = true := by kernel_rfl
theorem ze261 : zeroV Try.prog 261 = some [.val .nilFunc] := by kernel_rfl
theorem zl261 : (zeroV Try.prog 261).map List.length = some 1 := by kernel_rfl
theorem kd262 : kindB Try.prog 262 = some false := by kernel_rfl
theorem ce262 : Try.prog.cellsOf 262 = 1 := by kernel_rfl
theorem by262 : Try.prog.bytesOf 262 = 8 := by kernel_rfl
theorem in262 : (Try.prog.info? 262).isSome = true := by kernel_rfl
theorem ze262 : zeroV Try.prog 262 = some [.val .nilFunc] := by kernel_rfl
theorem zl262 : (zeroV Try.prog 262).map List.length = some 1 := by kernel_rfl
theorem kd263 : kindB Try.prog 263 = some false := by kernel_rfl
theorem ce263 : Try.prog.cellsOf 263 = 1 := by kernel_rfl
theorem by263 : Try.prog.bytesOf 263 = 8 := by kernel_rfl
theorem in263 : (Try.prog.info? 263).isSome = true := by kernel_rfl
theorem ze263 : zeroV Try.prog 263 = some [.val .nilFunc] := by kernel_rfl
theorem zl263 : (zeroV Try.prog 263).map List.length = some 1 := by kernel_rfl
theorem kd264 : kindB Try.prog 264 = some false := by kernel_rfl
theorem ce264 : Try.prog.cellsOf 264 = 1 := by kernel_rfl
theorem by264 : Try.prog.bytesOf 264 = 8 := by kernel_rfl
theorem in264 : (Try.prog.info? 264).isSome = true := by kernel_rfl
theorem ze264 : zeroV Try.prog 264 = some [.val .nilFunc] := by kernel_rfl
theorem zl264 : (zeroV Try.prog 264).map List.length = some 1 := by kernel_rfl
theorem kd265 : kindB Try.prog 265 = some false := by kernel_rfl
theorem ce265 : Try.prog.cellsOf 265 = 1 := by kernel_rfl
theorem by265 : Try.prog.bytesOf 265 = 8 := by kernel_rfl
theorem in265 : (Try.prog.info? 265).isSome = true := by kernel_rfl
theorem ze265 : zeroV Try.prog 265 = some [.val .nilFunc] := by kernel_rfl
theorem zl265 : (zeroV Try.prog 265).map List.length = some 1 := by kernel_rfl
theorem kd266 : kindB Try.prog 266 = some false := by kernel_rfl
theorem ce266 : Try.prog.cellsOf 266 = 1 := by kernel_rfl
theorem by266 : Try.prog.bytesOf 266 = 8 := by kernel_rfl
theorem in266 : (Try.prog.info? 266).isSome = true := by kernel_rfl
theorem ze266 : zeroV Try.prog 266 = some [.val .nilFunc] := by kernel_rfl
theorem zl266 : (zeroV Try.prog 266).map List.length = some 1 := by kernel_rfl
theorem kd267 : kindB Try.prog 267 = some false := by kernel_rfl
theorem ce267 : Try.prog.cellsOf 267 = 1 := by kernel_rfl
theorem by267 : Try.prog.bytesOf 267 = 8 := by kernel_rfl
theorem in267 : (Try.prog.info? 267).isSome = true := by kernel_rfl
theorem ze267 : zeroV Try.prog 267 = some [.val (.int .u64 0)] := by kernel_rfl
theorem zl267 : (zeroV Try.prog 267).map List.length = some 1 := by kernel_rfl
theorem kd268 : kindB Try.prog 268 = some false := by kernel_rfl
theorem ce268 : Try.prog.cellsOf 268 = 1 := by kernel_rfl
theorem by268 : Try.prog.bytesOf 268 = 8 := by kernel_rfl
theorem in268 : (Try.prog.info? 268).isSome = true := by kernel_rfl
theorem ze268 : zeroV Try.prog 268 = some [.val .nilFunc] := by kernel_rfl
theorem zl268 : (zeroV Try.prog 268).map List.length = some 1 := by kernel_rfl
theorem kd269 : kindB Try.prog 269 = some false := by kernel_rfl
theorem ce269 : Try.prog.cellsOf 269 = 1 := by kernel_rfl
theorem by269 : Try.prog.bytesOf 269 = 8 := by kernel_rfl
theorem in269 : (Try.prog.info? 269).isSome = true := by kernel_rfl
theorem ze269 : zeroV Try.prog 269 = some [.val .nilFunc] := by kernel_rfl
theorem zl269 : (zeroV Try.prog 269).map List.length = some 1 := by kernel_rfl
theorem kd270 : kindB Try.prog 270 = some false := by kernel_rfl
theorem ce270 : Try.prog.cellsOf 270 = 1 := by kernel_rfl
theorem by270 : Try.prog.bytesOf 270 = 8 := by kernel_rfl
theorem in270 : (Try.prog.info? 270).isSome = true := by kernel_rfl
theorem ze270 : zeroV Try.prog 270 = some [.val (.pointer none)] := by kernel_rfl
theorem zl270 : (zeroV Try.prog 270).map List.length = some 1 := by kernel_rfl
theorem kd271 : kindB Try.prog 271 = some false := by kernel_rfl
theorem ce271 : Try.prog.cellsOf 271 = 1 := by kernel_rfl
theorem by271 : Try.prog.bytesOf 271 = 8 := by kernel_rfl
theorem in271 : (Try.prog.info? 271).isSome = true := by kernel_rfl
theorem ze271 : zeroV Try.prog 271 = some [.val .nilFunc] := by kernel_rfl
theorem zl271 : (zeroV Try.prog 271).map List.length = some 1 := by kernel_rfl
theorem kd272 : kindB Try.prog 272 = some false := by kernel_rfl
theorem ce272 : Try.prog.cellsOf 272 = 1 := by kernel_rfl
theorem by272 : Try.prog.bytesOf 272 = 8 := by kernel_rfl
theorem in272 : (Try.prog.info? 272).isSome = true := by kernel_rfl
theorem ze272 : zeroV Try.prog 272 = some [.val .nilFunc] := by kernel_rfl
theorem zl272 : (zeroV Try.prog 272).map List.length = some 1 := by kernel_rfl
theorem kd273 : kindB Try.prog 273 = some false := by kernel_rfl
theorem ce273 : Try.prog.cellsOf 273 = 1 := by kernel_rfl
theorem by273 : Try.prog.bytesOf 273 = 8 := by kernel_rfl
theorem in273 : (Try.prog.info? 273).isSome = true := by kernel_rfl
theorem ze273 : zeroV Try.prog 273 = some [.val .nilFunc] := by kernel_rfl
theorem zl273 : (zeroV Try.prog 273).map List.length = some 1 := by kernel_rfl
theorem kd274 : kindB Try.prog 274 = some false := by kernel_rfl
theorem ce274 : Try.prog.cellsOf 274 = 1 := by kernel_rfl
theorem by274 : Try.prog.bytesOf 274 = 8 := by kernel_rfl
theorem in274 : (Try.prog.info? 274).isSome = true := by kernel_rfl
theorem ze274 : zeroV Try.prog 274 = some [.val (.pointer none)] := by kernel_rfl
theorem zl274 : (zeroV Try.prog 274).map List.length = some 1 := by kernel_rfl
theorem kd275 : kindB Try.prog 275 = some false := by kernel_rfl
theorem ce275 : Try.prog.cellsOf 275 = 1 := by kernel_rfl
theorem by275 : Try.prog.bytesOf 275 = 0 := by kernel_rfl
theorem in275 : (Try.prog.info? 275).isSome = true := by kernel_rfl
theorem kd276 : kindB Try.prog 276 = some false := by kernel_rfl
theorem ce276 : Try.prog.cellsOf 276 = 1 := by kernel_rfl
theorem by276 : Try.prog.bytesOf 276 = 8 := by kernel_rfl
theorem in276 : (Try.prog.info? 276).isSome = true := by kernel_rfl
theorem ze276 : zeroV Try.prog 276 = some [.val .nilFunc] := by kernel_rfl
theorem zl276 : (zeroV Try.prog 276).map List.length = some 1 := by kernel_rfl
theorem kd277 : kindB Try.prog 277 = some false := by kernel_rfl
theorem ce277 : Try.prog.cellsOf 277 = 1 := by kernel_rfl
theorem by277 : Try.prog.bytesOf 277 = 8 := by kernel_rfl
theorem in277 : (Try.prog.info? 277).isSome = true := by kernel_rfl
theorem ze277 : zeroV Try.prog 277 = some [.val .nilFunc] := by kernel_rfl
theorem zl277 : (zeroV Try.prog 277).map List.length = some 1 := by kernel_rfl
theorem kd278 : kindB Try.prog 278 = some true := by kernel_rfl
theorem ce278 : Try.prog.cellsOf 278 = 4 := by kernel_rfl
theorem by278 : Try.prog.bytesOf 278 = 40 := by kernel_rfl
theorem in278 : (Try.prog.info? 278).isSome = true := by kernel_rfl
theorem ze278 : zeroV Try.prog 278 = some [.val (.pointer none), .val (.pointer none), .val (.pointer none), .val (.string ByteArray.empty)] := by kernel_rfl
theorem zl278 : (zeroV Try.prog 278).map List.length = some 4 := by kernel_rfl
theorem kd279 : kindB Try.prog 279 = some true := by kernel_rfl
theorem ce279 : Try.prog.cellsOf 279 = 4 := by kernel_rfl
theorem by279 : Try.prog.bytesOf 279 = 40 := by kernel_rfl
theorem in279 : (Try.prog.info? 279).isSome = true := by kernel_rfl
theorem ze279 : zeroV Try.prog 279 = some [.val (.pointer none), .val (.pointer none), .val (.pointer none), .val (.string ByteArray.empty)] := by kernel_rfl
theorem zl279 : (zeroV Try.prog 279).map List.length = some 4 := by kernel_rfl
theorem kd280 : kindB Try.prog 280 = some true := by kernel_rfl
theorem ce280 : Try.prog.cellsOf 280 = 0 := by kernel_rfl
theorem by280 : Try.prog.bytesOf 280 = 0 := by kernel_rfl
theorem in280 : (Try.prog.info? 280).isSome = true := by kernel_rfl
theorem ze280 : zeroV Try.prog 280 = some [] := by kernel_rfl
theorem zl280 : (zeroV Try.prog 280).map List.length = some 0 := by kernel_rfl
theorem kd281 : kindB Try.prog 281 = some true := by kernel_rfl
theorem ce281 : Try.prog.cellsOf 281 = 0 := by kernel_rfl
theorem by281 : Try.prog.bytesOf 281 = 0 := by kernel_rfl
theorem in281 : (Try.prog.info? 281).isSome = true := by kernel_rfl
theorem ze281 : zeroV Try.prog 281 = some [] := by kernel_rfl
theorem zl281 : (zeroV Try.prog 281).map List.length = some 0 := by kernel_rfl
theorem kd282 : kindB Try.prog 282 = some true := by kernel_rfl
theorem ce282 : Try.prog.cellsOf 282 = 0 := by kernel_rfl
theorem by282 : Try.prog.bytesOf 282 = 0 := by kernel_rfl
theorem in282 : (Try.prog.info? 282).isSome = true := by kernel_rfl
theorem ze282 : zeroV Try.prog 282 = some [] := by kernel_rfl
theorem zl282 : (zeroV Try.prog 282).map List.length = some 0 := by kernel_rfl
theorem kd283 : kindB Try.prog 283 = some false := by kernel_rfl
theorem ce283 : Try.prog.cellsOf 283 = 1 := by kernel_rfl
theorem by283 : Try.prog.bytesOf 283 = 1 := by kernel_rfl
theorem in283 : (Try.prog.info? 283).isSome = true := by kernel_rfl
theorem ze283 : zeroV Try.prog 283 = some [.val (.int .u8 0)] := by kernel_rfl
theorem zl283 : (zeroV Try.prog 283).map List.length = some 1 := by kernel_rfl
theorem kd284 : kindB Try.prog 284 = some false := by kernel_rfl
theorem ce284 : Try.prog.cellsOf 284 = 1 := by kernel_rfl
theorem by284 : Try.prog.bytesOf 284 = 1 := by kernel_rfl
theorem in284 : (Try.prog.info? 284).isSome = true := by kernel_rfl
theorem ze284 : zeroV Try.prog 284 = some [.val (.int .u8 0)] := by kernel_rfl
theorem zl284 : (zeroV Try.prog 284).map List.length = some 1 := by kernel_rfl
theorem kd285 : kindB Try.prog 285 = some false := by kernel_rfl
theorem ce285 : Try.prog.cellsOf 285 = 1 := by kernel_rfl
theorem by285 : Try.prog.bytesOf 285 = 8 := by kernel_rfl
theorem in285 : (Try.prog.info? 285).isSome = true := by kernel_rfl
theorem ze285 : zeroV Try.prog 285 = some [.val .nilFunc] := by kernel_rfl
theorem zl285 : (zeroV Try.prog 285).map List.length = some 1 := by kernel_rfl
theorem kd286 : kindB Try.prog 286 = some false := by kernel_rfl
theorem ce286 : Try.prog.cellsOf 286 = 1 := by kernel_rfl
theorem by286 : Try.prog.bytesOf 286 = 8 := by kernel_rfl
theorem in286 : (Try.prog.info? 286).isSome = true := by kernel_rfl
theorem ze286 : zeroV Try.prog 286 = some [.val (.pointer none)] := by kernel_rfl
theorem zl286 : (zeroV Try.prog 286).map List.length = some 1 := by kernel_rfl
theorem kd287 : kindB Try.prog 287 = some false := by kernel_rfl
theorem ce287 : Try.prog.cellsOf 287 = 1 := by kernel_rfl
theorem by287 : Try.prog.bytesOf 287 = 4 := by kernel_rfl
theorem in287 : (Try.prog.info? 287).isSome = true := by kernel_rfl
theorem ze287 : zeroV Try.prog 287 = some [.val (.int .i32 0)] := by kernel_rfl
theorem zl287 : (zeroV Try.prog 287).map List.length = some 1 := by kernel_rfl
theorem kd288 : kindB Try.prog 288 = some false := by kernel_rfl
theorem ce288 : Try.prog.cellsOf 288 = 1 := by kernel_rfl
theorem by288 : Try.prog.bytesOf 288 = 4 := by kernel_rfl
theorem in288 : (Try.prog.info? 288).isSome = true := by kernel_rfl
theorem ze288 : zeroV Try.prog 288 = some [.val (.int .i32 0)] := by kernel_rfl
theorem zl288 : (zeroV Try.prog 288).map List.length = some 1 := by kernel_rfl
theorem kd289 : kindB Try.prog 289 = some true := by kernel_rfl
theorem ce289 : Try.prog.cellsOf 289 = 11 := by kernel_rfl
theorem by289 : Try.prog.bytesOf 289 = 48 := by kernel_rfl
theorem in289 : (Try.prog.info? 289).isSome = true := by kernel_rfl
theorem ze289 : zeroV Try.prog 289 = some [.val (.int .u64 0), .val (.int .u64 0), .val (.int .u32 0), .val (.int .u8 0), .val (.int .u8 0), .val (.int .u8 0), .val (.int .u8 0), .val .nilFunc, .val (.pointer none), .val (.int .i32 0), .val (.int .i32 0)] := by kernel_rfl
theorem zl289 : (zeroV Try.prog 289).map List.length = some 11 := by kernel_rfl
theorem kd290 : kindB Try.prog 290 = some true := by kernel_rfl
theorem ce290 : Try.prog.cellsOf 290 = 11 := by kernel_rfl
theorem by290 : Try.prog.bytesOf 290 = 48 := by kernel_rfl
theorem in290 : (Try.prog.info? 290).isSome = true := by kernel_rfl
theorem ze290 : zeroV Try.prog 290 = some [.val (.int .u64 0), .val (.int .u64 0), .val (.int .u32 0), .val (.int .u8 0), .val (.int .u8 0), .val (.int .u8 0), .val (.int .u8 0), .val .nilFunc, .val (.pointer none), .val (.int .i32 0), .val (.int .i32 0)] := by kernel_rfl
theorem zl290 : (zeroV Try.prog 290).map List.length = some 11 := by kernel_rfl
theorem kd291 : kindB Try.prog 291 = some false := by kernel_rfl
theorem ce291 : Try.prog.cellsOf 291 = 1 := by kernel_rfl
theorem by291 : Try.prog.bytesOf 291 = 8 := by kernel_rfl
theorem in291 : (Try.prog.info? 291).isSome = true := by kernel_rfl
theorem ze291 : zeroV Try.prog 291 = some [.val .nilFunc] := by kernel_rfl
theorem zl291 : (zeroV Try.prog 291).map List.length = some 1 := by kernel_rfl
theorem kd292 : kindB Try.prog 292 = some false := by kernel_rfl
theorem ce292 : Try.prog.cellsOf 292 = 1 := by kernel_rfl
theorem by292 : Try.prog.bytesOf 292 = 8 := by kernel_rfl
theorem in292 : (Try.prog.info? 292).isSome = true := by kernel_rfl
theorem ze292 : zeroV Try.prog 292 = some [.val (.pointer none)] := by kernel_rfl
theorem zl292 : (zeroV Try.prog 292).map List.length = some 1 := by kernel_rfl
theorem lf22 : leafs Try.prog 50 22 = some [0, 0, 0, 0, 0, 0, 0, 0, 0, 0, 0, 0] := by kernel_rfl
theorem eg22 : Try.prog.eqGuardType Try.prog.depth 22 = false := by kernel_rfl
theorem eql22 {xs ys : List V} {σ : Store} {K : V → Store → Prop} : binV Try.prog .eql 22 (.agg xs) (.agg ys) σ K = (match allEq [0, 0, 0, 0, 0, 0, 0, 0, 0, 0, 0, 0] xs ys with | some r => K (.val (.bool (r))) σ | none => False) := by simp only [binV, kd22, eg22, lf22, true_and]; cases allEq [0, 0, 0, 0, 0, 0, 0, 0, 0, 0, 0, 0] xs ys <;> rfl
theorem neq22 {xs ys : List V} {σ : Store} {K : V → Store → Prop} : binV Try.prog .neq 22 (.agg xs) (.agg ys) σ K = (match allEq [0, 0, 0, 0, 0, 0, 0, 0, 0, 0, 0, 0] xs ys with | some r => K (.val (.bool (!r))) σ | none => False) := by simp only [binV, kd22, eg22, lf22, true_and]; cases allEq [0, 0, 0, 0, 0, 0, 0, 0, 0, 0, 0, 0] xs ys <;> rfl
theorem lf52 : leafs Try.prog 50 52 = some [0, 0, 0, 0, 0, 0, 0, 0, 0, 0, 0, 0] := by kernel_rfl
theorem eg52 : Try.prog.eqGuardType Try.prog.depth 52 = false := by kernel_rfl
theorem eql52 {xs ys : List V} {σ : Store} {K : V → Store → Prop} : binV Try.prog .eql 52 (.agg xs) (.agg ys) σ K = (match allEq [0, 0, 0, 0, 0, 0, 0, 0, 0, 0, 0, 0] xs ys with | some r => K (.val (.bool (r))) σ | none => False) := by simp only [binV, kd52, eg52, lf52, true_and]; cases allEq [0, 0, 0, 0, 0, 0, 0, 0, 0, 0, 0, 0] xs ys <;> rfl
theorem neq52 {xs ys : List V} {σ : Store} {K : V → Store → Prop} : binV Try.prog .neq 52 (.agg xs) (.agg ys) σ K = (match allEq [0, 0, 0, 0, 0, 0, 0, 0, 0, 0, 0, 0] xs ys with | some r => K (.val (.bool (!r))) σ | none => False) := by simp only [binV, kd52, eg52, lf52, true_and]; cases allEq [0, 0, 0, 0, 0, 0, 0, 0, 0, 0, 0, 0] xs ys <;> rfl
theorem lf53 : leafs Try.prog 50 53 = some [0, 0, 0, 0, 0, 0, 0, 0, 0, 0, 0, 0] := by kernel_rfl
theorem eg53 : Try.prog.eqGuardType Try.prog.depth 53 = false := by kernel_rfl
theorem eql53 {xs ys : List V} {σ : Store} {K : V → Store → Prop} : binV Try.prog .eql 53 (.agg xs) (.agg ys) σ K = (match allEq [0, 0, 0, 0, 0, 0, 0, 0, 0, 0, 0, 0] xs ys with | some r => K (.val (.bool (r))) σ | none => False) := by simp only [binV, kd53, eg53, lf53, true_and]; cases allEq [0, 0, 0, 0, 0, 0, 0, 0, 0, 0, 0, 0] xs ys <;> rfl
theorem neq53 {xs ys : List V} {σ : Store} {K : V → Store → Prop} : binV Try.prog .neq 53 (.agg xs) (.agg ys) σ K = (match allEq [0, 0, 0, 0, 0, 0, 0, 0, 0, 0, 0, 0] xs ys with | some r => K (.val (.bool (!r))) σ | none => False) := by simp only [binV, kd53, eg53, lf53, true_and]; cases allEq [0, 0, 0, 0, 0, 0, 0, 0, 0, 0, 0, 0] xs ys <;> rfl
theorem lf55 : leafs Try.prog 50 55 = some [0, 0, 0, 0, 0, 0, 0, 0, 0, 0, 0, 0, 0, 0, 0, 0, 0] := by kernel_rfl
theorem eg55 : Try.prog.eqGuardType Try.prog.depth 55 = false := by kernel_rfl
theorem eql55 {xs ys : List V} {σ : Store} {K : V → Store → Prop} : binV Try.prog .eql 55 (.agg xs) (.agg ys) σ K = (match allEq [0, 0, 0, 0, 0, 0, 0, 0, 0, 0, 0, 0, 0, 0, 0, 0, 0] xs ys with | some r => K (.val (.bool (r))) σ | none => False) := by simp only [binV, kd55, eg55, lf55, true_and]; cases allEq [0, 0, 0, 0, 0, 0, 0, 0, 0, 0, 0, 0, 0, 0, 0, 0, 0] xs ys <;> rfl
theorem neq55 {xs ys : List V} {σ : Store} {K : V → Store → Prop} : binV Try.prog .neq 55 (.agg xs) (.agg ys) σ K = (match allEq [0, 0, 0, 0, 0, 0, 0, 0, 0, 0, 0, 0, 0, 0, 0, 0, 0] xs ys with | some r => K (.val (.bool (!r))) σ | none => False) := by simp only [binV, kd55, eg55, lf55, true_and]; cases allEq [0, 0, 0, 0, 0, 0, 0, 0, 0, 0, 0, 0, 0, 0, 0, 0, 0] xs ys <;> rfl
theorem lf57 : leafs Try.prog 50 57 = some [0, 0, 0, 0, 0, 0, 0, 0, 0, 0, 0, 0, 0, 0, 0, 0, 0, 0] := by kernel_rfl
theorem eg57 : Try.prog.eqGuardType Try.prog.depth 57 = false := by kernel_rfl
theorem eql57 {xs ys : List V} {σ : Store} {K : V → Store → Prop} : binV Try.prog .eql 57 (.agg xs) (.agg ys) σ K = (match allEq [0, 0, 0, 0, 0, 0, 0, 0, 0, 0, 0, 0, 0, 0, 0, 0, 0, 0] xs ys with | some r => K (.val (.bool (r))) σ | none => False) := by simp only [binV, kd57, eg57, lf57, true_and]; cases allEq [0, 0, 0, 0, 0, 0, 0, 0, 0, 0, 0, 0, 0, 0, 0, 0, 0, 0] xs ys <;> rfl
theorem neq57 {xs ys : List V} {σ : Store} {K : V → Store → Prop} : binV Try.prog .neq 57 (.agg xs) (.agg ys) σ K = (match allEq [0, 0, 0, 0, 0, 0, 0, 0, 0, 0, 0, 0, 0, 0, 0, 0, 0, 0] xs ys with | some r => K (.val (.bool (!r))) σ | none => False) := by simp only [binV, kd57, eg57, lf57, true_and]; cases allEq [0, 0, 0, 0, 0, 0, 0, 0, 0, 0, 0, 0, 0, 0, 0, 0, 0, 0] xs ys <;> rfl
theorem lf67 : leafs Try.prog 50 67 = some [0, 0, 0, 1] := by kernel_rfl
theorem eg67 : Try.prog.eqGuardType Try.prog.depth 67 = false := by kernel_rfl
theorem eql67 {xs ys : List V} {σ : Store} {K : V → Store → Prop} : binV Try.prog .eql 67 (.agg xs) (.agg ys) σ K = (match allEq [0, 0, 0, 1] xs ys with | some r => K (.val (.bool (r))) σ | none => False) := by simp only [binV, kd67, eg67, lf67, true_and]; cases allEq [0, 0, 0, 1] xs ys <;> rfl
theorem neq67 {xs ys : List V} {σ : Store} {K : V → Store → Prop} : binV Try.prog .neq 67 (.agg xs) (.agg ys) σ K = (match allEq [0, 0, 0, 1] xs ys with | some r => K (.val (.bool (!r))) σ | none => False) := by simp only [binV, kd67, eg67, lf67, true_and]; cases allEq [0, 0, 0, 1] xs ys <;> rfl
theorem lf83 : leafs Try.prog 50 83 = some [0, 0, 0, 0, 0, 0, 0, 0, 0, 0, 0, 0, 0] := by kernel_rfl
theorem eg83 : Try.prog.eqGuardType Try.prog.depth 83 = false := by kernel_rfl
theorem eql83 {xs ys : List V} {σ : Store} {K : V → Store → Prop} : binV Try.prog .eql 83 (.agg xs) (.agg ys) σ K = (match allEq [0, 0, 0, 0, 0, 0, 0, 0, 0, 0, 0, 0, 0] xs ys with | some r => K (.val (.bool (r))) σ | none => False) := by simp only [binV, kd83, eg83, lf83, true_and]; cases allEq [0, 0, 0, 0, 0, 0, 0, 0, 0, 0, 0, 0, 0] xs ys <;> rfl
theorem neq83 {xs ys : List V} {σ : Store} {K : V → Store → Prop} : binV Try.prog .neq 83 (.agg xs) (.agg ys) σ K = (match allEq [0, 0, 0, 0, 0, 0, 0, 0, 0, 0, 0, 0, 0] xs ys with | some r => K (.val (.bool (!r))) σ | none => False) := by simp only [binV, kd83, eg83, lf83, true_and]; cases allEq [0, 0, 0, 0, 0, 0, 0, 0, 0, 0, 0, 0, 0] xs ys <;> rfl
theorem lf84 : leafs Try.prog 50 84 = some [1, 1, 1, 1, 1, 1, 1, 1, 1, 1, 1, 1, 1] := by kernel_rfl
theorem eg84 : Try.prog.eqGuardType Try.prog.depth 84 = false := by kernel_rfl
theorem eql84 {xs ys : List V} {σ : Store} {K : V → Store → Prop} : binV Try.prog .eql 84 (.agg xs) (.agg ys) σ K = (match allEq [1, 1, 1, 1, 1, 1, 1, 1, 1, 1, 1, 1, 1] xs ys with | some r => K (.val (.bool (r))) σ | none => False) := by simp only [binV, kd84, eg84, lf84, true_and]; cases allEq [1, 1, 1, 1, 1, 1, 1, 1, 1, 1, 1, 1, 1] xs ys <;> rfl
theorem neq84 {xs ys : List V} {σ : Store} {K : V → Store → Prop} : binV Try.prog .neq 84 (.agg xs) (.agg ys) σ K = (match allEq [1, 1, 1, 1, 1, 1, 1, 1, 1, 1, 1, 1, 1] xs ys with | some r => K (.val (.bool (!r))) σ | none => False) := by simp only [binV, kd84, eg84, lf84, true_and]; cases allEq [1, 1, 1, 1, 1, 1, 1, 1, 1, 1, 1, 1, 1] xs ys <;> rfl
theorem lf136 : leafs Try.prog 50 136 = some [0, 0] := by kernel_rfl
theorem eg136 : Try.prog.eqGuardType Try.prog.depth 136 = false := by kernel_rfl
theorem eql136 {xs ys : List V} {σ : Store} {K : V → Store → Prop} : binV Try.prog .eql 136 (.agg xs) (.agg ys) σ K = (match allEq [0, 0] xs ys with | some r => K (.val (.bool (r))) σ | none => False) := by simp only [binV, kd136, eg136, lf136, true_and]; cases allEq [0, 0] xs ys <;> rfl
theorem neq136 {xs ys : List V} {σ : Store} {K : V → Store → Prop} : binV Try.prog .neq 136 (.agg xs) (.agg ys) σ K = (match allEq [0, 0] xs ys with | some r => K (.val (.bool (!r))) σ | none => False) := by simp only [binV, kd136, eg136, lf136, true_and]; cases allEq [0, 0] xs ys <;> rfl
theorem lf141 : leafs Try.prog 50 141 = some [0, 0] := by kernel_rfl
theorem eg141 : Try.prog.eqGuardType Try.prog.depth 141 = false := by kernel_rfl
theorem eql141 {xs ys : List V} {σ : Store} {K : V → Store → Prop} : binV Try.prog .eql 141 (.agg xs) (.agg ys) σ K = (match allEq [0, 0] xs ys with | some r => K (.val (.bool (r))) σ | none => False) := by simp only [binV, kd141, eg141, lf141, true_and]; cases allEq [0, 0] xs ys <;> rfl
theorem neq141 {xs ys : List V} {σ : Store} {K : V → Store → Prop} : binV Try.prog .neq 141 (.agg xs) (.agg ys) σ K = (match allEq [0, 0] xs ys with | some r => K (.val (.bool (!r))) σ | none => False) := by simp only [binV, kd141, eg141, lf141, true_and]; cases allEq [0, 0] xs ys <;> rfl
theorem lf157 : leafs Try.prog 50 157 = some [0, 0] := by kernel_rfl
theorem eg157 : Try.prog.eqGuardType Try.prog.depth 157 = false := by kernel_rfl
theorem eql157 {xs ys : List V} {σ : Store} {K : V → Store → Prop} : binV Try.prog .eql 157 (.agg xs) (.agg ys) σ K = (match allEq [0, 0] xs ys with | some r => K (.val (.bool (r))) σ | none => False) := by simp only [binV, kd157, eg157, lf157, true_and]; cases allEq [0, 0] xs ys <;> rfl
theorem neq157 {xs ys : List V} {σ : Store} {K : V → Store → Prop} : binV Try.prog .neq 157 (.agg xs) (.agg ys) σ K = (match allEq [0, 0] xs ys with | some r => K (.val (.bool (!r))) σ | none => False) := by simp only [binV, kd157, eg157, lf157, true_and]; cases allEq [0, 0] xs ys <;> rfl
theorem lf158 : leafs Try.prog 50 158 = some [0, 0, 0, 0, 0, 0, 0, 0, 0, 0, 0, 0, 0, 0, 0, 0, 0, 0, 0, 0, 0, 0, 0, 0] := by kernel_rfl
theorem eg158 : Try.prog.eqGuardType Try.prog.depth 158 = false := by kernel_rfl
theorem eql158 {xs ys : List V} {σ : Store} {K : V → Store → Prop} : binV Try.prog .eql 158 (.agg xs) (.agg ys) σ K = (match allEq [0, 0, 0, 0, 0, 0, 0, 0, 0, 0, 0, 0, 0, 0, 0, 0, 0, 0, 0, 0, 0, 0, 0, 0] xs ys with | some r => K (.val (.bool (r))) σ | none => False) := by simp only [binV, kd158, eg158, lf158, true_and]; cases allEq [0, 0, 0, 0, 0, 0, 0, 0, 0, 0, 0, 0, 0, 0, 0, 0, 0, 0, 0, 0, 0, 0, 0, 0] xs ys <;> rfl
theorem neq158 {xs ys : List V} {σ : Store} {K : V → Store → Prop} : binV Try.prog .neq 158 (.agg xs) (.agg ys) σ K = (match allEq [0, 0, 0, 0, 0, 0, 0, 0, 0, 0, 0, 0, 0, 0, 0, 0, 0, 0, 0, 0, 0, 0, 0, 0] xs ys with | some r => K (.val (.bool (!r))) σ | none => False) := by simp only [binV, kd158, eg158, lf158, true_and]; cases allEq [0, 0, 0, 0, 0, 0, 0, 0, 0, 0, 0, 0, 0, 0, 0, 0, 0, 0, 0, 0, 0, 0, 0, 0] xs ys <;> rfl
theorem lf195 : leafs Try.prog 50 195 = some [0, 1, 0] := by kernel_rfl
theorem eg195 : Try.prog.eqGuardType Try.prog.depth 195 = false := by kernel_rfl
theorem eql195 {xs ys : List V} {σ : Store} {K : V → Store → Prop} : binV Try.prog .eql 195 (.agg xs) (.agg ys) σ K = (match allEq [0, 1, 0] xs ys with | some r => K (.val (.bool (r))) σ | none => False) := by simp only [binV, kd195, eg195, lf195, true_and]; cases allEq [0, 1, 0] xs ys <;> rfl
theorem neq195 {xs ys : List V} {σ : Store} {K : V → Store → Prop} : binV Try.prog .neq 195 (.agg xs) (.agg ys) σ K = (match allEq [0, 1, 0] xs ys with | some r => K (.val (.bool (!r))) σ | none => False) := by simp only [binV, kd195, eg195, lf195, true_and]; cases allEq [0, 1, 0] xs ys <;> rfl
theorem lf197 : leafs Try.prog 50 197 = some [0, 0, 0, 1, 0] := by kernel_rfl
theorem eg197 : Try.prog.eqGuardType Try.prog.depth 197 = false := by kernel_rfl
theorem eql197 {xs ys : List V} {σ : Store} {K : V → Store → Prop} : binV Try.prog .eql 197 (.agg xs) (.agg ys) σ K = (match allEq [0, 0, 0, 1, 0] xs ys with | some r => K (.val (.bool (r))) σ | none => False) := by simp only [binV, kd197, eg197, lf197, true_and]; cases allEq [0, 0, 0, 1, 0] xs ys <;> rfl
theorem neq197 {xs ys : List V} {σ : Store} {K : V → Store → Prop} : binV Try.prog .neq 197 (.agg xs) (.agg ys) σ K = (match allEq [0, 0, 0, 1, 0] xs ys with | some r => K (.val (.bool (!r))) σ | none => False) := by simp only [binV, kd197, eg197, lf197, true_and]; cases allEq [0, 0, 0, 1, 0] xs ys <;> rfl
theorem lf203 : leafs Try.prog 50 203 = some [0, 0, 0, 0, 1, 0] := by kernel_rfl
theorem eg203 : Try.prog.eqGuardType Try.prog.depth 203 = false := by kernel_rfl
theorem eql203 {xs ys : List V} {σ : Store} {K : V → Store → Prop} : binV Try.prog .eql 203 (.agg xs) (.agg ys) σ K = (match allEq [0, 0, 0, 0, 1, 0] xs ys with | some r => K (.val (.bool (r))) σ | none => False) := by simp only [binV, kd203, eg203, lf203, true_and]; cases allEq [0, 0, 0, 0, 1, 0] xs ys <;> rfl
theorem neq203 {xs ys : List V} {σ : Store} {K : V → Store → Prop} : binV Try.prog .neq 203 (.agg xs) (.agg ys) σ K = (match allEq [0, 0, 0, 0, 1, 0] xs ys with | some r => K (.val (.bool (!r))) σ | none => False) := by simp only [binV, kd203, eg203, lf203, true_and]; cases allEq [0, 0, 0, 0, 1, 0] xs ys <;> rfl
theorem lf213 : leafs Try.prog 50 213 = some [0] := by kernel_rfl
theorem eg213 : Try.prog.eqGuardType Try.prog.depth 213 = false := by kernel_rfl
theorem eql213 {xs ys : List V} {σ : Store} {K : V → Store → Prop} : binV Try.prog .eql 213 (.agg xs) (.agg ys) σ K = (match allEq [0] xs ys with | some r => K (.val (.bool (r))) σ | none => False) := by simp only [binV, kd213, eg213, lf213, true_and]; cases allEq [0] xs ys <;> rfl
theorem neq213 {xs ys : List V} {σ : Store} {K : V → Store → Prop} : binV Try.prog .neq 213 (.agg xs) (.agg ys) σ K = (match allEq [0] xs ys with | some r => K (.val (.bool (!r))) σ | none => False) := by simp only [binV, kd213, eg213, lf213, true_and]; cases allEq [0] xs ys <;> rfl
theorem lf220 : leafs Try.prog 50 220 = some [0, 0] := by kernel_rfl
theorem eg220 : Try.prog.eqGuardType Try.prog.depth 220 = false := by kernel_rfl
theorem eql220 {xs ys : List V} {σ : Store} {K : V → Store → Prop} : binV Try.prog .eql 220 (.agg xs) (.agg ys) σ K = (match allEq [0, 0] xs ys with | some r => K (.val (.bool (r))) σ | none => False) := by simp only [binV, kd220, eg220, lf220, true_and]; cases allEq [0, 0] xs ys <;> rfl
theorem neq220 {xs ys : List V} {σ : Store} {K : V → Store → Prop} : binV Try.prog .neq 220 (.agg xs) (.agg ys) σ K = (match allEq [0, 0] xs ys with | some r => K (.val (.bool (!r))) σ | none => False) := by simp only [binV, kd220, eg220, lf220, true_and]; cases allEq [0, 0] xs ys <;> rfl
theorem en3 : entersB Try.prog 3 = true := by kernel_rfl
theorem en4 : entersB Try.prog 4 = true := by kernel_rfl
theorem en5 : entersB Try.prog 5 = true := by kernel_rfl
theorem en6 : entersB Try.prog 6 = true := by kernel_rfl
theorem en7 : entersB Try.prog 7 = true := by kernel_rfl
theorem en8 : entersB Try.prog 8 = true := by kernel_rfl
theorem en9 : entersB Try.prog 9 = true := by kernel_rfl
theorem en10 : entersB Try.prog 10 = true := by kernel_rfl
theorem en11 : entersB Try.prog 11 = true := by kernel_rfl
theorem en12 : entersB Try.prog 12 = true := by kernel_rfl
theorem en13 : entersB Try.prog 13 = true := by kernel_rfl
theorem en14 : entersB Try.prog 14 = true := by kernel_rfl
theorem en15 : entersB Try.prog 15 = true := by kernel_rfl
theorem en16 : entersB Try.prog 16 = true := by kernel_rfl
theorem en17 : entersB Try.prog 17 = true := by kernel_rfl
theorem en18 : entersB Try.prog 18 = true := by kernel_rfl
theorem en19 : entersB Try.prog 19 = true := by kernel_rfl
theorem en20 : entersB Try.prog 20 = true := by kernel_rfl
theorem en21 : entersB Try.prog 21 = true := by kernel_rfl
theorem en22 : entersB Try.prog 22 = true := by kernel_rfl
theorem en23 : entersB Try.prog 23 = true := by kernel_rfl
theorem en24 : entersB Try.prog 24 = true := by kernel_rfl
theorem en25 : entersB Try.prog 25 = true := by kernel_rfl
theorem en26 : entersB Try.prog 26 = true := by kernel_rfl
theorem en27 : entersB Try.prog 27 = true := by kernel_rfl
theorem en28 : entersB Try.prog 28 = true := by kernel_rfl
theorem en29 : entersB Try.prog 29 = true := by kernel_rfl
theorem en30 : entersB Try.prog 30 = true := by kernel_rfl
theorem en31 : entersB Try.prog 31 = true := by kernel_rfl
theorem en32 : entersB Try.prog 32 = true := by kernel_rfl
theorem en33 : entersB Try.prog 33 = true := by kernel_rfl
theorem en34 : entersB Try.prog 34 = true := by kernel_rfl
theorem en35 : entersB Try.prog 35 = true := by kernel_rfl
theorem en36 : entersB Try.prog 36 = true := by kernel_rfl
theorem en37 : entersB Try.prog 37 = true := by kernel_rfl
theorem en38 : entersB Try.prog 38 = true := by kernel_rfl
theorem en39 : entersB Try.prog 39 = true := by kernel_rfl
theorem en40 : entersB Try.prog 40 = true := by kernel_rfl
theorem en41 : entersB Try.prog 41 = true := by kernel_rfl
theorem en42 : entersB Try.prog 42 = true := by kernel_rfl
theorem en43 : entersB Try.prog 43 = true := by kernel_rfl
theorem en44 : entersB Try.prog 44 = true := by kernel_rfl
theorem en45 : entersB Try.prog 45 = true := by kernel_rfl
theorem en46 : entersB Try.prog 46 = true := by kernel_rfl
theorem en47 : entersB Try.prog 47 = true := by kernel_rfl
theorem en48 : entersB Try.prog 48 = true := by kernel_rfl
theorem en49 : entersB Try.prog 49 = true := by kernel_rfl
theorem en50 : entersB Try.prog 50 = true := by kernel_rfl
theorem en51 : entersB Try.prog 51 = true := by kernel_rfl
theorem en52 : entersB Try.prog 52 = true := by kernel_rfl
theorem en53 : entersB Try.prog 53 = true := by kernel_rfl
theorem en54 : entersB Try.prog 54 = true := by kernel_rfl
theorem en55 : entersB Try.prog 55 = true := by kernel_rfl
theorem en56 : entersB Try.prog 56 = true := by kernel_rfl
theorem en57 : entersB Try.prog 57 = true := by kernel_rfl
theorem en58 : entersB Try.prog 58 = true := by kernel_rfl
theorem en59 : entersB Try.prog 59 = true := by kernel_rfl
theorem en60 : entersB Try.prog 60 = true := by kernel_rfl
theorem en61 : entersB Try.prog 61 = true := by kernel_rfl
theorem en62 : entersB Try.prog 62 = true := by kernel_rfl
theorem en63 : entersB Try.prog 63 = true := by kernel_rfl
theorem en64 : entersB Try.prog 64 = true := by kernel_rfl
theorem en65 : entersB Try.prog 65 = true := by kernel_rfl
theorem en66 : entersB Try.prog 66 = true := by kernel_rfl
theorem en67 : entersB Try.prog 67 = true := by kernel_rfl
theorem en68 : entersB Try.prog 68 = true := by kernel_rfl
theorem en69 : entersB Try.prog 69 = true := by kernel_rfl
theorem en70 : entersB Try.prog 70 = true := by kernel_rfl
theorem en71 : entersB Try.prog 71 = true := by kernel_rfl
theorem en72 : entersB Try.prog 72 = true := by kernel_rfl
theorem en73 : entersB Try.prog 73 = true := by kernel_rfl
theorem en74 : entersB Try.prog 74 = true := by kernel_rfl
theorem en75 : entersB Try.prog 75 = true := by kernel_rfl
theorem en76 : entersB Try.prog 76 = true := by kernel_rfl
theorem en77 : entersB Try.prog 77 = true := by kernel_rfl
theorem en78 : entersB Try.prog 78 = true := by kernel_rfl
theorem en79 : entersB Try.prog 79 = true := by kernel_rfl
theorem en80 : entersB Try.prog 80 = true := by kernel_rfl
theorem en81 : entersB Try.prog 81 = true := by kernel_rfl
theorem en82 : entersB Try.prog 82 = true := by kernel_rfl
theorem en83 : entersB Try.prog 83 = true := by kernel_rfl
theorem en84 : entersB Try.prog 84 = true := by kernel_rfl
theorem en85 : entersB Try.prog 85 = true := by kernel_rfl
theorem en86 : entersB Try.prog 86 = true := by kernel_rfl
theorem en87 : entersB Try.prog 87 = true := by kernel_rfl
theorem en88 : entersB Try.prog 88 = true := by kernel_rfl
theorem en89 : entersB Try.prog 89 = true := by kernel_rfl
theorem en90 : entersB Try.prog 90 = true := by kernel_rfl
theorem en91 : entersB Try.prog 91 = true := by kernel_rfl
theorem en92 : entersB Try.prog 92 = true := by kernel_rfl
theorem en93 : entersB Try.prog 93 = true := by kernel_rfl
theorem en94 : entersB Try.prog 94 = true := by kernel_rfl
theorem en95 : entersB Try.prog 95 = true := by kernel_rfl
theorem en96 : entersB Try.prog 96 = true := by kernel_rfl
theorem en97 : entersB Try.prog 97 = true := by kernel_rfl
theorem en98 : entersB Try.prog 98 = true := by kernel_rfl
theorem en99 : entersB Try.prog 99 = true := by kernel_rfl
theorem en100 : entersB Try.prog 100 = true := by kernel_rfl
theorem en101 : entersB Try.prog 101 = true := by kernel_rfl
theorem en102 : entersB Try.prog 102 = true := by kernel_rfl
theorem en103 : entersB Try.prog 103 = true := by kernel_rfl
theorem en104 : entersB Try.prog 104 = true := by kernel_rfl
theorem en105 : entersB Try.prog 105 = true := by kernel_rfl
theorem en106 : entersB Try.prog 106 = true := by kernel_rfl
theorem en107 : entersB Try.prog 107 = true := by kernel_rfl
theorem en108 : entersB Try.prog 108 = true := by kernel_rfl
theorem en109 : entersB Try.prog 109 = true := by kernel_rfl
theorem en110 : entersB Try.prog 110 = true := by kernel_rfl
theorem en111 : entersB Try.prog 111 = true := by kernel_rfl
theorem en112 : entersB Try.prog 112 = true := by kernel_rfl
theorem en113 : entersB Try.prog 113 = true := by kernel_rfl
theorem en114 : entersB Try.prog 114 = true := by kernel_rfl
theorem en115 : entersB Try.prog 115 = true := by kernel_rfl
theorem en116 : entersB Try.prog 116 = true := by kernel_rfl
theorem en117 : entersB Try.prog 117 = true := by kernel_rfl
theorem en118 : entersB Try.prog 118 = true := by kernel_rfl
theorem en119 : entersB Try.prog 119 = true := by kernel_rfl
theorem en120 : entersB Try.prog 120 = true := by kernel_rfl
theorem en121 : entersB Try.prog 121 = true := by kernel_rfl
theorem en122 : entersB Try.prog 122 = true := by kernel_rfl
theorem en123 : entersB Try.prog 123 = true := by kernel_rfl
theorem en124 : entersB Try.prog 124 = true := by kernel_rfl
theorem en125 : entersB Try.prog 125 = true := by kernel_rfl
theorem en126 : entersB Try.prog 126 = true := by kernel_rfl
theorem en127 : entersB Try.prog 127 = true := by kernel_rfl
theorem en128 : entersB Try.prog 128 = true := by kernel_rfl
theorem en129 : entersB Try.prog 129 = true := by kernel_rfl
theorem en130 : entersB Try.prog 130 = true := by kernel_rfl
theorem en131 : entersB Try.prog 131 = true := by kernel_rfl
theorem en132 : entersB Try.prog 132 = true := by kernel_rfl
theorem en133 : entersB Try.prog 133 = true := by kernel_rfl
theorem en134 : entersB Try.prog 134 = true := by kernel_rfl
theorem en135 : entersB Try.prog 135 = true := by kernel_rfl
theorem en136 : entersB Try.prog 136 = true := by kernel_rfl
theorem en137 : entersB Try.prog 137 = true := by kernel_rfl
theorem en138 : entersB Try.prog 138 = true := by kernel_rfl
theorem en139 : entersB Try.prog 139 = true := by kernel_rfl
theorem en140 : entersB Try.prog 140 = true := by kernel_rfl
theorem en141 : entersB Try.prog 141 = true := by kernel_rfl
theorem en142 : entersB Try.prog 142 = true := by kernel_rfl
theorem en143 : entersB Try.prog 143 = true := by kernel_rfl
theorem en144 : entersB Try.prog 144 = true := by kernel_rfl
theorem en145 : entersB Try.prog 145 = true := by kernel_rfl
theorem en146 : entersB Try.prog 146 = true := by kernel_rfl
theorem en147 : entersB Try.prog 147 = true := by kernel_rfl
theorem en148 : entersB Try.prog 148 = true := by kernel_rfl
theorem en149 : entersB Try.prog 149 = true := by kernel_rfl
theorem en150 : entersB Try.prog 150 = true := by kernel_rfl
theorem en151 : entersB Try.prog 151 = true := by kernel_rfl
theorem en152 : entersB Try.prog 152 = true := by kernel_rfl
theorem en153 : entersB Try.prog 153 = true := by kernel_rfl
theorem en154 : entersB Try.prog 154 = true := by kernel_rfl
theorem en155 : entersB Try.prog 155 = true := by kernel_rfl
theorem en156 : entersB Try.prog 156 = true := by kernel_rfl
theorem en157 : entersB Try.prog 157 = true := by kernel_rfl
theorem en158 : entersB Try.prog 158 = true := by kernel_rfl
theorem en159 : entersB Try.prog 159 = true := by kernel_rfl
theorem en160 : entersB Try.prog 160 = true := by kernel_rfl
theorem en161 : entersB Try.prog 161 = true := by kernel_rfl
theorem en162 : entersB Try.prog 162 = true := by kernel_rfl
theorem en163 : entersB Try.prog 163 = true := by kernel_rfl
theorem en164 : entersB Try.prog 164 = true := by kernel_rfl
theorem en165 : entersB Try.prog 165 = true := by kernel_rfl
theorem en166 : entersB Try.prog 166 = true := by kernel_rfl
theorem en167 : entersB Try.prog 167 = true := by kernel_rfl
theorem en168 : entersB Try.prog 168 = true := by kernel_rfl
theorem en170 : entersB Try.prog 170 = true := by kernel_rfl
theorem en171 : entersB Try.prog 171 = true := by kernel_rfl
theorem en172 : entersB Try.prog 172 = true := by kernel_rfl
theorem en173 : entersB Try.prog 173 = true := by kernel_rfl
theorem en174 : entersB Try.prog 174 = true := by kernel_rfl
theorem en175 : entersB Try.prog 175 = true := by kernel_rfl
theorem en177 : entersB Try.prog 177 = true := by kernel_rfl
theorem en178 : entersB Try.prog 178 = true := by kernel_rfl
theorem en179 : entersB Try.prog 179 = true := by kernel_rfl
theorem en180 : entersB Try.prog 180 = true := by kernel_rfl
theorem en181 : entersB Try.prog 181 = true := by kernel_rfl
theorem en182 : entersB Try.prog 182 = true := by kernel_rfl
theorem en183 : entersB Try.prog 183 = true := by kernel_rfl
theorem en184 : entersB Try.prog 184 = true := by kernel_rfl
theorem en185 : entersB Try.prog 185 = true := by kernel_rfl
theorem en186 : entersB Try.prog 186 = true := by kernel_rfl
theorem en187 : entersB Try.prog 187 = true := by kernel_rfl
theorem en188 : entersB Try.prog 188 = true := by kernel_rfl
theorem en189 : entersB Try.prog 189 = true := by kernel_rfl
theorem en190 : entersB Try.prog 190 = true := by kernel_rfl
theorem en191 : entersB Try.prog 191 = true := by kernel_rfl
theorem en192 : entersB Try.prog 192 = true := by kernel_rfl
theorem en193 : entersB Try.prog 193 = true := by kernel_rfl
theorem en194 : entersB Try.prog 194 = true := by kernel_rfl
theorem en195 : entersB Try.prog 195 = true := by kernel_rfl
theorem en196 : entersB Try.prog 196 = true := by kernel_rfl
theorem en197 : entersB Try.prog 197 = true := by kernel_rfl
theorem en198 : entersB Try.prog 198 = true := by kernel_rfl
theorem en199 : entersB Try.prog 199 = true := by kernel_rfl
theorem en200 : entersB Try.prog 200 = true := by kernel_rfl
theorem en201 : entersB Try.prog 201 = true := by kernel_rfl
theorem en202 : entersB Try.prog 202 = true := by kernel_rfl
theorem en203 : entersB Try.prog 203 = true := by kernel_rfl
theorem en204 : entersB Try.prog 204 = true := by kernel_rfl
theorem en205 : entersB Try.prog 205 = true := by kernel_rfl
theorem en206 : entersB Try.prog 206 = true := by kernel_rfl
theorem en207 : entersB Try.prog 207 = true := by kernel_rfl
theorem en208 : entersB Try.prog 208 = true := by kernel_rfl
theorem en209 : entersB Try.prog 209 = true := by kernel_rfl
theorem en210 : entersB Try.prog 210 = true := by kernel_rfl
theorem en211 : entersB Try.prog 211 = true := by kernel_rfl
theorem en212 : entersB Try.prog 212 = true := by kernel_rfl
theorem en213 : entersB Try.prog 213 = true := by kernel_rfl
theorem en214 : entersB Try.prog 214 = true := by kernel_rfl
theorem en215 : entersB Try.prog 215 = true := by kernel_rfl
theorem mixed : Try.prog.follows .mixedOrders = true := by kernel_rfl

attribute [go_sem] kd0 ce0 in0 kd1 ce1 in1 ze1 kd2 ce2 in2 ze2 kd3
  ce3 in3 ze3 kd4 ce4 in4 ze4 kd5 ce5 in5 ze5 kd6
  ce6 in6 ze6 kd7 ce7 in7 ze7 kd8 ce8 in8 ze8 kd9
  ce9 in9 ze9 kd10 ce10 in10 ze10 kd11 ce11 in11 ze11 kd12
  ce12 in12 ze12 kd13 ce13 in13 ze13 kd14 ce14 in14 ze14 kd15
  ce15 in15 ze15 kd16 ce16 in16 ze16 kd17 ce17 in17 ze17 kd18
  ce18 in18 ze18 kd19 ce19 in19 ze19 kd20 ce20 in20 ze20 kd21
  ce21 in21 ze21 kd22 ce22 in22 ze22 kd23 ce23 in23 ze23 kd24
  ce24 in24 ze24 kd25 ce25 in25 ze25 kd26 ce26 in26 ze26 kd27
  ce27 in27 ze27 kd28 ce28 in28 ze28 kd29 ce29 in29 ze29 kd30
  ce30 in30 ze30 kd31 ce31 in31 ze31 kd32 ce32 in32 ze32 kd33
  ce33 in33 ze33 kd34 ce34 in34 ze34 kd35 ce35 in35 ze35 kd36
  ce36 in36 ze36 kd37 ce37 in37 ze37 kd38 ce38 in38 ze38 kd39
  ce39 in39 ze39 kd40 ce40 in40 ze40 kd41 ce41 in41 ze41 kd42
  ce42 in42 ze42 kd43 ce43 in43 ze43 kd44 ce44 in44 kd45 ce45
  in45 ze45 kd46 ce46 in46 ze46 kd47 ce47 in47 ze47 kd48 ce48
  in48 kd49 ce49 in49 ze49 kd50 ce50 in50 ze50 kd51 ce51 in51
  ze51 kd52 ce52 in52 ze52 kd53 ce53 in53 ze53 kd54 ce54 in54
  ze54 kd55 ce55 in55 ze55 kd56 ce56 in56 ze56 kd57 ce57 in57
  ze57 kd58 ce58 in58 kd59 ce59 in59 ze59 kd60 ce60 in60 ze60
  kd61 ce61 in61 ze61 kd62 ce62 in62 ze62 kd63 ce63 in63 kd64
  ce64 in64 ze64 kd65 ce65 in65 ze65 kd66 ce66 in66 ze66 kd67
  ce67 in67 ze67 kd68 ce68 in68 ze68 kd69 ce69 in69 ze69 kd70
  ce70 in70 ze70 kd71 ce71 in71 ze71 kd72 ce72 in72 ze72 kd73
  ce73 in73 ze73 kd74 ce74 in74 ze74 kd75 ce75 in75 kd76 ce76
  in76 ze76 kd77 ce77 in77 ze77 kd78 ce78 in78 ze78 kd79 ce79
  in79 ze79 kd80 ce80 in80 ze80 kd81 ce81 in81 ze81 kd82 ce82
  in82 ze82 kd83 ce83 in83 ze83 kd84 ce84 in84 ze84 kd85 ce85
  in85 kd86 ce86 in86 kd87 ce87 in87 kd88 ce88 in88 ze88 kd89
  ce89 in89 ze89 kd90 ce90 in90 ze90 kd91 ce91 in91 ze91 kd92
  ce92 in92 ze92 kd93 ce93 in93 ze93 kd94 ce94 in94 ze94 kd95
  ce95 in95 ze95 kd96 ce96 in96 ze96 kd97 ce97 in97 ze97 kd98
  ce98 in98 ze98 kd99 ce99 in99 ze99 kd100 ce100 in100 ze100 kd101
  ce101 in101 kd102 ce102 in102 ze102 kd103 ce103 in103 ze103 kd104 ce104
  in104 kd105 ce105 in105 ze105 kd106 ce106 in106 ze106 kd107 ce107 in107
  ze107 kd108 ce108 in108 ze108 kd109 ce109 in109 ze109 kd110 ce110 in110
  ze110 kd111 ce111 in111 ze111 kd112 ce112 in112 ze112 kd113 ce113 in113
  ze113 kd114 ce114 in114 ze114 kd115 ce115 in115 kd116 ce116 in116 ze116
  kd117 ce117 in117 ze117 kd118 ce118 in118 kd119 ce119 in119 ze119 kd120
  ce120 in120 ze120 kd121 ce121 in121 ze121 kd122 ce122 in122 ze122 kd123
  ce123 in123 ze123 kd124 ce124 in124 ze124 kd125 ce125 in125 ze125 kd126
  ce126 in126 ze126 kd127 ce127 in127 ze127 kd128 ce128 in128 ze128 kd129
  ce129 in129 ze129 kd130 ce130 in130 ze130 kd131 ce131 in131 ze131 kd132
  ce132 in132 ze132 kd133 ce133 in133 kd134 ce134 in134 ze134 kd135 ce135
  in135 ze135 kd136 ce136 in136 ze136 kd137 ce137 in137 ze137 kd138 ce138
  in138 ze138 kd139 ce139 in139 ze139 kd140 ce140 in140 ze140 kd141 ce141
  in141 ze141 kd142 ce142 in142 ze142 kd143 ce143 in143 ze143 kd144 ce144
  in144 ze144 kd145 ce145 in145 ze145 kd146 ce146 in146 ze146 kd147 ce147
  in147 ze147 kd148 ce148 in148 ze148 kd149 ce149 in149 ze149 kd150 ce150
  in150 ze150 kd151 ce151 in151 ze151 kd152 ce152 in152 ze152 kd153 ce153
  in153 ze153 kd154 ce154 in154 ze154 kd155 ce155 in155 ze155 kd156 ce156
  in156 ze156 kd157 ce157 in157 ze157 kd158 ce158 in158 ze158 kd159 ce159
  in159 ze159 kd160 ce160 in160 ze160 kd161 ce161 in161 ze161 kd162 ce162
  in162 ze162 kd163 ce163 in163 ze163 kd164 ce164 in164 ze164 kd165 ce165
  in165 ze165 kd166 ce166 in166 ze166 kd167 ce167 in167 ze167 kd168 ce168
  in168 ze168 kd169 ce169 in169 ze169 kd170 ce170 in170 ze170 kd171 ce171
  in171 ze171 kd172 ce172 in172 ze172 kd173 ce173 in173 ze173 kd174 ce174
  in174 ze174 kd175 ce175 in175 ze175 kd176 ce176 in176 ze176 kd177 ce177
  in177 ze177 kd178 ce178 in178 ze178 kd179 ce179 in179 ze179 kd180 ce180
  in180 ze180 kd181 ce181 in181 ze181 kd182 ce182 in182 ze182 kd183 ce183
  in183 ze183 kd184 ce184 in184 ze184 kd185 ce185 in185 ze185 kd186 ce186
  in186 ze186 kd187 ce187 in187 ze187 kd188 ce188 in188 ze188 kd189 ce189
  in189 ze189 kd190 ce190 in190 ze190 kd191 ce191 in191 ze191 kd192 ce192
  in192 ze192 kd193 ce193 in193 ze193 kd194 ce194 in194 ze194 kd195 ce195
  in195 ze195 kd196 ce196 in196 ze196 kd197 ce197 in197 ze197 kd198 ce198
  in198 ze198 kd199 ce199 in199 ze199 kd200 ce200 in200 ze200 kd201 ce201
  in201 ze201 kd202 ce202 in202 ze202 kd203 ce203 in203 ze203 kd204 ce204
  in204 ze204 kd205 ce205 in205 ze205 kd206 ce206 in206 ze206 kd207 ce207
  in207 ze207 kd208 ce208 in208 ze208 kd209 ce209 in209 ze209 kd210 ce210
  in210 ze210 kd211 ce211 in211 ze211 kd212 ce212 in212 ze212 kd213 ce213
  in213 ze213 kd214 ce214 in214 kd215 ce215 in215 ze215 kd216 ce216 in216
  ze216 kd217 ce217 in217 ze217 kd218 ce218 in218 ze218 kd219 ce219 in219
  ze219 kd220 ce220 in220 ze220 kd221 ce221 in221 ze221 kd222 ce222 in222
  ze222 kd223 ce223 in223 ze223 kd224 ce224 in224 ze224 kd225 ce225 in225
  ze225 kd226 ce226 in226 ze226 kd227 ce227 in227 ze227 kd228 ce228 in228
  ze228 kd229 ce229 in229 ze229 kd230 ce230 in230 ze230 kd231 ce231 in231
  ze231 kd232 ce232 in232 ze232 kd233 ce233 in233 ze233 kd234 ce234 in234
  ze234 kd235 ce235 in235 ze235 kd236 ce236 in236 ze236 kd237 ce237 in237
  ze237 kd238 ce238 in238 ze238 kd239 ce239 in239 ze239 kd240 ce240 in240
  ze240 kd241 ce241 in241 ze241 kd242 ce242 in242 ze242 kd243 ce243 in243
  ze243 kd244 ce244 in244 ze244 kd245 ce245 in245 ze245 kd246 ce246 in246
  ze246 kd247 ce247 in247 ze247 kd248 ce248 in248 ze248 kd249 ce249 in249
  ze249 kd250 ce250 in250 ze250 kd251 ce251 in251 kd252 ce252 in252 ze252
  kd253 ce253 in253 ze253 kd254 ce254 in254 ze254 kd255 ce255 in255 ze255
  kd256 ce256 in256 ze256 kd257 ce257 in257 ze257 kd258 ce258 in258 ze258
  kd259 ce259 in259 ze259 kd260 ce260 in260 ze260 kd261 ce261 in261 ze261
  kd262 ce262 in262 ze262 kd263 ce263 in263 ze263 kd264 ce264 in264 ze264
  kd265 ce265 in265 ze265 kd266 ce266 in266 ze266 kd267 ce267 in267 ze267
  kd268 ce268 in268 ze268 kd269 ce269 in269 ze269 kd270 ce270 in270 ze270
  kd271 ce271 in271 ze271 kd272 ce272 in272 ze272 kd273 ce273 in273 ze273
  kd274 ce274 in274 ze274 kd275 ce275 in275 kd276 ce276 in276 ze276 kd277
  ce277 in277 ze277 kd278 ce278 in278 ze278 kd279 ce279 in279 ze279 kd280
  ce280 in280 ze280 kd281 ce281 in281 ze281 kd282 ce282 in282 ze282 kd283
  ce283 in283 ze283 kd284 ce284 in284 ze284 kd285 ce285 in285 ze285 kd286
  ce286 in286 ze286 kd287 ce287 in287 ze287 kd288 ce288 in288 ze288 kd289
  ce289 in289 ze289 kd290 ce290 in290 ze290 kd291 ce291 in291 ze291 kd292
  ce292 in292 ze292 eql22 neq22 eql52 neq52 eql53 neq53 eql55 neq55 eql57
  neq57 eql67 neq67 eql83 neq83 eql84 neq84 eql136 neq136 eql141 neq141 eql157
  neq157 eql158 neq158 eql195 neq195 eql197 neq197 eql203 neq203 eql213 neq213 eql220
  neq220 Try.underlying0 Try.underlying1 Try.underlying2 Try.underlying3 Try.underlying4 Try.underlying5 Try.underlying6 Try.underlying7 Try.underlying8 Try.underlying9 Try.underlying10
  Try.underlying11 Try.underlying12 Try.underlying13 Try.underlying14 Try.underlying15 Try.underlying16 Try.underlying17 Try.underlying18 Try.underlying19 Try.underlying20 Try.underlying21 Try.underlying22
  Try.underlying23 Try.underlying24 Try.underlying25 Try.underlying26 Try.underlying27 Try.underlying28 Try.underlying29 Try.underlying30 Try.underlying31 Try.underlying32 Try.underlying33 Try.underlying34
  Try.underlying35 Try.underlying36 Try.underlying37 Try.underlying38 Try.underlying39 Try.underlying40 Try.underlying41 Try.underlying42 Try.underlying43 Try.underlying44 Try.underlying45 Try.underlying46
  Try.underlying47 Try.underlying48 Try.underlying49 Try.underlying50 Try.underlying51 Try.underlying52 Try.underlying53 Try.underlying54 Try.underlying55 Try.underlying56 Try.underlying57 Try.underlying58
  Try.underlying59 Try.underlying60 Try.underlying61 Try.underlying62 Try.underlying63 Try.underlying64 Try.underlying65 Try.underlying66 Try.underlying67 Try.underlying68 Try.underlying69 Try.underlying70
  Try.underlying71 Try.underlying72 Try.underlying73 Try.underlying74 Try.underlying75 Try.underlying76 Try.underlying77 Try.underlying78 Try.underlying79 Try.underlying80 Try.underlying81 Try.underlying82
  Try.underlying83 Try.underlying84 Try.underlying85 Try.underlying86 Try.underlying87 Try.underlying88 Try.underlying89 Try.underlying90 Try.underlying91 Try.underlying92 Try.underlying93 Try.underlying94
  Try.underlying95 Try.underlying96 Try.underlying97 Try.underlying98 Try.underlying99 Try.underlying100 Try.underlying101 Try.underlying102 Try.underlying103 Try.underlying104 Try.underlying105 Try.underlying106
  Try.underlying107 Try.underlying108 Try.underlying109 Try.underlying110 Try.underlying111 Try.underlying112 Try.underlying113 Try.underlying114 Try.underlying115 Try.underlying116 Try.underlying117 Try.underlying118
  Try.underlying119 Try.underlying120 Try.underlying121 Try.underlying122 Try.underlying123 Try.underlying124 Try.underlying125 Try.underlying126 Try.underlying127 Try.underlying128 Try.underlying129 Try.underlying130
  Try.underlying131 Try.underlying132 Try.underlying133 Try.underlying134 Try.underlying135 Try.underlying136 Try.underlying137 Try.underlying138 Try.underlying139 Try.underlying140 Try.underlying141 Try.underlying142
  Try.underlying143 Try.underlying144 Try.underlying145 Try.underlying146 Try.underlying147 Try.underlying148 Try.underlying149 Try.underlying150 Try.underlying151 Try.underlying152 Try.underlying153 Try.underlying154
  Try.underlying155 Try.underlying156 Try.underlying157 Try.underlying158 Try.underlying159 Try.underlying160 Try.underlying161 Try.underlying162 Try.underlying163 Try.underlying164 Try.underlying165 Try.underlying166
  Try.underlying167 Try.underlying168 Try.underlying169 Try.underlying170 Try.underlying171 Try.underlying172 Try.underlying173 Try.underlying174 Try.underlying175 Try.underlying176 Try.underlying177 Try.underlying178
  Try.underlying179 Try.underlying180 Try.underlying181 Try.underlying182 Try.underlying183 Try.underlying184 Try.underlying185 Try.underlying186 Try.underlying187 Try.underlying188 Try.underlying189 Try.underlying190
  Try.underlying191 Try.underlying192 Try.underlying193 Try.underlying194 Try.underlying195 Try.underlying196 Try.underlying197 Try.underlying198 Try.underlying199 Try.underlying200 Try.underlying201 Try.underlying202
  Try.underlying203 Try.underlying204 Try.underlying205 Try.underlying206 Try.underlying207 Try.underlying208 Try.underlying209 Try.underlying210 Try.underlying211 Try.underlying212 Try.underlying213 Try.underlying214
  Try.underlying215 Try.underlying216 Try.underlying217 Try.underlying218 Try.underlying219 Try.underlying220 Try.underlying221 Try.underlying222 Try.underlying223 Try.underlying224 Try.underlying225 Try.underlying226
  Try.underlying227 Try.underlying228 Try.underlying229 Try.underlying230 Try.underlying231 Try.underlying232 Try.underlying233 Try.underlying234 Try.underlying235 Try.underlying236 Try.underlying237 Try.underlying238
  Try.underlying239 Try.underlying240 Try.underlying241 Try.underlying242 Try.underlying243 Try.underlying244 Try.underlying245 Try.underlying246 Try.underlying247 Try.underlying248 Try.underlying249 Try.underlying250
  Try.underlying251 Try.underlying252 Try.underlying253 Try.underlying254 Try.underlying255 Try.underlying256 Try.underlying257 Try.underlying258 Try.underlying259 Try.underlying260 Try.underlying261 Try.underlying262
  Try.underlying263 Try.underlying264 Try.underlying265 Try.underlying266 Try.underlying267 Try.underlying268 Try.underlying269 Try.underlying270 Try.underlying271 Try.underlying272 Try.underlying273 Try.underlying274
  Try.underlying275 Try.underlying276 Try.underlying277 Try.underlying278 Try.underlying279 Try.underlying280 Try.underlying281 Try.underlying282 Try.underlying283 Try.underlying284 Try.underlying285 Try.underlying286
  Try.underlying287 Try.underlying288 Try.underlying289 Try.underlying290 Try.underlying291 Try.underlying292
end Go.Proofs.Ytbgagffpmdlilaa
