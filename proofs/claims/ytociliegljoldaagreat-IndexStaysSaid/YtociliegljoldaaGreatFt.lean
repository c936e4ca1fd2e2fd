/- MADE BY PROGRAM (facts.py): facts on the types and functions of the translation, reckoned by the kernel. -/
import Derived.Test.YtociliegljoldaaGreatHC
import Derived.Test.YtociliegljoldaaGreatProg
namespace Go.Proofs.YtociliegljoldaaGreat
open Go.Proofs

theorem kd3 : kindB Tryz.prog 3 = some false := by kernel_rfl
theorem ce3 : Tryz.prog.cellsOf 3 = 1 := by kernel_rfl
theorem in3 : (Tryz.prog.info? 3).isSome = true := by kernel_rfl
theorem ze3 : zeroV Tryz.prog 3 = some [.val (.int .i64 0)] := by kernel_rfl
theorem zl3 : (zeroV Tryz.prog 3).map List.length = some 1 := by kernel_rfl
theorem kd4 : kindB Tryz.prog 4 = some false := by kernel_rfl
theorem ce4 : Tryz.prog.cellsOf 4 = 1 := by kernel_rfl
theorem in4 : (Tryz.prog.info? 4).isSome = true := by kernel_rfl
theorem kd5 : kindB Tryz.prog 5 = some false := by kernel_rfl
theorem ce5 : Tryz.prog.cellsOf 5 = 1 := by kernel_rfl
theorem in5 : (Tryz.prog.info? 5).isSome = true := by kernel_rfl
theorem ze5 : zeroV Tryz.prog 5 = some [.val (.int .u8 0)] := by kernel_rfl
theorem zl5 : (zeroV Tryz.prog 5).map List.length = some 1 := by kernel_rfl
theorem kd23 : kindB Tryz.prog 23 = some false := by kernel_rfl
theorem ce23 : Tryz.prog.cellsOf 23 = 1 := by kernel_rfl
theorem in23 : (Tryz.prog.info? 23).isSome = true := by kernel_rfl
theorem kd25 : kindB Tryz.prog 25 = some true := by kernel_rfl
theorem ce25 : Tryz.prog.cellsOf 25 = 2 := by kernel_rfl
theorem in25 : (Tryz.prog.info? 25).isSome = true := by kernel_rfl
theorem ze25 : zeroV Tryz.prog 25 = some [.val (.int .i64 0), .val (.int .u32 0)] := by kernel_rfl
theorem zl25 : (zeroV Tryz.prog 25).map List.length = some 2 := by kernel_rfl
theorem kd27 : kindB Tryz.prog 27 = some true := by kernel_rfl
theorem ce27 : Tryz.prog.cellsOf 27 = 12 := by kernel_rfl
theorem in27 : (Tryz.prog.info? 27).isSome = true := by kernel_rfl
theorem ze27 : zeroV Tryz.prog 27 = some [.val (.int .u32 0), .val (.int .u32 0), .val (.int .u32 0), .val (.int .u32 0), .val (.int .u32 0), .val (.int .u32 0), .val (.int .u32 0), .val (.int .u32 0), .val (.int .u32 0), .val (.int .u32 0), .val (.int .u32 0), .val (.int .u32 0)] := by kernel_rfl
theorem kd37 : kindB Tryz.prog 37 = some false := by kernel_rfl
theorem ce37 : Tryz.prog.cellsOf 37 = 1 := by kernel_rfl
theorem in37 : (Tryz.prog.info? 37).isSome = true := by kernel_rfl
theorem kd39 : kindB Tryz.prog 39 = some true := by kernel_rfl
theorem ce39 : Tryz.prog.cellsOf 39 = 17 := by kernel_rfl
theorem by39 : Tryz.prog.bytesOf 39 = 88 := by kernel_rfl
theorem in39 : (Tryz.prog.info? 39).isSome = true := by kernel_rfl
theorem ze39 : zeroV Tryz.prog 39 = some [.val (.int .u64 0), .val (.int .i64 0), .val (.int .u32 0), .val (.int .i64 0), .val (.int .i64 0), .val (.int .u32 0), .val (.int .u32 0), .val (.int .u32 0), .val (.int .u32 0), .val (.int .u32 0), .val (.int .u32 0), .val (.int .u32 0), .val (.int .u32 0), .val (.int .u32 0), .val (.int .u32 0), .val (.int .u32 0), .val (.int .u32 0)] := by kernel_rfl
theorem zl39 : (zeroV Tryz.prog 39).map List.length = some 17 := by kernel_rfl
theorem kd71 : kindB Tryz.prog 71 = some false := by kernel_rfl
theorem ce71 : Tryz.prog.cellsOf 71 = 1 := by kernel_rfl
theorem in71 : (Tryz.prog.info? 71).isSome = true := by kernel_rfl
theorem ze71 : zeroV Tryz.prog 71 = some [.val (.int .i64 0)] := by kernel_rfl
theorem kd98 : kindB Tryz.prog 98 = some false := by kernel_rfl
theorem ce98 : Tryz.prog.cellsOf 98 = 1 := by kernel_rfl
theorem in98 : (Tryz.prog.info? 98).isSome = true := by kernel_rfl
theorem kd102 : kindB Tryz.prog 102 = some false := by kernel_rfl
theorem ce102 : Tryz.prog.cellsOf 102 = 1 := by kernel_rfl
theorem in102 : (Tryz.prog.info? 102).isSome = true := by kernel_rfl
theorem ze102 : zeroV Tryz.prog 102 = some [.val (.slice none 0 0)] := by kernel_rfl
theorem kd103 : kindB Tryz.prog 103 = some false := by kernel_rfl
theorem ce103 : Tryz.prog.cellsOf 103 = 1 := by kernel_rfl
theorem in103 : (Tryz.prog.info? 103).isSome = true := by kernel_rfl
theorem ze103 : zeroV Tryz.prog 103 = some [.val (.pointer none)] := by kernel_rfl
theorem kd115 : kindB Tryz.prog 115 = some false := by kernel_rfl
theorem ce115 : Tryz.prog.cellsOf 115 = 1 := by kernel_rfl
theorem in115 : (Tryz.prog.info? 115).isSome = true := by kernel_rfl
theorem kd118 : kindB Tryz.prog 118 = some true := by kernel_rfl
theorem ce118 : Tryz.prog.cellsOf 118 = 3 := by kernel_rfl
theorem in118 : (Tryz.prog.info? 118).isSome = true := by kernel_rfl
theorem ze118 : zeroV Tryz.prog 118 = some [.val (.int .i64 0), .val (.int .u32 0), .val (.int .i64 0)] := by kernel_rfl
theorem zl118 : (zeroV Tryz.prog 118).map List.length = some 3 := by kernel_rfl
theorem ze120 : zeroV Tryz.prog 120 = some [.val (.int .i64 0), .val (.int .u32 0), .val (.int .u32 0), .val (.int .u32 0), .val (.int .u32 0), .val (.int .u32 0), .val (.int .u32 0), .val (.int .u32 0), .val (.int .u32 0), .val (.int .u32 0), .val (.int .u32 0), .val (.int .u32 0), .val (.int .u32 0), .val (.slice none 0 0), .val (.slice none 0 0)] := by kernel_rfl
theorem ze226 : zeroV Tryz.prog 226 = some [.val (.slice none 0 0)] := by kernel_rfl
theorem ze235 : zeroV Tryz.prog 235 = some [.val (.slice none 0 0), .val (.bool false)] := by kernel_rfl
theorem ce273 : Tryz.prog.cellsOf 273 = 1 := by kernel_rfl
theorem in273 : (Tryz.prog.info? 273).isSome = true := by kernel_rfl
theorem ze273 : zeroV Tryz.prog 273 = some [.val (.int .i64 0)] := by kernel_rfl
theorem kd288 : kindB Tryz.prog 288 = some true := by kernel_rfl
theorem ce288 : Tryz.prog.cellsOf 288 = 4 := by kernel_rfl
theorem in288 : (Tryz.prog.info? 288).isSome = true := by kernel_rfl
theorem ze288 : zeroV Tryz.prog 288 = some [.val (.int .u64 0), .val (.int .i64 0), .val (.int .i64 0), .val (.int .u32 0)] := by kernel_rfl
theorem kd319 : kindB Tryz.prog 319 = some false := by kernel_rfl
theorem ce319 : Tryz.prog.cellsOf 319 = 1 := by kernel_rfl
theorem in319 : (Tryz.prog.info? 319).isSome = true := by kernel_rfl
theorem ze319 : zeroV Tryz.prog 319 = some [.val (.int .u64 0)] := by kernel_rfl
theorem lf25 : leafs Tryz.prog 50 25 = some [0, 0] := by kernel_rfl
theorem eg25 : Tryz.prog.eqGuardType Tryz.prog.depth 25 = false := by kernel_rfl
theorem eql25 {xs ys : List V} {σ : Store} {K : V → Store → Prop} : binV Tryz.prog .eql 25 (.agg xs) (.agg ys) σ K = (match allEq [0, 0] xs ys with | some r => K (.val (.bool (r))) σ | none => False) := by simp only [binV, kd25, eg25, lf25, true_and]; cases allEq [0, 0] xs ys <;> rfl
theorem lf27 : leafs Tryz.prog 50 27 = some [0, 0, 0, 0, 0, 0, 0, 0, 0, 0, 0, 0] := by kernel_rfl
theorem eg27 : Tryz.prog.eqGuardType Tryz.prog.depth 27 = false := by kernel_rfl
theorem eql27 {xs ys : List V} {σ : Store} {K : V → Store → Prop} : binV Tryz.prog .eql 27 (.agg xs) (.agg ys) σ K = (match allEq [0, 0, 0, 0, 0, 0, 0, 0, 0, 0, 0, 0] xs ys with | some r => K (.val (.bool (r))) σ | none => False) := by simp only [binV, kd27, eg27, lf27, true_and]; cases allEq [0, 0, 0, 0, 0, 0, 0, 0, 0, 0, 0, 0] xs ys <;> rfl
theorem neq27 {xs ys : List V} {σ : Store} {K : V → Store → Prop} : binV Tryz.prog .neq 27 (.agg xs) (.agg ys) σ K = (match allEq [0, 0, 0, 0, 0, 0, 0, 0, 0, 0, 0, 0] xs ys with | some r => K (.val (.bool (!r))) σ | none => False) := by simp only [binV, kd27, eg27, lf27, true_and]; cases allEq [0, 0, 0, 0, 0, 0, 0, 0, 0, 0, 0, 0] xs ys <;> rfl
theorem lf118 : leafs Tryz.prog 50 118 = some [0, 0, 0] := by kernel_rfl
theorem eg118 : Tryz.prog.eqGuardType Tryz.prog.depth 118 = false := by kernel_rfl
theorem neq118 {xs ys : List V} {σ : Store} {K : V → Store → Prop} : binV Tryz.prog .neq 118 (.agg xs) (.agg ys) σ K = (match allEq [0, 0, 0] xs ys with | some r => K (.val (.bool (!r))) σ | none => False) := by simp only [binV, kd118, eg118, lf118, true_and]; cases allEq [0, 0, 0] xs ys <;> rfl
theorem lf288 : leafs Tryz.prog 50 288 = some [0, 0, 0, 0] := by kernel_rfl
theorem eg288 : Tryz.prog.eqGuardType Tryz.prog.depth 288 = false := by kernel_rfl
theorem eql288 {xs ys : List V} {σ : Store} {K : V → Store → Prop} : binV Tryz.prog .eql 288 (.agg xs) (.agg ys) σ K = (match allEq [0, 0, 0, 0] xs ys with | some r => K (.val (.bool (r))) σ | none => False) := by simp only [binV, kd288, eg288, lf288, true_and]; cases allEq [0, 0, 0, 0] xs ys <;> rfl
theorem en11 : entersB Tryz.prog 11 = true := by kernel_rfl
theorem en36 : entersB Tryz.prog 36 = true := by kernel_rfl
theorem en37 : entersB Tryz.prog 37 = true := by kernel_rfl
theorem en38 : entersB Tryz.prog 38 = true := by kernel_rfl
theorem en43 : entersB Tryz.prog 43 = true := by kernel_rfl
theorem en44 : entersB Tryz.prog 44 = true := by kernel_rfl
theorem en45 : entersB Tryz.prog 45 = true := by kernel_rfl
theorem en49 : entersB Tryz.prog 49 = true := by kernel_rfl
theorem en50 : entersB Tryz.prog 50 = true := by kernel_rfl
theorem en51 : entersB Tryz.prog 51 = true := by kernel_rfl
theorem en52 : entersB Tryz.prog 52 = true := by kernel_rfl
theorem en53 : entersB Tryz.prog 53 = true := by kernel_rfl
theorem en54 : entersB Tryz.prog 54 = true := by kernel_rfl
theorem en55 : entersB Tryz.prog 55 = true := by kernel_rfl
theorem en57 : entersB Tryz.prog 57 = true := by kernel_rfl
theorem en59 : entersB Tryz.prog 59 = true := by kernel_rfl
theorem en79 : entersB Tryz.prog 79 = true := by kernel_rfl
theorem en80 : entersB Tryz.prog 80 = true := by kernel_rfl
theorem en82 : entersB Tryz.prog 82 = true := by kernel_rfl
theorem en86 : entersB Tryz.prog 86 = true := by kernel_rfl
theorem en88 : entersB Tryz.prog 88 = true := by kernel_rfl
theorem en89 : entersB Tryz.prog 89 = true := by kernel_rfl
theorem en90 : entersB Tryz.prog 90 = true := by kernel_rfl
theorem en92 : entersB Tryz.prog 92 = true := by kernel_rfl
theorem en96 : entersB Tryz.prog 96 = true := by kernel_rfl
theorem en97 : entersB Tryz.prog 97 = true := by kernel_rfl
theorem en98 : entersB Tryz.prog 98 = true := by kernel_rfl
theorem en99 : entersB Tryz.prog 99 = true := by kernel_rfl
theorem en100 : entersB Tryz.prog 100 = true := by kernel_rfl
theorem en101 : entersB Tryz.prog 101 = true := by kernel_rfl
theorem en102 : entersB Tryz.prog 102 = true := by kernel_rfl
theorem en110 : entersB Tryz.prog 110 = true := by kernel_rfl
theorem en111 : entersB Tryz.prog 111 = true := by kernel_rfl
theorem en112 : entersB Tryz.prog 112 = true := by kernel_rfl
theorem en113 : entersB Tryz.prog 113 = true := by kernel_rfl
theorem en114 : entersB Tryz.prog 114 = true := by kernel_rfl
theorem en115 : entersB Tryz.prog 115 = true := by kernel_rfl
theorem en116 : entersB Tryz.prog 116 = true := by kernel_rfl
theorem en117 : entersB Tryz.prog 117 = true := by kernel_rfl
theorem en118 : entersB Tryz.prog 118 = true := by kernel_rfl
theorem en119 : entersB Tryz.prog 119 = true := by kernel_rfl
theorem en120 : entersB Tryz.prog 120 = true := by kernel_rfl
theorem en121 : entersB Tryz.prog 121 = true := by kernel_rfl
theorem en122 : entersB Tryz.prog 122 = true := by kernel_rfl
theorem en123 : entersB Tryz.prog 123 = true := by kernel_rfl
theorem en124 : entersB Tryz.prog 124 = true := by kernel_rfl
theorem en143 : entersB Tryz.prog 143 = true := by kernel_rfl
theorem en144 : entersB Tryz.prog 144 = true := by kernel_rfl
theorem en146 : entersB Tryz.prog 146 = true := by kernel_rfl
theorem en147 : entersB Tryz.prog 147 = true := by kernel_rfl
theorem en151 : entersB Tryz.prog 151 = true := by kernel_rfl
theorem en152 : entersB Tryz.prog 152 = true := by kernel_rfl
theorem en153 : entersB Tryz.prog 153 = true := by kernel_rfl
theorem en155 : entersB Tryz.prog 155 = true := by kernel_rfl
theorem en156 : entersB Tryz.prog 156 = true := by kernel_rfl
theorem en157 : entersB Tryz.prog 157 = true := by kernel_rfl
theorem en158 : entersB Tryz.prog 158 = true := by kernel_rfl
theorem en159 : entersB Tryz.prog 159 = true := by kernel_rfl
theorem en160 : entersB Tryz.prog 160 = true := by kernel_rfl
theorem en161 : entersB Tryz.prog 161 = true := by kernel_rfl
theorem en162 : entersB Tryz.prog 162 = true := by kernel_rfl
theorem en170 : entersB Tryz.prog 170 = true := by kernel_rfl
theorem en171 : entersB Tryz.prog 171 = true := by kernel_rfl
theorem en172 : entersB Tryz.prog 172 = true := by kernel_rfl
theorem en173 : entersB Tryz.prog 173 = true := by kernel_rfl
theorem en174 : entersB Tryz.prog 174 = true := by kernel_rfl
theorem en175 : entersB Tryz.prog 175 = true := by kernel_rfl
theorem en176 : entersB Tryz.prog 176 = true := by kernel_rfl
theorem en194 : entersB Tryz.prog 194 = true := by kernel_rfl
theorem en195 : entersB Tryz.prog 195 = true := by kernel_rfl
theorem en196 : entersB Tryz.prog 196 = true := by kernel_rfl
theorem en198 : entersB Tryz.prog 198 = true := by kernel_rfl
theorem en199 : entersB Tryz.prog 199 = true := by kernel_rfl
theorem en200 : entersB Tryz.prog 200 = true := by kernel_rfl
theorem en201 : entersB Tryz.prog 201 = true := by kernel_rfl
theorem en202 : entersB Tryz.prog 202 = true := by kernel_rfl
theorem en203 : entersB Tryz.prog 203 = true := by kernel_rfl
theorem en204 : entersB Tryz.prog 204 = true := by kernel_rfl
theorem en205 : entersB Tryz.prog 205 = true := by kernel_rfl
theorem en207 : entersB Tryz.prog 207 = true := by kernel_rfl
theorem en208 : entersB Tryz.prog 208 = true := by kernel_rfl
theorem en209 : entersB Tryz.prog 209 = true := by kernel_rfl
theorem en211 : entersB Tryz.prog 211 = true := by kernel_rfl
theorem en217 : entersB Tryz.prog 217 = true := by kernel_rfl
theorem en220 : entersB Tryz.prog 220 = true := by kernel_rfl
theorem en245 : entersB Tryz.prog 245 = true := by kernel_rfl
theorem en248 : entersB Tryz.prog 248 = true := by kernel_rfl
theorem en249 : entersB Tryz.prog 249 = true := by kernel_rfl
theorem en250 : entersB Tryz.prog 250 = true := by kernel_rfl
theorem en251 : entersB Tryz.prog 251 = true := by kernel_rfl
theorem en252 : entersB Tryz.prog 252 = true := by kernel_rfl
theorem en265 : entersB Tryz.prog 265 = true := by kernel_rfl
theorem mixed : Tryz.prog.follows .mixedOrders = true := by kernel_rfl

attribute [go_sem] kd3
 ce3 in3 ze3 kd4 ce4 in4 kd5 ce5 in5 ze5 
 
 
 
 
 
 kd23 ce23 in23 
 kd25 ce25 in25 ze25 kd27
 ce27 in27 ze27 
 
 
 kd37 ce37 in37 kd39 ce39 in39 ze39
 
 
 
 
 
 
 
 
 
 
 kd71 ce71 in71 ze71 
 
 
 
 
 
 
 
 kd98 ce98
 in98 
 kd102 ce102 in102 ze102 kd103 ce103 in103 ze103 
 
 
 
 kd115 ce115 in115 
 kd118 ce118 in118 ze118 
 ze120 
 
 
 
 
 
 
 
 
 
 
 
 
 
 
 
 
 
 
 
 
 
 
 
 
 
 
 
 
 
 
 
 
 
 
 ze226 
 
 
 ze235 
 
 
 
 
 
 
 
 
 
 
 
 ce273 in273 ze273
 
 
 
 
 kd288 ce288 in288 ze288 
 
 
 
 
 
 
 
 
 
 kd319 ce319 in319
 ze319 
 
 
 
 
 
 
 
 
 
 
 eql25 eql27 neq27 
 neq118
 eql288 
 Tryz.underlying0 Tryz.underlying1 Tryz.underlying2 Tryz.underlying3 Tryz.underlying4 Tryz.underlying5 Tryz.underlying6 Tryz.underlying7 Tryz.underlying8 Tryz.underlying9 Tryz.underlying10 Tryz.underlying11
 Tryz.underlying12 Tryz.underlying13 Tryz.underlying14 Tryz.underlying15 Tryz.underlying16 Tryz.underlying17 Tryz.underlying18 Tryz.underlying19 Tryz.underlying20 Tryz.underlying21 Tryz.underlying22 Tryz.underlying23
 Tryz.underlying24 Tryz.underlying25 Tryz.underlying26 Tryz.underlying27 Tryz.underlying28 Tryz.underlying29 Tryz.underlying30 Tryz.underlying31 Tryz.underlying32 Tryz.underlying33 Tryz.underlying34 Tryz.underlying35
 Tryz.underlying36 Tryz.underlying37 Tryz.underlying38 Tryz.underlying39 Tryz.underlying40 Tryz.underlying41 Tryz.underlying42 Tryz.underlying43 Tryz.underlying44 Tryz.underlying45 Tryz.underlying46 Tryz.underlying47
 Tryz.underlying48 Tryz.underlying49 Tryz.underlying50 Tryz.underlying51 Tryz.underlying52 Tryz.underlying53 Tryz.underlying54 Tryz.underlying55 Tryz.underlying56 Tryz.underlying57 Tryz.underlying58 Tryz.underlying59
 Tryz.underlying60 Tryz.underlying61 Tryz.underlying62 Tryz.underlying63 Tryz.underlying64 Tryz.underlying65 Tryz.underlying66 Tryz.underlying67 Tryz.underlying68 Tryz.underlying69 Tryz.underlying70 Tryz.underlying71
 Tryz.underlying72 Tryz.underlying73 Tryz.underlying74 Tryz.underlying75 Tryz.underlying76 Tryz.underlying77 Tryz.underlying78 Tryz.underlying79 Tryz.underlying80 Tryz.underlying81 Tryz.underlying82 Tryz.underlying83
 Tryz.underlying84 Tryz.underlying85 Tryz.underlying86 Tryz.underlying87 Tryz.underlying88 Tryz.underlying89 Tryz.underlying90 Tryz.underlying91 Tryz.underlying92 Tryz.underlying93 Tryz.underlying94 Tryz.underlying95
 Tryz.underlying96 Tryz.underlying97 Tryz.underlying98 Tryz.underlying99 Tryz.underlying100 Tryz.underlying101 Tryz.underlying102 Tryz.underlying103 Tryz.underlying104 Tryz.underlying105 Tryz.underlying106 Tryz.underlying107
 Tryz.underlying108 Tryz.underlying109 Tryz.underlying110 Tryz.underlying111 Tryz.underlying112 Tryz.underlying113 Tryz.underlying114 Tryz.underlying115 Tryz.underlying116 Tryz.underlying117 Tryz.underlying118 Tryz.underlying119
 Tryz.underlying120 Tryz.underlying121 Tryz.underlying122 Tryz.underlying123 Tryz.underlying124 Tryz.underlying125 Tryz.underlying126 Tryz.underlying127 Tryz.underlying128 Tryz.underlying129 Tryz.underlying130 Tryz.underlying131
 Tryz.underlying132 Tryz.underlying133 Tryz.underlying134 Tryz.underlying135 Tryz.underlying136 Tryz.underlying137 Tryz.underlying138 Tryz.underlying139 Tryz.underlying140 Tryz.underlying141 Tryz.underlying142 Tryz.underlying143
 Tryz.underlying144 Tryz.underlying145 Tryz.underlying146 Tryz.underlying147 Tryz.underlying148 Tryz.underlying149 Tryz.underlying150 Tryz.underlying151 Tryz.underlying152 Tryz.underlying153 Tryz.underlying154 Tryz.underlying155
 Tryz.underlying156 Tryz.underlying157 Tryz.underlying158 Tryz.underlying159 Tryz.underlying160 Tryz.underlying161 Tryz.underlying162 Tryz.underlying163 Tryz.underlying164 Tryz.underlying165 Tryz.underlying166 Tryz.underlying167
 Tryz.underlying168 Tryz.underlying169 Tryz.underlying170 Tryz.underlying171 Tryz.underlying172 Tryz.underlying173 Tryz.underlying174 Tryz.underlying175 Tryz.underlying176 Tryz.underlying177 Tryz.underlying178 Tryz.underlying179
 Tryz.underlying180 Tryz.underlying181 Tryz.underlying182 Tryz.underlying183 Tryz.underlying184 Tryz.underlying185 Tryz.underlying186 Tryz.underlying187 Tryz.underlying188 Tryz.underlying189 Tryz.underlying190 Tryz.underlying191
 Tryz.underlying192 Tryz.underlying193 Tryz.underlying194 Tryz.underlying195 Tryz.underlying196 Tryz.underlying197 Tryz.underlying198 Tryz.underlying199 Tryz.underlying200 Tryz.underlying201 Tryz.underlying202 Tryz.underlying203
 Tryz.underlying204 Tryz.underlying205 Tryz.underlying206 Tryz.underlying207 Tryz.underlying208 Tryz.underlying209 Tryz.underlying210 Tryz.underlying211 Tryz.underlying212 Tryz.underlying213 Tryz.underlying214 Tryz.underlying215
 Tryz.underlying216 Tryz.underlying217 Tryz.underlying218 Tryz.underlying219 Tryz.underlying220 Tryz.underlying221 Tryz.underlying222 Tryz.underlying223 Tryz.underlying224 Tryz.underlying225 Tryz.underlying226 Tryz.underlying227
 Tryz.underlying228 Tryz.underlying229 Tryz.underlying230 Tryz.underlying231 Tryz.underlying232 Tryz.underlying233 Tryz.underlying234 Tryz.underlying235 Tryz.underlying236 Tryz.underlying237 Tryz.underlying238 Tryz.underlying239
 Tryz.underlying240 Tryz.underlying241 Tryz.underlying242 Tryz.underlying243 Tryz.underlying244 Tryz.underlying245 Tryz.underlying246 Tryz.underlying247 Tryz.underlying248 Tryz.underlying249 Tryz.underlying250 Tryz.underlying251
 Tryz.underlying252 Tryz.underlying253 Tryz.underlying254 Tryz.underlying255 Tryz.underlying256 Tryz.underlying257 Tryz.underlying258 Tryz.underlying259 Tryz.underlying260 Tryz.underlying261 Tryz.underlying262 Tryz.underlying263
 Tryz.underlying264 Tryz.underlying265 Tryz.underlying266 Tryz.underlying267 Tryz.underlying268 Tryz.underlying269 Tryz.underlying270 Tryz.underlying271 Tryz.underlying272 Tryz.underlying273 Tryz.underlying274 Tryz.underlying275
 Tryz.underlying276 Tryz.underlying277 Tryz.underlying278 Tryz.underlying279 Tryz.underlying280 Tryz.underlying281 Tryz.underlying282 Tryz.underlying283 Tryz.underlying284 Tryz.underlying285 Tryz.underlying286 Tryz.underlying287
 Tryz.underlying288 Tryz.underlying289 Tryz.underlying290 Tryz.underlying291 Tryz.underlying292 Tryz.underlying293 Tryz.underlying294 Tryz.underlying295 Tryz.underlying296 Tryz.underlying297 Tryz.underlying298 Tryz.underlying299
 Tryz.underlying300 Tryz.underlying301 Tryz.underlying302 Tryz.underlying303 Tryz.underlying304 Tryz.underlying305 Tryz.underlying306 Tryz.underlying307 Tryz.underlying308 Tryz.underlying309 Tryz.underlying310 Tryz.underlying311
 Tryz.underlying312 Tryz.underlying313 Tryz.underlying314 Tryz.underlying315 Tryz.underlying316 Tryz.underlying317 Tryz.underlying318 Tryz.underlying319 Tryz.underlying320 Tryz.underlying321 Tryz.underlying322 Tryz.underlying323
 Tryz.underlying324 Tryz.underlying325 Tryz.underlying326 Tryz.underlying327 Tryz.underlying328 Tryz.underlying329 Tryz.underlying330 Tryz.underlying331 Tryz.underlying332 Tryz.underlying333 Tryz.underlying334 Tryz.underlying335
 Tryz.underlying336 Tryz.underlying337 Tryz.underlying338 Tryz.underlying339 Tryz.underlying340 Tryz.underlying341 Tryz.underlying342 Tryz.underlying343 Tryz.underlying344 Tryz.underlying345 Tryz.underlying346 Tryz.underlying347
 Tryz.underlying348 Tryz.underlying349 Tryz.underlying350 Tryz.underlying351 Tryz.underlying352
end Go.Proofs.YtociliegljoldaaGreat
