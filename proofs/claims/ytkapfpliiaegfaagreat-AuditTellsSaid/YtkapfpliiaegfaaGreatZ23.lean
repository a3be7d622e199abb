import Derived.Test.YtkapfpliiaegfaaGreatFS
import Derived.Test.YtkapfpliiaegfaaGreatFT
import Derived.Test.YtkapfpliiaegfaaGreatFU
namespace Go.Proofs.YtkapfpliiaegfaaGreat
open Go Go.Wk Tryz
set_option maxRecDepth 100000
set_option maxHeartbeats 800000
noncomputable def xHI : EnC := let p := [(1, .cells [.i .i64 0, .i .i64 32, .b true] 132 true), xBV, (3, .cells [.i .i64 0, .i .i64 0, .i .i64 0, .i .i64 0, .i .i64 0] 3 true), (4, .cells [.sl 1 0 1 1, .sl 2 0 1 1, .sn, .sn, .i .i64 0, .sn, .sn, .i .i64 20, .i .i64 1099511627776, .i .i64 0, .sl 3 0 5 5] 99 true), (5, .cells [.i .i64 0, .i .i64 1000, .i .i64 5000] 136 true), (6, .cells [.i .i64 10000, .sl 5 0 1 1] 102 true), xBJ, xBN, xGl, xBO, (87, .cells [.i .i64 0] 3 true), (88, .cells [.sn, .sn, .sl 181 0 1 1, .sn, .i .i64 0, .i .i64 0, .i .i64 0, .i .i64 0, .sn, .sn, .sn, .i .i64 0, .p 93 0, .sl 4 0 1 1, .sn, .sl 6 0 1 1, .sl 7 0 2 2, .sn, .i .i64 0, .i .i64 0, .i .i64 1, .i .i64 8, .i .i64 32768, .i .i64 100, .sn, .sn, .sl 131 0 1 1, .sl 133 0 1 1, .sl 87 0 1 1, .p 82 0] 180 true), (90, .cells [.i .i64 0] 3 true), (91, .cells [.sl 90 0 1 1, .i .i64 0, .i .i64 0, .i .i64 0, .i .i64 0, .i .i64 1000, .b true] 255 true), (92, .cells [.i .i64 1000, .i .i64 1000, .i .i64 0, .i .i64 1, .sl 7 0 2 2, .sn, .i .i64 0, .i .i64 0, .i .i64 1, .i .i64 8, .i .i64 32768, .i .i64 100, .p 91 0] 251 true), (93, .cells [.i .i64 0, .i .i64 0, .sl 7 0 2 2, .sn, .i .i64 0, .i .i64 0, .i .i64 1, .i .i64 8, .i .i64 32768, .i .i64 100, .p 92 0, .f 186 [] [.p 157 0, .p 158 0], .i .i64 0] 186 true), xBU, xCd, (100, .cells [.sl 105 0 1 1, .b true] 289 true), (102, .cells [.i .u8 0, .i .u8 0, .i .u8 0, .i .u8 0, .i .u8 0, .i .u8 0, .i .u8 0, .i .u8 0, .i .u8 0, .i .u8 0, .i .u8 0, .i .u8 0, .i .u8 0, .i .u8 0, .i .u8 0, .i .u8 0, .i .u8 0, .i .u8 0, .i .u8 0, .i .u8 0, .i .u8 0, .i .u8 0, .i .u8 0, .i .u8 0, .i .u8 0, .i .u8 0, .i .u8 0, .i .u8 0, .i .u8 0, .i .u8 0, .i .u8 0, .i .u8 0] 5 true), (103, .cells [.i .i64 0, .i .i64 32, .b true, .sl 102 0 32 32] 292 true), (105, .cells [.p 103 0] 290 false), (106, .cells [.sn] 295 true), (108, .cells [.sl 1 0 1 1, .sl 2 0 1 1, .sn, .sn, .i .i64 0, .sn, .sn, .i .i64 20, .i .i64 1099511627776, .i .i64 0, .sl 3 0 5 5, .sn, .sn, .sn, .sn] 316 true), (119, .cells [.i .i64 0, .i .i64 0, .i .i64 0, .i .i64 0, .i .i64 0, .i .i64 0, .i .i64 0, .i .i64 0, .i .i64 0, .i .i64 0, .i .i64 (-1), .i .i64 (-1), .b true] 321 true), (120, .cells [.sl 1 0 1 1, .sl 2 0 1 1, .sn, .sn, .i .i64 0, .sn, .sn, .i .i64 20, .i .i64 1099511627776, .i .i64 0, .sl 3 0 5 5, .i .i64 0, .i .i64 3, .i .i64 (-1), .sl 124 0 1 1, .p 98 0, .p 100 0, .p 106 0, .p 108 0, .p 119 0, .pn, .sn] 217 true), xB9, xCb, xB7, (131, .cells [.p 120 0] 142 false), (133, .cells [.p 106 0] 149 false), xCa, (158, .cells [.i .i64 0] 3 true), (181, .cells [.i .i64 1000, .i .i64 1000, .i .i64 0] 106 false)]; ⟨188, [.p 88 0, .i .i64 0, .i .i64 6000], 182, p, .tp [], 3987, xMq p [(84, .cells [.i .i64 1099511627776, .i .i64 8, .sl 7 0 2 2, .sn, .i .i64 0, .i .i64 0, .i .i64 1, .i .i64 8, .i .i64 32768, .i .i64 100, .i .i64 20] 231 true), (87, .cells [.i .i64 21] 3 true), (88, .cells [.sl 3986 0 21 21, .sn, .sl 181 0 1 1, .sn, .i .i64 0, .i .i64 0, .i .i64 0, .i .i64 0, .sn, .sn, .sn, .i .i64 0, .p 93 0, .sl 4 0 1 1, .sn, .sl 6 0 1 1, .sl 7 0 2 2, .sn, .i .i64 0, .i .i64 0, .i .i64 1, .i .i64 8, .i .i64 32768, .i .i64 100, .sn, .sn, .sl 131 0 1 1, .sl 133 0 1 1, .sl 87 0 1 1, .p 82 0] 180 true), (90, .cells [.i .i64 40000] 3 true), (91, .cells [.sl 90 0 1 1, .i .i64 0, .i .i64 0, .i .i64 0, .i .i64 40000, .i .i64 5000, .b true] 255 true), (92, .cells [.i .i64 5000, .i .i64 1000, .i .i64 20, .i .i64 0, .sl 7 0 2 2, .sn, .i .i64 0, .i .i64 0, .i .i64 1, .i .i64 8, .i .i64 32768, .i .i64 100, .p 91 0] 251 true), (93, .cells [.i .i64 1000, .i .i64 20, .sl 7 0 2 2, .sn, .i .i64 0, .i .i64 0, .i .i64 1, .i .i64 8, .i .i64 32768, .i .i64 100, .p 92 0, .f 186 [] [.p 157 0, .p 158 0], .i .i64 0] 186 true), (97, .mp [(0, .ag [.i .i64 1, .i .i64 1, .i .i64 20, .i .i64 0, .i .i64 0, .i .i64 0, .i .i64 1, .i .i64 1, .i .i64 1, .i .i64 1, .b true])]), (119, .cells [.i .i64 0, .i .i64 1, .i .i64 0, .i .i64 0, .i .i64 0, .i .i64 0, .i .i64 0, .i .i64 0, .i .i64 0, .i .i64 0, .i .i64 0, .i .i64 0, .b true] 321 true), (120, .cells [.sl 1 0 1 1, .sl 2 0 1 1, .sn, .sn, .i .i64 0, .sn, .sn, .i .i64 20, .i .i64 1099511627776, .i .i64 0, .sl 3 0 5 5, .i .i64 0, .i .i64 3, .i .i64 0, .sl 124 0 1 1, .p 98 0, .p 100 0, .p 106 0, .p 108 0, .p 119 0, .p 183 0, .sl 3965 0 21 21] 217 true), (122, .cells [.sl 121 0 1 1, .i .i64 0, .i .i64 1, .i .i64 0, .sn, .b true] 221 true), (183, .cells [.i .i64 0, .sl 187 0 1 1, .b true] 398 true), (185, .cells [.i .i64 0, .b true] 401 true), xCc, (3965, .cells [.i .i64 0, .i .i64 0, .i .i64 0, .i .i64 3, .i .i64 4, .i .i64 0, .i .i64 0, .i .i64 0, .i .i64 0, .i .i64 3, .i .i64 4, .i .i64 0, .i .i64 0, .i .i64 0, .i .i64 0, .i .i64 3, .i .i64 4, .i .i64 0, .i .i64 0, .i .i64 0, .i .i64 0, .i .i64 3, .i .i64 4, .i .i64 0, .i .i64 0, .i .i64 0, .i .i64 0, .i .i64 3, .i .i64 4, .i .i64 0, .i .i64 0, .i .i64 0, .i .i64 0, .i .i64 3, .i .i64 4, .i .i64 0, .i .i64 0, .i .i64 0, .i .i64 0, .i .i64 3, .i .i64 4, .i .i64 0, .i .i64 0, .i .i64 0, .i .i64 0, .i .i64 3, .i .i64 4, .i .i64 0, .i .i64 0, .i .i64 0, .i .i64 0, .i .i64 3, .i .i64 4, .i .i64 0, .i .i64 0, .i .i64 0, .i .i64 0, .i .i64 3, .i .i64 4, .i .i64 0, .i .i64 0, .i .i64 0, .i .i64 0, .i .i64 3, .i .i64 4, .i .i64 0, .i .i64 0, .i .i64 0, .i .i64 0, .i .i64 3, .i .i64 4, .i .i64 0, .i .i64 0, .i .i64 0, .i .i64 0, .i .i64 3, .i .i64 4, .i .i64 0, .i .i64 0, .i .i64 0, .i .i64 0, .i .i64 3, .i .i64 4, .i .i64 0, .i .i64 0, .i .i64 0, .i .i64 0, .i .i64 3, .i .i64 4, .i .i64 0, .i .i64 0, .i .i64 0, .i .i64 0, .i .i64 3, .i .i64 4, .i .i64 0, .i .i64 0, .i .i64 0, .i .i64 0, .i .i64 3, .i .i64 4, .i .i64 0, .i .i64 0, .i .i64 0, .i .i64 0, .i .i64 3, .i .i64 4, .i .i64 0, .i .i64 0, .i .i64 0, .i .i64 0, .i .i64 3, .i .i64 4, .i .i64 0, .i .i64 0, .i .i64 0, .i .i64 0, .i .i64 3, .i .i64 4, .i .i64 0, .i .i64 0, .i .i64 0, .i .i64 0, .i .i64 (-1), .i .i64 0, .i .i64 0] 76 false), (3986, .cells [.i .i64 0, .i .i64 0, .i .i64 0, .i .i64 3, .i .i64 4, .i .i64 0, .i .i64 0, .i .i64 0, .i .i64 0, .i .i64 3, .i .i64 4, .i .i64 0, .i .i64 0, .i .i64 0, .i .i64 0, .i .i64 3, .i .i64 4, .i .i64 0, .i .i64 0, .i .i64 0, .i .i64 0, .i .i64 3, .i .i64 4, .i .i64 0, .i .i64 0, .i .i64 0, .i .i64 0, .i .i64 3, .i .i64 4, .i .i64 0, .i .i64 0, .i .i64 0, .i .i64 0, .i .i64 3, .i .i64 4, .i .i64 0, .i .i64 0, .i .i64 0, .i .i64 0, .i .i64 3, .i .i64 4, .i .i64 0, .i .i64 0, .i .i64 0, .i .i64 0, .i .i64 3, .i .i64 4, .i .i64 0, .i .i64 0, .i .i64 0, .i .i64 0, .i .i64 3, .i .i64 4, .i .i64 0, .i .i64 0, .i .i64 0, .i .i64 0, .i .i64 3, .i .i64 4, .i .i64 0, .i .i64 0, .i .i64 0, .i .i64 0, .i .i64 3, .i .i64 4, .i .i64 0, .i .i64 0, .i .i64 0, .i .i64 0, .i .i64 3, .i .i64 4, .i .i64 0, .i .i64 0, .i .i64 0, .i .i64 0, .i .i64 3, .i .i64 4, .i .i64 0, .i .i64 0, .i .i64 0, .i .i64 0, .i .i64 3, .i .i64 4, .i .i64 0, .i .i64 0, .i .i64 0, .i .i64 0, .i .i64 3, .i .i64 4, .i .i64 0, .i .i64 0, .i .i64 0, .i .i64 0, .i .i64 3, .i .i64 4, .i .i64 0, .i .i64 0, .i .i64 0, .i .i64 0, .i .i64 3, .i .i64 4, .i .i64 0, .i .i64 0, .i .i64 0, .i .i64 0, .i .i64 3, .i .i64 4, .i .i64 0, .i .i64 0, .i .i64 0, .i .i64 0, .i .i64 3, .i .i64 4, .i .i64 0, .i .i64 0, .i .i64 0, .i .i64 0, .i .i64 3, .i .i64 4, .i .i64 0, .i .i64 0, .i .i64 0, .i .i64 0, .i .i64 (-1), .i .i64 0, .i .i64 0] 76 false)]⟩
noncomputable def xHO : List EnC := [xGs, xGM, xGr, xGA, xGR, xGk, xGQ, xGC, xGt, xGz, xFF, xEz, xEr, xFk, xEw, xF2, xE2, xEq, xFI, xE3, xEZ, xFB, xFd, xF0, xEi, xFb, xEM, xFs, xFl, xFi, xFr, xEK, xEY, xED, xEm, xFc, xEu, xE9, xEy, xFR, xFu, xES, xFx, xF1, xFV, xEk, xEv, xFa, xEO, xEB, xFq, xFS, xER, xFn, xEp, xEx, xFw, xEC, xE0, xFM, xEQ, xET, xEj, xFg, xFj, xFW, xFD, xEs, xEU, xFA, xF3, xEA, xEL, xEE, xEG, xFo, xFH, xFv, xEP, xEJ, xEX]
theorem xKi : ∀ en ∈ xHO, xMn prog en := fun en h => by
 simp only [xHO, List.mem_cons, List.not_mem_nil, or_false] at h
 rcases h with rfl | rfl | rfl | rfl | rfl | rfl | rfl | rfl | rfl | rfl | rfl | rfl | rfl | rfl | rfl | rfl | rfl | rfl | rfl | rfl | rfl | rfl | rfl | rfl | rfl | rfl | rfl | rfl | rfl | rfl | rfl | rfl | rfl | rfl | rfl | rfl | rfl | rfl | rfl | rfl | rfl | rfl | rfl | rfl | rfl | rfl | rfl | rfl | rfl | rfl | rfl | rfl | rfl | rfl | rfl | rfl | rfl | rfl | rfl | rfl | rfl | rfl | rfl | rfl | rfl | rfl | rfl | rfl | rfl | rfl | rfl | rfl | rfl | rfl | rfl | rfl | rfl | rfl | rfl | rfl | rfl
 ·exact xIY
 ·exact xJS
 ·exact xJl
 ·exact xI6
 ·exact xI7
 ·exact xJQ
 ·exact xI8
 ·exact xJI
 ·exact xJt
 ·exact xJO
 ·exact xG1
 ·exact xG4
 ·exact xHt
 ·exact xHD
 ·exact xHh
 ·exact xHp
 ·exact xHV
 ·exact xGW
 ·exact xIp
 ·exact xIh
 ·exact xIf
 ·exact xHS
 ·exact xHJ
 ·exact xHb
 ·exact xGU
 ·exact xHa
 ·exact xHP
 ·exact xIl
 ·exact xH6
 ·exact xIo
 ·exact xGX
 ·exact xH3
 ·exact xHd
 ·exact xGY
 ·exact xGT
 ·exact xHL
 ·exact xIa
 ·exact xIb
 ·exact xId
 ·exact xHN
 ·exact xHy
 ·exact xIq
 ·exact xHz
 ·exact xHr
 ·exact xG0
 ·exact xG8
 ·exact xHn
 ·exact xHf
 ·exact xIm
 ·exact xHK
 ·exact xIj
 ·exact xIg
 ·exact xG2
 ·exact xHk
 ·exact xHT
 ·exact xHE
 ·exact xH0
 ·exact xH4
 ·exact xHo
 ·exact xHu
 ·exact xH8
 ·exact xH9
 ·exact xHW
 ·exact xHF
 ·exact xH7
 ·exact xHj
 ·exact xIk
 ·exact xHv
 ·exact xHq
 ·exact xHG
 ·exact xG6
 ·exact xHi
 ·exact xHR
 ·exact xHQ
 ·exact xG3
 ·exact xHX
 ·exact xHB
 ·exact xGS
 ·exact xHw
 ·exact xIi
 ·exact xHH
theorem xKo : xMn prog xHI := xMk (pl := aut prog) (fl := 100000) (d := 200) (ok := xBG) mixed xBI xKi (by kernel_rfl)
noncomputable def xG7 : List EnC := [xGs, xGM, xGr, xGA, xGR, xGk, xGQ, xGC, xGt, xGz, xFF, xEz, xEr, xFk, xEw, xF2, xE2, xEq, xFI, xE3, xEZ, xFB, xFd, xF0, xEi, xFb, xEM, xFs, xFl, xFi, xFr, xEK, xEY, xED, xEm, xFc, xEu, xE9, xEy, xFR, xFu, xES, xFx, xF1, xFV, xEk, xEv, xFa, xEO, xEB, xFq, xFS, xER, xFn, xEp, xEx, xFw, xEC, xE0, xFM, xEQ, xET, xEj, xFg, xFj, xFW, xFD, xEs, xEU, xFA, xF3, xEA, xEL, xEE, xEG, xFo, xFH, xFv, xEP, xEJ, xEX, xHI]
theorem xKq : ∀ en ∈ xG7, xMn prog en := fun en h => by
 simp only [xG7, List.mem_cons, List.not_mem_nil, or_false] at h
 rcases h with rfl | rfl | rfl | rfl | rfl | rfl | rfl | rfl | rfl | rfl | rfl | rfl | rfl | rfl | rfl | rfl | rfl | rfl | rfl | rfl | rfl | rfl | rfl | rfl | rfl | rfl | rfl | rfl | rfl | rfl | rfl | rfl | rfl | rfl | rfl | rfl | rfl | rfl | rfl | rfl | rfl | rfl | rfl | rfl | rfl | rfl | rfl | rfl | rfl | rfl | rfl | rfl | rfl | rfl | rfl | rfl | rfl | rfl | rfl | rfl | rfl | rfl | rfl | rfl | rfl | rfl | rfl | rfl | rfl | rfl | rfl | rfl | rfl | rfl | rfl | rfl | rfl | rfl | rfl | rfl | rfl | rfl
 ·exact xIY
 ·exact xJS
 ·exact xJl
 ·exact xI6
 ·exact xI7
 ·exact xJQ
 ·exact xI8
 ·exact xJI
 ·exact xJt
 ·exact xJO
 ·exact xG1
 ·exact xG4
 ·exact xHt
 ·exact xHD
 ·exact xHh
 ·exact xHp
 ·exact xHV
 ·exact xGW
 ·exact xIp
 ·exact xIh
 ·exact xIf
 ·exact xHS
 ·exact xHJ
 ·exact xHb
 ·exact xGU
 ·exact xHa
 ·exact xHP
 ·exact xIl
 ·exact xH6
 ·exact xIo
 ·exact xGX
 ·exact xH3
 ·exact xHd
 ·exact xGY
 ·exact xGT
 ·exact xHL
 ·exact xIa
 ·exact xIb
 ·exact xId
 ·exact xHN
 ·exact xHy
 ·exact xIq
 ·exact xHz
 ·exact xHr
 ·exact xG0
 ·exact xG8
 ·exact xHn
 ·exact xHf
 ·exact xIm
 ·exact xHK
 ·exact xIj
 ·exact xIg
 ·exact xG2
 ·exact xHk
 ·exact xHT
 ·exact xHE
 ·exact xH0
 ·exact xH4
 ·exact xHo
 ·exact xHu
 ·exact xH8
 ·exact xH9
 ·exact xHW
 ·exact xHF
 ·exact xH7
 ·exact xHj
 ·exact xIk
 ·exact xHv
 ·exact xHq
 ·exact xHG
 ·exact xG6
 ·exact xHi
 ·exact xHR
 ·exact xHQ
 ·exact xG3
 ·exact xHX
 ·exact xHB
 ·exact xGS
 ·exact xHw
 ·exact xIi
 ·exact xHH
 ·exact xKo
theorem xKh : Xb prog 12 #[] [] fun v l => v = .bool true ∧ l = [] := xOi (P := prog) (ok := xBG) (pl := aut prog) (fl := 100000) (n := 200) mixed xBI (by kernel_rfl) (show CV.grs [] = some [] from rfl) xKq (by kernel_rfl)
theorem xCe {P : Program} {K : Value → WP} {t : TypeId} {x y : Operand} {a b : ByteArray} : XO P .neq t x y (.string a) (.string b) K = K (.bool (!decide (a = b))) := by
 have e : decide (a.data.toList = b.data.toList) = decide (a = b) := by
  by_cases h : a = b
  ·rw [decide_eq_true h, decide_eq_true (by rw [h])]
  ·rw [decide_eq_false h, decide_eq_false fun h1 => h (ByteArray.ext (Array.ext' h1))]
 rw [← e]
 exact xix (P := P) (K := K) (t := t) (x := x) (y := y) (a := a.data.toList) (b := b.data.toList)
section
attribute [local irreducible] BrK Xq Xt Xv XI FnK XZ Xw XC XV opX opK Yq Yk eqR Yj Yo Ys WL WD W X3 XO Tr drewK Ya X4 Yw Yv X1 YB mp blk rob sl sep ex fact old
section
attribute [local irreducible] xB2
section
variable {c : xs2} {fv : SV} {fs : List xBL} {r : xCT} {q : xDt}
theorem xJK {xs : List ByteArray} {s1 s2 : SV} (hl : xs.length ≤ 1000000000) : Xb prog 23 #[s1.v, s2.v] [sl false s1.v xs, sl false s2.v xs] fun v l' => v = .bool true ∧ l' = [] := by
 intro F K hK
 simp only [ap]
 refine S.I fun u => ?_
 have hX := And.intro @xCe @xKb.eq_def; repeat' (first | refine S.x ?_ | refine S.y ?_ ?_ | (refine G.prop ?_; assumption) | intro hb | ((fail_if_success refine G.tr ?_); exact G.prop S.p) | fail)
 refine Tr.loopE (α := Nat) [4, 5] [0, 1] (fun k => [.bool false, .int .i64 k]) (fun _ => [sl false s1.v xs, sl false s2.v xs]) (fun k => k ≤ xs.length) (fun k => xs.length - k) 0 S.T rfl (Nat.zero_le _) fun k u hk => ?_
 simp only [ap]
 by_cases hin : k < xs.length
 ·have hw := Xo (k := k) S.o
  have hX := I3 @xCe @xKb.eq_def hw; repeat' (first | refine S.x ?_ | refine S.y ?_ ?_ | (refine G.prop ?_; assumption) | intro hb | ((fail_if_success refine G.tr ?_); exact G.prop S.p) | fail)
  all_goals exact S.R (k + 1)
 ·obtain rfl : k = xs.length := by omega
  have hX := And.intro @xCe @xKb.eq_def; repeat' (first | refine S.x ?_ | refine S.y ?_ ?_ | (refine G.prop ?_; assumption) | intro hb | ((fail_if_success refine G.tr ?_); exact G.prop S.p) | fail)
  all_goals exact Tr.fin hK ⟨rfl, rfl⟩ S.E
structure xLP (q : xDt) : Prop where
 e : q.evs.length ≤ 1000000
 b : q.bds.length ≤ 1000000
 n : q.rn.length ≤ 1000000
 h : q.sheds.length ≤ 1000000
 m : q.modes.length ≤ 1000000
 c : q.creds.length ≤ 1000000
theorem xIG : Xb prog 11 #[.agg (En.enc r).toArray] (xJv r q) fun v l' => ∃ b : Bool, (b = true → xLP q) ∧ v = .bool b ∧ l' = [] := by
 intro F K hK
 simp only [ap]
 refine S.I fun u => ?_
 by_cases h1 : q.evs.length ≤ 3000 ∧ q.bds.length ≤ 3000 ∧ q.sheds.length ≤ 300 ∧ q.modes.length ≤ 300 ∧ q.creds.length ≤ 300 ∧ q.rn.length ≤ 300
 ·obtain ⟨h1, h2, h3, h4, h5, h6⟩ := h1
  have hX := @xCe; repeat' (first | intro (rb : Nat) | refine S.x ?_ | refine S.y ?_ ?_ | (refine G.prop ?_; assumption) | intro hb | ((fail_if_success refine G.tr ?_); exact G.prop S.p) | fail)
  refine Tr.loopE (α := Nat) [2, 3] [1] (fun k => [.bool false, .int .i64 k]) (fun _ => [rsB rb r]) (fun k => k ≤ q.creds.length) (fun k => q.creds.length - k) 0 S.T rfl (Nat.zero_le _) fun k u hk => ?_
  simp only [ap]
  by_cases hin : k < q.creds.length
  ·have hw := Xo (k := k) S.o
   by_cases hp : (ix q.creds (k : Int)).d.length ≤ 300
   ·have hX := And.intro @xCe hw; repeat' (first | refine S.x ?_ | refine S.y ?_ ?_ | (refine G.prop ?_; assumption) | intro hb | ((fail_if_success refine G.tr ?_); exact G.prop S.p) | fail)
    all_goals exact S.R (k + 1)
   ·have hX := @xCe; repeat' (first | refine S.x ?_ | refine S.y ?_ ?_ | (refine G.prop ?_; assumption) | intro hb | ((fail_if_success refine G.tr ?_); exact G.prop S.p) | fail)
    all_goals exact Tr.fin hK ⟨false, (fun h => by cases h), rfl, rfl⟩ S.E
  ·have hX := @xCe; repeat' (first | refine S.x ?_ | refine S.y ?_ ?_ | (refine G.prop ?_; assumption) | intro hb | ((fail_if_success refine G.tr ?_); exact G.prop S.p) | fail)
   all_goals exact Tr.fin hK ⟨true, (fun _ => ⟨by omega, by omega, by omega, by omega, by omega, by omega⟩), rfl, rfl⟩ S.E
 ·have hX := @xCe; repeat' (first | refine S.x ?_ | refine S.y ?_ ?_ | (refine G.prop ?_; assumption) | intro hb | ((fail_if_success refine G.tr ?_); exact G.prop S.p) | fail)
  all_goals first
   | exact Tr.fin hK ⟨false, (fun h => by cases h), rfl, rfl⟩ S.E
   | (exfalso; omega)
theorem xDc : Xb prog 12 #[] [] fun v l' => v = .bool true ∧ l' = [] := xKh
abbrev xLS (c : xs2) (fv : SV) (fs : List xBL) (r : xCT) (q : xDt) : List Xc := [fact (xGe c), sl true fv.v fs, sl true c.parts.s.v c.parts.d, fzl c.parts.d, sl true c.chans.s.v c.chans.d, sl true c.modes.s.v c.modes.d, fzl c.modes.d, sl true c.levels.s.v c.levels.d, sl true c.naps.s.v c.naps.d, sl true c.down.s.v c.down.d, sl true c.up.s.v c.up.d] ++ xJv r q
theorem xIL : Xb prog 4 #[.agg (En.enc c).toArray, fv.v, .agg (En.enc r).toArray] (xLS c fv fs r q) fun v l' => v = .bool true ∧ l' = [] := by
 intro F K hK
 simp only [ap]
 refine Tr.fact_iff.2 fun ha => ?_
 have hsh := xKY (c := c)
 have hfe := xIG (r := r) (q := q)
 refine S.I fun u => ?_
 by_cases hf : fs.length ≤ 100
 ·have hX := And.intro @xCe @pl4.eq_def; repeat' (first | (refine G.call 10 ?_; refine S.c ?_ (h := hsh); rintro _ _ ⟨y1, hy1, rfl, rfl⟩; cases y1) | (refine G.call 11 ?_; refine S.c ?_ (h := hfe); rintro _ _ ⟨y2, hy2, rfl, rfl⟩; cases y2) | (refine G.call 12 ?_; refine S.c ?_ (h := xDc); rintro _ _ ⟨rfl, rfl⟩) | refine S.x ?_ | refine S.y ?_ ?_ | (refine G.prop ?_; assumption) | intro hb | ((fail_if_success refine G.tr ?_); exact G.prop S.p) | fail)
  all_goals first
   | exact S.L
   | skip
  have hs := (hy1 rfl).1
  have hfw := (hy1 rfl).2
  have hq := hy2 rfl
  clear hy1 hy2 hsh hfe
  have hok : xGj c fs q := ⟨hs, hfw, ha, by omega, by have := hq.e; omega, by have := hq.b; omega, hq.n, by have := hq.h; omega, by have := hq.m; omega, by have := hq.c; omega⟩
  have k1 := xDX (c := c) (fv := fv) (fs := fs) (r := r) (bds := q.bds) hs hok.f hfw hok.b
  have k2 := xDY (c := c) (fv := fv) (fs := fs) (r := r) (sheds := q.sheds) (modes := q.modes) hs hok.f hok.h hok.m
  have k3 := xDD (c := c) (r := r) (creds := q.creds) hs ha hok.c
  have k4 := xGg (r := r) (rn := q.rn) hok.n
  have k5 := xDG (c := c) (fv := fv) (fs := fs) (r := r) (evs := q.evs) hs hok.f hfw hok.e
  have j1 := xDq (c := c) (fv := fv) (fs := fs) (r := r) (bds := q.bds) hs hok.f hfw hok.b
  have j2 := xDp (c := c) (fv := fv) (fs := fs) (r := r) (sheds := q.sheds) (modes := q.modes) hs hok.f hok.h hok.m
  have j3 := xDa (c := c) (r := r) (creds := q.creds) hs ha hok.c
  have j4 := xD9 (r := r) (rn := q.rn) hok.n
  have j5 := xDb (c := c) (fv := fv) (fs := fs) (r := r) (evs := q.evs) hs hok.f hfw hok.e
  have k6 := xKf (c := c) (fv := fv) (fs := fs) (r := r) (q := q) hok
  have j6 := xIO (c := c) (fv := fv) (fs := fs) (r := r) (q := q) hok
  simp only [ap] at k6 j6
  have hnl : (xDf (xFN c fs q) (xFK c fs q) (xFG c q) (!xC0 r q.rn) (xFX c fs q)).length ≤ 1000000000 := Nat.le_trans (xIc (k := 5)) (by decide)
  generalize xDf (xFN c fs q) (xFK c fs q) (xFG c q) (!xC0 r q.rn) (xFX c fs q) = nl at *
  clear hok hq hfw hs ha
  generalize xC0 r q.rn = zz at *
  have hX := And.intro @xCe @pl4.eq_def; repeat' (first | (refine G.call 13 ?_; refine S.c ?_ (h := k1); rintro _ _ ⟨n1, hn1, rfl, rfl⟩; clear k1) | (refine G.call 14 ?_; refine S.c ?_ (h := j1); rintro _ _ ⟨m1, hm1, rfl, rfl⟩; obtain rfl := hm1.uniq hn1 rfl (fun _ _ => Iff.rfl); clear j1) | (refine G.call 15 ?_; refine S.c ?_ (h := k2); rintro _ _ ⟨n2, hn2, rfl, rfl⟩; clear k2) | (refine G.call 16 ?_; refine S.c ?_ (h := j2); rintro _ _ ⟨m2, hm2, rfl, rfl⟩; obtain rfl := hm2.uniq hn2 rfl (fun _ _ => Iff.rfl); clear j2) | (refine G.call 17 ?_; refine S.c ?_ (h := k3); rintro _ _ ⟨n3, hn3, rfl, rfl⟩; clear k3) | (refine G.call 18 ?_; refine S.c ?_ (h := j3); rintro _ _ ⟨m3, hm3, rfl, rfl⟩; obtain rfl := hm3.uniq hn3 rfl (fun _ _ => Iff.rfl); clear j3) | (refine G.call 21 ?_; refine S.c ?_ (h := k5); rintro _ _ ⟨n5, hn5, rfl, rfl⟩; clear k5) | (refine G.call 22 ?_; refine S.c ?_ (h := j5); rintro _ _ ⟨m5, hm5, rfl, rfl⟩; obtain rfl := hm5.uniq hn5 rfl (fun _ _ => Iff.rfl); clear j5) | (refine G.call 19 ?_; refine S.c ?_ (h := k4); rintro _ _ ⟨rfl, rfl⟩) | (refine G.call 20 ?_; refine S.c ?_ (h := j4); rintro _ _ ⟨rfl, rfl⟩) | (refine G.call 24 ?_; refine S.c ?_ (h := k6); rintro _ _ ⟨t1, rfl, rfl⟩) | (refine G.call 25 ?_; refine S.c ?_ (h := j6); rintro _ _ ⟨t2, rfl, rfl⟩) | (refine G.call 23 ?_; refine S.c ?_ (h := xJK hnl); rintro _ _ ⟨rfl, rfl⟩) | (refine G.call 12 ?_; refine S.c ?_ (h := xDc); rintro _ _ ⟨rfl, rfl⟩) | refine S.x ?_ | refine S.y ?_ ?_ | (refine G.prop ?_; assumption) | intro hb | ((fail_if_success refine G.tr ?_); exact G.prop S.p) | fail)
  all_goals exact S.L
 ·have hX := And.intro @xCe @pl4.eq_def; repeat' (first | (refine G.call 10 ?_; refine S.c ?_ (h := hsh); rintro _ _ ⟨y1, hy1, rfl, rfl⟩; cases y1) | (refine G.call 12 ?_; refine S.c ?_ (h := xDc); rintro _ _ ⟨rfl, rfl⟩) | refine S.x ?_ | refine S.y ?_ ?_ | (refine G.prop ?_; assumption) | intro hb | ((fail_if_success refine G.tr ?_); exact G.prop S.p) | fail)
  all_goals exact S.L
