import Derived.Test.YtkcbhdjhbnnlgaaProg
import Derived.Test.YtkcbhdjhbnnlgaaZE3
section
/- The resolved code of the functions that are reached, and that it stands for the program's own. -/
set_option linter.unusedVariables false
namespace Go.Proofs.Ytkcbhdjhbnnlgaa
open Go Go.RowKit Go.Proofs.Ytkcbhdjhbnnlgaa.Abs
theorem mixed : Try.prog.follows .mixedOrders = true := by kernel_rfl
def r3 : RC := (.seq (.reg [.op (some 2) (.mv (.v (.lit (.bool false))))])
 (.seq (.seq (.reg [.op (some 55) (.mv (.t 0)),
  .op (some 56) (.call (.v (.lit (.func (.func 6) #[] #[]))) [(.t 55)])])
 (.cond (.t 56)
 (.seq (.reg [.op (some 2) (.mv (.v (.lit (.bool true))))])
 .ret)
 .skip))
 (.seq (.reg [.op (some 58) (.mv (.t 0)),
  .op (some 59) (.call (.v (.lit (.func (.func 7) #[] #[]))) [(.t 58)]),
  .op (some 57) (.mv (.t 59)),
  .op (some 60) (.ext (.t 57) 0),
  .op (some 61) (.ext (.t 57) 1),
  .op (some 62) (.ext (.t 57) 2),
  .op (some 3) (.alloc 26 (List.replicate 6 (.lit (.int .i64 (0))))),
  .op (some 4) (.alloc 26 (List.replicate 6 (.lit (.int .i64 (0))))),
  .op (some 5) (.alloc 27 [(.lit (.int .i64 (0))), (.lit (.int .i64 (0)))]),
  .op none (.store 6 (.t 3) (.t 60)),
  .op none (.store 6 (.t 4) (.t 61)),
  .op none (.store 2 (.t 5) (.t 62))])
 (.seq (.reg [.op (some 64) (.load 6 true (.t 3)),
  .op (some 65) (.load 6 true (.t 4)),
  .op (some 66) (.load 2 true (.t 5)),
  .op (some 67) (.call (.v (.lit (.func (.func 8) #[] #[]))) [(.t 64), (.t 65), (.t 66)]),
  .op (some 63) (.mv (.t 67)),
  .op (some 68) (.ext (.t 63) 0),
  .op (some 69) (.ext (.t 63) 1),
  .op (some 6) (.alloc 26 (List.replicate 6 (.lit (.int .i64 (0))))),
  .op none (.store 6 (.t 6) (.t 68)),
  .op (some 7) (.mv (.t 69))])
 (.seq (.seq (.reg [.op (some 71) (.load 6 true (.t 3)),
  .op (some 72) (.load 6 true (.t 4)),
  .op (some 73) (.load 2 true (.t 5)),
  .op (some 74) (.call (.v (.lit (.func (.func 9) #[] #[]))) [(.t 71), (.t 72), (.t 73)]),
  .op (some 70) (.mv (.t 74)),
  .op (some 75) (.ext (.t 70) 0),
  .op (some 76) (.ext (.t 70) 1),
  .op (some 8) (.alloc 26 (List.replicate 6 (.lit (.int .i64 (0))))),
  .op none (.store 6 (.t 8) (.t 75)),
  .op (some 9) (.mv (.t 76))])
 (.seq (.reg [.op (some 77) (.load 6 true (.t 6)),
  .op (some 78) (.load 6 true (.t 8)),
  .op (some 79) (.eqA true [.int, .int, .int, .int, .int, .int] (.t 77) (.t 78)),
  .op (some 80) (.mv (.t 79)),
  .grp 80 false [((some 81), (.mv (.t 7))), ((some 82), (.mv (.t 9))), ((some 83), (.binB true (.t 81) (.t 82)))],
  .op (some 84) (.pick (.t 80) (.v (.lit (.bool true))) (.t 83))])
 (.cond (.t 84)
 (.seq (.reg [.op (some 2) (.mv (.v (.lit (.bool false))))])
 .ret)
 .skip)))
 (.seq (.reg [.op (some 86) (.load 6 true (.t 3)),
  .op (some 87) (.load 6 true (.t 4)),
  .op (some 88) (.load 2 true (.t 5)),
  .op (some 89) (.call (.v (.lit (.func (.func 10) #[] #[]))) [(.t 86), (.t 87), (.t 88)]),
  .op (some 85) (.mv (.t 89)),
  .op (some 90) (.ext (.t 85) 0),
  .op (some 91) (.ext (.t 85) 1),
  .op (some 10) (.alloc 26 (List.replicate 6 (.lit (.int .i64 (0))))),
  .op none (.store 6 (.t 10) (.t 90)),
  .op (some 11) (.mv (.t 91))])
 (.seq (.seq (.reg [.op (some 93) (.load 6 true (.t 3)),
  .op (some 94) (.load 6 true (.t 4)),
  .op (some 95) (.load 2 true (.t 5)),
  .op (some 96) (.call (.v (.lit (.func (.func 11) #[] #[]))) [(.t 93), (.t 94), (.t 95)]),
  .op (some 92) (.mv (.t 96)),
  .op (some 97) (.ext (.t 92) 0),
  .op (some 98) (.ext (.t 92) 1),
  .op (some 12) (.alloc 26 (List.replicate 6 (.lit (.int .i64 (0))))),
  .op none (.store 6 (.t 12) (.t 97)),
  .op (some 13) (.mv (.t 98))])
 (.seq (.reg [.op (some 99) (.load 6 true (.t 10)),
  .op (some 100) (.load 6 true (.t 12)),
  .op (some 101) (.eqA true [.int, .int, .int, .int, .int, .int] (.t 99) (.t 100)),
  .op (some 102) (.mv (.t 101)),
  .grp 102 false [((some 103), (.mv (.t 11))), ((some 104), (.mv (.t 13))), ((some 105), (.binB true (.t 103) (.t 104)))],
  .op (some 106) (.pick (.t 102) (.v (.lit (.bool true))) (.t 105)),
  .op (some 107) (.mv (.t 106)),
  .grp 107 false [((some 108), (.mv (.t 11))), ((some 109), (.mv (.t 7))), ((some 110), (.binB true (.t 108) (.t 109)))],
  .op (some 111) (.pick (.t 107) (.v (.lit (.bool true))) (.t 110))])
 (.cond (.t 111)
 (.seq (.reg [.op (some 2) (.mv (.v (.lit (.bool false))))])
 .ret)
 .skip)))
 (.seq (.reg [.op (some 113) (.load 6 true (.t 3)),
  .op (some 114) (.load 6 true (.t 4)),
  .op (some 115) (.load 2 true (.t 5)),
  .op (some 116) (.call (.v (.lit (.func (.func 12) #[] #[]))) [(.t 113), (.t 114), (.t 115)]),
  .op (some 112) (.mv (.t 116)),
  .op (some 117) (.ext (.t 112) 0),
  .op (some 118) (.ext (.t 112) 1),
  .op (some 14) (.alloc 26 (List.replicate 6 (.lit (.int .i64 (0))))),
  .op none (.store 6 (.t 14) (.t 117)),
  .op (some 15) (.mv (.t 118))])
 (.seq (.seq (.reg [.op (some 120) (.load 6 true (.t 3)),
  .op (some 121) (.load 6 true (.t 4)),
  .op (some 122) (.load 2 true (.t 5)),
  .op (some 123) (.call (.v (.lit (.func (.func 13) #[] #[]))) [(.t 120), (.t 121), (.t 122)]),
  .op (some 119) (.mv (.t 123)),
  .op (some 124) (.ext (.t 119) 0),
  .op (some 125) (.ext (.t 119) 1),
  .op (some 16) (.alloc 26 (List.replicate 6 (.lit (.int .i64 (0))))),
  .op none (.store 6 (.t 16) (.t 124)),
  .op (some 17) (.mv (.t 125))])
 (.seq (.reg [.op (some 126) (.load 6 true (.t 14)),
  .op (some 127) (.load 6 true (.t 16)),
  .op (some 128) (.eqA true [.int, .int, .int, .int, .int, .int] (.t 126) (.t 127)),
  .op (some 129) (.mv (.t 128)),
  .grp 129 false [((some 130), (.mv (.t 15))), ((some 131), (.mv (.t 17))), ((some 132), (.binB true (.t 130) (.t 131)))],
  .op (some 133) (.pick (.t 129) (.v (.lit (.bool true))) (.t 132)),
  .op (some 134) (.mv (.t 133)),
  .grp 134 false [((some 135), (.mv (.t 15))), ((some 136), (.mv (.t 7))), ((some 137), (.binB true (.t 135) (.t 136)))],
  .op (some 138) (.pick (.t 134) (.v (.lit (.bool true))) (.t 137))])
 (.cond (.t 138)
 (.seq (.reg [.op (some 2) (.mv (.v (.lit (.bool false))))])
 .ret)
 .skip)))
 (.seq (.reg [.op (some 140) (.mv (.t 0)),
  .op (some 141) (.call (.v (.lit (.func (.func 14) #[] #[]))) [(.t 140)]),
  .op (some 139) (.mv (.t 141)),
  .op (some 142) (.ext (.t 139) 0),
  .op (some 143) (.ext (.t 139) 1),
  .op (some 144) (.ext (.t 139) 2),
  .op (some 18) (.alloc 26 (List.replicate 6 (.lit (.int .i64 (0))))),
  .op none (.store 6 (.t 18) (.t 142)),
  .op (some 19) (.mv (.t 143)),
  .op (some 20) (.mv (.t 144))])
 (.seq (.reg [.op (some 146) (.load 6 true (.t 18)),
  .op (some 147) (.mv (.t 19)),
  .op (some 148) (.mv (.t 20)),
  .op (some 149) (.call (.v (.lit (.func (.func 15) #[] #[]))) [(.t 146), (.t 147), (.t 148)]),
  .op (some 145) (.mv (.t 149)),
  .op (some 150) (.ext (.t 145) 0),
  .op (some 151) (.ext (.t 145) 1),
  .op (some 21) (.alloc 26 (List.replicate 6 (.lit (.int .i64 (0))))),
  .op none (.store 6 (.t 21) (.t 150)),
  .op (some 22) (.mv (.t 151))])
 (.seq (.seq (.reg [.op (some 153) (.load 6 true (.t 18)),
  .op (some 154) (.mv (.t 19)),
  .op (some 155) (.mv (.t 20)),
  .op (some 156) (.call (.v (.lit (.func (.func 16) #[] #[]))) [(.t 153), (.t 154), (.t 155)]),
  .op (some 152) (.mv (.t 156)),
  .op (some 157) (.ext (.t 152) 0),
  .op (some 158) (.ext (.t 152) 1),
  .op (some 23) (.alloc 26 (List.replicate 6 (.lit (.int .i64 (0))))),
  .op none (.store 6 (.t 23) (.t 157)),
  .op (some 24) (.mv (.t 158))])
 (.seq (.reg [.op (some 159) (.load 6 true (.t 21)),
  .op (some 160) (.load 6 true (.t 23)),
  .op (some 161) (.eqA true [.int, .int, .int, .int, .int, .int] (.t 159) (.t 160)),
  .op (some 162) (.mv (.t 161)),
  .grp 162 false [((some 163), (.mv (.t 22))), ((some 164), (.mv (.t 24))), ((some 165), (.binB true (.t 163) (.t 164)))],
  .op (some 166) (.pick (.t 162) (.v (.lit (.bool true))) (.t 165)),
  .op (some 167) (.mv (.t 166)),
  .grp 167 false [((some 168), (.mv (.t 22))), ((some 169), (.load 6 true (.t 18))), ((some 170), (.call (.v (.lit (.func (.func 17) #[] #[]))) [(.t 169)])), ((some 171), (.binB true (.t 168) (.t 170)))],
  .op (some 172) (.pick (.t 167) (.v (.lit (.bool true))) (.t 171))])
 (.cond (.t 172)
 (.seq (.reg [.op (some 2) (.mv (.v (.lit (.bool false))))])
 .ret)
 .skip)))
 (.seq (.reg [.op (some 174) (.mv (.t 0)),
  .op (some 175) (.call (.v (.lit (.func (.func 18) #[] #[]))) [(.t 174)]),
  .op (some 173) (.mv (.t 175)),
  .op (some 176) (.ext (.t 173) 0),
  .op (some 177) (.ext (.t 173) 1),
  .op (some 25) (.alloc 26 (List.replicate 6 (.lit (.int .i64 (0))))),
  .op (some 26) (.alloc 27 [(.lit (.int .i64 (0))), (.lit (.int .i64 (0)))]),
  .op none (.store 6 (.t 25) (.t 176)),
  .op none (.store 2 (.t 26) (.t 177))])
 (.seq (.reg [.op (some 179) (.load 6 true (.t 25)),
  .op (some 180) (.load 2 true (.t 26)),
  .op (some 181) (.call (.v (.lit (.func (.func 19) #[] #[]))) [(.t 179), (.t 180)]),
  .op (some 178) (.mv (.t 181)),
  .op (some 182) (.ext (.t 178) 0),
  .op (some 183) (.ext (.t 178) 1),
  .op (some 27) (.alloc 26 (List.replicate 6 (.lit (.int .i64 (0))))),
  .op none (.store 6 (.t 27) (.t 182)),
  .op (some 28) (.mv (.t 183))])
 (.seq (.seq (.reg [.op (some 185) (.load 6 true (.t 25)),
  .op (some 186) (.load 2 true (.t 26)),
  .op (some 187) (.call (.v (.lit (.func (.func 20) #[] #[]))) [(.t 185), (.t 186)]),
  .op (some 184) (.mv (.t 187)),
  .op (some 188) (.ext (.t 184) 0),
  .op (some 189) (.ext (.t 184) 1),
  .op (some 29) (.alloc 26 (List.replicate 6 (.lit (.int .i64 (0))))),
  .op none (.store 6 (.t 29) (.t 188)),
  .op (some 30) (.mv (.t 189))])
 (.seq (.reg [.op (some 190) (.load 6 true (.t 27)),
  .op (some 191) (.load 6 true (.t 29)),
  .op (some 192) (.eqA true [.int, .int, .int, .int, .int, .int] (.t 190) (.t 191)),
  .op (some 193) (.mv (.t 192)),
  .grp 193 false [((some 194), (.mv (.t 28))), ((some 195), (.mv (.t 30))), ((some 196), (.binB true (.t 194) (.t 195)))],
  .op (some 197) (.pick (.t 193) (.v (.lit (.bool true))) (.t 196))])
 (.cond (.t 197)
 (.seq (.reg [.op (some 2) (.mv (.v (.lit (.bool false))))])
 .ret)
 .skip)))
 (.seq (.reg [.op (some 199) (.load 6 true (.t 25)),
  .op (some 200) (.load 2 true (.t 26)),
  .op (some 201) (.call (.v (.lit (.func (.func 21) #[] #[]))) [(.t 199), (.t 200)]),
  .op (some 198) (.mv (.t 201)),
  .op (some 202) (.ext (.t 198) 0),
  .op (some 203) (.ext (.t 198) 1),
  .op (some 31) (.mv (.t 202)),
  .op (some 32) (.mv (.t 203))])
 (.seq (.seq (.reg [.op (some 205) (.load 6 true (.t 25)),
  .op (some 206) (.load 2 true (.t 26)),
  .op (some 207) (.call (.v (.lit (.func (.func 22) #[] #[]))) [(.t 205), (.t 206)]),
  .op (some 204) (.mv (.t 207)),
  .op (some 208) (.ext (.t 204) 0),
  .op (some 209) (.ext (.t 204) 1),
  .op (some 33) (.mv (.t 208)),
  .op (some 34) (.mv (.t 209))])
 (.seq (.reg [.op (some 210) (.mv (.t 31)),
  .op (some 211) (.mv (.t 33)),
  .op (some 212) (.binB true (.t 210) (.t 211)),
  .op (some 213) (.mv (.t 212)),
  .grp 213 false [((some 214), (.mv (.t 32))), ((some 215), (.mv (.t 34))), ((some 216), (.binB true (.t 214) (.t 215)))],
  .op (some 217) (.pick (.t 213) (.v (.lit (.bool true))) (.t 216)),
  .op (some 218) (.mv (.t 217)),
  .grp 218 false [((some 219), (.mv (.t 32))), ((some 220), (.mv (.t 28))), ((some 221), (.binB true (.t 219) (.t 220)))],
  .op (some 222) (.pick (.t 218) (.v (.lit (.bool true))) (.t 221))])
 (.cond (.t 222)
 (.seq (.reg [.op (some 2) (.mv (.v (.lit (.bool false))))])
 .ret)
 .skip)))
 (.seq (.seq (.reg [.op (some 223) (.mv (.t 28))])
 (.cond (.t 223)
 (.seq (.reg [.op (some 225) (.load 6 true (.t 27)),
  .op (some 226) (.load 2 true (.t 26)),
  .op (some 227) (.call (.v (.lit (.func (.func 21) #[] #[]))) [(.t 225), (.t 226)]),
  .op (some 224) (.mv (.t 227)),
  .op (some 228) (.ext (.t 224) 0),
  .op (some 229) (.ext (.t 224) 1),
  .op (some 35) (.mv (.t 228)),
  .op (some 36) (.mv (.t 229))])
 (.seq (.reg [.op (some 231) (.load 6 true (.t 27)),
  .op (some 232) (.load 2 true (.t 26)),
  .op (some 233) (.call (.v (.lit (.func (.func 19) #[] #[]))) [(.t 231), (.t 232)]),
  .op (some 230) (.mv (.t 233)),
  .op (some 234) (.ext (.t 230) 0),
  .op (some 235) (.ext (.t 230) 1),
  .op (some 37) (.alloc 26 (List.replicate 6 (.lit (.int .i64 (0))))),
  .op none (.store 6 (.t 37) (.t 234)),
  .op (some 38) (.mv (.t 235))])
 (.seq (.reg [.op (some 236) (.mv (.t 36)),
  .op (some 237) (.un .not (.t 236)),
  .op (some 238) (.mv (.t 237)),
  .grp 238 false [((some 239), (.mv (.t 38))), ((some 240), (.un .not (.t 239)))],
  .op (some 241) (.pick (.t 238) (.v (.lit (.bool true))) (.t 240)),
  .op (some 242) (.mv (.t 241)),
  .grp 242 false [((some 243), (.mv (.t 35))), ((some 244), (.mv (.t 31))), ((some 245), (.binB false (.t 243) (.t 244)))],
  .op (some 246) (.pick (.t 242) (.v (.lit (.bool true))) (.t 245)),
  .op (some 247) (.mv (.t 246)),
  .grp 247 false [((some 248), (.load 6 true (.t 37))), ((some 249), (.load 6 true (.t 25))), ((some 250), (.eqA true [.int, .int, .int, .int, .int, .int] (.t 248) (.t 249)))],
  .op (some 251) (.pick (.t 247) (.v (.lit (.bool true))) (.t 250))])
 (.cond (.t 251)
 (.seq (.reg [.op (some 2) (.mv (.v (.lit (.bool false))))])
 .ret)
 .skip))))
 .skip))
 (.seq (.seq (.reg [.op (some 252) (.mv (.t 22))])
 (.cond (.t 252)
 (.seq (.reg [.op (some 254) (.load 6 true (.t 18)),
  .op (some 255) (.call (.v (.lit (.func (.func 23) #[] #[]))) [(.t 254)]),
  .op (some 253) (.mv (.t 255)),
  .op (some 256) (.ext (.t 253) 0),
  .op (some 257) (.ext (.t 253) 1),
  .op (some 39) (.mv (.t 256)),
  .op (some 40) (.mv (.t 257))])
 (.seq (.reg [.op (some 259) (.load 6 true (.t 21)),
  .op (some 260) (.call (.v (.lit (.func (.func 23) #[] #[]))) [(.t 259)]),
  .op (some 258) (.mv (.t 260)),
  .op (some 261) (.ext (.t 258) 0),
  .op (some 262) (.ext (.t 258) 1),
  .op (some 41) (.mv (.t 261)),
  .op (some 42) (.mv (.t 262))])
 (.seq (.seq (.reg [.op (some 263) (.mv (.t 40)),
  .op (some 264) (.un .not (.t 263)),
  .op (some 265) (.mv (.t 264)),
  .grp 265 false [((some 266), (.mv (.t 42))), ((some 267), (.un .not (.t 266)))],
  .op (some 268) (.pick (.t 265) (.v (.lit (.bool true))) (.t 267)),
  .op (some 269) (.mv (.t 268)),
  .grp 269 false [((some 270), (.mv (.t 39))), ((some 271), (.mv (.t 41))), ((some 272), (.binI .neq (.t 270) (.t 271)))],
  .op (some 273) (.pick (.t 269) (.v (.lit (.bool true))) (.t 272))])
 (.cond (.t 273)
 (.seq (.reg [.op (some 2) (.mv (.v (.lit (.bool false))))])
 .ret)
 .skip))
 (.seq (.reg [.op (some 274) (.mv (.t 19)),
  .op (some 275) (.binI .gtr (.t 274) (.v (.lit (.int .i64 (-1000))))),
  .op (some 276) (.mv (.t 275)),
  .grp 276 true [((some 277), (.mv (.t 19))), ((some 278), (.binI .lss (.t 277) (.v (.lit (.int .i64 (1000))))))],
  .op (some 279) (.pick (.t 276) (.t 278) (.v (.lit (.bool false))))])
 (.cond (.t 279)
 (.seq (.reg [.op (some 281) (.load 6 true (.t 21)),
  .op (some 282) (.mv (.t 19)),
  .op (some 283) (.un .neg (.t 282)),
  .op (some 284) (.mv (.t 20)),
  .op (some 285) (.un .neg (.t 284)),
  .op (some 286) (.call (.v (.lit (.func (.func 15) #[] #[]))) [(.t 281), (.t 283), (.t 285)]),
  .op (some 280) (.mv (.t 286)),
  .op (some 287) (.ext (.t 280) 0),
  .op (some 288) (.ext (.t 280) 1),
  .op (some 43) (.alloc 26 (List.replicate 6 (.lit (.int .i64 (0))))),
  .op none (.store 6 (.t 43) (.t 287)),
  .op (some 44) (.mv (.t 288))])
 (.seq (.reg [.op (some 290) (.load 6 true (.t 18)),
  .op (some 291) (.mv (.t 19)),
  .op (some 292) (.binI .add (.t 291) (.v (.lit (.int .i64 (6))))),
  .op (some 293) (.mv (.t 20)),
  .op (some 294) (.binI .sub (.t 293) (.v (.lit (.int .i64 (6))))),
  .op (some 295) (.call (.v (.lit (.func (.func 15) #[] #[]))) [(.t 290), (.t 292), (.t 294)]),
  .op (some 289) (.mv (.t 295)),
  .op (some 296) (.ext (.t 289) 0),
  .op (some 297) (.ext (.t 289) 1),
  .op (some 45) (.alloc 26 (List.replicate 6 (.lit (.int .i64 (0))))),
  .op none (.store 6 (.t 45) (.t 296)),
  .op (some 46) (.mv (.t 297))])
 (.seq (.reg [.op (some 298) (.mv (.t 44)),
  .op (some 299) (.un .not (.t 298)),
  .op (some 300) (.mv (.t 299)),
  .grp 300 false [((some 301), (.mv (.t 46))), ((some 302), (.un .not (.t 301)))],
  .op (some 303) (.pick (.t 300) (.v (.lit (.bool true))) (.t 302)),
  .op (some 304) (.mv (.t 303)),
  .grp 304 false [((some 305), (.load 6 true (.t 43))), ((some 306), (.load 6 true (.t 18))), ((some 307), (.eqA true [.int, .int, .int, .int, .int, .int] (.t 305) (.t 306)))],
  .op (some 308) (.pick (.t 304) (.v (.lit (.bool true))) (.t 307)),
  .op (some 309) (.mv (.t 308)),
  .grp 309 false [((some 310), (.load 6 true (.t 45))), ((some 311), (.load 6 true (.t 21))), ((some 312), (.eqA true [.int, .int, .int, .int, .int, .int] (.t 310) (.t 311)))],
  .op (some 313) (.pick (.t 309) (.v (.lit (.bool true))) (.t 312))])
 (.cond (.t 313)
 (.seq (.reg [.op (some 2) (.mv (.v (.lit (.bool false))))])
 .ret)
 .skip))))
 .skip)))))
 .skip))
 (.seq (.seq (.reg [.op (some 314) (.mv (.t 7)),
  .op (some 315) (.un .not (.t 314))])
 (.cond (.t 315)
 (.seq (.reg [.op (some 2) (.mv (.v (.lit (.bool true))))])
 .ret)
 .skip))
 (.seq (.reg [.op (some 317) (.load 6 true (.t 4)),
  .op (some 318) (.iaddrA 2 1 (.t 5) (.v (.lit (.int .i64 (0))))),
  .op (some 319) (.load 1 false (.t 318)),
  .op (some 320) (.iaddrA 2 1 (.t 5) (.v (.lit (.int .i64 (1))))),
  .op (some 321) (.load 1 false (.t 320)),
  .op (some 322) (.call (.v (.lit (.func (.func 15) #[] #[]))) [(.t 317), (.t 319), (.t 321)]),
  .op (some 316) (.mv (.t 322)),
  .op (some 323) (.ext (.t 316) 0),
  .op (some 324) (.ext (.t 316) 1),
  .op (some 47) (.alloc 26 (List.replicate 6 (.lit (.int .i64 (0))))),
  .op none (.store 6 (.t 47) (.t 323)),
  .op (some 48) (.mv (.t 324))])
 (.seq (.reg [.op (some 326) (.load 6 true (.t 6)),
  .op (some 327) (.load 6 true (.t 4)),
  .op (some 328) (.load 2 true (.t 5)),
  .op (some 329) (.call (.v (.lit (.func (.func 8) #[] #[]))) [(.t 326), (.t 327), (.t 328)]),
  .op (some 325) (.mv (.t 329)),
  .op (some 330) (.ext (.t 325) 0),
  .op (some 331) (.ext (.t 325) 1),
  .op (some 49) (.alloc 26 (List.replicate 6 (.lit (.int .i64 (0))))),
  .op none (.store 6 (.t 49) (.t 330)),
  .op (some 50) (.mv (.t 331))])
 (.seq (.reg [.op (some 333) (.load 6 true (.t 47)),
  .op (some 334) (.load 6 true (.t 10)),
  .op (some 335) (.call (.v (.lit (.func (.func 24) #[] #[]))) [(.t 333), (.t 334)]),
  .op (some 332) (.mv (.t 335)),
  .op (some 336) (.ext (.t 332) 0),
  .op (some 337) (.ext (.t 332) 1),
  .op (some 51) (.mv (.t 336)),
  .op (some 52) (.mv (.t 337))])
 (.seq (.reg [.op (some 339) (.load 6 true (.t 47)),
  .op (some 340) (.load 6 true (.t 14)),
  .op (some 341) (.call (.v (.lit (.func (.func 25) #[] #[]))) [(.t 339), (.t 340)]),
  .op (some 338) (.mv (.t 341)),
  .op (some 342) (.ext (.t 338) 0),
  .op (some 343) (.ext (.t 338) 1),
  .op (some 53) (.alloc 26 (List.replicate 6 (.lit (.int .i64 (0))))),
  .op none (.store 6 (.t 53) (.t 342)),
  .op (some 54) (.mv (.t 343))])
 (.seq (.reg [.op (some 344) (.mv (.t 48)),
  .op (some 345) (.mv (.t 344)),
  .grp 345 true [((some 346), (.mv (.t 50)))],
  .op (some 347) (.pick (.t 345) (.t 346) (.v (.lit (.bool false)))),
  .op (some 348) (.mv (.t 347)),
  .grp 348 true [((some 349), (.mv (.t 52)))],
  .op (some 350) (.pick (.t 348) (.t 349) (.v (.lit (.bool false)))),
  .op (some 351) (.mv (.t 350)),
  .grp 351 true [((some 352), (.mv (.t 54)))],
  .op (some 353) (.pick (.t 351) (.t 352) (.v (.lit (.bool false)))),
  .op (some 354) (.mv (.t 353)),
  .grp 354 true [((some 355), (.load 6 true (.t 49))), ((some 356), (.load 6 true (.t 3))), ((some 357), (.eqA false [.int, .int, .int, .int, .int, .int] (.t 355) (.t 356)))],
  .op (some 358) (.pick (.t 354) (.t 357) (.v (.lit (.bool false)))),
  .op (some 359) (.mv (.t 358)),
  .grp 359 true [((some 360), (.mv (.t 51)))],
  .op (some 361) (.pick (.t 359) (.t 360) (.v (.lit (.bool false)))),
  .op (some 362) (.mv (.t 361)),
  .grp 362 true [((some 363), (.load 6 true (.t 53))), ((some 364), (.build (List.replicate 6 (.lit (.int .i64 (0)))) [])), ((some 365), (.eqA false [.int, .int, .int, .int, .int, .int] (.t 363) (.t 364)))],
  .op (some 366) (.pick (.t 362) (.t 365) (.v (.lit (.bool false)))),
  .op (some 2) (.mv (.t 366))])
 .ret)))))))))))))))))))))))))
def cut3 : Nat → Nat := fun id => 0
theorem k3 : (Try.f3.body.bind fun c => comp Try.prog Try.f3.ntmps cut3 c) = some r3 := by kernel_rfl
def r4 : RC := (.seq (.reg [.op (some 2) (.mv (.v (.lit (.bool false))))])
 (.seq (.seq (.reg [.op (some 29) (.mv (.t 0)),
  .op (some 30) (.call (.v (.lit (.func (.func 26) #[] #[]))) [(.t 29)])])
 (.cond (.t 30)
 (.seq (.reg [.op (some 2) (.mv (.v (.lit (.bool true))))])
 .ret)
 .skip))
 (.seq (.reg [.op (some 32) (.mv (.t 0)),
  .op (some 33) (.call (.v (.lit (.func (.func 27) #[] #[]))) [(.t 32)]),
  .op (some 31) (.mv (.t 33)),
  .op (some 34) (.ext (.t 31) 0),
  .op (some 35) (.ext (.t 31) 1),
  .op (some 3) (.alloc 26 (List.replicate 6 (.lit (.int .i64 (0))))),
  .op (some 4) (.alloc 26 (List.replicate 6 (.lit (.int .i64 (0))))),
  .op none (.store 6 (.t 3) (.t 34)),
  .op none (.store 6 (.t 4) (.t 35))])
 (.seq (.reg [.op (some 37) (.load 6 true (.t 3)),
  .op (some 38) (.load 6 true (.t 4)),
  .op (some 39) (.call (.v (.lit (.func (.func 28) #[] #[]))) [(.t 37), (.t 38)]),
  .op (some 36) (.mv (.t 39)),
  .op (some 40) (.ext (.t 36) 0),
  .op (some 41) (.ext (.t 36) 1),
  .op (some 5) (.alloc 48 (List.replicate 14 (.lit (.int .i64 (0))))),
  .op none (.store 14 (.t 5) (.t 40)),
  .op (some 6) (.mv (.t 41))])
 (.seq (.reg [.op (some 43) (.load 6 true (.t 3)),
  .op (some 44) (.load 6 true (.t 4)),
  .op (some 45) (.call (.v (.lit (.func (.func 29) #[] #[]))) [(.t 43), (.t 44)]),
  .op (some 42) (.mv (.t 45)),
  .op (some 46) (.ext (.t 42) 0),
  .op (some 47) (.ext (.t 42) 1),
  .op (some 7) (.alloc 48 (List.replicate 14 (.lit (.int .i64 (0))))),
  .op none (.store 14 (.t 7) (.t 46)),
  .op (some 8) (.mv (.t 47))])
 (.seq (.reg [.op (some 49) (.mv (.t 0)),
  .op (some 50) (.call (.v (.lit (.func (.func 31) #[] #[]))) [(.t 49), (.v (.lit (.int .i64 (1))))]),
  .op (some 51) (.call (.v (.lit (.func (.func 30) #[] #[]))) [(.t 50)]),
  .op (some 48) (.mv (.t 51)),
  .op (some 52) (.ext (.t 48) 0),
  .op (some 53) (.ext (.t 48) 1),
  .op (some 9) (.alloc 48 (List.replicate 14 (.lit (.int .i64 (0))))),
  .op (some 10) (.alloc 52 [(.lit (.int .i64 (0))), (.lit (.int .i64 (0))), (.lit (.int .i64 (0)))]),
  .op none (.store 14 (.t 9) (.t 52)),
  .op none (.store 3 (.t 10) (.t 53))])
 (.seq (.reg [.op (some 55) (.load 14 true (.t 9)),
  .op (some 56) (.load 3 true (.t 10)),
  .op (some 57) (.call (.v (.lit (.func (.func 32) #[] #[]))) [(.t 55), (.t 56)]),
  .op (some 54) (.mv (.t 57)),
  .op (some 58) (.ext (.t 54) 0),
  .op (some 59) (.ext (.t 54) 1),
  .op (some 11) (.alloc 48 (List.replicate 14 (.lit (.int .i64 (0))))),
  .op none (.store 14 (.t 11) (.t 58)),
  .op (some 12) (.mv (.t 59))])
 (.seq (.reg [.op (some 61) (.load 14 true (.t 9)),
  .op (some 62) (.load 3 true (.t 10)),
  .op (some 63) (.call (.v (.lit (.func (.func 33) #[] #[]))) [(.t 61), (.t 62)]),
  .op (some 60) (.mv (.t 63)),
  .op (some 64) (.ext (.t 60) 0),
  .op (some 65) (.ext (.t 60) 1),
  .op (some 13) (.alloc 48 (List.replicate 14 (.lit (.int .i64 (0))))),
  .op none (.store 14 (.t 13) (.t 64)),
  .op (some 14) (.mv (.t 65))])
 (.seq (.reg [.op (some 67) (.mv (.t 0)),
  .op (some 68) (.call (.v (.lit (.func (.func 31) #[] #[]))) [(.t 67), (.v (.lit (.int .i64 (2))))]),
  .op (some 69) (.call (.v (.lit (.func (.func 34) #[] #[]))) [(.t 68)]),
  .op (some 66) (.mv (.t 69)),
  .op (some 70) (.ext (.t 66) 0),
  .op (some 71) (.ext (.t 66) 1),
  .op (some 15) (.alloc 48 (List.replicate 14 (.lit (.int .i64 (0))))),
  .op none (.store 14 (.t 15) (.t 70)),
  .op (some 16) (.mv (.t 71))])
 (.seq (.reg [.op (some 73) (.load 14 true (.t 15)),
  .op (some 74) (.mv (.t 16)),
  .op (some 75) (.call (.v (.lit (.func (.func 35) #[] #[]))) [(.t 73), (.t 74)]),
  .op (some 72) (.mv (.t 75)),
  .op (some 76) (.ext (.t 72) 0),
  .op (some 77) (.ext (.t 72) 1),
  .op (some 78) (.ext (.t 72) 2),
  .op (some 17) (.alloc 48 (List.replicate 14 (.lit (.int .i64 (0))))),
  .op none (.store 14 (.t 17) (.t 76)),
  .op (some 18) (.mv (.t 77)),
  .op (some 19) (.mv (.t 78))])
 (.seq (.reg [.op (some 80) (.load 14 true (.t 15)),
  .op (some 81) (.mv (.t 16)),
  .op (some 82) (.call (.v (.lit (.func (.func 36) #[] #[]))) [(.t 80), (.t 81)]),
  .op (some 79) (.mv (.t 82)),
  .op (some 83) (.ext (.t 79) 0),
  .op (some 84) (.ext (.t 79) 1),
  .op (some 85) (.ext (.t 79) 2),
  .op (some 20) (.alloc 48 (List.replicate 14 (.lit (.int .i64 (0))))),
  .op none (.store 14 (.t 20) (.t 83)),
  .op (some 21) (.mv (.t 84)),
  .op (some 22) (.mv (.t 85))])
 (.seq (.reg [.op (some 87) (.load 14 true (.t 9)),
  .op (some 88) (.call (.v (.lit (.func (.func 37) #[] #[]))) [(.t 87)]),
  .op (some 86) (.mv (.t 88)),
  .op (some 89) (.ext (.t 86) 0),
  .op (some 90) (.ext (.t 86) 1),
  .op (some 23) (.mv (.t 89)),
  .op (some 24) (.mv (.t 90))])
 (.seq (.reg [.op (some 92) (.load 14 true (.t 9)),
  .op (some 93) (.call (.v (.lit (.func (.func 38) #[] #[]))) [(.t 92)]),
  .op (some 91) (.mv (.t 93)),
  .op (some 94) (.ext (.t 91) 0),
  .op (some 95) (.ext (.t 91) 1),
  .op (some 25) (.mv (.t 94)),
  .op (some 26) (.mv (.t 95))])
 (.seq (.seq (.quiet [.op (some 96) (.load 14 true (.t 5)),
  .op (some 97) (.load 14 true (.t 7)),
  .op (some 98) (.eqA true [.int, .int, .int, .int, .int, .int, .int, .int, .int, .int, .int, .int, .int, .int] (.t 96) (.t 97)),
  .op (some 99) (.mv (.t 98)),
  .grp 99 false [((some 100), (.mv (.t 6))), ((some 101), (.mv (.t 8))), ((some 102), (.binB true (.t 100) (.t 101)))],
  .op (some 103) (.pick (.t 99) (.v (.lit (.bool true))) (.t 102)),
  .op (some 104) (.mv (.t 103)),
  .grp 104 false [((some 105), (.load 14 true (.t 11))), ((some 106), (.load 14 true (.t 13))), ((some 107), (.eqA true [.int, .int, .int, .int, .int, .int, .int, .int, .int, .int, .int, .int, .int, .int] (.t 105) (.t 106)))],
  .op (some 108) (.pick (.t 104) (.v (.lit (.bool true))) (.t 107)),
  .op (some 109) (.mv (.t 108)),
  .grp 109 false [((some 110), (.mv (.t 12))), ((some 111), (.mv (.t 14))), ((some 112), (.binB true (.t 110) (.t 111)))],
  .op (some 113) (.pick (.t 109) (.v (.lit (.bool true))) (.t 112)),
  .op (some 114) (.mv (.t 113)),
  .grp 114 false [((some 115), (.load 14 true (.t 17))), ((some 116), (.load 14 true (.t 20))), ((some 117), (.eqA true [.int, .int, .int, .int, .int, .int, .int, .int, .int, .int, .int, .int, .int, .int] (.t 115) (.t 116)))],
  .op (some 118) (.pick (.t 114) (.v (.lit (.bool true))) (.t 117)),
  .op (some 119) (.mv (.t 118)),
  .grp 119 false [((some 120), (.mv (.t 19))), ((some 121), (.mv (.t 22))), ((some 122), (.binB true (.t 120) (.t 121)))],
  .op (some 123) (.pick (.t 119) (.v (.lit (.bool true))) (.t 122)),
  .op (some 124) (.mv (.t 123)),
  .grp 124 false [((some 125), (.mv (.t 18))), ((some 126), (.mv (.t 21))), ((some 127), (.binI .neq (.t 125) (.t 126)))],
  .op (some 128) (.pick (.t 124) (.v (.lit (.bool true))) (.t 127)),
  .op (some 129) (.mv (.t 128)),
  .grp 129 false [((some 130), (.mv (.t 23))), ((some 131), (.mv (.t 25))), ((some 132), (.binI .neq (.t 130) (.t 131)))],
  .op (some 133) (.pick (.t 129) (.v (.lit (.bool true))) (.t 132)),
  .op (some 134) (.mv (.t 133)),
  .grp 134 false [((some 135), (.mv (.t 24))), ((some 136), (.mv (.t 26))), ((some 137), (.binB true (.t 135) (.t 136)))],
  .op (some 138) (.pick (.t 134) (.v (.lit (.bool true))) (.t 137)),
  .op (some 139) (.mv (.t 138)),
  .grp 139 false [((some 140), (.load 14 true (.t 9))), ((some 141), (.call (.v (.lit (.func (.func 39) #[] #[]))) [(.t 140)])), ((some 142), (.load 14 true (.t 9))), ((some 143), (.call (.v (.lit (.func (.func 40) #[] #[]))) [(.t 142)])), ((some 144), (.binB true (.t 141) (.t 143)))],
  .op (some 145) (.pick (.t 139) (.v (.lit (.bool true))) (.t 144)),
  .op (some 146) (.mv (.t 145)),
  .grp 146 false [((some 147), (.mv (.t 24))), ((some 148), (.load 14 true (.t 9))), ((some 149), (.call (.v (.lit (.func (.func 39) #[] #[]))) [(.t 148)])), ((some 150), (.binB true (.t 147) (.t 149)))],
  .op (some 151) (.pick (.t 146) (.v (.lit (.bool true))) (.t 150))] [])
 (.cond (.t 151)
 (.seq (.reg [.op (some 2) (.mv (.v (.lit (.bool false))))])
 .ret)
 .skip))
 (.seq (.seq (.reg [.op (some 152) (.mv (.t 19)),
  .op (some 153) (.mv (.t 152)),
  .grp 153 true [((some 154), (.load 14 true (.t 17))), ((some 155), (.call (.v (.lit (.func (.func 39) #[] #[]))) [(.t 154)])), ((some 156), (.un .not (.t 155)))],
  .op (some 157) (.pick (.t 153) (.t 156) (.v (.lit (.bool false))))])
 (.cond (.t 157)
 (.seq (.reg [.op (some 2) (.mv (.v (.lit (.bool false))))])
 .ret)
 .skip))
 (.seq (.seq (.reg [.op (some 158) (.mv (.t 12)),
  .op (some 159) (.un .not (.t 158))])
 (.cond (.t 159)
 (.seq (.reg [.op (some 2) (.mv (.v (.lit (.bool true))))])
 .ret)
 .skip))
 (.seq (.seq (.reg [.op (some 160) (.load 14 true (.t 11)),
  .op (some 161) (.call (.v (.lit (.func (.func 39) #[] #[]))) [(.t 160)]),
  .op (some 162) (.un .not (.t 161)),
  .op (some 163) (.mv (.t 162)),
  .grp 163 false [((some 164), (.faddr 13 (.t 11))), ((some 165), (.load 1 false (.t 164))), ((some 166), (.faddr 13 (.t 9))), ((some 167), (.load 1 false (.t 166))), ((some 168), (.binI .add (.t 167) (.v (.lit (.int .i64 (1)))))), ((some 169), (.binI .neq (.t 165) (.t 168)))],
  .op (some 170) (.pick (.t 163) (.v (.lit (.bool true))) (.t 169))])
 (.cond (.t 170)
 (.seq (.reg [.op (some 2) (.mv (.v (.lit (.bool false))))])
 .ret)
 .skip))
 (.seq (.reg [.op (some 172) (.load 14 true (.t 11)),
  .op (some 173) (.load 3 true (.t 10)),
  .op (some 174) (.call (.v (.lit (.func (.func 32) #[] #[]))) [(.t 172), (.t 173)]),
  .op (some 171) (.mv (.t 174)),
  .op (some 175) (.ext (.t 171) 0),
  .op (some 176) (.ext (.t 171) 1),
  .op (some 27) (.alloc 48 (List.replicate 14 (.lit (.int .i64 (0))))),
  .op none (.store 14 (.t 27) (.t 175)),
  .op (some 28) (.mv (.t 176))])
 (.seq (.seq (.reg [.op (some 177) (.mv (.t 28)),
  .op (some 178) (.un .not (.t 177))])
 (.cond (.t 178)
 (.seq (.reg [.op (some 179) (.faddr 13 (.t 11)),
  .op (some 180) (.load 1 false (.t 179)),
  .op (some 181) (.binI .eql (.t 180) (.v (.lit (.int .i64 (1000))))),
  .op (some 182) (.mv (.t 181)),
  .grp 182 false [((some 183), (.faddr 12 (.t 11))), ((some 184), (.load 1 false (.t 183))), ((some 185), (.binI .eql (.t 184) (.v (.lit (.int .i64 (1000))))))],
  .op (some 186) (.pick (.t 182) (.v (.lit (.bool true))) (.t 185)),
  .op (some 2) (.mv (.t 186))])
 .ret)
 .skip))
 (.seq (.seq (.reg [.op (some 187) (.faddr 0 (.t 10)),
  .op (some 188) (.load 1 false (.t 187))])
 (.block 0 (.seq (.reg [.op (some 190) (.binI .eql (.t 188) (.v (.lit (.int .i64 (1))))),
  .op (some 189) (.mv (.t 190))])
 (.cond (.t 189)
 (.seq (.reg [.op (some 191) (.faddr 0 (.t 27)),
  .op (some 192) (.load 6 true (.t 191)),
  .op (some 193) (.faddr 0 (.t 9)),
  .op (some 194) (.load 6 true (.t 193)),
  .op (some 195) (.eqA false [.int, .int, .int, .int, .int, .int] (.t 192) (.t 194)),
  .op (some 196) (.mv (.t 195)),
  .grp 196 true [((some 197), (.faddr 6 (.t 27))), ((some 198), (.load 6 true (.t 197))), ((some 199), (.faddr 6 (.t 9))), ((some 200), (.load 6 true (.t 199))), ((some 201), (.eqA false [.int, .int, .int, .int, .int, .int] (.t 198) (.t 200)))],
  .op (some 202) (.pick (.t 196) (.t 201) (.v (.lit (.bool false)))),
  .op (some 2) (.mv (.t 202))])
 .ret)
 (.seq (.seq (.reg [.op (some 204) (.binI .eql (.t 188) (.v (.lit (.int .i64 (6))))),
  .op (some 203) (.mv (.t 204))])
 (.cond (.t 203)
 .skip
 (.reg [.op (some 205) (.binI .eql (.t 188) (.v (.lit (.int .i64 (7))))),
  .op (some 203) (.mv (.t 205))])))
 (.cond (.t 203)
 (.seq (.reg [.op (some 206) (.faddr 0 (.t 27)),
  .op (some 207) (.load 6 true (.t 206)),
  .op (some 208) (.faddr 0 (.t 9)),
  .op (some 209) (.load 6 true (.t 208)),
  .op (some 210) (.eqA false [.int, .int, .int, .int, .int, .int] (.t 207) (.t 209)),
  .op (some 211) (.mv (.t 210)),
  .grp 211 true [((some 212), (.faddr 6 (.t 27))), ((some 213), (.load 6 true (.t 212))), ((some 214), (.faddr 6 (.t 9))), ((some 215), (.load 6 true (.t 214))), ((some 216), (.eqA false [.int, .int, .int, .int, .int, .int] (.t 213) (.t 215)))],
  .op (some 217) (.pick (.t 211) (.t 216) (.v (.lit (.bool false)))),
  .op (some 218) (.mv (.t 217)),
  .grp 218 true [((some 219), (.faddr 12 (.t 27))), ((some 220), (.load 1 false (.t 219))), ((some 221), (.faddr 12 (.t 9))), ((some 222), (.load 1 false (.t 221))), ((some 223), (.binI .eql (.t 220) (.t 222)))],
  .op (some 224) (.pick (.t 218) (.t 223) (.v (.lit (.bool false)))),
  .op (some 2) (.mv (.t 224))])
 .ret)
 (.seq (.seq (.reg [.op (some 226) (.binI .eql (.t 188) (.v (.lit (.int .i64 (2))))),
  .op (some 225) (.mv (.t 226))])
 (.cond (.t 225)
 .skip
 (.reg [.op (some 227) (.binI .eql (.t 188) (.v (.lit (.int .i64 (3))))),
  .op (some 225) (.mv (.t 227))])))
 (.cond (.t 225)
 (.seq (.reg [.op (some 228) (.faddr 0 (.t 27)),
  .op (some 229) (.load 6 true (.t 228)),
  .op (some 230) (.faddr 0 (.t 11)),
  .op (some 231) (.load 6 true (.t 230)),
  .op (some 232) (.eqA false [.int, .int, .int, .int, .int, .int] (.t 229) (.t 231)),
  .op (some 233) (.mv (.t 232)),
  .grp 233 true [((some 234), (.faddr 12 (.t 11))), ((some 235), (.load 1 false (.t 234))), ((some 236), (.faddr 12 (.t 9))), ((some 237), (.load 1 false (.t 236))), ((some 238), (.binI .add (.t 237) (.v (.lit (.int .i64 (1)))))), ((some 239), (.binI .eql (.t 235) (.t 238)))],
  .op (some 240) (.pick (.t 233) (.t 239) (.v (.lit (.bool false)))),
  .op (some 2) (.mv (.t 240))])
 .ret)
 .skip))))))))
 (.seq (.reg [.op (some 241) (.faddr 12 (.t 27)),
  .op (some 242) (.load 1 false (.t 241)),
  .op (some 243) (.faddr 12 (.t 9)),
  .op (some 244) (.load 1 false (.t 243)),
  .op (some 245) (.binI .eql (.t 242) (.t 244)),
  .op (some 2) (.mv (.t 245))])
 .ret)))))))))))))))))))))
def cut4 : Nat → Nat := fun id => 0
theorem k4 : (Try.f4.body.bind fun c => comp Try.prog Try.f4.ntmps cut4 c) = some r4 := by kernel_rfl
def r5 : RC := (.seq (.reg [.op (some 2) (.mv (.v (.lit (.bool false))))])
 (.seq (.seq (.reg [.op (some 46) (.mv (.t 0)),
  .op (some 47) (.call (.v (.lit (.func (.func 6) #[] #[]))) [(.t 46)])])
 (.cond (.t 47)
 (.seq (.reg [.op (some 2) (.mv (.v (.lit (.bool true))))])
 .ret)
 .skip))
 (.seq (.reg [.op (some 48) (.mv (.t 0)),
  .op (some 49) (.call (.v (.lit (.func (.func 41) #[] #[]))) [(.t 48)]),
  .op (some 3) (.alloc 67 [(.lit (.int .i64 (0))), (.lit (.int .i64 (0))), (.lit (.int .i64 (0))), (.lit (.int .i64 (0))), (.lit (.int .i64 (0))), (.lit (.int .i64 (0))), (.lit (.slice none 0 0)), (.lit (.slice none 0 0))]),
  .op none (.store 8 (.t 3) (.t 49))])
 (.seq (.reg [.op (some 51) (.load 8 true (.t 3)),
  .op (some 52) (.call (.v (.lit (.func (.func 42) #[] #[]))) [(.t 51)]),
  .op (some 50) (.mv (.t 52)),
  .op (some 53) (.ext (.t 50) 0),
  .op (some 54) (.ext (.t 50) 1),
  .op (some 4) (.alloc 69 (List.replicate 36 (.lit (.int .i64 (0))))),
  .op none (.store 36 (.t 4) (.t 53)),
  .op (some 5) (.mv (.t 54))])
 (.seq (.seq (.reg [.op (some 56) (.load 8 true (.t 3)),
  .op (some 57) (.call (.v (.lit (.func (.func 43) #[] #[]))) [(.t 56)]),
  .op (some 55) (.mv (.t 57)),
  .op (some 58) (.ext (.t 55) 0),
  .op (some 59) (.ext (.t 55) 1),
  .op (some 6) (.alloc 69 (List.replicate 36 (.lit (.int .i64 (0))))),
  .op none (.store 36 (.t 6) (.t 58)),
  .op (some 7) (.mv (.t 59))])
 (.seq (.reg [.op (some 60) (.load 36 true (.t 4)),
  .op (some 61) (.load 36 true (.t 6)),
  .op (some 62) (.eqA true [.int, .int, .int, .int, .int, .int, .int, .int, .int, .int, .int, .int, .int, .int, .int, .int, .int, .int, .int, .int, .int, .int, .int, .int, .int, .int, .int, .int, .int, .int, .int, .int, .int, .int, .int, .int] (.t 60) (.t 61)),
  .op (some 63) (.mv (.t 62)),
  .grp 63 false [((some 64), (.mv (.t 5))), ((some 65), (.mv (.t 7))), ((some 66), (.binB true (.t 64) (.t 65)))],
  .op (some 67) (.pick (.t 63) (.v (.lit (.bool true))) (.t 66)),
  .op (some 68) (.mv (.t 67)),
  .grp 68 false [((some 69), (.mv (.t 5))), ((some 70), (.load 8 true (.t 3))), ((some 71), (.call (.v (.lit (.func (.func 44) #[] #[]))) [(.t 70)])), ((some 72), (.binB true (.t 69) (.t 71)))],
  .op (some 73) (.pick (.t 68) (.v (.lit (.bool true))) (.t 72))])
 (.cond (.t 73)
 (.seq (.reg [.op (some 2) (.mv (.v (.lit (.bool false))))])
 .ret)
 .skip)))
 (.seq (.reg [.op (some 75) (.load 8 true (.t 3)),
  .op (some 76) (.call (.v (.lit (.func (.func 45) #[] #[]))) [(.t 75)]),
  .op (some 74) (.mv (.t 76)),
  .op (some 77) (.ext (.t 74) 0),
  .op (some 78) (.ext (.t 74) 1),
  .op (some 8) (.mv (.t 77)),
  .op (some 9) (.mv (.t 78))])
 (.seq (.seq (.reg [.op (some 80) (.load 8 true (.t 3)),
  .op (some 81) (.call (.v (.lit (.func (.func 46) #[] #[]))) [(.t 80)]),
  .op (some 79) (.mv (.t 81)),
  .op (some 82) (.ext (.t 79) 0),
  .op (some 83) (.ext (.t 79) 1),
  .op (some 10) (.mv (.t 82)),
  .op (some 11) (.mv (.t 83))])
 (.seq (.reg [.op (some 84) (.mv (.t 9)),
  .op (some 85) (.mv (.t 11)),
  .op (some 86) (.binB true (.t 84) (.t 85)),
  .op (some 87) (.mv (.t 86)),
  .grp 87 false [((some 88), (.mv (.t 9))), ((some 89), (.mv (.t 5))), ((some 90), (.binB true (.t 88) (.t 89)))],
  .op (some 91) (.pick (.t 87) (.v (.lit (.bool true))) (.t 90)),
  .op (some 92) (.mv (.t 91)),
  .grp 92 false [((some 93), (.mv (.t 8))), ((some 94), (.mv (.t 10))), ((some 95), (.call (.v (.lit (.func (.func 47) #[] #[]))) [(.t 93), (.t 94)])), ((some 96), (.un .not (.t 95)))],
  .op (some 97) (.pick (.t 92) (.v (.lit (.bool true))) (.t 96))])
 (.cond (.t 97)
 (.seq (.reg [.op (some 2) (.mv (.v (.lit (.bool false))))])
 .ret)
 .skip)))
 (.seq (.reg [.op (some 99) (.load 8 true (.t 3)),
  .op (some 100) (.call (.v (.lit (.func (.func 48) #[] #[]))) [(.t 99)]),
  .op (some 98) (.mv (.t 100)),
  .op (some 101) (.ext (.t 98) 0),
  .op (some 102) (.ext (.t 98) 1),
  .op (some 12) (.alloc 67 [(.lit (.int .i64 (0))), (.lit (.int .i64 (0))), (.lit (.int .i64 (0))), (.lit (.int .i64 (0))), (.lit (.int .i64 (0))), (.lit (.int .i64 (0))), (.lit (.slice none 0 0)), (.lit (.slice none 0 0))]),
  .op none (.store 8 (.t 12) (.t 101)),
  .op (some 13) (.mv (.t 102))])
 (.seq (.seq (.reg [.op (some 104) (.load 8 true (.t 3)),
  .op (some 105) (.call (.v (.lit (.func (.func 49) #[] #[]))) [(.t 104)]),
  .op (some 103) (.mv (.t 105)),
  .op (some 106) (.ext (.t 103) 0),
  .op (some 107) (.ext (.t 103) 1),
  .op (some 14) (.alloc 67 [(.lit (.int .i64 (0))), (.lit (.int .i64 (0))), (.lit (.int .i64 (0))), (.lit (.int .i64 (0))), (.lit (.int .i64 (0))), (.lit (.int .i64 (0))), (.lit (.slice none 0 0)), (.lit (.slice none 0 0))]),
  .op none (.store 8 (.t 14) (.t 106)),
  .op (some 15) (.mv (.t 107))])
 (.seq (.reg [.op (some 108) (.mv (.t 13)),
  .op (some 109) (.mv (.t 15)),
  .op (some 110) (.binB true (.t 108) (.t 109)),
  .op (some 111) (.mv (.t 110)),
  .grp 111 false [((some 112), (.mv (.t 13))), ((some 113), (.mv (.t 5))), ((some 114), (.binB true (.t 112) (.t 113)))],
  .op (some 115) (.pick (.t 111) (.v (.lit (.bool true))) (.t 114)),
  .op (some 116) (.mv (.t 115)),
  .grp 116 false [((some 117), (.load 8 true (.t 12))), ((some 118), (.load 8 true (.t 14))), ((some 119), (.call (.v (.lit (.func (.func 50) #[] #[]))) [(.t 117), (.t 118)])), ((some 120), (.un .not (.t 119)))],
  .op (some 121) (.pick (.t 116) (.v (.lit (.bool true))) (.t 120))])
 (.cond (.t 121)
 (.seq (.reg [.op (some 2) (.mv (.v (.lit (.bool false))))])
 .ret)
 .skip)))
 (.seq (.reg [.op (some 123) (.mv (.t 0)),
  .op (some 124) (.call (.v (.lit (.func (.func 51) #[] #[]))) [(.t 123)]),
  .op (some 122) (.mv (.t 124)),
  .op (some 125) (.ext (.t 122) 0),
  .op (some 126) (.ext (.t 122) 1),
  .op (some 16) (.alloc 67 [(.lit (.int .i64 (0))), (.lit (.int .i64 (0))), (.lit (.int .i64 (0))), (.lit (.int .i64 (0))), (.lit (.int .i64 (0))), (.lit (.int .i64 (0))), (.lit (.slice none 0 0)), (.lit (.slice none 0 0))]),
  .op (some 17) (.alloc 67 [(.lit (.int .i64 (0))), (.lit (.int .i64 (0))), (.lit (.int .i64 (0))), (.lit (.int .i64 (0))), (.lit (.int .i64 (0))), (.lit (.int .i64 (0))), (.lit (.slice none 0 0)), (.lit (.slice none 0 0))]),
  .op none (.store 8 (.t 16) (.t 125)),
  .op none (.store 8 (.t 17) (.t 126))])
 (.seq (.reg [.op (some 128) (.load 8 true (.t 16)),
  .op (some 129) (.load 8 true (.t 17)),
  .op (some 130) (.call (.v (.lit (.func (.func 52) #[] #[]))) [(.t 128), (.t 129)]),
  .op (some 127) (.mv (.t 130)),
  .op (some 131) (.ext (.t 127) 0),
  .op (some 132) (.ext (.t 127) 1),
  .op (some 18) (.mv (.t 131)),
  .op (some 19) (.mv (.t 132))])
 (.seq (.seq (.reg [.op (some 134) (.load 8 true (.t 16)),
  .op (some 135) (.load 8 true (.t 17)),
  .op (some 136) (.call (.v (.lit (.func (.func 53) #[] #[]))) [(.t 134), (.t 135)]),
  .op (some 133) (.mv (.t 136)),
  .op (some 137) (.ext (.t 133) 0),
  .op (some 138) (.ext (.t 133) 1),
  .op (some 20) (.mv (.t 137)),
  .op (some 21) (.mv (.t 138))])
 (.seq (.reg [.op (some 139) (.mv (.t 18)),
  .op (some 140) (.mv (.t 20)),
  .op (some 141) (.binB true (.t 139) (.t 140)),
  .op (some 142) (.mv (.t 141)),
  .grp 142 false [((some 143), (.mv (.t 19))), ((some 144), (.mv (.t 21))), ((some 145), (.binB true (.t 143) (.t 144)))],
  .op (some 146) (.pick (.t 142) (.v (.lit (.bool true))) (.t 145))])
 (.cond (.t 146)
 (.seq (.reg [.op (some 2) (.mv (.v (.lit (.bool false))))])
 .ret)
 .skip)))
 (.seq (.reg [.op (some 148) (.mv (.t 0)),
  .op (some 149) (.call (.v (.lit (.func (.func 54) #[] #[]))) [(.t 148)]),
  .op (some 147) (.mv (.t 149)),
  .op (some 150) (.ext (.t 147) 0),
  .op (some 151) (.ext (.t 147) 1),
  .op (some 22) (.alloc 67 [(.lit (.int .i64 (0))), (.lit (.int .i64 (0))), (.lit (.int .i64 (0))), (.lit (.int .i64 (0))), (.lit (.int .i64 (0))), (.lit (.int .i64 (0))), (.lit (.slice none 0 0)), (.lit (.slice none 0 0))]),
  .op none (.store 8 (.t 22) (.t 150)),
  .op (some 23) (.mv (.t 151))])
 (.seq (.reg [.op (some 153) (.load 8 true (.t 22)),
  .op (some 154) (.mv (.t 23)),
  .op (some 155) (.call (.v (.lit (.func (.func 55) #[] #[]))) [(.t 153), (.t 154)]),
  .op (some 152) (.mv (.t 155)),
  .op (some 156) (.ext (.t 152) 0),
  .op (some 157) (.ext (.t 152) 1),
  .op (some 24) (.mv (.t 156)),
  .op (some 25) (.mv (.t 157))])
 (.seq (.seq (.reg [.op (some 159) (.load 8 true (.t 22)),
  .op (some 160) (.mv (.t 23)),
  .op (some 161) (.call (.v (.lit (.func (.func 56) #[] #[]))) [(.t 159), (.t 160)]),
  .op (some 158) (.mv (.t 161)),
  .op (some 162) (.ext (.t 158) 0),
  .op (some 163) (.ext (.t 158) 1),
  .op (some 26) (.mv (.t 162)),
  .op (some 27) (.mv (.t 163))])
 (.seq (.reg [.op (some 164) (.mv (.t 24)),
  .op (some 165) (.mv (.t 26)),
  .op (some 166) (.binB true (.t 164) (.t 165)),
  .op (some 167) (.mv (.t 166)),
  .grp 167 false [((some 168), (.mv (.t 25))), ((some 169), (.mv (.t 27))), ((some 170), (.binB true (.t 168) (.t 169)))],
  .op (some 171) (.pick (.t 167) (.v (.lit (.bool true))) (.t 170))])
 (.cond (.t 171)
 (.seq (.reg [.op (some 2) (.mv (.v (.lit (.bool false))))])
 .ret)
 .skip)))
 (.seq (.seq (.reg [.op (some 172) (.mv (.t 19))])
 (.cond (.t 172)
 (.seq (.reg [.op (some 174) (.load 8 true (.t 16)),
  .op (some 175) (.call (.v (.lit (.func (.func 42) #[] #[]))) [(.t 174)]),
  .op (some 173) (.mv (.t 175)),
  .op (some 176) (.ext (.t 173) 0),
  .op (some 177) (.ext (.t 173) 1),
  .op (some 28) (.alloc 69 (List.replicate 36 (.lit (.int .i64 (0))))),
  .op none (.store 36 (.t 28) (.t 176)),
  .op (some 29) (.mv (.t 177))])
 (.seq (.reg [.op (some 179) (.load 8 true (.t 17)),
  .op (some 180) (.call (.v (.lit (.func (.func 42) #[] #[]))) [(.t 179)]),
  .op (some 178) (.mv (.t 180)),
  .op (some 181) (.ext (.t 178) 0),
  .op (some 182) (.ext (.t 178) 1),
  .op (some 30) (.alloc 69 (List.replicate 36 (.lit (.int .i64 (0))))),
  .op none (.store 36 (.t 30) (.t 181)),
  .op (some 31) (.mv (.t 182))])
 (.seq (.reg [.op (some 183) (.mv (.t 29)),
  .op (some 184) (.un .not (.t 183)),
  .op (some 185) (.mv (.t 184)),
  .grp 185 false [((some 186), (.mv (.t 31))), ((some 187), (.un .not (.t 186)))],
  .op (some 188) (.pick (.t 185) (.v (.lit (.bool true))) (.t 187)),
  .op (some 189) (.mv (.t 188)),
  .grp 189 false [((some 190), (.mv (.t 18))), ((some 191), (.load 36 true (.t 28))), ((some 192), (.load 36 true (.t 30))), ((some 193), (.eqA false [.int, .int, .int, .int, .int, .int, .int, .int, .int, .int, .int, .int, .int, .int, .int, .int, .int, .int, .int, .int, .int, .int, .int, .int, .int, .int, .int, .int, .int, .int, .int, .int, .int, .int, .int, .int] (.t 191) (.t 192))), ((some 194), (.binB true (.t 190) (.t 193)))],
  .op (some 195) (.pick (.t 189) (.v (.lit (.bool true))) (.t 194))])
 (.cond (.t 195)
 (.seq (.reg [.op (some 2) (.mv (.v (.lit (.bool false))))])
 .ret)
 .skip))))
 .skip))
 (.seq (.seq (.reg [.op (some 196) (.mv (.t 25))])
 (.cond (.t 196)
 (.seq (.reg [.op (some 197) (.bslice 87 4 0 (List.replicate 4 (.lit (.int .i64 (0)))) []),
  .op (some 198) (.faddr 7 (.t 22)),
  .op (some 199) (.load 1 false (.t 198)),
  .op (some 200) (.append 65 87 4 32 (.t 197) (.t 199)),
  .op (some 32) (.mv (.t 200))])
 (.seq (.reg [.op (some 201) (.mv (.t 32)),
  .op (some 202) (.mv (.t 23)),
  .op (some 203) (.faddr 7 (.t 22)),
  .op (some 204) (.load 1 false (.t 203)),
  .op (some 205) (.mv (.t 23)),
  .op (some 206) (.binI .add (.t 205) (.v (.lit (.int .i64 (1))))),
  .op (some 207) (.iaddrS 4 (.t 204) (.t 206)),
  .op (some 208) (.load 4 true (.t 207)),
  .op (some 209) (.iaddrS 4 (.t 201) (.t 202)),
  .op none (.store 4 (.t 209) (.t 208))])
 (.seq (.reg [.op (some 210) (.mv (.t 32)),
  .op (some 211) (.mv (.t 23)),
  .op (some 212) (.binI .add (.t 211) (.v (.lit (.int .i64 (1))))),
  .op (some 213) (.faddr 7 (.t 22)),
  .op (some 214) (.load 1 false (.t 213)),
  .op (some 215) (.mv (.t 23)),
  .op (some 216) (.iaddrS 4 (.t 214) (.t 215)),
  .op (some 217) (.load 4 true (.t 216)),
  .op (some 218) (.iaddrS 4 (.t 210) (.t 212)),
  .op none (.store 4 (.t 218) (.t 217))])
 (.seq (.reg [.op (some 220) (.load 8 true (.t 22)),
  .op (some 221) (.faddr 0 (.t 22)),
  .op (some 222) (.load 6 true (.t 221)),
  .op (some 223) (.faddr 6 (.t 22)),
  .op (some 224) (.load 1 false (.t 223)),
  .op (some 225) (.mv (.t 32)),
  .op (some 226) (.build [(.lit (.int .i64 (0))), (.lit (.int .i64 (0))), (.lit (.int .i64 (0))), (.lit (.int .i64 (0))), (.lit (.int .i64 (0))), (.lit (.int .i64 (0))), (.lit (.slice none 0 0)), (.lit (.slice none 0 0))] [((0, 6), (.t 222)), ((6, 1), (.t 224)), ((7, 1), (.t 225))]),
  .op (some 227) (.call (.v (.lit (.func (.func 52) #[] #[]))) [(.t 220), (.t 226)]),
  .op (some 219) (.mv (.t 227)),
  .op (some 228) (.ext (.t 219) 0),
  .op (some 229) (.ext (.t 219) 1),
  .op (some 33) (.mv (.t 228)),
  .op (some 34) (.mv (.t 229))])
 (.seq (.reg [.op (some 230) (.mv (.t 34)),
  .op (some 231) (.un .not (.t 230)),
  .op (some 232) (.mv (.t 231)),
  .grp 232 false [((some 233), (.mv (.t 33))), ((some 234), (.mv (.t 24))), ((some 235), (.binB true (.t 233) (.t 234)))],
  .op (some 236) (.pick (.t 232) (.v (.lit (.bool true))) (.t 235))])
 (.cond (.t 236)
 (.seq (.reg [.op (some 2) (.mv (.v (.lit (.bool false))))])
 .ret)
 .skip))))))
 .skip))
 (.seq (.seq (.reg [.op (some 237) (.mv (.t 5)),
  .op (some 238) (.un .not (.t 237))])
 (.cond (.t 238)
 (.seq (.reg [.op (some 2) (.mv (.v (.lit (.bool true))))])
 .ret)
 .skip))
 (.seq (.reg [.op (some 240) (.load 8 true (.t 3)),
  .op (some 241) (.call (.v (.lit (.func (.func 57) #[] #[]))) [(.t 240)]),
  .op (some 239) (.mv (.t 241)),
  .op (some 242) (.ext (.t 239) 0),
  .op (some 243) (.ext (.t 239) 1),
  .op (some 35) (.alloc 26 (List.replicate 6 (.lit (.int .i64 (0))))),
  .op none (.store 6 (.t 35) (.t 242)),
  .op (some 36) (.mv (.t 243))])
 (.seq (.reg [.op (some 245) (.load 8 true (.t 12)),
  .op (some 246) (.call (.v (.lit (.func (.func 57) #[] #[]))) [(.t 245)]),
  .op (some 244) (.mv (.t 246)),
  .op (some 247) (.ext (.t 244) 0),
  .op (some 248) (.ext (.t 244) 1),
  .op (some 37) (.alloc 26 (List.replicate 6 (.lit (.int .i64 (0))))),
  .op none (.store 6 (.t 37) (.t 247)),
  .op (some 38) (.mv (.t 248))])
 (.seq (.seq (.reg [.op (some 249) (.mv (.t 36)),
  .op (some 250) (.un .not (.t 249)),
  .op (some 251) (.mv (.t 250)),
  .grp 251 false [((some 252), (.mv (.t 38))), ((some 253), (.un .not (.t 252)))],
  .op (some 254) (.pick (.t 251) (.v (.lit (.bool true))) (.t 253)),
  .op (some 255) (.mv (.t 254)),
  .grp 255 false [((some 256), (.load 6 true (.t 37))), ((some 257), (.load 6 true (.t 35))), ((some 258), (.eqA true [.int, .int, .int, .int, .int, .int] (.t 256) (.t 257)))],
  .op (some 259) (.pick (.t 255) (.v (.lit (.bool true))) (.t 258)),
  .op (some 260) (.mv (.t 259)),
  .grp 260 false [((some 261), (.faddr 7 (.t 12))), ((some 262), (.load 1 false (.t 261))), ((some 263), (.lenL (.t 262))), ((some 264), (.faddr 7 (.t 3))), ((some 265), (.load 1 false (.t 264))), ((some 266), (.lenL (.t 265))), ((some 267), (.mv (.t 8))), ((some 268), (.lenL (.t 267))), ((some 269), (.binI .sub (.t 266) (.t 268))), ((some 270), (.binI .neq (.t 263) (.t 269)))],
  .op (some 271) (.pick (.t 260) (.v (.lit (.bool true))) (.t 270))])
 (.cond (.t 271)
 (.seq (.reg [.op (some 2) (.mv (.v (.lit (.bool false))))])
 .ret)
 .skip))
 (.seq (.seq (.reg [.op (some 39) (.mv (.v (.lit (.int .i64 (0)))))])
 (.block 0 (.loop (.seq (.seq (.reg [.op (some 272) (.mv (.t 39)),
  .op (some 273) (.binI .lss (.t 272) (.v (.lit (.int .i64 (6)))))])
 (.cond (.t 273)
 .skip
 (.exit 0)))
 (.seq (.block 1 (.seq (.reg [.op (some 40) (.mv (.v (.lit (.int .i64 (0)))))])
 (.block 2 (.loop (.seq (.seq (.reg [.op (some 276) (.mv (.t 40)),
  .op (some 277) (.binI .lss (.t 276) (.v (.lit (.int .i64 (6)))))])
 (.cond (.t 277)
 .skip
 (.exit 2)))
 (.seq (.block 3 (.seq (.reg [.op (some 281) (.faddr 0 (.t 3)),
  .op (some 282) (.load 6 true (.t 281)),
  .op (some 283) (.mv (.t 40)),
  .op (some 284) (.mv (.t 39)),
  .op (some 285) (.build [(.lit (.int .i64 (0))), (.lit (.int .i64 (0)))] [((0, 1), (.t 283)), ((1, 1), (.t 284))]),
  .op (some 286) (.call (.v (.lit (.func (.func 21) #[] #[]))) [(.t 282), (.t 285)]),
  .op (some 280) (.mv (.t 286)),
  .op (some 287) (.ext (.t 280) 0),
  .op (some 288) (.ext (.t 280) 1),
  .op (some 41) (.mv (.t 287)),
  .op (some 42) (.mv (.t 288))])
 (.seq (.reg [.op (some 290) (.load 6 true (.t 35)),
  .op (some 291) (.mv (.t 40)),
  .op (some 292) (.mv (.t 39)),
  .op (some 293) (.build [(.lit (.int .i64 (0))), (.lit (.int .i64 (0)))] [((0, 1), (.t 291)), ((1, 1), (.t 292))]),
  .op (some 294) (.call (.v (.lit (.func (.func 21) #[] #[]))) [(.t 290), (.t 293)]),
  .op (some 289) (.mv (.t 294)),
  .op (some 295) (.ext (.t 289) 0),
  .op (some 296) (.ext (.t 289) 1),
  .op (some 43) (.mv (.t 295)),
  .op (some 44) (.mv (.t 296))])
 (.seq (.reg [.op (some 297) (.mv (.t 39)),
  .op (some 298) (.mv (.t 40)),
  .op (some 299) (.iaddrA 6 6 (.t 4) (.t 297)),
  .op (some 300) (.iaddrA 6 1 (.t 299) (.t 298)),
  .op (some 301) (.load 1 false (.t 300)),
  .op (some 45) (.mv (.t 301))])
 (.seq (.reg [.op (some 302) (.mv (.t 42)),
  .op (some 303) (.un .not (.t 302)),
  .op (some 304) (.mv (.t 303)),
  .grp 304 false [((some 305), (.mv (.t 44))), ((some 306), (.un .not (.t 305)))],
  .op (some 307) (.pick (.t 304) (.v (.lit (.bool true))) (.t 306)),
  .op (some 308) (.mv (.t 307)),
  .grp 308 false [((some 309), (.mv (.t 45))), ((some 310), (.binI .eql (.t 309) (.v (.lit (.int .i64 (0)))))), ((some 311), (.mv (.t 310)))],
  .grp 311 true [((some 312), (.mv (.t 43))), ((some 313), (.mv (.t 41))), ((some 314), (.binB true (.t 312) (.t 313)))],
  .grp 308 false [((some 315), (.pick (.t 311) (.t 314) (.v (.lit (.bool false)))))],
  .op (some 316) (.pick (.t 308) (.v (.lit (.bool true))) (.t 315)),
  .op (some 317) (.mv (.t 316)),
  .grp 317 false [((some 318), (.mv (.t 45))), ((some 319), (.binI .eql (.t 318) (.v (.lit (.int .i64 (1)))))), ((some 320), (.mv (.t 319)))],
  .grp 320 true [((some 321), (.mv (.t 43))), ((some 322), (.mv (.t 41))), ((some 323), (.binB false (.t 321) (.t 322)))],
  .grp 317 false [((some 324), (.pick (.t 320) (.t 323) (.v (.lit (.bool false)))))],
  .op (some 325) (.pick (.t 317) (.v (.lit (.bool true))) (.t 324)),
  .op (some 326) (.mv (.t 325)),
  .grp 326 false [((some 327), (.mv (.t 45))), ((some 328), (.binI .eql (.t 327) (.v (.lit (.int .i64 (2)))))), ((some 329), (.mv (.t 328)))],
  .grp 329 true [((some 330), (.mv (.t 43))), ((some 331), (.un .not (.t 330)))],
  .grp 326 false [((some 332), (.pick (.t 329) (.t 331) (.v (.lit (.bool false)))))],
  .op (some 333) (.pick (.t 326) (.v (.lit (.bool true))) (.t 332)),
  .op (some 334) (.mv (.t 333)),
  .grp 334 false [((some 335), (.mv (.t 45))), ((some 336), (.binI .eql (.t 335) (.v (.lit (.int .i64 (3)))))), ((some 337), (.mv (.t 336)))],
  .grp 337 true [((some 338), (.mv (.t 43)))],
  .grp 334 false [((some 339), (.pick (.t 337) (.t 338) (.v (.lit (.bool false)))))],
  .op (some 340) (.pick (.t 334) (.v (.lit (.bool true))) (.t 339))])
 (.cond (.t 340)
 (.seq (.reg [.op (some 2) (.mv (.v (.lit (.bool false))))])
 .ret)
 .skip))))))
 (.reg [.op (some 278) (.mv (.t 40)),
  .op (some 279) (.binI .add (.t 278) (.v (.lit (.int .i64 (1))))),
  .op (some 40) (.mv (.t 279))])))))))
 (.reg [.op (some 274) (.mv (.t 39)),
  .op (some 275) (.binI .add (.t 274) (.v (.lit (.int .i64 (1))))),
  .op (some 39) (.mv (.t 275))]))))))
 (.seq (.reg [.op (some 2) (.mv (.v (.lit (.bool true))))])
 .ret)))))))))))))))))))))))
def rs5 : List RR := [.tmp 2]
def cut5 : Nat → Nat := fun id => 0
theorem k5 : (Try.f5.body.bind fun c => comp Try.prog Try.f5.ntmps cut5 c) = some r5 := by kernel_rfl
theorem by5 {W0 : World} {σ : List Blk} {args : List AV} {K : Cont} (hn : args.length ≤ 341) (h : rW Try.prog W0 σ.length r5 (initFr args) σ (finP W0 rs5 σ.length K)) : ACall Try.prog W0 5 args σ K :=
  ACall.introR mixed Try.func5 (by kernel_rfl) k5 (by kernel_rfl) hn h
def r6 : RC := (.seq (.reg [.op (some 2) (.mv (.v (.lit (.bool false))))])
 (.seq (.reg [.op (some 3) (.mv (.t 0)),
  .op (some 4) (.lenL (.t 3)),
  .op (some 5) (.binI .gtr (.t 4) (.v (.lit (.int .i64 (65536))))),
  .op (some 2) (.mv (.t 5))])
 .ret))
def rs6 : List RR := [.tmp 2]
def cut6 : Nat → Nat := fun id => 0
theorem k6 : (Try.f6.body.bind fun c => comp Try.prog Try.f6.ntmps cut6 c) = some r6 := by kernel_rfl
theorem by6 {W0 : World} {σ : List Blk} {args : List AV} {K : Cont} (hn : args.length ≤ 6) (h : rW Try.prog W0 σ.length r6 (initFr args) σ (finP W0 rs6 σ.length K)) : ACall Try.prog W0 6 args σ K :=
  ACall.introR mixed Try.func6 (by kernel_rfl) k6 (by kernel_rfl) hn h
def r7 : RC := (.seq (.reg [.op (some 2) (.alloc 26 (List.replicate 6 (.lit (.int .i64 (0))))),
  .op (some 3) (.alloc 26 (List.replicate 6 (.lit (.int .i64 (0))))),
  .op (some 4) (.alloc 27 [(.lit (.int .i64 (0))), (.lit (.int .i64 (0)))])])
 (.seq (.reg [.op (some 8) (.mv (.t 0)),
  .op (some 9) (.build [(.lit (.slice none 0 0)), (.lit (.int .i64 (0))), (.lit (.int .u64 (0)))] [((0, 1), (.t 8))]),
  .op (some 10) (.box 92 (.t 9)),
  .op (some 5) (.mv (.t 10))])
 (.seq (.reg [.op (some 11) (.mv (.t 5)),
  .op (some 12) (.call (.v (.lit (.func (.func 58) #[] #[]))) [(.t 11)]),
  .op (some 13) (.mv (.t 5)),
  .op (some 14) (.call (.v (.lit (.func (.func 59) #[] #[]))) [(.t 13)]),
  .op (some 6) (.alloc 27 [(.lit (.int .i64 (0))), (.lit (.int .i64 (0)))]),
  .op (some 7) (.alloc 26 (List.replicate 6 (.lit (.int .i64 (0))))),
  .op none (.store 2 (.t 6) (.t 12)),
  .op none (.store 6 (.t 7) (.t 14))])
 (.seq (.any true (.n ⟨none, (some 15), (.mv (.t 5))⟩
 (.h ⟨none, (some 17), (.load 6 true (.t 7))⟩
 (.h ⟨none, (some 18), (.load 2 true (.t 6))⟩
 (.t ⟨none, (some 16), (.call (.v (.lit (.func (.func 60) #[] #[]))) [(.t 15)])⟩
 (.t ⟨none, none, (.store 6 (.t 2) (.t 16))⟩
 (.t ⟨none, none, (.store 6 (.t 3) (.t 17))⟩
 (.t ⟨none, none, (.store 2 (.t 4) (.t 18))⟩
 .fin))))))))
 .ret))))
def cut7 : Nat → Nat := fun id => if id = 3 then 1000229 else 0
theorem k7 : (Try.f7.body.bind fun c => comp Try.prog Try.f7.ntmps cut7 c) = some r7 := by kernel_rfl
def r8 : RC := (.seq (.reg [.op (some 3) (.box 26 (.t 0)),
  .op (some 4) (.box 26 (.t 1)),
  .op (some 5) (.box 27 (.t 2)),
  .op (some 6) (.alloc 26 (List.replicate 6 (.lit (.int .i64 (0))))),
  .op (some 7) (.mv (.v (.lit (.bool false))))])
 (.seq (.reg [.op (some 8) (.load 6 true (.t 3)),
  .op (some 9) (.load 6 true (.t 4)),
  .op (some 10) (.load 2 true (.t 5)),
  .op (some 11) (.call (.v (.lit (.func (.func 61) #[] #[]))) [(.t 8), (.t 9), (.t 10), (.v (.lit (.func (.func 62) #[] #[])))]),
  .op (some 12) (.ext (.t 11) 0),
  .op (some 13) (.ext (.t 11) 1),
  .op none (.store 6 (.t 6) (.t 12)),
  .op (some 7) (.mv (.t 13))])
 .ret))
def cut8 : Nat → Nat := fun id => 0
theorem k8 : (Try.f8.body.bind fun c => comp Try.prog Try.f8.ntmps cut8 c) = some r8 := by kernel_rfl
def r21 : RC := (.seq (.reg [.op (some 2) (.box 26 (.t 0)),
  .op (some 3) (.box 27 (.t 1)),
  .op (some 4) (.mv (.v (.lit (.bool false)))),
  .op (some 5) (.mv (.v (.lit (.bool false))))])
 (.seq (.reg [.op (some 9) (.load 6 true (.t 2)),
  .op (some 10) (.call (.v (.lit (.func (.func 74) #[] #[]))) [(.t 9)]),
  .op (some 8) (.mv (.t 10)),
  .op (some 11) (.ext (.t 8) 0),
  .op (some 12) (.ext (.t 8) 1),
  .op (some 6) (.mv (.t 11)),
  .op (some 7) (.mv (.t 12))])
 (.seq (.seq (.reg [.op (some 13) (.mv (.t 7)),
  .op (some 14) (.un .not (.t 13)),
  .op (some 15) (.mv (.t 14)),
  .grp 15 false [((some 16), (.load 2 true (.t 3))), ((some 17), (.call (.v (.lit (.func (.func 80) #[] #[]))) [(.t 16)])), ((some 18), (.un .not (.t 17)))],
  .op (some 19) (.pick (.t 15) (.v (.lit (.bool true))) (.t 18))])
 (.cond (.t 19)
 (.seq (.reg [.op (some 4) (.mv (.v (.lit (.bool false)))),
  .op (some 5) (.mv (.v (.lit (.bool false))))])
 .ret)
 .skip))
 (.seq (.reg [.op (some 20) (.mv (.t 6)),
  .op (some 21) (.load 2 true (.t 3)),
  .op (some 22) (.call (.v (.lit (.func (.func 81) #[] #[]))) [(.t 21)]),
  .op (some 23) (.call (.v (.lit (.func (.func 84) #[] #[]))) [(.t 20), (.t 22)]),
  .op (some 4) (.mv (.t 23)),
  .op (some 5) (.mv (.v (.lit (.bool true))))])
 .ret))))
def rs21 : List RR := [.tmp 4, .tmp 5]
def cut21 : Nat → Nat := fun id => 0
theorem k21 : (Try.f21.body.bind fun c => comp Try.prog Try.f21.ntmps cut21 c) = some r21 := by kernel_rfl
theorem by21 {W0 : World} {σ : List Blk} {args : List AV} {K : Cont} (hn : args.length ≤ 24) (h : rW Try.prog W0 σ.length r21 (initFr args) σ (finP W0 rs21 σ.length K)) : ACall Try.prog W0 21 args σ K :=
  ACall.introR mixed Try.func21 (by kernel_rfl) k21 (by kernel_rfl) hn h
def r41 : RC := (.seq (.reg [.op (some 2) (.alloc 67 [(.lit (.int .i64 (0))), (.lit (.int .i64 (0))), (.lit (.int .i64 (0))), (.lit (.int .i64 (0))), (.lit (.int .i64 (0))), (.lit (.int .i64 (0))), (.lit (.slice none 0 0)), (.lit (.slice none 0 0))])])
 (.seq (.reg [.op (some 3) (.mv (.t 0)),
  .op (some 4) (.call (.v (.lit (.func (.func 94) #[] #[]))) [(.t 3)]),
  .op none (.store 8 (.t 2) (.t 4))])
 .ret))
def rs41 : List RR := [.cell 2 8 true]
def cut41 : Nat → Nat := fun id => 0
theorem k41 : (Try.f41.body.bind fun c => comp Try.prog Try.f41.ntmps cut41 c) = some r41 := by kernel_rfl
theorem by41 {W0 : World} {σ : List Blk} {args : List AV} {K : Cont} (hn : args.length ≤ 5) (h : rW Try.prog W0 σ.length r41 (initFr args) σ (finP W0 rs41 σ.length K)) : ACall Try.prog W0 41 args σ K :=
  ACall.introR mixed Try.func41 (by kernel_rfl) k41 (by kernel_rfl) hn h
def r42 : RC := (.seq (.reg [.op (some 1) (.box 67 (.t 0)),
  .op (some 2) (.alloc 69 (List.replicate 36 (.lit (.int .i64 (0))))),
  .op (some 3) (.mv (.v (.lit (.bool false))))])
 (.seq (.reg [.op (some 12) (.build (List.replicate 36 (.lit (.int .i64 (0)))) []),
  .op (some 4) (.alloc 69 (List.replicate 36 (.lit (.int .i64 (0))))),
  .op none (.store 36 (.t 4) (.t 12))])
 (.seq (.reg [.op (some 14) (.load 8 true (.t 1)),
  .op (some 15) (.call (.v (.lit (.func (.func 95) #[] #[]))) [(.t 14)]),
  .op (some 13) (.mv (.t 15)),
  .op (some 16) (.ext (.t 13) 0),
  .op (some 17) (.ext (.t 13) 1),
  .op (some 5) (.mv (.t 16)),
  .op (some 6) (.mv (.t 17))])
 (.seq (.seq (.reg [.op (some 18) (.mv (.t 6)),
  .op (some 19) (.un .not (.t 18))])
 (.cond (.t 19)
 (.seq (.reg [.op (some 20) (.load 36 true (.t 4)),
  .op none (.store 36 (.t 2) (.t 20)),
  .op (some 3) (.mv (.v (.lit (.bool false))))])
 .ret)
 .skip))
 (.seq (.reg [.op (some 21) (.mv (.t 5)),
  .op (some 22) (.call (.v (.lit (.func (.func 96) #[] #[]))) [(.t 21)]),
  .op (some 7) (.alloc 122 [(.lit (.int .u64 (0))), (.lit (.int .u64 (0)))]),
  .op none (.store 2 (.t 7) (.t 22))])
 (.seq (.seq (.reg [.op (some 23) (.mv (.v (.lit (.int .i64 (0)))))])
 (.block 0 (.loop (.seq (.reg [.op (some 24) (.binI .lss (.t 23) (.v (.lit (.int .i64 (36)))))])
 (.seq (.cond (.t 24)
 .skip
 (.exit 0))
 (.seq (.block 1 (.seq (.reg [.op (some 25) (.mv (.t 23)),
  .op (some 8) (.mv (.t 25))])
 (.seq (.reg [.op (some 9) (.mv (.v (.lit (.int .i64 (3)))))])
 (.seq (.seq (.draw [((some 26), (.iaddrA 2 1 (.t 7) (.v (.lit (.int .i64 (0)))))), ((some 27), (.load 1 false (.t 26))), ((some 28), (.mv (.t 8))), ((some 29), (.call (.v (.lit (.func (.func 84) #[] #[]))) [(.t 27), (.t 28)])), ((some 30), (.iaddrA 2 1 (.t 7) (.v (.lit (.int .i64 (1)))))), ((some 31), (.load 1 false (.t 30))), ((some 32), (.mv (.t 8))), ((some 33), (.call (.v (.lit (.func (.func 84) #[] #[]))) [(.t 31), (.t 32)])), ((some 10), (.mv (.t 29))), ((some 11), (.mv (.t 33)))] [])
 (.block 2 (.seq (.reg [.op (some 35) (.mv (.t 10)),
  .op (some 36) (.mv (.t 35)),
  .grp 36 true [((some 37), (.mv (.t 11)))],
  .op (some 38) (.pick (.t 36) (.t 37) (.v (.lit (.bool false)))),
  .op (some 34) (.mv (.t 38))])
 (.cond (.t 34)
 (.reg [.op (some 9) (.mv (.v (.lit (.int .i64 (2)))))])
 (.seq (.reg [.op (some 40) (.mv (.t 10)),
  .op (some 39) (.mv (.t 40))])
 (.cond (.t 39)
 (.reg [.op (some 9) (.mv (.v (.lit (.int .i64 (1)))))])
 (.seq (.reg [.op (some 42) (.mv (.t 11)),
  .op (some 41) (.mv (.t 42))])
 (.cond (.t 41)
 (.reg [.op (some 9) (.mv (.v (.lit (.int .i64 (0)))))])
 .skip))))))))
 (.reg [.op (some 43) (.mv (.t 8)),
  .op (some 44) (.binI .quo (.t 43) (.v (.lit (.int .i64 (6))))),
  .op (some 45) (.mv (.t 8)),
  .op (some 46) (.binI .rem (.t 45) (.v (.lit (.int .i64 (6))))),
  .op (some 47) (.mv (.t 9)),
  .op (some 48) (.iaddrA 6 6 (.t 4) (.t 44)),
  .op (some 49) (.iaddrA 6 1 (.t 48) (.t 46)),
  .op none (.store 1 (.t 49) (.t 47))])))))
 (.reg [.op (some 50) (.binI .add (.t 23) (.v (.lit (.int .i64 (1))))),
  .op (some 23) (.mv (.t 50))])))))))
 (.seq (.reg [.op (some 51) (.load 36 true (.t 4)),
  .op none (.store 36 (.t 2) (.t 51)),
  .op (some 3) (.mv (.v (.lit (.bool true))))])
 .ret)))))))
def rs42 : List RR := [.cell 2 36 true, .tmp 3]
def cut42 : Nat → Nat := fun id => if id = 10 then 21 else 0
theorem k42 : (Try.f42.body.bind fun c => comp Try.prog Try.f42.ntmps cut42 c) = some r42 := by kernel_rfl
theorem by42 {W0 : World} {σ : List Blk} {args : List AV} {K : Cont} (hn : args.length ≤ 52) (h : rW Try.prog W0 σ.length r42 (initFr args) σ (finP W0 rs42 σ.length K)) : ACall Try.prog W0 42 args σ K :=
  ACall.introR mixed Try.func42 (by kernel_rfl) k42 (by kernel_rfl) hn h
def r43 : RC := (.seq (.reg [.op (some 1) (.box 67 (.t 0)),
  .op (some 2) (.alloc 69 (List.replicate 36 (.lit (.int .i64 (0))))),
  .op (some 3) (.mv (.v (.lit (.bool false))))])
 (.seq (.seq (.reg [.op (some 4) (.load 8 true (.t 1)),
  .op (some 5) (.call (.v (.lit (.func (.func 97) #[] #[]))) [(.t 4)]),
  .op (some 6) (.un .not (.t 5))])
 (.cond (.t 6)
 (.seq (.reg [.op (some 7) (.build (List.replicate 36 (.lit (.int .i64 (0)))) []),
  .op none (.store 36 (.t 2) (.t 7)),
  .op (some 3) (.mv (.v (.lit (.bool false))))])
 .ret)
 .skip))
 (.seq (.reg [.op (some 8) (.load 8 true (.t 1)),
  .op (some 9) (.call (.v (.lit (.func (.func 98) #[] #[]))) [(.t 8)]),
  .op none (.store 36 (.t 2) (.t 9)),
  .op (some 3) (.mv (.v (.lit (.bool true))))])
 .ret)))
def rs43 : List RR := [.cell 2 36 true, .tmp 3]
def cut43 : Nat → Nat := fun id => 0
theorem k43 : (Try.f43.body.bind fun c => comp Try.prog Try.f43.ntmps cut43 c) = some r43 := by kernel_rfl
theorem by43 {W0 : World} {σ : List Blk} {args : List AV} {K : Cont} (hn : args.length ≤ 10) (h : rW Try.prog W0 σ.length r43 (initFr args) σ (finP W0 rs43 σ.length K)) : ACall Try.prog W0 43 args σ K :=
  ACall.introR mixed Try.func43 (by kernel_rfl) k43 (by kernel_rfl) hn h
def r44 : RC := (.seq (.reg [.op (some 1) (.box 67 (.t 0)),
  .op (some 2) (.mv (.v (.lit (.bool false))))])
 (.seq (.reg [.op (some 6) (.load 8 true (.t 1)),
  .op (some 7) (.call (.v (.lit (.func (.func 95) #[] #[]))) [(.t 6)]),
  .op (some 5) (.mv (.t 7)),
  .op (some 8) (.ext (.t 5) 0),
  .op (some 9) (.ext (.t 5) 1),
  .op (some 3) (.mv (.t 8)),
  .op (some 4) (.mv (.t 9))])
 (.seq (.reg [.op (some 10) (.mv (.t 4)),
  .op (some 2) (.mv (.t 10))])
 .ret)))
def rs44 : List RR := [.tmp 2]
def cut44 : Nat → Nat := fun id => 0
theorem k44 : (Try.f44.body.bind fun c => comp Try.prog Try.f44.ntmps cut44 c) = some r44 := by kernel_rfl
theorem by44 {W0 : World} {σ : List Blk} {args : List AV} {K : Cont} (hn : args.length ≤ 11) (h : rW Try.prog W0 σ.length r44 (initFr args) σ (finP W0 rs44 σ.length K)) : ACall Try.prog W0 44 args σ K :=
  ACall.introR mixed Try.func44 (by kernel_rfl) k44 (by kernel_rfl) hn h
def r45 : RC := (.seq (.reg [.op (some 1) (.box 67 (.t 0)),
  .op (some 2) (.mv (.v (.lit (.slice none 0 0)))),
  .op (some 3) (.mv (.v (.lit (.bool false))))])
 (.seq (.reg [.op (some 10) (.load 8 true (.t 1)),
  .op (some 11) (.call (.v (.lit (.func (.func 95) #[] #[]))) [(.t 10)]),
  .op (some 9) (.mv (.t 11)),
  .op (some 12) (.ext (.t 9) 0),
  .op (some 13) (.ext (.t 9) 1),
  .op (some 4) (.mv (.t 12)),
  .op (some 5) (.mv (.t 13))])
 (.seq (.seq (.reg [.op (some 14) (.mv (.t 5)),
  .op (some 15) (.un .not (.t 14))])
 (.cond (.t 15)
 (.seq (.reg [.op (some 2) (.mv (.v (.lit (.slice none 0 0)))),
  .op (some 3) (.mv (.v (.lit (.bool false))))])
 .ret)
 .skip))
 (.seq (.reg [.op (some 16) (.mv (.t 4)),
  .op (some 17) (.mv (.t 4)),
  .op (some 18) (.nilck (.t 17)),
  .op (some 19) (.faddr 0 (.t 18)),
  .op (some 20) (.load 1 false (.t 19)),
  .op (some 21) (.call (.v (.lit (.func (.func 99) #[] #[]))) [(.t 16), (.t 20)]),
  .op (some 22) (.bslice 3 1 0 [(.lit (.int .i64 (0)))] []),
  .op (some 6) (.mv (.t 21)),
  .op (some 7) (.mv (.t 22))])
 (.seq (.seq (.reg [.op (some 23) (.faddr 7 (.t 1)),
  .op (some 24) (.load 1 false (.t 23)),
  .op (some 25) (.lenL (.t 24)),
  .op (some 26) (.mv (.v (.lit (.int .i64 (0)))))])
 (.block 0 (.loop (.seq (.reg [.op (some 27) (.binI .lss (.t 26) (.t 25))])
 (.seq (.cond (.t 27)
 .skip
 (.exit 0))
 (.seq (.block 1 (.seq (.reg [.op (some 28) (.mv (.t 26)),
  .op (some 8) (.mv (.t 28))])
 (.seq (.draw [((some 29), (.mv (.t 6))), ((some 30), (.mv (.t 8))), ((some 31), (.iaddrS 1 (.t 29) (.t 30))), ((some 32), (.load 1 false (.t 31))), ((some 33), (.mv (.t 6))), ((some 34), (.mv (.t 8))), ((some 35), (.binI .add (.t 34) (.v (.lit (.int .i64 (1)))))), ((some 36), (.iaddrS 1 (.t 33) (.t 35))), ((some 37), (.load 1 false (.t 36))), ((some 38), (.binI .eql (.t 32) (.t 37)))] [])
 (.cond (.t 38)
 (.reg [.op (some 39) (.mv (.t 7)),
  .op (some 40) (.mv (.t 8)),
  .app (some 42) 41 3 1 8 (.t 39) 1 [(.lit (.int .i64 (0)))] [(0, (.t 40))],
  .op (some 7) (.mv (.t 42))])
 .skip))))
 (.reg [.op (some 43) (.binI .add (.t 26) (.v (.lit (.int .i64 (1))))),
  .op (some 26) (.mv (.t 43))])))))))
 (.seq (.reg [.op (some 44) (.mv (.t 7)),
  .op (some 2) (.mv (.t 44)),
  .op (some 3) (.mv (.v (.lit (.bool true))))])
 .ret))))))
def rs45 : List RR := [.tmp 2, .tmp 3]
def cut45 : Nat → Nat := fun id => if id = 8 then 21 else 0
theorem k45 : (Try.f45.body.bind fun c => comp Try.prog Try.f45.ntmps cut45 c) = some r45 := by kernel_rfl
theorem by45 {W0 : World} {σ : List Blk} {args : List AV} {K : Cont} (hn : args.length ≤ 45) (h : rW Try.prog W0 σ.length r45 (initFr args) σ (finP W0 rs45 σ.length K)) : ACall Try.prog W0 45 args σ K :=
  ACall.introR mixed Try.func45 (by kernel_rfl) k45 (by kernel_rfl) hn h
def r46 : RC := (.seq (.reg [.op (some 1) (.box 67 (.t 0)),
  .op (some 2) (.mv (.v (.lit (.slice none 0 0)))),
  .op (some 3) (.mv (.v (.lit (.bool false))))])
 (.seq (.seq (.reg [.op (some 4) (.load 8 true (.t 1)),
  .op (some 5) (.call (.v (.lit (.func (.func 97) #[] #[]))) [(.t 4)]),
  .op (some 6) (.un .not (.t 5))])
 (.cond (.t 6)
 (.seq (.reg [.op (some 7) (.bslice 3 1 0 [(.lit (.int .i64 (0)))] []),
  .op (some 2) (.mv (.t 7)),
  .op (some 3) (.mv (.v (.lit (.bool false))))])
 .ret)
 .skip))
 (.seq (.reg [.op (some 8) (.load 8 true (.t 1)),
  .op (some 9) (.call (.v (.lit (.func (.func 100) #[] #[]))) [(.t 8)]),
  .op (some 2) (.mv (.t 9)),
  .op (some 3) (.mv (.v (.lit (.bool true))))])
 .ret)))
def rs46 : List RR := [.tmp 2, .tmp 3]
def cut46 : Nat → Nat := fun id => 0
theorem k46 : (Try.f46.body.bind fun c => comp Try.prog Try.f46.ntmps cut46 c) = some r46 := by kernel_rfl
theorem by46 {W0 : World} {σ : List Blk} {args : List AV} {K : Cont} (hn : args.length ≤ 10) (h : rW Try.prog W0 σ.length r46 (initFr args) σ (finP W0 rs46 σ.length K)) : ACall Try.prog W0 46 args σ K :=
  ACall.introR mixed Try.func46 (by kernel_rfl) k46 (by kernel_rfl) hn h
def r47 : RC := (.seq (.reg [.op (some 4) (.mv (.v (.lit (.bool false))))])
 (.seq (.seq (.reg [.op (some 6) (.mv (.t 0)),
  .op (some 7) (.lenL (.t 6)),
  .op (some 8) (.mv (.t 1)),
  .op (some 9) (.lenL (.t 8)),
  .op (some 10) (.binI .neq (.t 7) (.t 9))])
 (.cond (.t 10)
 (.seq (.reg [.op (some 4) (.mv (.v (.lit (.bool false))))])
 .ret)
 .skip))
 (.seq (.seq (.reg [.op (some 5) (.mv (.v (.lit (.int .i64 (0)))))])
 (.block 0 (.loop (.seq (.seq (.reg [.op (some 11) (.mv (.t 5)),
  .op (some 12) (.mv (.t 0)),
  .op (some 13) (.lenL (.t 12)),
  .op (some 14) (.binI .lss (.t 11) (.t 13))])
 (.cond (.t 14)
 .skip
 (.exit 0)))
 (.seq (.block 1 (.seq (.draw [((some 17), (.mv (.t 0))), ((some 18), (.mv (.t 5))), ((some 19), (.iaddrS 1 (.t 17) (.t 18))), ((some 20), (.load 1 false (.t 19))), ((some 21), (.mv (.t 1))), ((some 22), (.mv (.t 5))), ((some 23), (.iaddrS 1 (.t 21) (.t 22))), ((some 24), (.load 1 false (.t 23))), ((some 25), (.binI .neq (.t 20) (.t 24)))] [])
 (.cond (.t 25)
 (.seq (.reg [.op (some 4) (.mv (.v (.lit (.bool false))))])
 .ret)
 .skip)))
 (.reg [.op (some 15) (.mv (.t 5)),
  .op (some 16) (.binI .add (.t 15) (.v (.lit (.int .i64 (1))))),
  .op (some 5) (.mv (.t 16))]))))))
 (.seq (.reg [.op (some 4) (.mv (.v (.lit (.bool true))))])
 .ret))))
def rs47 : List RR := [.tmp 4]
def cut47 : Nat → Nat := fun id => if id = 6 then 19 else 0
theorem k47 : (Try.f47.body.bind fun c => comp Try.prog Try.f47.ntmps cut47 c) = some r47 := by kernel_rfl
theorem by47 {W0 : World} {σ : List Blk} {args : List AV} {K : Cont} (hn : args.length ≤ 26) (h : rW Try.prog W0 σ.length r47 (initFr args) σ (finP W0 rs47 σ.length K)) : ACall Try.prog W0 47 args σ K :=
  ACall.introR mixed Try.func47 (by kernel_rfl) k47 (by kernel_rfl) hn h
def r48 : RC := (.seq (.reg [.op (some 1) (.box 67 (.t 0)),
  .op (some 2) (.alloc 67 [(.lit (.int .i64 (0))), (.lit (.int .i64 (0))), (.lit (.int .i64 (0))), (.lit (.int .i64 (0))), (.lit (.int .i64 (0))), (.lit (.int .i64 (0))), (.lit (.slice none 0 0)), (.lit (.slice none 0 0))]),
  .op (some 3) (.mv (.v (.lit (.bool false))))])
 (.seq (.reg [.op (some 10) (.load 8 true (.t 1)),
  .op (some 11) (.call (.v (.lit (.func (.func 45) #[] #[]))) [(.t 10)]),
  .op (some 9) (.mv (.t 11)),
  .op (some 12) (.ext (.t 9) 0),
  .op (some 13) (.ext (.t 9) 1),
  .op (some 4) (.mv (.t 12)),
  .op (some 5) (.mv (.t 13))])
 (.seq (.seq (.reg [.op (some 14) (.mv (.t 5)),
  .op (some 15) (.un .not (.t 14))])
 (.cond (.t 15)
 (.seq (.reg [.op (some 16) (.build [(.lit (.int .i64 (0))), (.lit (.int .i64 (0))), (.lit (.int .i64 (0))), (.lit (.int .i64 (0))), (.lit (.int .i64 (0))), (.lit (.int .i64 (0))), (.lit (.slice none 0 0)), (.lit (.slice none 0 0))] []),
  .op none (.store 8 (.t 2) (.t 16)),
  .op (some 3) (.mv (.v (.lit (.bool false))))])
 .ret)
 .skip))
 (.seq (.reg [.op (some 17) (.bslice 87 4 0 (List.replicate 4 (.lit (.int .i64 (0)))) []),
  .op (some 6) (.mv (.t 17))])
 (.seq (.seq (.reg [.op (some 18) (.faddr 7 (.t 1)),
  .op (some 19) (.load 1 false (.t 18)),
  .op (some 20) (.lenL (.t 19)),
  .op (some 21) (.mv (.v (.lit (.int .i64 (0)))))])
 (.block 0 (.loop (.seq (.reg [.op (some 22) (.binI .lss (.t 21) (.t 20))])
 (.seq (.cond (.t 22)
 .skip
 (.exit 0))
 (.seq (.block 1 (.seq (.reg [.op (some 23) (.mv (.t 21)),
  .op (some 24) (.iaddrS 4 (.t 19) (.t 21)),
  .op (some 25) (.load 4 true (.t 24)),
  .op (some 8) (.alloc 87 (List.replicate 4 (.lit (.int .i64 (0))))),
  .op (some 7) (.mv (.t 23)),
  .op none (.store 4 (.t 8) (.t 25))])
 (.seq (.reg [.op (some 26) (.mv (.t 4)),
  .op (some 27) (.mv (.t 7)),
  .op (some 28) (.call (.v (.lit (.func (.func 101) #[] #[]))) [(.t 26), (.t 27)]),
  .op (some 29) (.un .not (.t 28))])
 (.cond (.t 29)
 (.reg [.op (some 30) (.mv (.t 6)),
  .op (some 31) (.load 4 true (.t 8)),
  .app (some 33) 32 87 4 32 (.t 30) 1 (List.replicate 4 (.lit (.int .i64 (0)))) [(0, (.t 31))],
  .op (some 6) (.mv (.t 33))])
 .skip))))
 (.reg [.op (some 34) (.binI .add (.t 21) (.v (.lit (.int .i64 (1))))),
  .op (some 21) (.mv (.t 34))])))))))
 (.seq (.reg [.op (some 35) (.load 8 true (.t 1)),
  .op (some 36) (.mv (.t 6)),
  .op (some 37) (.call (.v (.lit (.func (.func 102) #[] #[]))) [(.t 35), (.t 36)]),
  .op none (.store 8 (.t 2) (.t 37)),
  .op (some 3) (.mv (.v (.lit (.bool true))))])
 .ret))))))
def rs48 : List RR := [.cell 2 8 true, .tmp 3]
def cut48 : Nat → Nat := fun id => 0
theorem k48 : (Try.f48.body.bind fun c => comp Try.prog Try.f48.ntmps cut48 c) = some r48 := by kernel_rfl
theorem by48 {W0 : World} {σ : List Blk} {args : List AV} {K : Cont} (hn : args.length ≤ 38) (h : rW Try.prog W0 σ.length r48 (initFr args) σ (finP W0 rs48 σ.length K)) : ACall Try.prog W0 48 args σ K :=
  ACall.introR mixed Try.func48 (by kernel_rfl) k48 (by kernel_rfl) hn h
def r49 : RC := (.seq (.reg [.op (some 1) (.box 67 (.t 0)),
  .op (some 2) (.alloc 67 [(.lit (.int .i64 (0))), (.lit (.int .i64 (0))), (.lit (.int .i64 (0))), (.lit (.int .i64 (0))), (.lit (.int .i64 (0))), (.lit (.int .i64 (0))), (.lit (.slice none 0 0)), (.lit (.slice none 0 0))]),
  .op (some 3) (.mv (.v (.lit (.bool false))))])
 (.seq (.seq (.reg [.op (some 7) (.load 8 true (.t 1)),
  .op (some 8) (.call (.v (.lit (.func (.func 97) #[] #[]))) [(.t 7)]),
  .op (some 9) (.un .not (.t 8))])
 (.cond (.t 9)
 (.seq (.reg [.op (some 10) (.build [(.lit (.int .i64 (0))), (.lit (.int .i64 (0))), (.lit (.int .i64 (0))), (.lit (.int .i64 (0))), (.lit (.int .i64 (0))), (.lit (.int .i64 (0))), (.lit (.slice none 0 0)), (.lit (.slice none 0 0))] []),
  .op none (.store 8 (.t 2) (.t 10)),
  .op (some 3) (.mv (.v (.lit (.bool false))))])
 .ret)
 .skip))
 (.seq (.reg [.op (some 11) (.load 8 true (.t 1)),
  .op (some 12) (.call (.v (.lit (.func (.func 100) #[] #[]))) [(.t 11)]),
  .op (some 13) (.bslice 87 4 0 (List.replicate 4 (.lit (.int .i64 (0)))) []),
  .op (some 4) (.mv (.t 12)),
  .op (some 5) (.mv (.t 13))])
 (.seq (.seq (.reg [.op (some 6) (.mv (.v (.lit (.int .i64 (0)))))])
 (.block 0 (.loop (.seq (.seq (.reg [.op (some 14) (.mv (.t 6)),
  .op (some 15) (.faddr 7 (.t 1)),
  .op (some 16) (.load 1 false (.t 15)),
  .op (some 17) (.lenL (.t 16)),
  .op (some 18) (.binI .lss (.t 14) (.t 17))])
 (.cond (.t 18)
 .skip
 (.exit 0)))
 (.seq (.block 1 (.seq (.reg [.op (some 21) (.mv (.t 4)),
  .op (some 22) (.mv (.t 6)),
  .op (some 23) (.call (.v (.lit (.func (.func 103) #[] #[]))) [(.t 21), (.t 22)]),
  .op (some 24) (.un .not (.t 23))])
 (.cond (.t 24)
 (.reg [.op (some 25) (.mv (.t 5)),
  .op (some 26) (.faddr 7 (.t 1)),
  .op (some 27) (.load 1 false (.t 26)),
  .op (some 28) (.mv (.t 6)),
  .op (some 29) (.iaddrS 4 (.t 27) (.t 28)),
  .op (some 30) (.load 4 true (.t 29)),
  .app (some 32) 31 87 4 32 (.t 25) 1 (List.replicate 4 (.lit (.int .i64 (0)))) [(0, (.t 30))],
  .op (some 5) (.mv (.t 32))])
 .skip)))
 (.reg [.op (some 19) (.mv (.t 6)),
  .op (some 20) (.binI .add (.t 19) (.v (.lit (.int .i64 (1))))),
  .op (some 6) (.mv (.t 20))]))))))
 (.seq (.reg [.op (some 33) (.load 8 true (.t 1)),
  .op (some 34) (.mv (.t 5)),
  .op (some 35) (.call (.v (.lit (.func (.func 104) #[] #[]))) [(.t 33), (.t 34)]),
  .op none (.store 8 (.t 2) (.t 35)),
  .op (some 3) (.mv (.v (.lit (.bool true))))])
 .ret)))))
def rs49 : List RR := [.cell 2 8 true, .tmp 3]
def cut49 : Nat → Nat := fun id => 0
theorem k49 : (Try.f49.body.bind fun c => comp Try.prog Try.f49.ntmps cut49 c) = some r49 := by kernel_rfl
theorem by49 {W0 : World} {σ : List Blk} {args : List AV} {K : Cont} (hn : args.length ≤ 36) (h : rW Try.prog W0 σ.length r49 (initFr args) σ (finP W0 rs49 σ.length K)) : ACall Try.prog W0 49 args σ K :=
  ACall.introR mixed Try.func49 (by kernel_rfl) k49 (by kernel_rfl) hn h
def r50 : RC := (.seq (.reg [.op (some 2) (.box 67 (.t 0)),
  .op (some 3) (.box 67 (.t 1)),
  .op (some 4) (.mv (.v (.lit (.bool false))))])
 (.seq (.seq (.reg [.op (some 6) (.faddr 0 (.t 2)),
  .op (some 7) (.load 6 true (.t 6)),
  .op (some 8) (.faddr 0 (.t 3)),
  .op (some 9) (.load 6 true (.t 8)),
  .op (some 10) (.eqA true [.int, .int, .int, .int, .int, .int] (.t 7) (.t 9)),
  .op (some 11) (.mv (.t 10)),
  .grp 11 false [((some 12), (.faddr 6 (.t 2))), ((some 13), (.load 1 false (.t 12))), ((some 14), (.faddr 6 (.t 3))), ((some 15), (.load 1 false (.t 14))), ((some 16), (.call (.v (.lit (.func (.func 105) #[] #[]))) [(.t 13), (.t 15)])), ((some 17), (.un .not (.t 16)))],
  .op (some 18) (.pick (.t 11) (.v (.lit (.bool true))) (.t 17)),
  .op (some 19) (.mv (.t 18)),
  .grp 19 false [((some 20), (.faddr 7 (.t 2))), ((some 21), (.load 1 false (.t 20))), ((some 22), (.lenL (.t 21))), ((some 23), (.faddr 7 (.t 3))), ((some 24), (.load 1 false (.t 23))), ((some 25), (.lenL (.t 24))), ((some 26), (.binI .neq (.t 22) (.t 25)))],
  .op (some 27) (.pick (.t 19) (.v (.lit (.bool true))) (.t 26))])
 (.cond (.t 27)
 (.seq (.reg [.op (some 4) (.mv (.v (.lit (.bool false))))])
 .ret)
 .skip))
 (.seq (.seq (.reg [.op (some 5) (.mv (.v (.lit (.int .i64 (0)))))])
 (.block 0 (.loop (.seq (.seq (.reg [.op (some 28) (.mv (.t 5)),
  .op (some 29) (.faddr 7 (.t 2)),
  .op (some 30) (.load 1 false (.t 29)),
  .op (some 31) (.lenL (.t 30)),
  .op (some 32) (.binI .lss (.t 28) (.t 31))])
 (.cond (.t 32)
 .skip
 (.exit 0)))
 (.seq (.block 1 (.seq (.draw [((some 35), (.faddr 7 (.t 2))), ((some 36), (.load 1 false (.t 35))), ((some 37), (.mv (.t 5))), ((some 38), (.iaddrS 4 (.t 36) (.t 37))), ((some 39), (.load 4 true (.t 38))), ((some 40), (.faddr 7 (.t 3))), ((some 41), (.load 1 false (.t 40))), ((some 42), (.mv (.t 5))), ((some 43), (.iaddrS 4 (.t 41) (.t 42))), ((some 44), (.load 4 true (.t 43))), ((some 45), (.eqA true [.int, .int, .int, .int] (.t 39) (.t 44)))] [])
 (.cond (.t 45)
 (.seq (.reg [.op (some 4) (.mv (.v (.lit (.bool false))))])
 .ret)
 .skip)))
 (.reg [.op (some 33) (.mv (.t 5)),
  .op (some 34) (.binI .add (.t 33) (.v (.lit (.int .i64 (1))))),
  .op (some 5) (.mv (.t 34))]))))))
 (.seq (.reg [.op (some 4) (.mv (.v (.lit (.bool true))))])
 .ret))))
def rs50 : List RR := [.tmp 4]
def cut50 : Nat → Nat := fun id => if id = 6 then 23 else 0
theorem k50 : (Try.f50.body.bind fun c => comp Try.prog Try.f50.ntmps cut50 c) = some r50 := by kernel_rfl
theorem by50 {W0 : World} {σ : List Blk} {args : List AV} {K : Cont} (hn : args.length ≤ 46) (h : rW Try.prog W0 σ.length r50 (initFr args) σ (finP W0 rs50 σ.length K)) : ACall Try.prog W0 50 args σ K :=
  ACall.introR mixed Try.func50 (by kernel_rfl) k50 (by kernel_rfl) hn h
def r51 : RC := (.seq (.reg [.op (some 2) (.alloc 67 [(.lit (.int .i64 (0))), (.lit (.int .i64 (0))), (.lit (.int .i64 (0))), (.lit (.int .i64 (0))), (.lit (.int .i64 (0))), (.lit (.int .i64 (0))), (.lit (.slice none 0 0)), (.lit (.slice none 0 0))]),
  .op (some 3) (.alloc 67 [(.lit (.int .i64 (0))), (.lit (.int .i64 (0))), (.lit (.int .i64 (0))), (.lit (.int .i64 (0))), (.lit (.int .i64 (0))), (.lit (.int .i64 (0))), (.lit (.slice none 0 0)), (.lit (.slice none 0 0))])])
 (.seq (.reg [.op (some 11) (.mv (.t 0)),
  .op (some 12) (.build [(.lit (.slice none 0 0)), (.lit (.int .i64 (0))), (.lit (.int .u64 (0)))] [((0, 1), (.t 11))]),
  .op (some 13) (.box 92 (.t 12)),
  .op (some 4) (.mv (.t 13))])
 (.seq (.reg [.op (some 14) (.mv (.t 4)),
  .op (some 15) (.call (.v (.lit (.func (.func 106) #[] #[]))) [(.t 14)]),
  .op (some 5) (.alloc 67 [(.lit (.int .i64 (0))), (.lit (.int .i64 (0))), (.lit (.int .i64 (0))), (.lit (.int .i64 (0))), (.lit (.int .i64 (0))), (.lit (.int .i64 (0))), (.lit (.slice none 0 0)), (.lit (.slice none 0 0))]),
  .op none (.store 8 (.t 5) (.t 15))])
 (.seq (.seq (.reg [.op (some 16) (.load 8 true (.t 5)),
  .op (some 17) (.call (.v (.lit (.func (.func 97) #[] #[]))) [(.t 16)]),
  .op (some 18) (.un .not (.t 17)),
  .op (some 19) (.mv (.t 18)),
  .grp 19 false [((some 20), (.mv (.t 4))), ((some 21), (.call (.v (.lit (.func (.func 72) #[] #[]))) [(.t 20), (.v (.lit (.int .i64 (4))))]))],
  .op (some 22) (.pick (.t 19) (.v (.lit (.bool true))) (.t 21))])
 (.cond (.t 22)
 (.seq (.any true (.h ⟨none, (some 23), (.load 8 true (.t 5))⟩
 (.n ⟨none, (some 24), (.mv (.t 4))⟩
 (.t ⟨none, (some 25), (.call (.v (.lit (.func (.func 106) #[] #[]))) [(.t 24)])⟩
 (.t ⟨none, none, (.store 8 (.t 2) (.t 23))⟩
 (.t ⟨none, none, (.store 8 (.t 3) (.t 25))⟩
 .fin))))))
 .ret)
 .skip))
 (.seq (.reg [.op (some 26) (.load 8 true (.t 5)),
  .op (some 27) (.faddr 7 (.t 5)),
  .op (some 28) (.load 1 false (.t 27)),
  .op (some 29) (.call (.v (.lit (.func (.func 104) #[] #[]))) [(.t 26), (.t 28)]),
  .op (some 6) (.alloc 67 [(.lit (.int .i64 (0))), (.lit (.int .i64 (0))), (.lit (.int .i64 (0))), (.lit (.int .i64 (0))), (.lit (.int .i64 (0))), (.lit (.int .i64 (0))), (.lit (.slice none 0 0)), (.lit (.slice none 0 0))]),
  .op none (.store 8 (.t 6) (.t 29))])
 (.seq (.reg [.op (some 30) (.mv (.t 4)),
  .op (some 31) (.call (.v (.lit (.func (.func 60) #[] #[]))) [(.t 30)]),
  .op (some 32) (.faddr 0 (.t 6)),
  .op none (.store 6 (.t 32) (.t 31))])
 (.seq (.seq (.reg [.op (some 33) (.faddr 7 (.t 6)),
  .op (some 34) (.load 1 false (.t 33)),
  .op (some 35) (.lenL (.t 34)),
  .op (some 7) (.mv (.t 35))])
 (.seq (.reg [.op (some 36) (.mv (.t 7)),
  .op (some 37) (.binI .gtr (.t 36) (.v (.lit (.int .i64 (1)))))])
 (.cond (.t 37)
 (.seq (.reg [.op (some 38) (.mv (.t 4)),
  .op (some 39) (.mv (.t 7)),
  .op (some 40) (.binI .sub (.t 39) (.v (.lit (.int .i64 (1))))),
  .op (some 41) (.call (.v (.lit (.func (.func 71) #[] #[]))) [(.t 38), (.t 40)]),
  .op (some 8) (.mv (.t 41))])
 (.seq (.any true (.h ⟨none, (some 42), (.faddr 7 (.t 6))⟩
 (.h ⟨none, (some 43), (.load 1 false (.t 42))⟩
 (.n ⟨none, (some 44), (.mv (.t 8))⟩
 (.h ⟨none, (some 45), (.iaddrS 4 (.t 43) (.t 44))⟩
 (.h ⟨none, (some 46), (.load 4 true (.t 45))⟩
 (.h ⟨none, (some 47), (.faddr 7 (.t 6))⟩
 (.h ⟨none, (some 48), (.load 1 false (.t 47))⟩
 (.n ⟨none, (some 49), (.mv (.t 8))⟩
 (.n ⟨none, (some 50), (.binI .add (.t 49) (.v (.lit (.int .i64 (1)))))⟩
 (.h ⟨none, (some 51), (.iaddrS 4 (.t 48) (.t 50))⟩
 (.h ⟨none, (some 52), (.load 4 true (.t 51))⟩
 (.both (.t ⟨none, (some 9), (.alloc 87 (List.replicate 4 (.lit (.int .i64 (0)))))⟩
 (.t ⟨none, (some 10), (.alloc 87 (List.replicate 4 (.lit (.int .i64 (0)))))⟩
 (.t ⟨none, none, (.store 4 (.t 9) (.t 46))⟩
 (.t ⟨none, none, (.store 4 (.t 10) (.t 52))⟩
 .fin))))
 (.t ⟨none, (some 10), (.alloc 87 (List.replicate 4 (.lit (.int .i64 (0)))))⟩
 (.t ⟨none, (some 9), (.alloc 87 (List.replicate 4 (.lit (.int .i64 (0)))))⟩
 (.t ⟨none, none, (.store 4 (.t 9) (.t 46))⟩
 (.t ⟨none, none, (.store 4 (.t 10) (.t 52))⟩
 .fin)))))))))))))))))
 (.seq (.reg [.op (some 53) (.faddr 7 (.t 6)),
  .op (some 54) (.load 1 false (.t 53)),
  .op (some 55) (.mv (.t 8)),
  .op (some 56) (.load 4 true (.t 10)),
  .op (some 57) (.iaddrS 4 (.t 54) (.t 55)),
  .op none (.store 4 (.t 57) (.t 56))])
 (.reg [.op (some 58) (.faddr 7 (.t 6)),
  .op (some 59) (.load 1 false (.t 58)),
  .op (some 60) (.mv (.t 8)),
  .op (some 61) (.binI .add (.t 60) (.v (.lit (.int .i64 (1))))),
  .op (some 62) (.load 4 true (.t 9)),
  .op (some 63) (.iaddrS 4 (.t 59) (.t 61)),
  .op none (.store 4 (.t 63) (.t 62))]))))
 .skip)))
 (.seq (.any true (.n ⟨none, (some 64), (.load 8 true (.t 5))⟩
 (.h ⟨none, (some 65), (.load 8 true (.t 6))⟩
 (.t ⟨none, none, (.store 8 (.t 2) (.t 64))⟩
 (.t ⟨none, none, (.store 8 (.t 3) (.t 65))⟩
 .fin)))))
 .ret))))))))
def rs51 : List RR := [.cell 2 8 true, .cell 3 8 true]
def cut51 : Nat → Nat := fun id => if id = 4 then 1000057 else if id = 10 then 1061441 else if id = 13 then 1000025 else 0
theorem k51 : (Try.f51.body.bind fun c => comp Try.prog Try.f51.ntmps cut51 c) = some r51 := by kernel_rfl
theorem by51 {W0 : World} {σ : List Blk} {args : List AV} {K : Cont} (hn : args.length ≤ 66) (h : rW Try.prog W0 σ.length r51 (initFr args) σ (finP W0 rs51 σ.length K)) : ACall Try.prog W0 51 args σ K :=
  ACall.introR mixed Try.func51 (by kernel_rfl) k51 (by kernel_rfl) hn h
def r52 : RC := (.seq (.reg [.op (some 2) (.box 67 (.t 0)),
  .op (some 3) (.box 67 (.t 1)),
  .op (some 4) (.mv (.v (.lit (.bool false)))),
  .op (some 5) (.mv (.v (.lit (.bool false))))])
 (.seq (.reg [.op (some 11) (.load 8 true (.t 2)),
  .op (some 12) (.call (.v (.lit (.func (.func 95) #[] #[]))) [(.t 11)]),
  .op (some 10) (.mv (.t 12)),
  .op (some 13) (.ext (.t 10) 0),
  .op (some 14) (.ext (.t 10) 1),
  .op (some 6) (.mv (.t 13)),
  .op (some 7) (.mv (.t 14))])
 (.seq (.reg [.op (some 16) (.load 8 true (.t 3)),
  .op (some 17) (.call (.v (.lit (.func (.func 95) #[] #[]))) [(.t 16)]),
  .op (some 15) (.mv (.t 17)),
  .op (some 18) (.ext (.t 15) 0),
  .op (some 19) (.ext (.t 15) 1),
  .op (some 8) (.mv (.t 18)),
  .op (some 9) (.mv (.t 19))])
 (.seq (.seq (.reg [.op (some 20) (.mv (.t 7)),
  .op (some 21) (.un .not (.t 20)),
  .op (some 22) (.mv (.t 21)),
  .grp 22 false [((some 23), (.mv (.t 9))), ((some 24), (.un .not (.t 23)))],
  .op (some 25) (.pick (.t 22) (.v (.lit (.bool true))) (.t 24))])
 (.cond (.t 25)
 (.seq (.reg [.op (some 4) (.mv (.v (.lit (.bool false)))),
  .op (some 5) (.mv (.v (.lit (.bool false))))])
 .ret)
 .skip))
 (.seq (.reg [.op (some 26) (.mv (.t 6)),
  .op (some 27) (.call (.v (.lit (.func (.func 96) #[] #[]))) [(.t 26)]),
  .op (some 28) (.mv (.t 8)),
  .op (some 29) (.call (.v (.lit (.func (.func 96) #[] #[]))) [(.t 28)]),
  .op (some 30) (.eqA false [.int, .int] (.t 27) (.t 29)),
  .op (some 4) (.mv (.t 30)),
  .op (some 5) (.mv (.v (.lit (.bool true))))])
 .ret)))))
def rs52 : List RR := [.tmp 4, .tmp 5]
def cut52 : Nat → Nat := fun id => 0
theorem k52 : (Try.f52.body.bind fun c => comp Try.prog Try.f52.ntmps cut52 c) = some r52 := by kernel_rfl
theorem by52 {W0 : World} {σ : List Blk} {args : List AV} {K : Cont} (hn : args.length ≤ 31) (h : rW Try.prog W0 σ.length r52 (initFr args) σ (finP W0 rs52 σ.length K)) : ACall Try.prog W0 52 args σ K :=
  ACall.introR mixed Try.func52 (by kernel_rfl) k52 (by kernel_rfl) hn h
def r53 : RC := (.seq (.reg [.op (some 2) (.box 67 (.t 0)),
  .op (some 3) (.box 67 (.t 1)),
  .op (some 4) (.mv (.v (.lit (.bool false)))),
  .op (some 5) (.mv (.v (.lit (.bool false))))])
 (.seq (.seq (.reg [.op (some 6) (.load 8 true (.t 2)),
  .op (some 7) (.call (.v (.lit (.func (.func 97) #[] #[]))) [(.t 6)]),
  .op (some 8) (.un .not (.t 7)),
  .op (some 9) (.mv (.t 8)),
  .grp 9 false [((some 10), (.load 8 true (.t 3))), ((some 11), (.call (.v (.lit (.func (.func 97) #[] #[]))) [(.t 10)])), ((some 12), (.un .not (.t 11)))],
  .op (some 13) (.pick (.t 9) (.v (.lit (.bool true))) (.t 12))])
 (.cond (.t 13)
 (.seq (.reg [.op (some 4) (.mv (.v (.lit (.bool false)))),
  .op (some 5) (.mv (.v (.lit (.bool false))))])
 .ret)
 .skip))
 (.seq (.draw [((some 14), (.load 8 true (.t 2))), ((some 15), (.call (.v (.lit (.func (.func 98) #[] #[]))) [(.t 14)])), ((some 16), (.load 8 true (.t 3))), ((some 17), (.call (.v (.lit (.func (.func 98) #[] #[]))) [(.t 16)])), ((some 18), (.eqA false [.int, .int, .int, .int, .int, .int, .int, .int, .int, .int, .int, .int, .int, .int, .int, .int, .int, .int, .int, .int, .int, .int, .int, .int, .int, .int, .int, .int, .int, .int, .int, .int, .int, .int, .int, .int] (.t 15) (.t 17))), ((some 4), (.mv (.t 18))), ((some 5), (.mv (.v (.lit (.bool true)))))] [])
 .ret)))
def rs53 : List RR := [.tmp 4, .tmp 5]
def cut53 : Nat → Nat := fun id => if id = 3 then 15 else 0
theorem k53 : (Try.f53.body.bind fun c => comp Try.prog Try.f53.ntmps cut53 c) = some r53 := by kernel_rfl
theorem by53 {W0 : World} {σ : List Blk} {args : List AV} {K : Cont} (hn : args.length ≤ 19) (h : rW Try.prog W0 σ.length r53 (initFr args) σ (finP W0 rs53 σ.length K)) : ACall Try.prog W0 53 args σ K :=
  ACall.introR mixed Try.func53 (by kernel_rfl) k53 (by kernel_rfl) hn h
def r54 : RC := (.seq (.reg [.op (some 2) (.alloc 67 [(.lit (.int .i64 (0))), (.lit (.int .i64 (0))), (.lit (.int .i64 (0))), (.lit (.int .i64 (0))), (.lit (.int .i64 (0))), (.lit (.int .i64 (0))), (.lit (.slice none 0 0)), (.lit (.slice none 0 0))]),
  .op (some 3) (.mv (.v (.lit (.int .i64 (0)))))])
 (.seq (.reg [.op (some 4) (.mv (.t 0)),
  .op (some 5) (.call (.v (.lit (.func (.func 107) #[] #[]))) [(.t 4)]),
  .op (some 6) (.ext (.t 5) 0),
  .op (some 7) (.ext (.t 5) 1),
  .op none (.store 8 (.t 2) (.t 6)),
  .op (some 3) (.mv (.t 7))])
 .ret))
def rs54 : List RR := [.cell 2 8 true, .tmp 3]
def cut54 : Nat → Nat := fun id => 0
theorem k54 : (Try.f54.body.bind fun c => comp Try.prog Try.f54.ntmps cut54 c) = some r54 := by kernel_rfl
theorem by54 {W0 : World} {σ : List Blk} {args : List AV} {K : Cont} (hn : args.length ≤ 8) (h : rW Try.prog W0 σ.length r54 (initFr args) σ (finP W0 rs54 σ.length K)) : ACall Try.prog W0 54 args σ K :=
  ACall.introR mixed Try.func54 (by kernel_rfl) k54 (by kernel_rfl) hn h
def r55 : RC := (.seq (.reg [.op (some 2) (.box 67 (.t 0)),
  .op (some 4) (.mv (.v (.lit (.bool false)))),
  .op (some 5) (.mv (.v (.lit (.bool false))))])
 (.seq (.reg [.op (some 10) (.load 8 true (.t 2)),
  .op (some 11) (.call (.v (.lit (.func (.func 95) #[] #[]))) [(.t 10)]),
  .op (some 9) (.mv (.t 11)),
  .op (some 12) (.ext (.t 9) 0),
  .op (some 13) (.ext (.t 9) 1),
  .op (some 6) (.mv (.t 12)),
  .op (some 7) (.mv (.t 13))])
 (.seq (.seq (.reg [.op (some 14) (.mv (.t 7)),
  .op (some 15) (.un .not (.t 14)),
  .op (some 16) (.mv (.t 15)),
  .grp 16 false [((some 17), (.mv (.t 1))), ((some 18), (.binI .lss (.t 17) (.v (.lit (.int .i64 (0))))))],
  .op (some 19) (.pick (.t 16) (.v (.lit (.bool true))) (.t 18)),
  .op (some 20) (.mv (.t 19)),
  .grp 20 false [((some 21), (.mv (.t 1))), ((some 22), (.faddr 7 (.t 2))), ((some 23), (.load 1 false (.t 22))), ((some 24), (.lenL (.t 23))), ((some 25), (.binI .sub (.t 24) (.v (.lit (.int .i64 (2)))))), ((some 26), (.binI .gtr (.t 21) (.t 25)))],
  .op (some 27) (.pick (.t 20) (.v (.lit (.bool true))) (.t 26))])
 (.cond (.t 27)
 (.seq (.reg [.op (some 4) (.mv (.v (.lit (.bool false)))),
  .op (some 5) (.mv (.v (.lit (.bool false))))])
 .ret)
 .skip))
 (.seq (.any true (.n ⟨none, (some 28), (.mv (.t 6))⟩
 (.h ⟨none, (some 29), (.nilck (.t 28))⟩
 (.h ⟨none, (some 30), (.faddr 0 (.t 29))⟩
 (.h ⟨none, (some 31), (.load 1 false (.t 30))⟩
 (.n ⟨none, (some 32), (.mv (.t 6))⟩
 (.n ⟨none, (some 33), (.nilck (.t 32))⟩
 (.n ⟨none, (some 34), (.faddr 1 (.t 33))⟩
 (.n ⟨none, (some 35), (.load 1 false (.t 34))⟩
 (.t ⟨none, (some 36), (.call (.v (.lit (.func (.func 108) #[] #[]))) [(.t 35)])⟩
 (.n ⟨none, (some 37), (.build [(.lit (.int .u64 (0))), (.lit (.slice none 0 0))] [((0, 1), (.t 31)), ((1, 1), (.t 36))])⟩
 (.t ⟨none, (some 38), (.box 129 (.t 37))⟩
 (.n ⟨none, (some 8), (.mv (.t 38))⟩
 .fin)))))))))))))
 (.seq (.any false (.n ⟨none, (some 39), (.mv (.t 8))⟩
 (.n ⟨none, (some 40), (.nilck (.t 39))⟩
 (.n ⟨none, (some 41), (.faddr 1 (.t 40))⟩
 (.n ⟨none, (some 42), (.load 1 false (.t 41))⟩
 (.n ⟨none, (some 43), (.mv (.t 1))⟩
 (.n ⟨none, (some 44), (.mv (.t 8))⟩
 (.n ⟨none, (some 45), (.nilck (.t 44))⟩
 (.n ⟨none, (some 46), (.faddr 1 (.t 45))⟩
 (.n ⟨none, (some 47), (.load 1 false (.t 46))⟩
 (.n ⟨none, (some 48), (.mv (.t 1))⟩
 (.n ⟨none, (some 49), (.binI .add (.t 48) (.v (.lit (.int .i64 (1)))))⟩
 (.n ⟨none, (some 50), (.mv (.t 8))⟩
 (.n ⟨none, (some 51), (.nilck (.t 50))⟩
 (.n ⟨none, (some 52), (.faddr 1 (.t 51))⟩
 (.n ⟨none, (some 53), (.load 1 false (.t 52))⟩
 (.n ⟨none, (some 54), (.mv (.t 1))⟩
 (.n ⟨none, (some 55), (.binI .add (.t 54) (.v (.lit (.int .i64 (1)))))⟩
 (.n ⟨none, (some 56), (.iaddrS 1 (.t 53) (.t 55))⟩
 (.n ⟨none, (some 57), (.load 1 false (.t 56))⟩
 (.n ⟨none, (some 58), (.mv (.t 8))⟩
 (.n ⟨none, (some 59), (.nilck (.t 58))⟩
 (.n ⟨none, (some 60), (.faddr 1 (.t 59))⟩
 (.n ⟨none, (some 61), (.load 1 false (.t 60))⟩
 (.n ⟨none, (some 62), (.mv (.t 1))⟩
 (.n ⟨none, (some 63), (.iaddrS 1 (.t 61) (.t 62))⟩
 (.n ⟨none, (some 64), (.load 1 false (.t 63))⟩
 (.n ⟨none, (some 65), (.iaddrS 1 (.t 42) (.t 43))⟩
 (.t ⟨none, none, (.store 1 (.t 65) (.t 57))⟩
 (.n ⟨none, (some 66), (.iaddrS 1 (.t 47) (.t 49))⟩
 (.t ⟨none, none, (.store 1 (.t 66) (.t 64))⟩
 .fin)))))))))))))))))))))))))))))))
 (.seq (.reg [.op (some 67) (.mv (.t 6)),
  .op (some 68) (.call (.v (.lit (.func (.func 96) #[] #[]))) [(.t 67)]),
  .op (some 69) (.mv (.t 8)),
  .op (some 70) (.call (.v (.lit (.func (.func 96) #[] #[]))) [(.t 69)]),
  .op (some 71) (.eqA false [.int, .int] (.t 68) (.t 70)),
  .op (some 4) (.mv (.t 71)),
  .op (some 5) (.mv (.v (.lit (.bool true))))])
 .ret))))))
def rs55 : List RR := [.tmp 4, .tmp 5]
def cut55 : Nat → Nat := fun id => if id = 4 then 1002561 else if id = 5 then 1343177280 else 0
theorem k55 : (Try.f55.body.bind fun c => comp Try.prog Try.f55.ntmps cut55 c) = some r55 := by kernel_rfl
theorem by55 {W0 : World} {σ : List Blk} {args : List AV} {K : Cont} (hn : args.length ≤ 72) (h : rW Try.prog W0 σ.length r55 (initFr args) σ (finP W0 rs55 σ.length K)) : ACall Try.prog W0 55 args σ K :=
  ACall.introR mixed Try.func55 (by kernel_rfl) k55 (by kernel_rfl) hn h
def r56 : RC := (.seq (.reg [.op (some 2) (.box 67 (.t 0)),
  .op (some 4) (.mv (.v (.lit (.bool false)))),
  .op (some 5) (.mv (.v (.lit (.bool false))))])
 (.seq (.seq (.reg [.op (some 7) (.load 8 true (.t 2)),
  .op (some 8) (.call (.v (.lit (.func (.func 97) #[] #[]))) [(.t 7)]),
  .op (some 9) (.un .not (.t 8)),
  .op (some 10) (.mv (.t 9)),
  .grp 10 false [((some 11), (.mv (.t 1))), ((some 12), (.faddr 7 (.t 2))), ((some 13), (.load 1 false (.t 12))), ((some 14), (.lenL (.t 13))), ((some 15), (.binI .sub (.t 14) (.v (.lit (.int .i64 (2)))))), ((some 16), (.call (.v (.lit (.func (.func 109) #[] #[]))) [(.t 11), (.v (.lit (.int .i64 (0)))), (.t 15)])), ((some 17), (.un .not (.t 16)))],
  .op (some 18) (.pick (.t 10) (.v (.lit (.bool true))) (.t 17))])
 (.cond (.t 18)
 (.seq (.reg [.op (some 4) (.mv (.v (.lit (.bool false)))),
  .op (some 5) (.mv (.v (.lit (.bool false))))])
 .ret)
 .skip))
 (.seq (.reg [.op (some 19) (.load 8 true (.t 2)),
  .op (some 20) (.faddr 7 (.t 2)),
  .op (some 21) (.load 1 false (.t 20)),
  .op (some 22) (.call (.v (.lit (.func (.func 104) #[] #[]))) [(.t 19), (.t 21)]),
  .op (some 6) (.alloc 67 [(.lit (.int .i64 (0))), (.lit (.int .i64 (0))), (.lit (.int .i64 (0))), (.lit (.int .i64 (0))), (.lit (.int .i64 (0))), (.lit (.int .i64 (0))), (.lit (.slice none 0 0)), (.lit (.slice none 0 0))]),
  .op none (.store 8 (.t 6) (.t 22))])
 (.seq (.draw [((some 23), (.faddr 7 (.t 6))), ((some 24), (.load 1 false (.t 23))), ((some 25), (.mv (.t 1))), ((some 26), (.faddr 7 (.t 2))), ((some 27), (.load 1 false (.t 26))), ((some 28), (.mv (.t 1))), ((some 29), (.binI .add (.t 28) (.v (.lit (.int .i64 (1)))))), ((some 30), (.iaddrS 4 (.t 27) (.t 29))), ((some 31), (.load 4 true (.t 30))), ((some 32), (.iaddrS 4 (.t 24) (.t 25)))] [(none, (.store 4 (.t 32) (.t 31)))])
 (.seq (.draw [((some 33), (.faddr 7 (.t 6))), ((some 34), (.load 1 false (.t 33))), ((some 35), (.mv (.t 1))), ((some 36), (.binI .add (.t 35) (.v (.lit (.int .i64 (1)))))), ((some 37), (.faddr 7 (.t 2))), ((some 38), (.load 1 false (.t 37))), ((some 39), (.mv (.t 1))), ((some 40), (.iaddrS 4 (.t 38) (.t 39))), ((some 41), (.load 4 true (.t 40))), ((some 42), (.iaddrS 4 (.t 34) (.t 36)))] [(none, (.store 4 (.t 42) (.t 41)))])
 (.seq (.draw [((some 43), (.load 8 true (.t 2))), ((some 44), (.call (.v (.lit (.func (.func 98) #[] #[]))) [(.t 43)])), ((some 45), (.load 8 true (.t 6))), ((some 46), (.call (.v (.lit (.func (.func 98) #[] #[]))) [(.t 45)])), ((some 47), (.eqA false [.int, .int, .int, .int, .int, .int, .int, .int, .int, .int, .int, .int, .int, .int, .int, .int, .int, .int, .int, .int, .int, .int, .int, .int, .int, .int, .int, .int, .int, .int, .int, .int, .int, .int, .int, .int] (.t 44) (.t 46))), ((some 4), (.mv (.t 47))), ((some 5), (.mv (.v (.lit (.bool true)))))] [])
 .ret))))))
def rs56 : List RR := [.tmp 4, .tmp 5]
def cut56 : Nat → Nat := fun id => if id = 4 then 21 else if id = 5 then 21 else if id = 6 then 15 else 0
theorem k56 : (Try.f56.body.bind fun c => comp Try.prog Try.f56.ntmps cut56 c) = some r56 := by kernel_rfl
theorem by56 {W0 : World} {σ : List Blk} {args : List AV} {K : Cont} (hn : args.length ≤ 48) (h : rW Try.prog W0 σ.length r56 (initFr args) σ (finP W0 rs56 σ.length K)) : ACall Try.prog W0 56 args σ K :=
  ACall.introR mixed Try.func56 (by kernel_rfl) k56 (by kernel_rfl) hn h
def r57 : RC := (.seq (.reg [.op (some 1) (.box 67 (.t 0)),
  .op (some 2) (.alloc 26 (List.replicate 6 (.lit (.int .i64 (0))))),
  .op (some 3) (.mv (.v (.lit (.bool false))))])
 (.seq (.reg [.op (some 4) (.load 8 true (.t 1)),
  .op (some 5) (.faddr 7 (.t 1)),
  .op (some 6) (.load 1 false (.t 5)),
  .op (some 7) (.lenL (.t 6)),
  .op (some 8) (.call (.v (.lit (.func (.func 110) #[] #[]))) [(.t 4), (.t 7)]),
  .op (some 9) (.ext (.t 8) 0),
  .op (some 10) (.ext (.t 8) 1),
  .op none (.store 6 (.t 2) (.t 9)),
  .op (some 3) (.mv (.t 10))])
 .ret))
def rs57 : List RR := [.cell 2 6 true, .tmp 3]
def cut57 : Nat → Nat := fun id => 0
theorem k57 : (Try.f57.body.bind fun c => comp Try.prog Try.f57.ntmps cut57 c) = some r57 := by kernel_rfl
theorem by57 {W0 : World} {σ : List Blk} {args : List AV} {K : Cont} (hn : args.length ≤ 11) (h : rW Try.prog W0 σ.length r57 (initFr args) σ (finP W0 rs57 σ.length K)) : ACall Try.prog W0 57 args σ K :=
  ACall.introR mixed Try.func57 (by kernel_rfl) k57 (by kernel_rfl) hn h
def r58 : RC := (.seq (.reg [.op (some 2) (.alloc 27 [(.lit (.int .i64 (0))), (.lit (.int .i64 (0)))])])
 (.seq (.seq (.reg [.op (some 3) (.mv (.t 0)),
  .op (some 4) (.call (.v (.lit (.func (.func 72) #[] #[]))) [(.t 3), (.v (.lit (.int .i64 (40))))])])
 (.cond (.t 4)
 (.seq (.reg [.op (some 5) (.mv (.t 0)),
  .op (some 6) (.bslice 3 1 3 [(.lit (.int .i64 (0)))] [(0, (.v (.lit (.int .i64 (-1))))), (1, (.v (.lit (.int .i64 (6))))), (2, (.v (.lit (.int .i64 (0)))))]),
  .op (some 7) (.call (.v (.lit (.func (.func 73) #[] #[]))) [(.t 5), (.t 6)]),
  .op (some 8) (.mv (.t 0)),
  .op (some 9) (.bslice 3 1 3 [(.lit (.int .i64 (0)))] [(0, (.v (.lit (.int .i64 (6))))), (1, (.v (.lit (.int .i64 (-1))))), (2, (.v (.lit (.int .i64 (4611686018427387904)))))]),
  .op (some 10) (.call (.v (.lit (.func (.func 73) #[] #[]))) [(.t 8), (.t 9)]),
  .op (some 11) (.build [(.lit (.int .i64 (0))), (.lit (.int .i64 (0)))] [((0, 1), (.t 7)), ((1, 1), (.t 10))]),
  .op none (.store 2 (.t 2) (.t 11))])
 .ret)
 .skip))
 (.seq (.reg [.op (some 12) (.mv (.t 0)),
  .op (some 13) (.call (.v (.lit (.func (.func 71) #[] #[]))) [(.t 12), (.v (.lit (.int .i64 (6))))]),
  .op (some 14) (.mv (.t 0)),
  .op (some 15) (.call (.v (.lit (.func (.func 71) #[] #[]))) [(.t 14), (.v (.lit (.int .i64 (6))))]),
  .op (some 16) (.build [(.lit (.int .i64 (0))), (.lit (.int .i64 (0)))] [((0, 1), (.t 13)), ((1, 1), (.t 15))]),
  .op none (.store 2 (.t 2) (.t 16))])
 .ret)))
def rs58 : List RR := [.cell 2 2 true]
def cut58 : Nat → Nat := fun id => 0
theorem k58 : (Try.f58.body.bind fun c => comp Try.prog Try.f58.ntmps cut58 c) = some r58 := by kernel_rfl
theorem by58 {W0 : World} {σ : List Blk} {args : List AV} {K : Cont} (hn : args.length ≤ 17) (h : rW Try.prog W0 σ.length r58 (initFr args) σ (finP W0 rs58 σ.length K)) : ACall Try.prog W0 58 args σ K :=
  ACall.introR mixed Try.func58 (by kernel_rfl) k58 (by kernel_rfl) hn h
def r59 : RC := (.seq (.reg [.op (some 2) (.alloc 26 (List.replicate 6 (.lit (.int .i64 (0)))))])
 (.seq (.seq (.reg [.op (some 8) (.mv (.t 0)),
  .op (some 9) (.call (.v (.lit (.func (.func 72) #[] #[]))) [(.t 8), (.v (.lit (.int .i64 (12))))])])
 (.cond (.t 9)
 (.seq (.reg [.op (some 10) (.mv (.t 0)),
  .op (some 11) (.call (.v (.lit (.func (.func 60) #[] #[]))) [(.t 10)]),
  .op none (.store 6 (.t 2) (.t 11))])
 .ret)
 .skip))
 (.seq (.reg [.op (some 12) (.build (List.replicate 6 (.lit (.int .i64 (0)))) []),
  .op (some 13) (.mv (.t 0)),
  .op (some 14) (.bslice 3 1 4 [(.lit (.int .i64 (0)))] [(0, (.v (.lit (.int .i64 (2))))), (1, (.v (.lit (.int .i64 (3))))), (2, (.v (.lit (.int .i64 (2))))), (3, (.v (.lit (.int .i64 (6)))))]),
  .op (some 15) (.call (.v (.lit (.func (.func 73) #[] #[]))) [(.t 13), (.t 14)]),
  .op (some 3) (.alloc 26 (List.replicate 6 (.lit (.int .i64 (0))))),
  .op none (.store 6 (.t 3) (.t 12)),
  .op (some 4) (.mv (.t 15))])
 (.seq (.seq (.reg [.op (some 16) (.mv (.t 0)),
  .op (some 17) (.bslice 3 1 6 [(.lit (.int .i64 (0)))] [(0, (.v (.lit (.int .i64 (3))))), (1, (.v (.lit (.int .i64 (2))))), (2, (.v (.lit (.int .i64 (1))))), (3, (.v (.lit (.int .i64 (4))))), (4, (.v (.lit (.int .i64 (5))))), (5, (.v (.lit (.int .i64 (0)))))]),
  .op (some 18) (.call (.v (.lit (.func (.func 73) #[] #[]))) [(.t 16), (.t 17)]),
  .op (some 5) (.mv (.t 18))])
 (.block 0 (.loop (.seq (.seq (.reg [.op (some 19) (.mv (.t 5)),
  .op (some 20) (.binI .gtr (.t 19) (.v (.lit (.int .i64 (0)))))])
 (.cond (.t 20)
 .skip
 (.exit 0)))
 (.seq (.block 1 (.seq (.reg [.op (some 23) (.mv (.t 0)),
  .op (some 24) (.mv (.t 4)),
  .op (some 25) (.call (.v (.lit (.func (.func 71) #[] #[]))) [(.t 23), (.t 24)]),
  .op (some 26) (.mv (.t 0)),
  .op (some 27) (.mv (.t 4)),
  .op (some 28) (.call (.v (.lit (.func (.func 71) #[] #[]))) [(.t 26), (.t 27)]),
  .op (some 6) (.mv (.t 25)),
  .op (some 7) (.mv (.t 28))])
 (.quiet [.op (some 29) (.mv (.t 7)),
  .op (some 30) (.mv (.t 7)),
  .op (some 31) (.faddr 0 (.t 3)),
  .op (some 32) (.iaddrA 6 1 (.t 31) (.t 30)),
  .op (some 33) (.load 1 false (.t 32)),
  .op (some 34) (.mv (.t 6)),
  .op (some 35) (.binI .shl (.v (.lit (.int .i64 (1)))) (.t 34)),
  .op (some 36) (.binI .or (.t 33) (.t 35)),
  .op (some 37) (.faddr 0 (.t 3)),
  .op (some 38) (.iaddrA 6 1 (.t 37) (.t 29))] [.op none (.store 1 (.t 38) (.t 36))])))
 (.reg [.op (some 21) (.mv (.t 5)),
  .op (some 22) (.binI .sub (.t 21) (.v (.lit (.int .i64 (1))))),
  .op (some 5) (.mv (.t 22))]))))))
 (.seq (.reg [.op (some 39) (.load 6 true (.t 3)),
  .op none (.store 6 (.t 2) (.t 39))])
 .ret)))))
def rs59 : List RR := [.cell 2 6 true]
def cut59 : Nat → Nat := fun id => if id = 8 then 20 else 0
theorem k59 : (Try.f59.body.bind fun c => comp Try.prog Try.f59.ntmps cut59 c) = some r59 := by kernel_rfl
theorem by59 {W0 : World} {σ : List Blk} {args : List AV} {K : Cont} (hn : args.length ≤ 40) (h : rW Try.prog W0 σ.length r59 (initFr args) σ (finP W0 rs59 σ.length K)) : ACall Try.prog W0 59 args σ K :=
  ACall.introR mixed Try.func59 (by kernel_rfl) k59 (by kernel_rfl) hn h
def r60 : RC := (.seq (.reg [.op (some 2) (.alloc 26 (List.replicate 6 (.lit (.int .i64 (0)))))])
 (.seq (.reg [.op (some 8) (.build (List.replicate 6 (.lit (.int .i64 (0)))) []),
  .op (some 9) (.mv (.t 0)),
  .op (some 10) (.bslice 3 1 5 [(.lit (.int .i64 (0)))] [(0, (.v (.lit (.int .i64 (2))))), (1, (.v (.lit (.int .i64 (4))))), (2, (.v (.lit (.int .i64 (3))))), (3, (.v (.lit (.int .i64 (1))))), (4, (.v (.lit (.int .i64 (6)))))]),
  .op (some 11) (.call (.v (.lit (.func (.func 73) #[] #[]))) [(.t 9), (.t 10)]),
  .op (some 3) (.alloc 26 (List.replicate 6 (.lit (.int .i64 (0))))),
  .op none (.store 6 (.t 3) (.t 8)),
  .op (some 4) (.mv (.t 11))])
 (.seq (.seq (.reg [.op (some 5) (.mv (.v (.lit (.int .i64 (0)))))])
 (.block 0 (.loop (.seq (.seq (.reg [.op (some 12) (.mv (.t 5)),
  .op (some 13) (.binI .lss (.t 12) (.v (.lit (.int .i64 (6)))))])
 (.cond (.t 13)
 .skip
 (.exit 0)))
 (.seq (.block 1 (.seq (.reg [.op (some 6) (.mv (.v (.lit (.int .i64 (0)))))])
 (.block 2 (.loop (.seq (.seq (.reg [.op (some 16) (.mv (.t 6)),
  .op (some 17) (.binI .lss (.t 16) (.v (.lit (.int .i64 (6)))))])
 (.cond (.t 17)
 .skip
 (.exit 2)))
 (.seq (.block 3 (.seq (.reg [.op (some 20) (.mv (.t 0)),
  .op (some 21) (.mv (.t 4)),
  .op (some 22) (.call (.v (.lit (.func (.func 72) #[] #[]))) [(.t 20), (.t 21)])])
 (.cond (.t 22)
 (.reg [.op (some 23) (.load 6 true (.t 3)),
  .op (some 24) (.mv (.t 6)),
  .op (some 25) (.mv (.t 5)),
  .op (some 26) (.call (.v (.lit (.func (.func 83) #[] #[]))) [(.t 23), (.t 24), (.t 25)]),
  .op none (.store 6 (.t 3) (.t 26))])
 .skip)))
 (.reg [.op (some 18) (.mv (.t 6)),
  .op (some 19) (.binI .add (.t 18) (.v (.lit (.int .i64 (1))))),
  .op (some 6) (.mv (.t 19))])))))))
 (.reg [.op (some 14) (.mv (.t 5)),
  .op (some 15) (.binI .add (.t 14) (.v (.lit (.int .i64 (1))))),
  .op (some 5) (.mv (.t 15))]))))))
 (.seq (.seq (.reg [.op (some 27) (.mv (.t 0)),
  .op (some 28) (.call (.v (.lit (.func (.func 71) #[] #[]))) [(.t 27), (.v (.lit (.int .i64 (40))))])])
 (.block 4 (.seq (.reg [.op (some 30) (.binI .eql (.t 28) (.v (.lit (.int .i64 (0))))),
  .op (some 29) (.mv (.t 30))])
 (.cond (.t 29)
 (.reg [.op (some 31) (.mv (.t 0)),
  .op (some 32) (.call (.v (.lit (.func (.func 71) #[] #[]))) [(.t 31), (.v (.lit (.int .i64 (6))))]),
  .op (some 33) (.mv (.t 0)),
  .op (some 34) (.bslice 3 1 3 [(.lit (.int .i64 (0)))] [(0, (.v (.lit (.int .i64 (-1))))), (1, (.v (.lit (.int .i64 (64))))), (2, (.v (.lit (.int .i64 (4611686018427387904)))))]),
  .op (some 35) (.call (.v (.lit (.func (.func 73) #[] #[]))) [(.t 33), (.t 34)]),
  .op (some 36) (.faddr 0 (.t 3)),
  .op (some 37) (.iaddrA 6 1 (.t 36) (.t 32)),
  .op none (.store 1 (.t 37) (.t 35))])
 (.seq (.reg [.op (some 39) (.binI .eql (.t 28) (.v (.lit (.int .i64 (1))))),
  .op (some 38) (.mv (.t 39))])
 (.cond (.t 38)
 (.seq (.reg [.op (some 40) (.build (List.replicate 6 (.lit (.int .i64 (0)))) []),
  .op none (.store 6 (.t 2) (.t 40))])
 .ret)
 (.seq (.seq (.reg [.op (some 42) (.binI .eql (.t 28) (.v (.lit (.int .i64 (2))))),
  .op (some 41) (.mv (.t 42))])
 (.cond (.t 41)
 .skip
 (.reg [.op (some 43) (.binI .eql (.t 28) (.v (.lit (.int .i64 (3))))),
  .op (some 41) (.mv (.t 43))])))
 (.cond (.t 41)
 (.seq (.reg [.op (some 7) (.mv (.v (.lit (.int .i64 (1)))))])
 (.block 5 (.loop (.seq (.seq (.reg [.op (some 44) (.mv (.t 7)),
  .op (some 45) (.binI .lss (.t 44) (.v (.lit (.int .i64 (6)))))])
 (.cond (.t 45)
 .skip
 (.exit 5)))
 (.seq (.block 6 (.reg [.op (some 48) (.mv (.t 7)),
  .op (some 49) (.mv (.t 7)),
  .op (some 50) (.binI .rem (.t 49) (.v (.lit (.int .i64 (2))))),
  .op (some 51) (.faddr 0 (.t 3)),
  .op (some 52) (.iaddrA 6 1 (.t 51) (.t 50)),
  .op (some 53) (.load 1 false (.t 52)),
  .op (some 54) (.faddr 0 (.t 3)),
  .op (some 55) (.iaddrA 6 1 (.t 54) (.t 48)),
  .op none (.store 1 (.t 55) (.t 53))]))
 (.reg [.op (some 46) (.mv (.t 7)),
  .op (some 47) (.binI .add (.t 46) (.v (.lit (.int .i64 (1))))),
  .op (some 7) (.mv (.t 47))]))))))
 .skip))))))))
 (.seq (.reg [.op (some 56) (.load 6 true (.t 3)),
  .op none (.store 6 (.t 2) (.t 56))])
 .ret)))))
def rs60 : List RR := [.cell 2 6 true]
def cut60 : Nat → Nat := fun id => 0
theorem k60 : (Try.f60.body.bind fun c => comp Try.prog Try.f60.ntmps cut60 c) = some r60 := by kernel_rfl
theorem by60 {W0 : World} {σ : List Blk} {args : List AV} {K : Cont} (hn : args.length ≤ 57) (h : rW Try.prog W0 σ.length r60 (initFr args) σ (finP W0 rs60 σ.length K)) : ACall Try.prog W0 60 args σ K :=
  ACall.introR mixed Try.func60 (by kernel_rfl) k60 (by kernel_rfl) hn h
def r62 : RC := (.seq (.reg [.op (some 4) (.mv (.v (.lit (.int .u64 (0)))))])
 (.seq (.reg [.op (some 5) (.mv (.t 0)),
  .op (some 6) (.mv (.t 1)),
  .op (some 7) (.binI .xor (.t 5) (.t 6)),
  .op (some 4) (.mv (.t 7))])
 .ret))
def rs62 : List RR := [.tmp 4]
def cut62 : Nat → Nat := fun id => 0
theorem k62 : (Try.f62.body.bind fun c => comp Try.prog Try.f62.ntmps cut62 c) = some r62 := by kernel_rfl
theorem by62 {W0 : World} {σ : List Blk} {args : List AV} {K : Cont} (hn : args.length ≤ 8) (h : rW Try.prog W0 σ.length r62 (initFr args) σ (finP W0 rs62 σ.length K)) : ACall Try.prog W0 62 args σ K :=
  ACall.introR mixed Try.func62 (by kernel_rfl) k62 (by kernel_rfl) hn h
def r64 : RC := (.seq (.reg [.op (some 2) (.box 26 (.t 0)),
  .op (some 3) (.box 26 (.t 1)),
  .op (some 4) (.alloc 26 (List.replicate 6 (.lit (.int .i64 (0)))))])
 (.seq (.seq (.reg [.op (some 5) (.mv (.v (.lit (.int .i64 (0)))))])
 (.block 0 (.loop (.seq (.seq (.reg [.op (some 6) (.mv (.t 5)),
  .op (some 7) (.binI .lss (.t 6) (.v (.lit (.int .i64 (6)))))])
 (.cond (.t 7)
 .skip
 (.exit 0)))
 (.seq (.block 1 (.quiet [.op (some 10) (.mv (.t 5)),
  .op (some 11) (.mv (.t 5)),
  .op (some 12) (.faddr 0 (.t 2)),
  .op (some 13) (.iaddrA 6 1 (.t 12) (.t 11)),
  .op (some 14) (.load 1 false (.t 13)),
  .op (some 15) (.mv (.t 5)),
  .op (some 16) (.faddr 0 (.t 3)),
  .op (some 17) (.iaddrA 6 1 (.t 16) (.t 15)),
  .op (some 18) (.load 1 false (.t 17)),
  .op (some 19) (.binI .xor (.t 14) (.t 18)),
  .op (some 20) (.faddr 0 (.t 2)),
  .op (some 21) (.iaddrA 6 1 (.t 20) (.t 10))] [.op none (.store 1 (.t 21) (.t 19))]))
 (.reg [.op (some 8) (.mv (.t 5)),
  .op (some 9) (.binI .add (.t 8) (.v (.lit (.int .i64 (1))))),
  .op (some 5) (.mv (.t 9))]))))))
 (.seq (.reg [.op (some 22) (.load 6 true (.t 2)),
  .op none (.store 6 (.t 4) (.t 22))])
 .ret)))
def rs64 : List RR := [.cell 4 6 true]
def cut64 : Nat → Nat := fun id => if id = 4 then 24 else 0
theorem k64 : (Try.f64.body.bind fun c => comp Try.prog Try.f64.ntmps cut64 c) = some r64 := by kernel_rfl
theorem by64 {W0 : World} {σ : List Blk} {args : List AV} {K : Cont} (hn : args.length ≤ 23) (h : rW Try.prog W0 σ.length r64 (initFr args) σ (finP W0 rs64 σ.length K)) : ACall Try.prog W0 64 args σ K :=
  ACall.introR mixed Try.func64 (by kernel_rfl) k64 (by kernel_rfl) hn h
def r65 : RC := (.seq (.reg [.op (some 2) (.box 26 (.t 0)),
  .op (some 3) (.box 27 (.t 1)),
  .op (some 4) (.alloc 26 (List.replicate 6 (.lit (.int .i64 (0)))))])
 (.seq (.reg [.op (some 5) (.load 6 true (.t 2)),
  .op (some 6) (.iaddrA 2 1 (.t 3) (.v (.lit (.int .i64 (0))))),
  .op (some 7) (.load 1 false (.t 6)),
  .op (some 8) (.iaddrA 2 1 (.t 3) (.v (.lit (.int .i64 (1))))),
  .op (some 9) (.load 1 false (.t 8)),
  .op (some 10) (.call (.v (.lit (.func (.func 78) #[] #[]))) [(.t 5), (.t 7), (.t 9)]),
  .op none (.store 6 (.t 4) (.t 10))])
 .ret))
def rs65 : List RR := [.cell 4 6 true]
def cut65 : Nat → Nat := fun id => 0
theorem k65 : (Try.f65.body.bind fun c => comp Try.prog Try.f65.ntmps cut65 c) = some r65 := by kernel_rfl
theorem by65 {W0 : World} {σ : List Blk} {args : List AV} {K : Cont} (hn : args.length ≤ 11) (h : rW Try.prog W0 σ.length r65 (initFr args) σ (finP W0 rs65 σ.length K)) : ACall Try.prog W0 65 args σ K :=
  ACall.introR mixed Try.func65 (by kernel_rfl) k65 (by kernel_rfl) hn h
def r66 : RC := (.seq (.reg [.op (some 4) (.mv (.v (.lit (.int .u64 (0)))))])
 (.seq (.reg [.op (some 5) (.mv (.t 0)),
  .op (some 6) (.mv (.t 1)),
  .op (some 7) (.binI .or (.t 5) (.t 6)),
  .op (some 4) (.mv (.t 7))])
 .ret))
def rs66 : List RR := [.tmp 4]
def cut66 : Nat → Nat := fun id => 0
theorem k66 : (Try.f66.body.bind fun c => comp Try.prog Try.f66.ntmps cut66 c) = some r66 := by kernel_rfl
theorem by66 {W0 : World} {σ : List Blk} {args : List AV} {K : Cont} (hn : args.length ≤ 8) (h : rW Try.prog W0 σ.length r66 (initFr args) σ (finP W0 rs66 σ.length K)) : ACall Try.prog W0 66 args σ K :=
  ACall.introR mixed Try.func66 (by kernel_rfl) k66 (by kernel_rfl) hn h
def r67 : RC := (.seq (.reg [.op (some 2) (.box 26 (.t 0)),
  .op (some 3) (.box 26 (.t 1)),
  .op (some 4) (.alloc 26 (List.replicate 6 (.lit (.int .i64 (0)))))])
 (.seq (.seq (.reg [.op (some 5) (.mv (.v (.lit (.int .i64 (0)))))])
 (.block 0 (.loop (.seq (.seq (.reg [.op (some 6) (.mv (.t 5)),
  .op (some 7) (.binI .lss (.t 6) (.v (.lit (.int .i64 (6)))))])
 (.cond (.t 7)
 .skip
 (.exit 0)))
 (.seq (.block 1 (.quiet [.op (some 10) (.mv (.t 5)),
  .op (some 11) (.mv (.t 5)),
  .op (some 12) (.faddr 0 (.t 2)),
  .op (some 13) (.iaddrA 6 1 (.t 12) (.t 11)),
  .op (some 14) (.load 1 false (.t 13)),
  .op (some 15) (.mv (.t 5)),
  .op (some 16) (.faddr 0 (.t 3)),
  .op (some 17) (.iaddrA 6 1 (.t 16) (.t 15)),
  .op (some 18) (.load 1 false (.t 17)),
  .op (some 19) (.binI .or (.t 14) (.t 18)),
  .op (some 20) (.faddr 0 (.t 2)),
  .op (some 21) (.iaddrA 6 1 (.t 20) (.t 10))] [.op none (.store 1 (.t 21) (.t 19))]))
 (.reg [.op (some 8) (.mv (.t 5)),
  .op (some 9) (.binI .add (.t 8) (.v (.lit (.int .i64 (1))))),
  .op (some 5) (.mv (.t 9))]))))))
 (.seq (.reg [.op (some 22) (.load 6 true (.t 2)),
  .op none (.store 6 (.t 4) (.t 22))])
 .ret)))
def rs67 : List RR := [.cell 4 6 true]
def cut67 : Nat → Nat := fun id => if id = 4 then 24 else 0
theorem k67 : (Try.f67.body.bind fun c => comp Try.prog Try.f67.ntmps cut67 c) = some r67 := by kernel_rfl
theorem by67 {W0 : World} {σ : List Blk} {args : List AV} {K : Cont} (hn : args.length ≤ 23) (h : rW Try.prog W0 σ.length r67 (initFr args) σ (finP W0 rs67 σ.length K)) : ACall Try.prog W0 67 args σ K :=
  ACall.introR mixed Try.func67 (by kernel_rfl) k67 (by kernel_rfl) hn h
def r68 : RC := (.seq (.reg [.op (some 4) (.mv (.v (.lit (.int .u64 (0)))))])
 (.seq (.reg [.op (some 5) (.mv (.t 0)),
  .op (some 6) (.mv (.t 1)),
  .op (some 7) (.binI .andNot (.t 5) (.t 6)),
  .op (some 4) (.mv (.t 7))])
 .ret))
def rs68 : List RR := [.tmp 4]
def cut68 : Nat → Nat := fun id => 0
theorem k68 : (Try.f68.body.bind fun c => comp Try.prog Try.f68.ntmps cut68 c) = some r68 := by kernel_rfl
theorem by68 {W0 : World} {σ : List Blk} {args : List AV} {K : Cont} (hn : args.length ≤ 8) (h : rW Try.prog W0 σ.length r68 (initFr args) σ (finP W0 rs68 σ.length K)) : ACall Try.prog W0 68 args σ K :=
  ACall.introR mixed Try.func68 (by kernel_rfl) k68 (by kernel_rfl) hn h
def r69 : RC := (.seq (.reg [.op (some 2) (.box 26 (.t 0)),
  .op (some 3) (.box 26 (.t 1)),
  .op (some 4) (.alloc 26 (List.replicate 6 (.lit (.int .i64 (0)))))])
 (.seq (.seq (.reg [.op (some 5) (.mv (.v (.lit (.int .i64 (0)))))])
 (.block 0 (.loop (.seq (.seq (.reg [.op (some 6) (.mv (.t 5)),
  .op (some 7) (.binI .lss (.t 6) (.v (.lit (.int .i64 (6)))))])
 (.cond (.t 7)
 .skip
 (.exit 0)))
 (.seq (.block 1 (.quiet [.op (some 10) (.mv (.t 5)),
  .op (some 11) (.mv (.t 5)),
  .op (some 12) (.faddr 0 (.t 2)),
  .op (some 13) (.iaddrA 6 1 (.t 12) (.t 11)),
  .op (some 14) (.load 1 false (.t 13)),
  .op (some 15) (.mv (.t 5)),
  .op (some 16) (.faddr 0 (.t 3)),
  .op (some 17) (.iaddrA 6 1 (.t 16) (.t 15)),
  .op (some 18) (.load 1 false (.t 17)),
  .op (some 19) (.binI .and (.t 14) (.t 18)),
  .op (some 20) (.faddr 0 (.t 2)),
  .op (some 21) (.iaddrA 6 1 (.t 20) (.t 10))] [.op none (.store 1 (.t 21) (.t 19))]))
 (.reg [.op (some 8) (.mv (.t 5)),
  .op (some 9) (.binI .add (.t 8) (.v (.lit (.int .i64 (1))))),
  .op (some 5) (.mv (.t 9))]))))))
 (.seq (.reg [.op (some 22) (.load 6 true (.t 2)),
  .op none (.store 6 (.t 4) (.t 22))])
 .ret)))
def rs69 : List RR := [.cell 4 6 true]
def cut69 : Nat → Nat := fun id => if id = 4 then 24 else 0
theorem k69 : (Try.f69.body.bind fun c => comp Try.prog Try.f69.ntmps cut69 c) = some r69 := by kernel_rfl
theorem by69 {W0 : World} {σ : List Blk} {args : List AV} {K : Cont} (hn : args.length ≤ 23) (h : rW Try.prog W0 σ.length r69 (initFr args) σ (finP W0 rs69 σ.length K)) : ACall Try.prog W0 69 args σ K :=
  ACall.introR mixed Try.func69 (by kernel_rfl) k69 (by kernel_rfl) hn h
def r70 : RC := (.seq (.reg [.op (some 1) (.box 26 (.t 0)),
  .op (some 2) (.alloc 26 (List.replicate 6 (.lit (.int .i64 (0)))))])
 (.seq (.seq (.reg [.op (some 3) (.mv (.v (.lit (.int .i64 (0)))))])
 (.block 0 (.loop (.seq (.seq (.reg [.op (some 4) (.mv (.t 3)),
  .op (some 5) (.binI .lss (.t 4) (.v (.lit (.int .i64 (6)))))])
 (.cond (.t 5)
 .skip
 (.exit 0)))
 (.seq (.block 1 (.reg [.op (some 8) (.mv (.t 3)),
  .op (some 9) (.mv (.t 3)),
  .op (some 10) (.faddr 0 (.t 1)),
  .op (some 11) (.iaddrA 6 1 (.t 10) (.t 9)),
  .op (some 12) (.load 1 false (.t 11)),
  .op (some 13) (.binI .sub (.v (.lit (.int .i64 (63)))) (.t 12)),
  .op (some 14) (.faddr 0 (.t 1)),
  .op (some 15) (.iaddrA 6 1 (.t 14) (.t 8)),
  .op none (.store 1 (.t 15) (.t 13))]))
 (.reg [.op (some 6) (.mv (.t 3)),
  .op (some 7) (.binI .add (.t 6) (.v (.lit (.int .i64 (1))))),
  .op (some 3) (.mv (.t 7))]))))))
 (.seq (.reg [.op (some 16) (.load 6 true (.t 1)),
  .op none (.store 6 (.t 2) (.t 16))])
 .ret)))
def rs70 : List RR := [.cell 2 6 true]
def cut70 : Nat → Nat := fun id => 0
theorem k70 : (Try.f70.body.bind fun c => comp Try.prog Try.f70.ntmps cut70 c) = some r70 := by kernel_rfl
theorem by70 {W0 : World} {σ : List Blk} {args : List AV} {K : Cont} (hn : args.length ≤ 17) (h : rW Try.prog W0 σ.length r70 (initFr args) σ (finP W0 rs70 σ.length K)) : ACall Try.prog W0 70 args σ K :=
  ACall.introR mixed Try.func70 (by kernel_rfl) k70 (by kernel_rfl) hn h
def r71 : RC := (.seq (.reg [.op (some 4) (.mv (.v (.lit (.int .i64 (0)))))])
 (.seq (.seq (.reg [.op (some 6) (.mv (.t 1)),
  .op (some 7) (.binI .leq (.t 6) (.v (.lit (.int .i64 (1)))))])
 (.cond (.t 7)
 (.seq (.reg [.op (some 4) (.mv (.v (.lit (.int .i64 (0)))))])
 .ret)
 .skip))
 (.seq (.reg [.op (some 8) (.mv (.t 0)),
  .op (some 9) (.call (.v (.lit (.func (.func 112) #[] #[]))) [(.t 8)]),
  .op (some 5) (.mv (.t 9))])
 (.seq (.seq (.reg [.op (some 10) (.mv (.t 1)),
  .op (some 11) (.binI .gtr (.t 10) (.v (.lit (.int .i64 (200)))))])
 (.cond (.t 11)
 (.reg [.op (some 12) (.mv (.t 5)),
  .op (some 13) (.binI .mul (.t 12) (.v (.lit (.int .i64 (256))))),
  .op (some 14) (.mv (.t 0)),
  .op (some 15) (.call (.v (.lit (.func (.func 112) #[] #[]))) [(.t 14)]),
  .op (some 16) (.binI .add (.t 13) (.t 15)),
  .op (some 5) (.mv (.t 16))])
 .skip))
 (.seq (.reg [.op (some 17) (.mv (.t 5)),
  .op (some 18) (.mv (.t 1)),
  .op (some 19) (.binI .rem (.t 17) (.t 18)),
  .op (some 4) (.mv (.t 19))])
 .ret)))))
def rs71 : List RR := [.tmp 4]
def cut71 : Nat → Nat := fun id => 0
theorem k71 : (Try.f71.body.bind fun c => comp Try.prog Try.f71.ntmps cut71 c) = some r71 := by kernel_rfl
theorem by71 {W0 : World} {σ : List Blk} {args : List AV} {K : Cont} (hn : args.length ≤ 20) (h : rW Try.prog W0 σ.length r71 (initFr args) σ (finP W0 rs71 σ.length K)) : ACall Try.prog W0 71 args σ K :=
  ACall.introR mixed Try.func71 (by kernel_rfl) k71 (by kernel_rfl) hn h
def r72 : RC := (.seq (.reg [.op (some 4) (.mv (.v (.lit (.bool false))))])
 (.seq (.reg [.op (some 5) (.mv (.t 0)),
  .op (some 6) (.mv (.t 1)),
  .op (some 7) (.call (.v (.lit (.func (.func 71) #[] #[]))) [(.t 5), (.t 6)]),
  .op (some 8) (.binI .eql (.t 7) (.v (.lit (.int .i64 (0))))),
  .op (some 4) (.mv (.t 8))])
 .ret))
def rs72 : List RR := [.tmp 4]
def cut72 : Nat → Nat := fun id => 0
theorem k72 : (Try.f72.body.bind fun c => comp Try.prog Try.f72.ntmps cut72 c) = some r72 := by kernel_rfl
theorem by72 {W0 : World} {σ : List Blk} {args : List AV} {K : Cont} (hn : args.length ≤ 9) (h : rW Try.prog W0 σ.length r72 (initFr args) σ (finP W0 rs72 σ.length K)) : ACall Try.prog W0 72 args σ K :=
  ACall.introR mixed Try.func72 (by kernel_rfl) k72 (by kernel_rfl) hn h
def r73 : RC := (.seq (.reg [.op (some 4) (.mv (.v (.lit (.int .i64 (0)))))])
 (.seq (.reg [.op (some 5) (.mv (.t 1)),
  .op (some 6) (.mv (.t 0)),
  .op (some 7) (.mv (.t 1)),
  .op (some 8) (.lenL (.t 7)),
  .op (some 9) (.call (.v (.lit (.func (.func 71) #[] #[]))) [(.t 6), (.t 8)]),
  .op (some 10) (.iaddrS 1 (.t 5) (.t 9)),
  .op (some 11) (.load 1 false (.t 10)),
  .op (some 4) (.mv (.t 11))])
 .ret))
def rs73 : List RR := [.tmp 4]
def cut73 : Nat → Nat := fun id => 0
theorem k73 : (Try.f73.body.bind fun c => comp Try.prog Try.f73.ntmps cut73 c) = some r73 := by kernel_rfl
theorem by73 {W0 : World} {σ : List Blk} {args : List AV} {K : Cont} (hn : args.length ≤ 12) (h : rW Try.prog W0 σ.length r73 (initFr args) σ (finP W0 rs73 σ.length K)) : ACall Try.prog W0 73 args σ K :=
  ACall.introR mixed Try.func73 (by kernel_rfl) k73 (by kernel_rfl) hn h
def r74 : RC := (.seq (.reg [.op (some 1) (.box 26 (.t 0)),
  .op (some 2) (.mv (.v (.lit (.int .u64 (0))))),
  .op (some 3) (.mv (.v (.lit (.bool false))))])
 (.seq (.reg [.op (some 4) (.mv (.v (.lit (.int .u64 (0)))))])
 (.seq (.seq (.reg [.op (some 7) (.faddr 0 (.t 1)),
  .op (some 8) (.load 6 true (.t 7)),
  .op (some 9) (.mv (.v (.lit (.int .i64 (0)))))])
 (.block 0 (.loop (.seq (.reg [.op (some 10) (.binI .lss (.t 9) (.v (.lit (.int .i64 (6)))))])
 (.seq (.cond (.t 10)
 .skip
 (.exit 0))
 (.seq (.block 1 (.seq (.reg [.op (some 11) (.mv (.t 9)),
  .op (some 12) (.idxA 6 1 false (.t 8) (.t 9)),
  .op (some 5) (.mv (.t 11)),
  .op (some 6) (.mv (.t 12))])
 (.seq (.seq (.reg [.op (some 13) (.mv (.t 6)),
  .op (some 14) (.binI .lss (.t 13) (.v (.lit (.int .i64 (0))))),
  .op (some 15) (.mv (.t 14)),
  .grp 15 false [((some 16), (.mv (.t 6))), ((some 17), (.binI .gtr (.t 16) (.v (.lit (.int .i64 (63))))))],
  .op (some 18) (.pick (.t 15) (.v (.lit (.bool true))) (.t 17))])
 (.cond (.t 18)
 (.seq (.reg [.op (some 2) (.mv (.v (.lit (.int .u64 (0))))),
  .op (some 3) (.mv (.v (.lit (.bool false))))])
 .ret)
 .skip))
 (.reg [.op (some 19) (.mv (.t 4)),
  .op (some 20) (.mv (.t 6)),
  .op (some 21) (.conv .u64 (.t 20)),
  .op (some 22) (.mv (.t 5)),
  .op (some 23) (.binI .mul (.t 22) (.v (.lit (.int .i64 (6))))),
  .op (some 24) (.binI .shl (.t 21) (.t 23)),
  .op (some 25) (.binI .or (.t 19) (.t 24)),
  .op (some 4) (.mv (.t 25))]))))
 (.reg [.op (some 26) (.binI .add (.t 9) (.v (.lit (.int .i64 (1))))),
  .op (some 9) (.mv (.t 26))])))))))
 (.seq (.reg [.op (some 27) (.mv (.t 4)),
  .op (some 2) (.mv (.t 27)),
  .op (some 3) (.mv (.v (.lit (.bool true))))])
 .ret))))
def rs74 : List RR := [.tmp 2, .tmp 3]
def cut74 : Nat → Nat := fun id => 0
theorem k74 : (Try.f74.body.bind fun c => comp Try.prog Try.f74.ntmps cut74 c) = some r74 := by kernel_rfl
theorem by74 {W0 : World} {σ : List Blk} {args : List AV} {K : Cont} (hn : args.length ≤ 28) (h : rW Try.prog W0 σ.length r74 (initFr args) σ (finP W0 rs74 σ.length K)) : ACall Try.prog W0 74 args σ K :=
  ACall.introR mixed Try.func74 (by kernel_rfl) k74 (by kernel_rfl) hn h
def r75 : RC := (.seq (.reg [.op (some 4) (.box 3 (.t 1)),
  .op (some 5) (.box 3 (.t 2)),
  .op (some 6) (.mv (.v (.lit (.int .u64 (0)))))])
 (.seq (.quiet [.op (some 7) (.load 1 false (.t 4)),
  .op (some 8) (.call (.v (.lit (.func (.func 113) #[] #[]))) [(.t 7)]),
  .op (some 9) (.load 1 false (.t 5)),
  .op (some 10) (.call (.v (.lit (.func (.func 113) #[] #[]))) [(.t 9)])] [.op none (.store 1 (.t 4) (.t 8)),
  .op none (.store 1 (.t 5) (.t 10))])
 (.seq (.reg [.op (some 11) (.mv (.t 0)),
  .op (some 12) (.mkfn (.func 115) [] [(.t 4), (.t 5)]),
  .op (some 13) (.call (.v (.lit (.func (.func 114) #[] #[]))) [(.t 11), (.t 12)]),
  .op (some 6) (.mv (.t 13))])
 .ret)))
def rs75 : List RR := [.tmp 6]
def cut75 : Nat → Nat := fun id => if id = 1 then 8 else 0
theorem k75 : (Try.f75.body.bind fun c => comp Try.prog Try.f75.ntmps cut75 c) = some r75 := by kernel_rfl
theorem by75 {W0 : World} {σ : List Blk} {args : List AV} {K : Cont} (hn : args.length ≤ 14) (h : rW Try.prog W0 σ.length r75 (initFr args) σ (finP W0 rs75 σ.length K)) : ACall Try.prog W0 75 args σ K :=
  ACall.introR mixed Try.func75 (by kernel_rfl) k75 (by kernel_rfl) hn h
def r76 : RC := (.seq (.reg [.op (some 2) (.alloc 26 (List.replicate 6 (.lit (.int .i64 (0)))))])
 (.seq (.reg [.op (some 5) (.build (List.replicate 6 (.lit (.int .i64 (0)))) []),
  .op (some 3) (.alloc 26 (List.replicate 6 (.lit (.int .i64 (0))))),
  .op none (.store 6 (.t 3) (.t 5))])
 (.seq (.seq (.reg [.op (some 6) (.mv (.v (.lit (.int .i64 (0)))))])
 (.block 0 (.loop (.seq (.reg [.op (some 7) (.binI .lss (.t 6) (.v (.lit (.int .i64 (6)))))])
 (.seq (.cond (.t 7)
 .skip
 (.exit 0))
 (.seq (.block 1 (.seq (.reg [.op (some 8) (.mv (.t 6)),
  .op (some 4) (.mv (.t 8))])
 (.reg [.op (some 9) (.mv (.t 4)),
  .op (some 10) (.mv (.t 0)),
  .op (some 11) (.mv (.t 4)),
  .op (some 12) (.binI .mul (.t 11) (.v (.lit (.int .i64 (6))))),
  .op (some 13) (.binI .shr (.t 10) (.t 12)),
  .op (some 14) (.binI .and (.t 13) (.v (.lit (.int .u64 (63))))),
  .op (some 15) (.conv .i64 (.t 14)),
  .op (some 16) (.faddr 0 (.t 3)),
  .op (some 17) (.iaddrA 6 1 (.t 16) (.t 9)),
  .op none (.store 1 (.t 17) (.t 15))])))
 (.reg [.op (some 18) (.binI .add (.t 6) (.v (.lit (.int .i64 (1))))),
  .op (some 6) (.mv (.t 18))])))))))
 (.seq (.reg [.op (some 19) (.load 6 true (.t 3)),
  .op none (.store 6 (.t 2) (.t 19))])
 .ret))))
def rs76 : List RR := [.cell 2 6 true]
def cut76 : Nat → Nat := fun id => 0
theorem k76 : (Try.f76.body.bind fun c => comp Try.prog Try.f76.ntmps cut76 c) = some r76 := by kernel_rfl
theorem by76 {W0 : World} {σ : List Blk} {args : List AV} {K : Cont} (hn : args.length ≤ 20) (h : rW Try.prog W0 σ.length r76 (initFr args) σ (finP W0 rs76 σ.length K)) : ACall Try.prog W0 76 args σ K :=
  ACall.introR mixed Try.func76 (by kernel_rfl) k76 (by kernel_rfl) hn h
def r77 : RC := (.seq (.reg [.op (some 1) (.box 26 (.t 0)),
  .op (some 2) (.mv (.v (.lit (.bool false))))])
 (.seq (.seq (.reg [.op (some 3) (.mv (.v (.lit (.int .i64 (0)))))])
 (.block 0 (.loop (.seq (.seq (.reg [.op (some 4) (.mv (.t 3)),
  .op (some 5) (.binI .lss (.t 4) (.v (.lit (.int .i64 (6)))))])
 (.cond (.t 5)
 .skip
 (.exit 0)))
 (.seq (.block 1 (.seq (.reg [.op (some 8) (.mv (.t 3)),
  .op (some 9) (.faddr 0 (.t 1)),
  .op (some 10) (.iaddrA 6 1 (.t 9) (.t 8)),
  .op (some 11) (.load 1 false (.t 10)),
  .op (some 12) (.call (.v (.lit (.func (.func 109) #[] #[]))) [(.t 11), (.v (.lit (.int .i64 (0)))), (.v (.lit (.int .i64 (63))))]),
  .op (some 13) (.un .not (.t 12))])
 (.cond (.t 13)
 (.seq (.reg [.op (some 2) (.mv (.v (.lit (.bool false))))])
 .ret)
 .skip)))
 (.reg [.op (some 6) (.mv (.t 3)),
  .op (some 7) (.binI .add (.t 6) (.v (.lit (.int .i64 (1))))),
  .op (some 3) (.mv (.t 7))]))))))
 (.seq (.reg [.op (some 2) (.mv (.v (.lit (.bool true))))])
 .ret)))
def rs77 : List RR := [.tmp 2]
def cut77 : Nat → Nat := fun id => 0
theorem k77 : (Try.f77.body.bind fun c => comp Try.prog Try.f77.ntmps cut77 c) = some r77 := by kernel_rfl
theorem by77 {W0 : World} {σ : List Blk} {args : List AV} {K : Cont} (hn : args.length ≤ 14) (h : rW Try.prog W0 σ.length r77 (initFr args) σ (finP W0 rs77 σ.length K)) : ACall Try.prog W0 77 args σ K :=
  ACall.introR mixed Try.func77 (by kernel_rfl) k77 (by kernel_rfl) hn h
def r78 : RC := (.seq (.reg [.op (some 3) (.box 26 (.t 0)),
  .op (some 6) (.alloc 26 (List.replicate 6 (.lit (.int .i64 (0)))))])
 (.seq (.reg [.op (some 12) (.build (List.replicate 6 (.lit (.int .i64 (0)))) []),
  .op (some 13) (.mv (.t 1)),
  .op (some 14) (.call (.v (.lit (.func (.func 116) #[] #[]))) [(.t 13)]),
  .op (some 15) (.mv (.t 2)),
  .op (some 16) (.call (.v (.lit (.func (.func 116) #[] #[]))) [(.t 15)]),
  .op (some 7) (.alloc 26 (List.replicate 6 (.lit (.int .i64 (0))))),
  .op none (.store 6 (.t 7) (.t 12)),
  .op (some 8) (.mv (.t 14)),
  .op (some 9) (.mv (.t 16))])
 (.seq (.seq (.reg [.op (some 10) (.mv (.v (.lit (.int .i64 (0)))))])
 (.block 0 (.loop (.seq (.seq (.reg [.op (some 17) (.mv (.t 10)),
  .op (some 18) (.binI .lss (.t 17) (.v (.lit (.int .i64 (6)))))])
 (.cond (.t 18)
 .skip
 (.exit 0)))
 (.seq (.block 1 (.seq (.reg [.op (some 21) (.mv (.t 10)),
  .op (some 22) (.faddr 0 (.t 3)),
  .op (some 23) (.iaddrA 6 1 (.t 22) (.t 21)),
  .op (some 24) (.load 1 false (.t 23)),
  .op (some 11) (.mv (.t 24))])
 (.draw [((some 25), (.mv (.t 10))), ((some 26), (.mv (.t 9))), ((some 27), (.binI .add (.t 25) (.t 26))), ((some 28), (.binI .rem (.t 27) (.v (.lit (.int .i64 (6)))))), ((some 29), (.mv (.t 11))), ((some 30), (.mv (.t 8))), ((some 31), (.binI .shl (.t 29) (.t 30))), ((some 32), (.binI .and (.t 31) (.v (.lit (.int .i64 (63)))))), ((some 33), (.mv (.t 11))), ((some 34), (.mv (.t 8))), ((some 35), (.binI .sub (.v (.lit (.int .i64 (6)))) (.t 34))), ((some 36), (.binI .shr (.t 33) (.t 35))), ((some 37), (.binI .or (.t 32) (.t 36)))] [((some 38), (.faddr 0 (.t 7))), ((some 39), (.iaddrA 6 1 (.t 38) (.t 28))), (none, (.store 1 (.t 39) (.t 37)))])))
 (.reg [.op (some 19) (.mv (.t 10)),
  .op (some 20) (.binI .add (.t 19) (.v (.lit (.int .i64 (1))))),
  .op (some 10) (.mv (.t 20))]))))))
 (.seq (.reg [.op (some 40) (.load 6 true (.t 7)),
  .op none (.store 6 (.t 6) (.t 40))])
 .ret))))
def rs78 : List RR := [.cell 6 6 true]
def cut78 : Nat → Nat := fun id => if id = 6 then 27 else 0
theorem k78 : (Try.f78.body.bind fun c => comp Try.prog Try.f78.ntmps cut78 c) = some r78 := by kernel_rfl
theorem by78 {W0 : World} {σ : List Blk} {args : List AV} {K : Cont} (hn : args.length ≤ 41) (h : rW Try.prog W0 σ.length r78 (initFr args) σ (finP W0 rs78 σ.length K)) : ACall Try.prog W0 78 args σ K :=
  ACall.introR mixed Try.func78 (by kernel_rfl) k78 (by kernel_rfl) hn h
def r80 : RC := (.seq (.reg [.op (some 1) (.box 27 (.t 0)),
  .op (some 2) (.mv (.v (.lit (.bool false))))])
 (.seq (.reg [.op (some 3) (.iaddrA 2 1 (.t 1) (.v (.lit (.int .i64 (0))))),
  .op (some 4) (.load 1 false (.t 3)),
  .op (some 5) (.binI .geq (.t 4) (.v (.lit (.int .i64 (0))))),
  .op (some 6) (.mv (.t 5)),
  .grp 6 true [((some 7), (.iaddrA 2 1 (.t 1) (.v (.lit (.int .i64 (0)))))), ((some 8), (.load 1 false (.t 7))), ((some 9), (.binI .lss (.t 8) (.v (.lit (.int .i64 (6))))))],
  .op (some 10) (.pick (.t 6) (.t 9) (.v (.lit (.bool false)))),
  .op (some 11) (.mv (.t 10)),
  .grp 11 true [((some 12), (.iaddrA 2 1 (.t 1) (.v (.lit (.int .i64 (1)))))), ((some 13), (.load 1 false (.t 12))), ((some 14), (.binI .geq (.t 13) (.v (.lit (.int .i64 (0))))))],
  .op (some 15) (.pick (.t 11) (.t 14) (.v (.lit (.bool false)))),
  .op (some 16) (.mv (.t 15)),
  .grp 16 true [((some 17), (.iaddrA 2 1 (.t 1) (.v (.lit (.int .i64 (1)))))), ((some 18), (.load 1 false (.t 17))), ((some 19), (.binI .lss (.t 18) (.v (.lit (.int .i64 (6))))))],
  .op (some 20) (.pick (.t 16) (.t 19) (.v (.lit (.bool false)))),
  .op (some 2) (.mv (.t 20))])
 .ret))
def rs80 : List RR := [.tmp 2]
def cut80 : Nat → Nat := fun id => 0
theorem k80 : (Try.f80.body.bind fun c => comp Try.prog Try.f80.ntmps cut80 c) = some r80 := by kernel_rfl
theorem by80 {W0 : World} {σ : List Blk} {args : List AV} {K : Cont} (hn : args.length ≤ 21) (h : rW Try.prog W0 σ.length r80 (initFr args) σ (finP W0 rs80 σ.length K)) : ACall Try.prog W0 80 args σ K :=
  ACall.introR mixed Try.func80 (by kernel_rfl) k80 (by kernel_rfl) hn h
def r81 : RC := (.seq (.reg [.op (some 1) (.box 27 (.t 0)),
  .op (some 2) (.mv (.v (.lit (.int .i64 (0)))))])
 (.seq (.reg [.op (some 3) (.iaddrA 2 1 (.t 1) (.v (.lit (.int .i64 (1))))),
  .op (some 4) (.load 1 false (.t 3)),
  .op (some 5) (.binI .mul (.t 4) (.v (.lit (.int .i64 (6))))),
  .op (some 6) (.iaddrA 2 1 (.t 1) (.v (.lit (.int .i64 (0))))),
  .op (some 7) (.load 1 false (.t 6)),
  .op (some 8) (.binI .add (.t 5) (.t 7)),
  .op (some 2) (.mv (.t 8))])
 .ret))
def rs81 : List RR := [.tmp 2]
def cut81 : Nat → Nat := fun id => 0
theorem k81 : (Try.f81.body.bind fun c => comp Try.prog Try.f81.ntmps cut81 c) = some r81 := by kernel_rfl
theorem by81 {W0 : World} {σ : List Blk} {args : List AV} {K : Cont} (hn : args.length ≤ 9) (h : rW Try.prog W0 σ.length r81 (initFr args) σ (finP W0 rs81 σ.length K)) : ACall Try.prog W0 81 args σ K :=
  ACall.introR mixed Try.func81 (by kernel_rfl) k81 (by kernel_rfl) hn h
def r82 : RC := (.seq (.reg [.op (some 1) (.box 27 (.t 0)),
  .op (some 2) (.mv (.v (.lit (.bool false))))])
 (.seq (.reg [.op (some 3) (.iaddrA 2 1 (.t 1) (.v (.lit (.int .i64 (0))))),
  .op (some 4) (.load 1 false (.t 3)),
  .op (some 5) (.call (.v (.lit (.func (.func 109) #[] #[]))) [(.t 4), (.v (.lit (.int .i64 (0)))), (.v (.lit (.int .i64 (5))))]),
  .op (some 6) (.mv (.t 5)),
  .grp 6 true [((some 7), (.iaddrA 2 1 (.t 1) (.v (.lit (.int .i64 (1)))))), ((some 8), (.load 1 false (.t 7))), ((some 9), (.call (.v (.lit (.func (.func 109) #[] #[]))) [(.t 8), (.v (.lit (.int .i64 (0)))), (.v (.lit (.int .i64 (5))))]))],
  .op (some 10) (.pick (.t 6) (.t 9) (.v (.lit (.bool false)))),
  .op (some 2) (.mv (.t 10))])
 .ret))
def rs82 : List RR := [.tmp 2]
def cut82 : Nat → Nat := fun id => 0
theorem k82 : (Try.f82.body.bind fun c => comp Try.prog Try.f82.ntmps cut82 c) = some r82 := by kernel_rfl
theorem by82 {W0 : World} {σ : List Blk} {args : List AV} {K : Cont} (hn : args.length ≤ 11) (h : rW Try.prog W0 σ.length r82 (initFr args) σ (finP W0 rs82 σ.length K)) : ACall Try.prog W0 82 args σ K :=
  ACall.introR mixed Try.func82 (by kernel_rfl) k82 (by kernel_rfl) hn h
def r83 : RC := (.seq (.reg [.op (some 3) (.box 26 (.t 0)),
  .op (some 6) (.alloc 26 (List.replicate 6 (.lit (.int .i64 (0)))))])
 (.seq (.quiet [.op (some 7) (.mv (.t 2)),
  .op (some 8) (.mv (.t 2)),
  .op (some 9) (.faddr 0 (.t 3)),
  .op (some 10) (.iaddrA 6 1 (.t 9) (.t 8)),
  .op (some 11) (.load 1 false (.t 10)),
  .op (some 12) (.mv (.t 1)),
  .op (some 13) (.binI .shl (.v (.lit (.int .i64 (1)))) (.t 12)),
  .op (some 14) (.binI .xor (.t 11) (.t 13)),
  .op (some 15) (.faddr 0 (.t 3)),
  .op (some 16) (.iaddrA 6 1 (.t 15) (.t 7))] [.op none (.store 1 (.t 16) (.t 14))])
 (.seq (.reg [.op (some 17) (.load 6 true (.t 3)),
  .op none (.store 6 (.t 6) (.t 17))])
 .ret)))
def rs83 : List RR := [.cell 6 6 true]
def cut83 : Nat → Nat := fun id => if id = 1 then 20 else 0
theorem k83 : (Try.f83.body.bind fun c => comp Try.prog Try.f83.ntmps cut83 c) = some r83 := by kernel_rfl
theorem by83 {W0 : World} {σ : List Blk} {args : List AV} {K : Cont} (hn : args.length ≤ 18) (h : rW Try.prog W0 σ.length r83 (initFr args) σ (finP W0 rs83 σ.length K)) : ACall Try.prog W0 83 args σ K :=
  ACall.introR mixed Try.func83 (by kernel_rfl) k83 (by kernel_rfl) hn h
def r84 : RC := (.seq (.reg [.op (some 4) (.mv (.v (.lit (.bool false))))])
 (.seq (.reg [.op (some 5) (.mv (.t 0)),
  .op (some 6) (.mv (.t 1)),
  .op (some 7) (.binI .shr (.t 5) (.t 6)),
  .op (some 8) (.binI .and (.t 7) (.v (.lit (.int .u64 (1))))),
  .op (some 9) (.binI .eql (.t 8) (.v (.lit (.int .u64 (1))))),
  .op (some 4) (.mv (.t 9))])
 .ret))
def rs84 : List RR := [.tmp 4]
def cut84 : Nat → Nat := fun id => 0
theorem k84 : (Try.f84.body.bind fun c => comp Try.prog Try.f84.ntmps cut84 c) = some r84 := by kernel_rfl
theorem by84 {W0 : World} {σ : List Blk} {args : List AV} {K : Cont} (hn : args.length ≤ 10) (h : rW Try.prog W0 σ.length r84 (initFr args) σ (finP W0 rs84 σ.length K)) : ACall Try.prog W0 84 args σ K :=
  ACall.introR mixed Try.func84 (by kernel_rfl) k84 (by kernel_rfl) hn h
def r85 : RC := (.seq (.reg [.op (some 3) (.box 26 (.t 0)),
  .op (some 6) (.mv (.v (.lit (.bool false))))])
 (.seq (.reg [.op (some 7) (.mv (.t 2)),
  .op (some 8) (.faddr 0 (.t 3)),
  .op (some 9) (.iaddrA 6 1 (.t 8) (.t 7)),
  .op (some 10) (.load 1 false (.t 9)),
  .op (some 11) (.mv (.t 1)),
  .op (some 12) (.binI .shr (.t 10) (.t 11)),
  .op (some 13) (.binI .and (.t 12) (.v (.lit (.int .i64 (1))))),
  .op (some 14) (.binI .eql (.t 13) (.v (.lit (.int .i64 (1))))),
  .op (some 6) (.mv (.t 14))])
 .ret))
def rs85 : List RR := [.tmp 6]
def cut85 : Nat → Nat := fun id => 0
theorem k85 : (Try.f85.body.bind fun c => comp Try.prog Try.f85.ntmps cut85 c) = some r85 := by kernel_rfl
theorem by85 {W0 : World} {σ : List Blk} {args : List AV} {K : Cont} (hn : args.length ≤ 15) (h : rW Try.prog W0 σ.length r85 (initFr args) σ (finP W0 rs85 σ.length K)) : ACall Try.prog W0 85 args σ K :=
  ACall.introR mixed Try.func85 (by kernel_rfl) k85 (by kernel_rfl) hn h
def r94 : RC := (.seq (.reg [.op (some 2) (.alloc 67 [(.lit (.int .i64 (0))), (.lit (.int .i64 (0))), (.lit (.int .i64 (0))), (.lit (.int .i64 (0))), (.lit (.int .i64 (0))), (.lit (.int .i64 (0))), (.lit (.slice none 0 0)), (.lit (.slice none 0 0))])])
 (.seq (.reg [.op (some 4) (.mv (.t 0)),
  .op (some 5) (.build [(.lit (.slice none 0 0)), (.lit (.int .i64 (0))), (.lit (.int .u64 (0)))] [((0, 1), (.t 4))]),
  .op (some 6) (.box 92 (.t 5)),
  .op (some 3) (.mv (.t 6))])
 (.seq (.reg [.op (some 7) (.mv (.t 3)),
  .op (some 8) (.call (.v (.lit (.func (.func 106) #[] #[]))) [(.t 7)]),
  .op none (.store 8 (.t 2) (.t 8))])
 .ret)))
def rs94 : List RR := [.cell 2 8 true]
def cut94 : Nat → Nat := fun id => 0
theorem k94 : (Try.f94.body.bind fun c => comp Try.prog Try.f94.ntmps cut94 c) = some r94 := by kernel_rfl
theorem by94 {W0 : World} {σ : List Blk} {args : List AV} {K : Cont} (hn : args.length ≤ 9) (h : rW Try.prog W0 σ.length r94 (initFr args) σ (finP W0 rs94 σ.length K)) : ACall Try.prog W0 94 args σ K :=
  ACall.introR mixed Try.func94 (by kernel_rfl) k94 (by kernel_rfl) hn h
def r95 : RC := (.seq (.reg [.op (some 1) (.box 67 (.t 0)),
  .op (some 2) (.mv (.v (.lit (.pointer none)))),
  .op (some 3) (.mv (.v (.lit (.bool false))))])
 (.seq (.reg [.op (some 17) (.faddr 0 (.t 1)),
  .op (some 18) (.load 6 true (.t 17)),
  .op (some 19) (.call (.v (.lit (.func (.func 74) #[] #[]))) [(.t 18)]),
  .op (some 16) (.mv (.t 19)),
  .op (some 20) (.ext (.t 16) 0),
  .op (some 21) (.ext (.t 16) 1),
  .op (some 4) (.mv (.t 20)),
  .op (some 5) (.mv (.t 21))])
 (.seq (.seq (.reg [.op (some 22) (.mv (.t 5)),
  .op (some 23) (.un .not (.t 22)),
  .op (some 24) (.mv (.t 23)),
  .grp 24 false [((some 25), (.faddr 6 (.t 1))), ((some 26), (.load 1 false (.t 25))), ((some 27), (.lenL (.t 26))), ((some 28), (.binI .gtr (.t 27) (.v (.lit (.int .i64 (4))))))],
  .op (some 29) (.pick (.t 24) (.v (.lit (.bool true))) (.t 28)),
  .op (some 30) (.mv (.t 29)),
  .grp 30 false [((some 31), (.faddr 7 (.t 1))), ((some 32), (.load 1 false (.t 31))), ((some 33), (.lenL (.t 32))), ((some 34), (.binI .gtr (.t 33) (.v (.lit (.int .i64 (40))))))],
  .op (some 35) (.pick (.t 30) (.v (.lit (.bool true))) (.t 34))])
 (.cond (.t 35)
 (.seq (.reg [.op (some 2) (.mv (.v (.lit (.pointer none)))),
  .op (some 3) (.mv (.v (.lit (.bool false))))])
 .ret)
 .skip))
 (.seq (.reg [.op (some 36) (.bslice 104 1 0 [(.lit (.int .u64 (0)))] []),
  .op (some 6) (.mv (.t 36))])
 (.seq (.seq (.reg [.op (some 37) (.faddr 6 (.t 1)),
  .op (some 38) (.load 1 false (.t 37)),
  .op (some 39) (.lenL (.t 38)),
  .op (some 40) (.mv (.v (.lit (.int .i64 (0)))))])
 (.block 0 (.loop (.seq (.reg [.op (some 41) (.binI .lss (.t 40) (.t 39))])
 (.seq (.cond (.t 41)
 .skip
 (.exit 0))
 (.seq (.block 1 (.seq (.reg [.op (some 42) (.iaddrS 6 (.t 38) (.t 40)),
  .op (some 43) (.load 6 true (.t 42)),
  .op (some 8) (.alloc 26 (List.replicate 6 (.lit (.int .i64 (0))))),
  .op none (.store 6 (.t 8) (.t 43))])
 (.seq (.reg [.op (some 45) (.load 6 true (.t 8)),
  .op (some 46) (.call (.v (.lit (.func (.func 74) #[] #[]))) [(.t 45)]),
  .op (some 44) (.mv (.t 46)),
  .op (some 47) (.ext (.t 44) 0),
  .op (some 48) (.ext (.t 44) 1),
  .op (some 9) (.mv (.t 47)),
  .op (some 10) (.mv (.t 48))])
 (.seq (.seq (.reg [.op (some 49) (.mv (.t 10)),
  .op (some 50) (.un .not (.t 49))])
 (.cond (.t 50)
 (.seq (.reg [.op (some 2) (.mv (.v (.lit (.pointer none)))),
  .op (some 3) (.mv (.v (.lit (.bool false))))])
 .ret)
 .skip))
 (.reg [.op (some 51) (.mv (.t 6)),
  .op (some 52) (.mv (.t 9)),
  .app (some 54) 53 104 1 8 (.t 51) 1 [(.lit (.int .u64 (0)))] [(0, (.t 52))],
  .op (some 6) (.mv (.t 54))])))))
 (.reg [.op (some 55) (.binI .add (.t 40) (.v (.lit (.int .i64 (1))))),
  .op (some 40) (.mv (.t 55))])))))))
 (.seq (.reg [.op (some 56) (.mv (.t 4)),
  .op (some 57) (.build [(.lit (.int .u64 (0))), (.lit (.slice none 0 0))] [((0, 1), (.t 56))]),
  .op (some 58) (.box 129 (.t 57)),
  .op (some 11) (.mv (.t 58))])
 (.seq (.seq (.reg [.op (some 59) (.faddr 7 (.t 1)),
  .op (some 60) (.load 1 false (.t 59)),
  .op (some 61) (.lenL (.t 60)),
  .op (some 62) (.mv (.v (.lit (.int .i64 (0)))))])
 (.block 2 (.loop (.seq (.reg [.op (some 63) (.binI .lss (.t 62) (.t 61))])
 (.seq (.cond (.t 63)
 .skip
 (.exit 2))
 (.seq (.block 3 (.seq (.reg [.op (some 64) (.iaddrS 4 (.t 60) (.t 62)),
  .op (some 65) (.load 4 true (.t 64)),
  .op (some 13) (.alloc 87 (List.replicate 4 (.lit (.int .i64 (0))))),
  .op none (.store 4 (.t 13) (.t 65))])
 (.seq (.seq (.reg [.op (some 66) (.load 4 true (.t 13)),
  .op (some 67) (.mv (.t 6)),
  .op (some 68) (.lenL (.t 67)),
  .op (some 69) (.call (.v (.lit (.func (.func 120) #[] #[]))) [(.t 66), (.t 68)]),
  .op (some 70) (.un .not (.t 69))])
 (.cond (.t 70)
 (.seq (.reg [.op (some 2) (.mv (.v (.lit (.pointer none)))),
  .op (some 3) (.mv (.v (.lit (.bool false))))])
 .ret)
 .skip))
 (.seq (.draw [((some 71), (.mv (.t 6))), ((some 72), (.faddr 1 (.t 13))), ((some 73), (.load 1 false (.t 72))), ((some 74), (.iaddrS 1 (.t 71) (.t 73))), ((some 75), (.load 1 false (.t 74))), ((some 76), (.faddr 2 (.t 13))), ((some 77), (.load 2 true (.t 76))), ((some 78), (.call (.v (.lit (.func (.func 81) #[] #[]))) [(.t 77)])), ((some 79), (.call (.v (.lit (.func (.func 111) #[] #[]))) [(.t 75), (.t 78)]))] [((some 14), (.alloc 104 [(.lit (.int .u64 (0)))])), (none, (.store 1 (.t 14) (.t 79)))])
 (.seq (.reg [.op (some 80) (.build (List.replicate 4 (.lit .nilFunc)) [((0, 1), (.v (.lit .nilFunc))), ((1, 1), (.v (.lit (.func (.func 62) #[] #[])))), ((2, 1), (.v (.lit (.func (.func 66) #[] #[])))), ((3, 1), (.v (.lit (.func (.func 68) #[] #[]))))]),
  .op (some 81) (.faddr 0 (.t 13)),
  .op (some 82) (.load 1 false (.t 81)),
  .op (some 83) (.idxA 4 1 false (.t 80) (.t 82)),
  .op (some 15) (.alloc 96 [(.lit .nilFunc)]),
  .op none (.store 1 (.t 15) (.t 83))])
 (.reg [.op (some 84) (.mv (.t 11)),
  .op (some 85) (.mv (.t 11)),
  .op (some 86) (.nilck (.t 85)),
  .op (some 87) (.faddr 1 (.t 86)),
  .op (some 88) (.load 1 false (.t 87)),
  .op (some 89) (.mkfn (.func 121) [] [(.t 15), (.t 14)]),
  .app (some 91) 90 137 1 8 (.t 88) 1 [(.lit .nilFunc)] [(0, (.t 89))],
  .op (some 92) (.nilck (.t 84)),
  .op (some 93) (.faddr 1 (.t 92)),
  .op none (.store 1 (.t 93) (.t 91))]))))))
 (.reg [.op (some 94) (.binI .add (.t 62) (.v (.lit (.int .i64 (1))))),
  .op (some 62) (.mv (.t 94))])))))))
 (.seq (.reg [.op (some 95) (.mv (.t 11)),
  .op (some 2) (.mv (.t 95)),
  .op (some 3) (.mv (.v (.lit (.bool true))))])
 .ret))))))))
def rs95 : List RR := [.tmp 2, .tmp 3]
def cut95 : Nat → Nat := fun id => if id = 19 then 19 else 0
theorem k95 : (Try.f95.body.bind fun c => comp Try.prog Try.f95.ntmps cut95 c) = some r95 := by kernel_rfl
theorem by95 {W0 : World} {σ : List Blk} {args : List AV} {K : Cont} (hn : args.length ≤ 96) (h : rW Try.prog W0 σ.length r95 (initFr args) σ (finP W0 rs95 σ.length K)) : ACall Try.prog W0 95 args σ K :=
  ACall.introR mixed Try.func95 (by kernel_rfl) k95 (by kernel_rfl) hn h
def r96 : RC := (.seq (.reg [.op (some 2) (.alloc 122 [(.lit (.int .u64 (0))), (.lit (.int .u64 (0)))])])
 (.seq (.reg [.op (some 3) (.mv (.t 0)),
  .op (some 4) (.call (.v (.lit (.func (.func 122) #[] #[]))) [(.t 3), (.v (.lit (.int .u64 (0))))]),
  .op (some 5) (.mv (.t 0)),
  .op (some 6) (.call (.v (.lit (.func (.func 122) #[] #[]))) [(.t 5), (.v (.lit (.int .u64 (68719476735))))]),
  .op (some 7) (.build [(.lit (.int .u64 (0))), (.lit (.int .u64 (0)))] [((0, 1), (.t 4)), ((1, 1), (.t 6))]),
  .op none (.store 2 (.t 2) (.t 7))])
 .ret))
def rs96 : List RR := [.cell 2 2 true]
def cut96 : Nat → Nat := fun id => 0
theorem k96 : (Try.f96.body.bind fun c => comp Try.prog Try.f96.ntmps cut96 c) = some r96 := by kernel_rfl
theorem by96 {W0 : World} {σ : List Blk} {args : List AV} {K : Cont} (hn : args.length ≤ 8) (h : rW Try.prog W0 σ.length r96 (initFr args) σ (finP W0 rs96 σ.length K)) : ACall Try.prog W0 96 args σ K :=
  ACall.introR mixed Try.func96 (by kernel_rfl) k96 (by kernel_rfl) hn h
def r97 : RC := (.seq (.reg [.op (some 1) (.box 67 (.t 0)),
  .op (some 2) (.mv (.v (.lit (.bool false))))])
 (.seq (.seq (.reg [.op (some 5) (.faddr 0 (.t 1)),
  .op (some 6) (.load 6 true (.t 5)),
  .op (some 7) (.call (.v (.lit (.func (.func 77) #[] #[]))) [(.t 6)]),
  .op (some 8) (.un .not (.t 7)),
  .op (some 9) (.mv (.t 8)),
  .grp 9 false [((some 10), (.faddr 6 (.t 1))), ((some 11), (.load 1 false (.t 10))), ((some 12), (.lenL (.t 11))), ((some 13), (.binI .gtr (.t 12) (.v (.lit (.int .i64 (4))))))],
  .op (some 14) (.pick (.t 9) (.v (.lit (.bool true))) (.t 13)),
  .op (some 15) (.mv (.t 14)),
  .grp 15 false [((some 16), (.faddr 7 (.t 1))), ((some 17), (.load 1 false (.t 16))), ((some 18), (.lenL (.t 17))), ((some 19), (.binI .gtr (.t 18) (.v (.lit (.int .i64 (40))))))],
  .op (some 20) (.pick (.t 15) (.v (.lit (.bool true))) (.t 19))])
 (.cond (.t 20)
 (.seq (.reg [.op (some 2) (.mv (.v (.lit (.bool false))))])
 .ret)
 .skip))
 (.seq (.seq (.reg [.op (some 3) (.mv (.v (.lit (.int .i64 (0)))))])
 (.block 0 (.loop (.seq (.seq (.reg [.op (some 21) (.mv (.t 3)),
  .op (some 22) (.faddr 6 (.t 1)),
  .op (some 23) (.load 1 false (.t 22)),
  .op (some 24) (.lenL (.t 23)),
  .op (some 25) (.binI .lss (.t 21) (.t 24))])
 (.cond (.t 25)
 .skip
 (.exit 0)))
 (.seq (.block 1 (.seq (.reg [.op (some 28) (.faddr 6 (.t 1)),
  .op (some 29) (.load 1 false (.t 28)),
  .op (some 30) (.mv (.t 3)),
  .op (some 31) (.iaddrS 6 (.t 29) (.t 30)),
  .op (some 32) (.load 6 true (.t 31)),
  .op (some 33) (.call (.v (.lit (.func (.func 77) #[] #[]))) [(.t 32)]),
  .op (some 34) (.un .not (.t 33))])
 (.cond (.t 34)
 (.seq (.reg [.op (some 2) (.mv (.v (.lit (.bool false))))])
 .ret)
 .skip)))
 (.reg [.op (some 26) (.mv (.t 3)),
  .op (some 27) (.binI .add (.t 26) (.v (.lit (.int .i64 (1))))),
  .op (some 3) (.mv (.t 27))]))))))
 (.seq (.seq (.reg [.op (some 4) (.mv (.v (.lit (.int .i64 (0)))))])
 (.block 2 (.loop (.seq (.seq (.reg [.op (some 35) (.mv (.t 4)),
  .op (some 36) (.faddr 7 (.t 1)),
  .op (some 37) (.load 1 false (.t 36)),
  .op (some 38) (.lenL (.t 37)),
  .op (some 39) (.binI .lss (.t 35) (.t 38))])
 (.cond (.t 39)
 .skip
 (.exit 2)))
 (.seq (.block 3 (.seq (.draw [((some 42), (.faddr 7 (.t 1))), ((some 43), (.load 1 false (.t 42))), ((some 44), (.mv (.t 4))), ((some 45), (.iaddrS 4 (.t 43) (.t 44))), ((some 46), (.load 4 true (.t 45))), ((some 47), (.faddr 6 (.t 1))), ((some 48), (.load 1 false (.t 47))), ((some 49), (.lenL (.t 48))), ((some 50), (.call (.v (.lit (.func (.func 123) #[] #[]))) [(.t 46), (.t 49)])), ((some 51), (.un .not (.t 50)))] [])
 (.cond (.t 51)
 (.seq (.reg [.op (some 2) (.mv (.v (.lit (.bool false))))])
 .ret)
 .skip)))
 (.reg [.op (some 40) (.mv (.t 4)),
  .op (some 41) (.binI .add (.t 40) (.v (.lit (.int .i64 (1))))),
  .op (some 4) (.mv (.t 41))]))))))
 (.seq (.reg [.op (some 2) (.mv (.v (.lit (.bool true))))])
 .ret)))))
def rs97 : List RR := [.tmp 2]
def cut97 : Nat → Nat := fun id => if id = 11 then 21 else 0
theorem k97 : (Try.f97.body.bind fun c => comp Try.prog Try.f97.ntmps cut97 c) = some r97 := by kernel_rfl
theorem by97 {W0 : World} {σ : List Blk} {args : List AV} {K : Cont} (hn : args.length ≤ 52) (h : rW Try.prog W0 σ.length r97 (initFr args) σ (finP W0 rs97 σ.length K)) : ACall Try.prog W0 97 args σ K :=
  ACall.introR mixed Try.func97 (by kernel_rfl) k97 (by kernel_rfl) hn h
def r98 : RC := (.seq (.reg [.op (some 1) (.box 67 (.t 0)),
  .op (some 2) (.alloc 69 (List.replicate 36 (.lit (.int .i64 (0)))))])
 (.seq (.reg [.op (some 10) (.build (List.replicate 36 (.lit (.int .i64 (0)))) []),
  .op (some 3) (.alloc 69 (List.replicate 36 (.lit (.int .i64 (0))))),
  .op none (.store 36 (.t 3) (.t 10))])
 (.seq (.reg [.op (some 11) (.load 8 true (.t 1)),
  .op (some 12) (.build (List.replicate 6 (.lit (.int .i64 (0)))) []),
  .op (some 13) (.faddr 7 (.t 1)),
  .op (some 14) (.load 1 false (.t 13)),
  .op (some 15) (.lenL (.t 14)),
  .op (some 16) (.call (.v (.lit (.func (.func 124) #[] #[]))) [(.t 11), (.t 12), (.t 15)]),
  .op (some 4) (.alloc 26 (List.replicate 6 (.lit (.int .i64 (0))))),
  .op none (.store 6 (.t 4) (.t 16))])
 (.seq (.draw [((some 17), (.load 8 true (.t 1))), ((some 18), (.build (List.replicate 6 (.lit (.int .i64 (0)))) [])), ((some 19), (.call (.v (.lit (.func (.func 70) #[] #[]))) [(.t 18)])), ((some 20), (.faddr 7 (.t 1))), ((some 21), (.load 1 false (.t 20))), ((some 22), (.lenL (.t 21))), ((some 23), (.call (.v (.lit (.func (.func 124) #[] #[]))) [(.t 17), (.t 19), (.t 22)]))] [((some 5), (.alloc 26 (List.replicate 6 (.lit (.int .i64 (0)))))), (none, (.store 6 (.t 5) (.t 23)))])
 (.seq (.seq (.reg [.op (some 6) (.mv (.v (.lit (.int .i64 (0)))))])
 (.block 0 (.loop (.seq (.seq (.reg [.op (some 24) (.mv (.t 6)),
  .op (some 25) (.binI .lss (.t 24) (.v (.lit (.int .i64 (6)))))])
 (.cond (.t 25)
 .skip
 (.exit 0)))
 (.seq (.block 1 (.seq (.reg [.op (some 7) (.mv (.v (.lit (.int .i64 (0)))))])
 (.block 2 (.loop (.seq (.seq (.reg [.op (some 28) (.mv (.t 7)),
  .op (some 29) (.binI .lss (.t 28) (.v (.lit (.int .i64 (6)))))])
 (.cond (.t 29)
 .skip
 (.exit 2)))
 (.seq (.block 3 (.seq (.draw [((some 32), (.load 6 true (.t 4))), ((some 33), (.mv (.t 7))), ((some 34), (.mv (.t 6))), ((some 35), (.call (.v (.lit (.func (.func 85) #[] #[]))) [(.t 32), (.t 33), (.t 34)])), ((some 36), (.load 6 true (.t 5))), ((some 37), (.mv (.t 7))), ((some 38), (.mv (.t 6))), ((some 39), (.call (.v (.lit (.func (.func 85) #[] #[]))) [(.t 36), (.t 37), (.t 38)])), ((some 8), (.mv (.t 35))), ((some 9), (.mv (.t 39)))] [])
 (.block 4 (.seq (.reg [.op (some 41) (.mv (.t 8)),
  .op (some 42) (.mv (.t 41)),
  .grp 42 true [((some 43), (.mv (.t 9)))],
  .op (some 44) (.pick (.t 42) (.t 43) (.v (.lit (.bool false)))),
  .op (some 40) (.mv (.t 44))])
 (.cond (.t 40)
 (.reg [.op (some 45) (.mv (.t 6)),
  .op (some 46) (.mv (.t 7)),
  .op (some 47) (.iaddrA 6 6 (.t 3) (.t 45)),
  .op (some 48) (.iaddrA 6 1 (.t 47) (.t 46)),
  .op none (.store 1 (.t 48) (.v (.lit (.int .i64 (2)))))])
 (.seq (.reg [.op (some 50) (.mv (.t 8)),
  .op (some 49) (.mv (.t 50))])
 (.cond (.t 49)
 (.reg [.op (some 51) (.mv (.t 6)),
  .op (some 52) (.mv (.t 7)),
  .op (some 53) (.iaddrA 6 6 (.t 3) (.t 51)),
  .op (some 54) (.iaddrA 6 1 (.t 53) (.t 52)),
  .op none (.store 1 (.t 54) (.v (.lit (.int .i64 (1)))))])
 (.seq (.reg [.op (some 56) (.mv (.t 9)),
  .op (some 57) (.un .not (.t 56)),
  .op (some 55) (.mv (.t 57))])
 (.cond (.t 55)
 (.reg [.op (some 58) (.mv (.t 6)),
  .op (some 59) (.mv (.t 7)),
  .op (some 60) (.iaddrA 6 6 (.t 3) (.t 58)),
  .op (some 61) (.iaddrA 6 1 (.t 60) (.t 59)),
  .op none (.store 1 (.t 61) (.v (.lit (.int .i64 (3)))))])
 .skip)))))))))
 (.reg [.op (some 30) (.mv (.t 7)),
  .op (some 31) (.binI .add (.t 30) (.v (.lit (.int .i64 (1))))),
  .op (some 7) (.mv (.t 31))])))))))
 (.reg [.op (some 26) (.mv (.t 6)),
  .op (some 27) (.binI .add (.t 26) (.v (.lit (.int .i64 (1))))),
  .op (some 6) (.mv (.t 27))]))))))
 (.seq (.reg [.op (some 62) (.load 36 true (.t 3)),
  .op none (.store 36 (.t 2) (.t 62))])
 .ret))))))
def rs98 : List RR := [.cell 2 36 true]
def cut98 : Nat → Nat := fun id => if id = 3 then 15 else if id = 10 then 21 else 0
theorem k98 : (Try.f98.body.bind fun c => comp Try.prog Try.f98.ntmps cut98 c) = some r98 := by kernel_rfl
theorem by98 {W0 : World} {σ : List Blk} {args : List AV} {K : Cont} (hn : args.length ≤ 63) (h : rW Try.prog W0 σ.length r98 (initFr args) σ (finP W0 rs98 σ.length K)) : ACall Try.prog W0 98 args σ K :=
  ACall.introR mixed Try.func98 (by kernel_rfl) k98 (by kernel_rfl) hn h
def r99 : RC := (.seq (.reg [.op (some 4) (.mv (.v (.lit (.slice none 0 0))))])
 (.seq (.reg [.op (some 8) (.mv (.t 1)),
  .op (some 9) (.bslice 104 1 1 [(.lit (.int .u64 (0)))] [(0, (.t 8))]),
  .op (some 5) (.mv (.t 9))])
 (.seq (.seq (.reg [.op (some 10) (.mv (.t 0)),
  .op (some 11) (.nilck (.t 10)),
  .op (some 12) (.faddr 1 (.t 11)),
  .op (some 13) (.load 1 false (.t 12)),
  .op (some 14) (.lenL (.t 13)),
  .op (some 15) (.mv (.v (.lit (.int .i64 (0)))))])
 (.block 0 (.loop (.seq (.reg [.op (some 16) (.binI .lss (.t 15) (.t 14))])
 (.seq (.cond (.t 16)
 .skip
 (.exit 0))
 (.seq (.block 1 (.seq (.reg [.op (some 17) (.iaddrS 1 (.t 13) (.t 15)),
  .op (some 18) (.load 1 false (.t 17)),
  .op (some 7) (.mv (.t 18))])
 (.seq (.reg [.op (some 19) (.mv (.t 7)),
  .op (some 20) (.mv (.t 1)),
  .op (some 21) (.call (.t 19) [(.t 20)]),
  .op (some 1) (.mv (.t 21))])
 (.reg [.op (some 22) (.mv (.t 5)),
  .op (some 23) (.mv (.t 1)),
  .app (some 25) 24 104 1 8 (.t 22) 1 [(.lit (.int .u64 (0)))] [(0, (.t 23))],
  .op (some 5) (.mv (.t 25))]))))
 (.reg [.op (some 26) (.binI .add (.t 15) (.v (.lit (.int .i64 (1))))),
  .op (some 15) (.mv (.t 26))])))))))
 (.seq (.reg [.op (some 27) (.mv (.t 5)),
  .op (some 4) (.mv (.t 27))])
 .ret))))
def rs99 : List RR := [.tmp 4]
def cut99 : Nat → Nat := fun id => 0
theorem k99 : (Try.f99.body.bind fun c => comp Try.prog Try.f99.ntmps cut99 c) = some r99 := by kernel_rfl
theorem by99 {W0 : World} {σ : List Blk} {args : List AV} {K : Cont} (hn : args.length ≤ 28) (h : rW Try.prog W0 σ.length r99 (initFr args) σ (finP W0 rs99 σ.length K)) : ACall Try.prog W0 99 args σ K :=
  ACall.introR mixed Try.func99 (by kernel_rfl) k99 (by kernel_rfl) hn h
def r100 : RC := (.seq (.reg [.op (some 1) (.box 67 (.t 0)),
  .op (some 2) (.mv (.v (.lit (.slice none 0 0))))])
 (.seq (.any true (.h ⟨none, (some 8), (.faddr 0 (.t 1))⟩
 (.h ⟨none, (some 9), (.load 6 true (.t 8))⟩
 (.both (.t ⟨none, (some 7), (.bslice 3 1 0 [(.lit (.int .i64 (0)))] [])⟩
 (.t ⟨none, (some 4), (.alloc 26 (List.replicate 6 (.lit (.int .i64 (0)))))⟩
 (.n ⟨none, (some 3), (.mv (.t 7))⟩
 (.t ⟨none, none, (.store 6 (.t 4) (.t 9))⟩
 .fin))))
 (.t ⟨none, (some 4), (.alloc 26 (List.replicate 6 (.lit (.int .i64 (0)))))⟩
 (.t ⟨none, (some 7), (.bslice 3 1 0 [(.lit (.int .i64 (0)))] [])⟩
 (.n ⟨none, (some 3), (.mv (.t 7))⟩
 (.t ⟨none, none, (.store 6 (.t 4) (.t 9))⟩
 .fin))))))))
 (.seq (.seq (.reg [.op (some 5) (.mv (.v (.lit (.int .i64 (0)))))])
 (.block 0 (.loop (.seq (.seq (.reg [.op (some 10) (.mv (.t 5)),
  .op (some 11) (.faddr 7 (.t 1)),
  .op (some 12) (.load 1 false (.t 11)),
  .op (some 13) (.lenL (.t 12)),
  .op (some 14) (.binI .lss (.t 10) (.t 13))])
 (.cond (.t 14)
 .skip
 (.exit 0)))
 (.seq (.block 1 (.seq (.draw [((some 17), (.load 6 true (.t 4))), ((some 18), (.faddr 6 (.t 1))), ((some 19), (.load 1 false (.t 18))), ((some 20), (.faddr 7 (.t 1))), ((some 21), (.load 1 false (.t 20))), ((some 22), (.mv (.t 5))), ((some 23), (.iaddrS 4 (.t 21) (.t 22))), ((some 24), (.load 4 true (.t 23))), ((some 25), (.call (.v (.lit (.func (.func 125) #[] #[]))) [(.t 17), (.t 19), (.t 24)]))] [((some 6), (.alloc 26 (List.replicate 6 (.lit (.int .i64 (0)))))), (none, (.store 6 (.t 6) (.t 25)))])
 (.seq (.seq (.reg [.op (some 26) (.load 6 true (.t 6)),
  .op (some 27) (.load 6 true (.t 4)),
  .op (some 28) (.eqA false [.int, .int, .int, .int, .int, .int] (.t 26) (.t 27))])
 (.cond (.t 28)
 (.reg [.op (some 29) (.mv (.t 3)),
  .op (some 30) (.mv (.t 5)),
  .app (some 32) 31 3 1 8 (.t 29) 1 [(.lit (.int .i64 (0)))] [(0, (.t 30))],
  .op (some 3) (.mv (.t 32))])
 .skip))
 (.reg [.op (some 33) (.load 6 true (.t 6)),
  .op none (.store 6 (.t 4) (.t 33))]))))
 (.reg [.op (some 15) (.mv (.t 5)),
  .op (some 16) (.binI .add (.t 15) (.v (.lit (.int .i64 (1))))),
  .op (some 5) (.mv (.t 16))]))))))
 (.seq (.reg [.op (some 34) (.mv (.t 3)),
  .op (some 2) (.mv (.t 34))])
 .ret))))
def rs100 : List RR := [.tmp 2]
def cut100 : Nat → Nat := fun id => if id = 1 then 1000083 else if id = 5 then 19 else 0
theorem k100 : (Try.f100.body.bind fun c => comp Try.prog Try.f100.ntmps cut100 c) = some r100 := by kernel_rfl
theorem by100 {W0 : World} {σ : List Blk} {args : List AV} {K : Cont} (hn : args.length ≤ 35) (h : rW Try.prog W0 σ.length r100 (initFr args) σ (finP W0 rs100 σ.length K)) : ACall Try.prog W0 100 args σ K :=
  ACall.introR mixed Try.func100 (by kernel_rfl) k100 (by kernel_rfl) hn h
def r101 : RC := (.seq (.reg [.op (some 4) (.mv (.v (.lit (.bool false))))])
 (.seq (.reg [.op (some 5) (.mv (.t 0)),
  .op (some 6) (.mv (.t 1)),
  .op (some 7) (.call (.v (.lit (.func (.func 126) #[] #[]))) [(.t 5), (.t 6)]),
  .op (some 8) (.binI .geq (.t 7) (.v (.lit (.int .i64 (0))))),
  .op (some 4) (.mv (.t 8))])
 .ret))
def rs101 : List RR := [.tmp 4]
def cut101 : Nat → Nat := fun id => 0
theorem k101 : (Try.f101.body.bind fun c => comp Try.prog Try.f101.ntmps cut101 c) = some r101 := by kernel_rfl
theorem by101 {W0 : World} {σ : List Blk} {args : List AV} {K : Cont} (hn : args.length ≤ 9) (h : rW Try.prog W0 σ.length r101 (initFr args) σ (finP W0 rs101 σ.length K)) : ACall Try.prog W0 101 args σ K :=
  ACall.introR mixed Try.func101 (by kernel_rfl) k101 (by kernel_rfl) hn h
def r102 : RC := (.seq (.reg [.op (some 2) (.box 67 (.t 0)),
  .op (some 4) (.alloc 67 [(.lit (.int .i64 (0))), (.lit (.int .i64 (0))), (.lit (.int .i64 (0))), (.lit (.int .i64 (0))), (.lit (.int .i64 (0))), (.lit (.int .i64 (0))), (.lit (.slice none 0 0)), (.lit (.slice none 0 0))])])
 (.seq (.any true (.h ⟨none, (some 5), (.faddr 0 (.t 2))⟩
 (.h ⟨none, (some 6), (.load 6 true (.t 5))⟩
 (.n ⟨none, (some 7), (.faddr 6 (.t 2))⟩
 (.n ⟨none, (some 8), (.load 1 false (.t 7))⟩
 (.n ⟨none, (some 10), (.mv (.t 1))⟩
 (.t ⟨none, (some 9), (.call (.v (.lit (.func (.func 127) #[] #[]))) [(.t 8)])⟩
 (.t ⟨none, (some 11), (.call (.v (.lit (.func (.func 128) #[] #[]))) [(.t 10)])⟩
 (.n ⟨none, (some 12), (.build [(.lit (.int .i64 (0))), (.lit (.int .i64 (0))), (.lit (.int .i64 (0))), (.lit (.int .i64 (0))), (.lit (.int .i64 (0))), (.lit (.int .i64 (0))), (.lit (.slice none 0 0)), (.lit (.slice none 0 0))] [((0, 6), (.t 6)), ((6, 1), (.t 9)), ((7, 1), (.t 11))])⟩
 (.t ⟨none, none, (.store 8 (.t 4) (.t 12))⟩
 .fin))))))))))
 .ret))
def rs102 : List RR := [.cell 4 8 true]
def cut102 : Nat → Nat := fun id => if id = 1 then 1000673 else 0
theorem k102 : (Try.f102.body.bind fun c => comp Try.prog Try.f102.ntmps cut102 c) = some r102 := by kernel_rfl
theorem by102 {W0 : World} {σ : List Blk} {args : List AV} {K : Cont} (hn : args.length ≤ 13) (h : rW Try.prog W0 σ.length r102 (initFr args) σ (finP W0 rs102 σ.length K)) : ACall Try.prog W0 102 args σ K :=
  ACall.introR mixed Try.func102 (by kernel_rfl) k102 (by kernel_rfl) hn h
def r103 : RC := (.seq (.reg [.op (some 4) (.mv (.v (.lit (.bool false))))])
 (.seq (.seq (.reg [.op (some 5) (.mv (.v (.lit (.int .i64 (0)))))])
 (.block 0 (.loop (.seq (.seq (.reg [.op (some 6) (.mv (.t 5)),
  .op (some 7) (.mv (.t 0)),
  .op (some 8) (.lenL (.t 7)),
  .op (some 9) (.binI .lss (.t 6) (.t 8))])
 (.cond (.t 9)
 .skip
 (.exit 0)))
 (.seq (.block 1 (.seq (.reg [.op (some 12) (.mv (.t 0)),
  .op (some 13) (.mv (.t 5)),
  .op (some 14) (.iaddrS 1 (.t 12) (.t 13)),
  .op (some 15) (.load 1 false (.t 14)),
  .op (some 16) (.mv (.t 1)),
  .op (some 17) (.binI .eql (.t 15) (.t 16))])
 (.cond (.t 17)
 (.seq (.reg [.op (some 4) (.mv (.v (.lit (.bool true))))])
 .ret)
 .skip)))
 (.reg [.op (some 10) (.mv (.t 5)),
  .op (some 11) (.binI .add (.t 10) (.v (.lit (.int .i64 (1))))),
  .op (some 5) (.mv (.t 11))]))))))
 (.seq (.reg [.op (some 4) (.mv (.v (.lit (.bool false))))])
 .ret)))
def rs103 : List RR := [.tmp 4]
def cut103 : Nat → Nat := fun id => 0
theorem k103 : (Try.f103.body.bind fun c => comp Try.prog Try.f103.ntmps cut103 c) = some r103 := by kernel_rfl
theorem by103 {W0 : World} {σ : List Blk} {args : List AV} {K : Cont} (hn : args.length ≤ 18) (h : rW Try.prog W0 σ.length r103 (initFr args) σ (finP W0 rs103 σ.length K)) : ACall Try.prog W0 103 args σ K :=
  ACall.introR mixed Try.func103 (by kernel_rfl) k103 (by kernel_rfl) hn h
def r104 : RC := (.seq (.reg [.op (some 2) (.box 67 (.t 0)),
  .op (some 4) (.alloc 67 [(.lit (.int .i64 (0))), (.lit (.int .i64 (0))), (.lit (.int .i64 (0))), (.lit (.int .i64 (0))), (.lit (.int .i64 (0))), (.lit (.int .i64 (0))), (.lit (.slice none 0 0)), (.lit (.slice none 0 0))])])
 (.seq (.any true (.h ⟨none, (some 5), (.faddr 0 (.t 2))⟩
 (.h ⟨none, (some 6), (.load 6 true (.t 5))⟩
 (.h ⟨none, (some 8), (.faddr 6 (.t 2))⟩
 (.h ⟨none, (some 9), (.load 1 false (.t 8))⟩
 (.n ⟨none, (some 12), (.mv (.t 1))⟩
 (.both (.t ⟨none, (some 7), (.bslice 26 6 0 (List.replicate 6 (.lit (.int .i64 (0)))) [])⟩
 (.both (.t ⟨none, (some 10), (.append 64 26 6 48 (.t 7) (.t 9))⟩
 (.t ⟨none, (some 11), (.bslice 87 4 0 (List.replicate 4 (.lit (.int .i64 (0)))) [])⟩
 (.t ⟨none, (some 13), (.append 65 87 4 32 (.t 11) (.t 12))⟩
 (.n ⟨none, (some 14), (.build [(.lit (.int .i64 (0))), (.lit (.int .i64 (0))), (.lit (.int .i64 (0))), (.lit (.int .i64 (0))), (.lit (.int .i64 (0))), (.lit (.int .i64 (0))), (.lit (.slice none 0 0)), (.lit (.slice none 0 0))] [((0, 6), (.t 6)), ((6, 1), (.t 10)), ((7, 1), (.t 13))])⟩
 (.t ⟨none, none, (.store 8 (.t 4) (.t 14))⟩
 .fin)))))
 (.t ⟨none, (some 11), (.bslice 87 4 0 (List.replicate 4 (.lit (.int .i64 (0)))) [])⟩
 (.t ⟨none, (some 10), (.append 64 26 6 48 (.t 7) (.t 9))⟩
 (.t ⟨none, (some 13), (.append 65 87 4 32 (.t 11) (.t 12))⟩
 (.n ⟨none, (some 14), (.build [(.lit (.int .i64 (0))), (.lit (.int .i64 (0))), (.lit (.int .i64 (0))), (.lit (.int .i64 (0))), (.lit (.int .i64 (0))), (.lit (.int .i64 (0))), (.lit (.slice none 0 0)), (.lit (.slice none 0 0))] [((0, 6), (.t 6)), ((6, 1), (.t 10)), ((7, 1), (.t 13))])⟩
 (.t ⟨none, none, (.store 8 (.t 4) (.t 14))⟩
 .fin)))))))
 (.t ⟨none, (some 11), (.bslice 87 4 0 (List.replicate 4 (.lit (.int .i64 (0)))) [])⟩
 (.t ⟨none, (some 7), (.bslice 26 6 0 (List.replicate 6 (.lit (.int .i64 (0)))) [])⟩
 (.t ⟨none, (some 10), (.append 64 26 6 48 (.t 7) (.t 9))⟩
 (.t ⟨none, (some 13), (.append 65 87 4 32 (.t 11) (.t 12))⟩
 (.n ⟨none, (some 14), (.build [(.lit (.int .i64 (0))), (.lit (.int .i64 (0))), (.lit (.int .i64 (0))), (.lit (.int .i64 (0))), (.lit (.int .i64 (0))), (.lit (.int .i64 (0))), (.lit (.slice none 0 0)), (.lit (.slice none 0 0))] [((0, 6), (.t 6)), ((6, 1), (.t 10)), ((7, 1), (.t 13))])⟩
 (.t ⟨none, none, (.store 8 (.t 4) (.t 14))⟩
 .fin)))))))))))))
 .ret))
def rs104 : List RR := [.cell 4 8 true]
def cut104 : Nat → Nat := fun id => if id = 1 then 1002761 else 0
theorem k104 : (Try.f104.body.bind fun c => comp Try.prog Try.f104.ntmps cut104 c) = some r104 := by kernel_rfl
theorem by104 {W0 : World} {σ : List Blk} {args : List AV} {K : Cont} (hn : args.length ≤ 15) (h : rW Try.prog W0 σ.length r104 (initFr args) σ (finP W0 rs104 σ.length K)) : ACall Try.prog W0 104 args σ K :=
  ACall.introR mixed Try.func104 (by kernel_rfl) k104 (by kernel_rfl) hn h
def r105 : RC := (.seq (.reg [.op (some 4) (.mv (.v (.lit (.bool false))))])
 (.seq (.seq (.reg [.op (some 6) (.mv (.t 0)),
  .op (some 7) (.lenL (.t 6)),
  .op (some 8) (.mv (.t 1)),
  .op (some 9) (.lenL (.t 8)),
  .op (some 10) (.binI .neq (.t 7) (.t 9))])
 (.cond (.t 10)
 (.seq (.reg [.op (some 4) (.mv (.v (.lit (.bool false))))])
 .ret)
 .skip))
 (.seq (.seq (.reg [.op (some 5) (.mv (.v (.lit (.int .i64 (0)))))])
 (.block 0 (.loop (.seq (.seq (.reg [.op (some 11) (.mv (.t 5)),
  .op (some 12) (.mv (.t 0)),
  .op (some 13) (.lenL (.t 12)),
  .op (some 14) (.binI .lss (.t 11) (.t 13))])
 (.cond (.t 14)
 .skip
 (.exit 0)))
 (.seq (.block 1 (.seq (.draw [((some 17), (.mv (.t 0))), ((some 18), (.mv (.t 5))), ((some 19), (.iaddrS 6 (.t 17) (.t 18))), ((some 20), (.load 6 true (.t 19))), ((some 21), (.mv (.t 1))), ((some 22), (.mv (.t 5))), ((some 23), (.iaddrS 6 (.t 21) (.t 22))), ((some 24), (.load 6 true (.t 23))), ((some 25), (.eqA true [.int, .int, .int, .int, .int, .int] (.t 20) (.t 24)))] [])
 (.cond (.t 25)
 (.seq (.reg [.op (some 4) (.mv (.v (.lit (.bool false))))])
 .ret)
 .skip)))
 (.reg [.op (some 15) (.mv (.t 5)),
  .op (some 16) (.binI .add (.t 15) (.v (.lit (.int .i64 (1))))),
  .op (some 5) (.mv (.t 16))]))))))
 (.seq (.reg [.op (some 4) (.mv (.v (.lit (.bool true))))])
 .ret))))
def rs105 : List RR := [.tmp 4]
def cut105 : Nat → Nat := fun id => if id = 6 then 19 else 0
theorem k105 : (Try.f105.body.bind fun c => comp Try.prog Try.f105.ntmps cut105 c) = some r105 := by kernel_rfl
theorem by105 {W0 : World} {σ : List Blk} {args : List AV} {K : Cont} (hn : args.length ≤ 26) (h : rW Try.prog W0 σ.length r105 (initFr args) σ (finP W0 rs105 σ.length K)) : ACall Try.prog W0 105 args σ K :=
  ACall.introR mixed Try.func105 (by kernel_rfl) k105 (by kernel_rfl) hn h
def r106 : RC := (.seq (.reg [.op (some 2) (.alloc 67 [(.lit (.int .i64 (0))), (.lit (.int .i64 (0))), (.lit (.int .i64 (0))), (.lit (.int .i64 (0))), (.lit (.int .i64 (0))), (.lit (.int .i64 (0))), (.lit (.slice none 0 0)), (.lit (.slice none 0 0))])])
 (.seq (.reg [.op (some 9) (.bslice 26 6 0 (List.replicate 6 (.lit (.int .i64 (0)))) []),
  .op (some 10) (.bslice 87 4 0 (List.replicate 4 (.lit (.int .i64 (0)))) []),
  .op (some 11) (.build [(.lit (.int .i64 (0))), (.lit (.int .i64 (0))), (.lit (.int .i64 (0))), (.lit (.int .i64 (0))), (.lit (.int .i64 (0))), (.lit (.int .i64 (0))), (.lit (.slice none 0 0)), (.lit (.slice none 0 0))] [((6, 1), (.t 9)), ((7, 1), (.t 10))]),
  .op (some 12) (.mv (.t 0)),
  .op (some 13) (.call (.v (.lit (.func (.func 72) #[] #[]))) [(.t 12), (.v (.lit (.int .i64 (4))))]),
  .op (some 3) (.alloc 67 [(.lit (.int .i64 (0))), (.lit (.int .i64 (0))), (.lit (.int .i64 (0))), (.lit (.int .i64 (0))), (.lit (.int .i64 (0))), (.lit (.int .i64 (0))), (.lit (.slice none 0 0)), (.lit (.slice none 0 0))]),
  .op none (.store 8 (.t 3) (.t 11)),
  .op (some 4) (.mv (.t 13))])
 (.seq (.seq (.reg [.op (some 14) (.mv (.t 0)),
  .op (some 15) (.bslice 3 1 6 [(.lit (.int .i64 (0)))] [(0, (.v (.lit (.int .i64 (2))))), (1, (.v (.lit (.int .i64 (1))))), (2, (.v (.lit (.int .i64 (3))))), (3, (.v (.lit (.int .i64 (4))))), (4, (.v (.lit (.int .i64 (0))))), (5, (.v (.lit (.int .i64 (5)))))]),
  .op (some 16) (.call (.v (.lit (.func (.func 73) #[] #[]))) [(.t 14), (.t 15)]),
  .op (some 5) (.mv (.t 16))])
 (.block 0 (.loop (.seq (.seq (.reg [.op (some 17) (.mv (.t 5)),
  .op (some 18) (.binI .gtr (.t 17) (.v (.lit (.int .i64 (0)))))])
 (.cond (.t 18)
 .skip
 (.exit 0)))
 (.seq (.block 1 (.seq (.reg [.op (some 21) (.mv (.t 0)),
  .op (some 22) (.call (.v (.lit (.func (.func 59) #[] #[]))) [(.t 21)]),
  .op (some 6) (.alloc 26 (List.replicate 6 (.lit (.int .i64 (0))))),
  .op none (.store 6 (.t 6) (.t 22))])
 (.seq (.seq (.reg [.op (some 23) (.mv (.t 0)),
  .op (some 24) (.call (.v (.lit (.func (.func 72) #[] #[]))) [(.t 23), (.v (.lit (.int .i64 (3))))])])
 (.cond (.t 24)
 (.reg [.op (some 25) (.build (List.replicate 6 (.lit (.int .i64 (0)))) [((0, 1), (.v (.lit (.int .i64 (63))))), ((1, 1), (.v (.lit (.int .i64 (0))))), ((2, 1), (.v (.lit (.int .i64 (0))))), ((3, 1), (.v (.lit (.int .i64 (0))))), ((4, 1), (.v (.lit (.int .i64 (0))))), ((5, 1), (.v (.lit (.int .i64 (0)))))]),
  .op (some 26) (.build (List.replicate 6 (.lit (.int .i64 (0)))) [((0, 6), (.t 25))]),
  .op none (.store 6 (.t 6) (.t 26))])
 .skip))
 (.reg [.op (some 27) (.faddr 6 (.t 3)),
  .op (some 28) (.load 1 false (.t 27)),
  .op (some 29) (.load 6 true (.t 6)),
  .app (some 31) 30 26 6 48 (.t 28) 1 (List.replicate 6 (.lit (.int .i64 (0)))) [(0, (.t 29))],
  .op (some 32) (.faddr 6 (.t 3)),
  .op none (.store 1 (.t 32) (.t 31))]))))
 (.reg [.op (some 19) (.mv (.t 5)),
  .op (some 20) (.binI .sub (.t 19) (.v (.lit (.int .i64 (1))))),
  .op (some 5) (.mv (.t 20))]))))))
 (.seq (.seq (.reg [.op (some 33) (.mv (.t 0)),
  .op (some 34) (.bslice 3 1 9 [(.lit (.int .i64 (0)))] [(0, (.v (.lit (.int .i64 (4))))), (1, (.v (.lit (.int .i64 (6))))), (2, (.v (.lit (.int .i64 (2))))), (3, (.v (.lit (.int .i64 (8))))), (4, (.v (.lit (.int .i64 (1))))), (5, (.v (.lit (.int .i64 (0))))), (6, (.v (.lit (.int .i64 (12))))), (7, (.v (.lit (.int .i64 (40))))), (8, (.v (.lit (.int .i64 (41)))))]),
  .op (some 35) (.call (.v (.lit (.func (.func 73) #[] #[]))) [(.t 33), (.t 34)]),
  .op (some 7) (.mv (.t 35))])
 (.block 2 (.loop (.seq (.seq (.reg [.op (some 36) (.mv (.t 7)),
  .op (some 37) (.binI .gtr (.t 36) (.v (.lit (.int .i64 (0))))),
  .op (some 38) (.mv (.t 37)),
  .grp 38 true [((some 39), (.faddr 6 (.t 3))), ((some 40), (.load 1 false (.t 39))), ((some 41), (.lenL (.t 40))), ((some 42), (.binI .gtr (.t 41) (.v (.lit (.int .i64 (0))))))],
  .op (some 43) (.pick (.t 38) (.t 42) (.v (.lit (.bool false))))])
 (.cond (.t 43)
 .skip
 (.exit 2)))
 (.seq (.block 3 (.seq (.reg [.op (some 46) (.mv (.t 0)),
  .op (some 47) (.faddr 6 (.t 3)),
  .op (some 48) (.load 1 false (.t 47)),
  .op (some 49) (.lenL (.t 48)),
  .op (some 50) (.call (.v (.lit (.func (.func 129) #[] #[]))) [(.t 46), (.t 49)]),
  .op (some 8) (.alloc 87 (List.replicate 4 (.lit (.int .i64 (0))))),
  .op none (.store 4 (.t 8) (.t 50))])
 (.seq (.seq (.reg [.op (some 51) (.mv (.t 4))])
 (.cond (.t 51)
 (.reg [.op (some 52) (.faddr 0 (.t 8)),
  .op none (.store 1 (.t 52) (.v (.lit (.int .i64 (1)))))])
 .skip))
 (.seq (.reg [.op (some 53) (.faddr 7 (.t 3)),
  .op (some 54) (.load 1 false (.t 53)),
  .op (some 55) (.load 4 true (.t 8)),
  .app (some 57) 56 87 4 32 (.t 54) 1 (List.replicate 4 (.lit (.int .i64 (0)))) [(0, (.t 55))],
  .op (some 58) (.faddr 7 (.t 3)),
  .op none (.store 1 (.t 58) (.t 57))])
 (.seq (.reg [.op (some 59) (.mv (.t 0)),
  .op (some 60) (.call (.v (.lit (.func (.func 72) #[] #[]))) [(.t 59), (.v (.lit (.int .i64 (8))))])])
 (.cond (.t 60)
 (.reg [.op (some 61) (.faddr 7 (.t 3)),
  .op (some 62) (.load 1 false (.t 61)),
  .op (some 63) (.load 4 true (.t 8)),
  .app (some 65) 64 87 4 32 (.t 62) 1 (List.replicate 4 (.lit (.int .i64 (0)))) [(0, (.t 63))],
  .op (some 66) (.faddr 7 (.t 3)),
  .op none (.store 1 (.t 66) (.t 65))])
 .skip))))))
 (.reg [.op (some 44) (.mv (.t 7)),
  .op (some 45) (.binI .sub (.t 44) (.v (.lit (.int .i64 (1))))),
  .op (some 7) (.mv (.t 45))]))))))
 (.seq (.reg [.op (some 67) (.mv (.t 0)),
  .op (some 68) (.call (.v (.lit (.func (.func 60) #[] #[]))) [(.t 67)]),
  .op (some 69) (.faddr 0 (.t 3)),
  .op none (.store 6 (.t 69) (.t 68))])
 (.seq (.reg [.op (some 70) (.load 8 true (.t 3)),
  .op none (.store 8 (.t 2) (.t 70))])
 .ret))))))
def rs106 : List RR := [.cell 2 8 true]
def cut106 : Nat → Nat := fun id => 0
theorem k106 : (Try.f106.body.bind fun c => comp Try.prog Try.f106.ntmps cut106 c) = some r106 := by kernel_rfl
theorem by106 {W0 : World} {σ : List Blk} {args : List AV} {K : Cont} (hn : args.length ≤ 71) (h : rW Try.prog W0 σ.length r106 (initFr args) σ (finP W0 rs106 σ.length K)) : ACall Try.prog W0 106 args σ K :=
  ACall.introR mixed Try.func106 (by kernel_rfl) k106 (by kernel_rfl) hn h
def r107 : RC := (.seq (.reg [.op (some 2) (.alloc 67 [(.lit (.int .i64 (0))), (.lit (.int .i64 (0))), (.lit (.int .i64 (0))), (.lit (.int .i64 (0))), (.lit (.int .i64 (0))), (.lit (.int .i64 (0))), (.lit (.slice none 0 0)), (.lit (.slice none 0 0))]),
  .op (some 3) (.mv (.v (.lit (.int .i64 (0)))))])
 (.seq (.reg [.op (some 6) (.mv (.t 0)),
  .op (some 7) (.build [(.lit (.slice none 0 0)), (.lit (.int .i64 (0))), (.lit (.int .u64 (0)))] [((0, 1), (.t 6))]),
  .op (some 8) (.box 92 (.t 7)),
  .op (some 4) (.mv (.t 8))])
 (.seq (.reg [.op (some 9) (.mv (.t 4)),
  .op (some 10) (.bslice 3 1 8 [(.lit (.int .i64 (0)))] [(0, (.v (.lit (.int .i64 (0))))), (1, (.v (.lit (.int .i64 (1))))), (2, (.v (.lit (.int .i64 (2))))), (3, (.v (.lit (.int .i64 (4))))), (4, (.v (.lit (.int .i64 (6))))), (5, (.v (.lit (.int .i64 (-1))))), (6, (.v (.lit (.int .i64 (40))))), (7, (.v (.lit (.int .i64 (41)))))]),
  .op (some 11) (.call (.v (.lit (.func (.func 73) #[] #[]))) [(.t 9), (.t 10)]),
  .op (some 5) (.mv (.t 11))])
 (.seq (.reg [.op (some 12) (.mv (.t 4)),
  .op (some 13) (.call (.v (.lit (.func (.func 106) #[] #[]))) [(.t 12)]),
  .op (some 14) (.mv (.t 5)),
  .op none (.store 8 (.t 2) (.t 13)),
  .op (some 3) (.mv (.t 14))])
 .ret))))
def rs107 : List RR := [.cell 2 8 true, .tmp 3]
def cut107 : Nat → Nat := fun id => 0
theorem k107 : (Try.f107.body.bind fun c => comp Try.prog Try.f107.ntmps cut107 c) = some r107 := by kernel_rfl
theorem by107 {W0 : World} {σ : List Blk} {args : List AV} {K : Cont} (hn : args.length ≤ 15) (h : rW Try.prog W0 σ.length r107 (initFr args) σ (finP W0 rs107 σ.length K)) : ACall Try.prog W0 107 args σ K :=
  ACall.introR mixed Try.func107 (by kernel_rfl) k107 (by kernel_rfl) hn h
def r108 : RC := (.seq (.reg [.op (some 2) (.mv (.v (.lit (.slice none 0 0))))])
 (.seq (.seq (.reg [.op (some 3) (.mv (.t 0)),
  .op (some 4) (.nilS false (.t 3))])
 (.cond (.t 4)
 (.seq (.reg [.op (some 2) (.mv (.v (.lit (.slice none 0 0))))])
 .ret)
 .skip))
 (.seq (.reg [.op (some 5) (.bslice 137 1 0 [(.lit .nilFunc)] []),
  .op (some 6) (.mv (.t 0)),
  .op (some 7) (.append 127 137 1 8 (.t 5) (.t 6)),
  .op (some 2) (.mv (.t 7))])
 .ret)))
def rs108 : List RR := [.tmp 2]
def cut108 : Nat → Nat := fun id => 0
theorem k108 : (Try.f108.body.bind fun c => comp Try.prog Try.f108.ntmps cut108 c) = some r108 := by kernel_rfl
theorem by108 {W0 : World} {σ : List Blk} {args : List AV} {K : Cont} (hn : args.length ≤ 8) (h : rW Try.prog W0 σ.length r108 (initFr args) σ (finP W0 rs108 σ.length K)) : ACall Try.prog W0 108 args σ K :=
  ACall.introR mixed Try.func108 (by kernel_rfl) k108 (by kernel_rfl) hn h
def r109 : RC := (.seq (.reg [.op (some 6) (.mv (.v (.lit (.bool false))))])
 (.seq (.reg [.op (some 7) (.mv (.t 0)),
  .op (some 8) (.mv (.t 1)),
  .op (some 9) (.binI .geq (.t 7) (.t 8)),
  .op (some 10) (.mv (.t 9)),
  .grp 10 true [((some 11), (.mv (.t 0))), ((some 12), (.mv (.t 2))), ((some 13), (.binI .leq (.t 11) (.t 12)))],
  .op (some 14) (.pick (.t 10) (.t 13) (.v (.lit (.bool false)))),
  .op (some 6) (.mv (.t 14))])
 .ret))
def rs109 : List RR := [.tmp 6]
def cut109 : Nat → Nat := fun id => 0
theorem k109 : (Try.f109.body.bind fun c => comp Try.prog Try.f109.ntmps cut109 c) = some r109 := by kernel_rfl
theorem by109 {W0 : World} {σ : List Blk} {args : List AV} {K : Cont} (hn : args.length ≤ 15) (h : rW Try.prog W0 σ.length r109 (initFr args) σ (finP W0 rs109 σ.length K)) : ACall Try.prog W0 109 args σ K :=
  ACall.introR mixed Try.func109 (by kernel_rfl) k109 (by kernel_rfl) hn h
def r110 : RC := (.seq (.reg [.op (some 2) (.box 67 (.t 0)),
  .op (some 4) (.alloc 26 (List.replicate 6 (.lit (.int .i64 (0))))),
  .op (some 5) (.mv (.v (.lit (.bool false))))])
 (.seq (.reg [.op (some 9) (.load 8 true (.t 2)),
  .op (some 10) (.call (.v (.lit (.func (.func 95) #[] #[]))) [(.t 9)]),
  .op (some 8) (.mv (.t 10)),
  .op (some 11) (.ext (.t 8) 0),
  .op (some 12) (.ext (.t 8) 1),
  .op (some 6) (.mv (.t 11)),
  .op (some 7) (.mv (.t 12))])
 (.seq (.seq (.reg [.op (some 13) (.mv (.t 7)),
  .op (some 14) (.un .not (.t 13)),
  .op (some 15) (.mv (.t 14)),
  .grp 15 false [((some 16), (.mv (.t 1))), ((some 17), (.binI .lss (.t 16) (.v (.lit (.int .i64 (0))))))],
  .op (some 18) (.pick (.t 15) (.v (.lit (.bool true))) (.t 17)),
  .op (some 19) (.mv (.t 18)),
  .grp 19 false [((some 20), (.mv (.t 1))), ((some 21), (.faddr 7 (.t 2))), ((some 22), (.load 1 false (.t 21))), ((some 23), (.lenL (.t 22))), ((some 24), (.binI .gtr (.t 20) (.t 23)))],
  .op (some 25) (.pick (.t 19) (.v (.lit (.bool true))) (.t 24))])
 (.cond (.t 25)
 (.seq (.reg [.op (some 26) (.build (List.replicate 6 (.lit (.int .i64 (0)))) []),
  .op none (.store 6 (.t 4) (.t 26)),
  .op (some 5) (.mv (.v (.lit (.bool false))))])
 .ret)
 .skip))
 (.seq (.reg [.op (some 27) (.mv (.t 6)),
  .op (some 28) (.mv (.t 6)),
  .op (some 29) (.nilck (.t 28)),
  .op (some 30) (.faddr 0 (.t 29)),
  .op (some 31) (.load 1 false (.t 30)),
  .op (some 32) (.call (.v (.lit (.func (.func 99) #[] #[]))) [(.t 27), (.t 31)]),
  .op (some 33) (.mv (.t 1)),
  .op (some 34) (.iaddrS 1 (.t 32) (.t 33)),
  .op (some 35) (.load 1 false (.t 34)),
  .op (some 36) (.call (.v (.lit (.func (.func 76) #[] #[]))) [(.t 35)]),
  .op none (.store 6 (.t 4) (.t 36)),
  .op (some 5) (.mv (.v (.lit (.bool true))))])
 .ret))))
def rs110 : List RR := [.cell 4 6 true, .tmp 5]
def cut110 : Nat → Nat := fun id => 0
theorem k110 : (Try.f110.body.bind fun c => comp Try.prog Try.f110.ntmps cut110 c) = some r110 := by kernel_rfl
theorem by110 {W0 : World} {σ : List Blk} {args : List AV} {K : Cont} (hn : args.length ≤ 37) (h : rW Try.prog W0 σ.length r110 (initFr args) σ (finP W0 rs110 σ.length K)) : ACall Try.prog W0 110 args σ K :=
  ACall.introR mixed Try.func110 (by kernel_rfl) k110 (by kernel_rfl) hn h
def r111 : RC := (.seq (.reg [.op (some 4) (.mv (.v (.lit (.int .u64 (0)))))])
 (.seq (.reg [.op (some 5) (.mv (.t 0)),
  .op (some 6) (.mv (.t 1)),
  .op (some 7) (.binI .rem (.t 6) (.v (.lit (.int .i64 (6))))),
  .op (some 8) (.mv (.t 1)),
  .op (some 9) (.binI .quo (.t 8) (.v (.lit (.int .i64 (6))))),
  .op (some 10) (.call (.v (.lit (.func (.func 75) #[] #[]))) [(.t 5), (.t 7), (.t 9)]),
  .op (some 4) (.mv (.t 10))])
 .ret))
def rs111 : List RR := [.tmp 4]
def cut111 : Nat → Nat := fun id => 0
theorem k111 : (Try.f111.body.bind fun c => comp Try.prog Try.f111.ntmps cut111 c) = some r111 := by kernel_rfl
theorem by111 {W0 : World} {σ : List Blk} {args : List AV} {K : Cont} (hn : args.length ≤ 11) (h : rW Try.prog W0 σ.length r111 (initFr args) σ (finP W0 rs111 σ.length K)) : ACall Try.prog W0 111 args σ K :=
  ACall.introR mixed Try.func111 (by kernel_rfl) k111 (by kernel_rfl) hn h
def r112 : RC := (.seq (.reg [.op (some 2) (.mv (.v (.lit (.int .i64 (0)))))])
 (.seq (.reg [.op (some 3) (.mv (.v (.lit (.int .i64 (0)))))])
 (.seq (.seq (.draw [((some 4), (.mv (.t 0))), ((some 5), (.nilck (.t 4))), ((some 6), (.faddr 1 (.t 5))), ((some 7), (.load 1 false (.t 6))), ((some 8), (.mv (.t 0))), ((some 9), (.nilck (.t 8))), ((some 10), (.faddr 0 (.t 9))), ((some 11), (.load 1 false (.t 10))), ((some 12), (.lenL (.t 11))), ((some 13), (.binI .lss (.t 7) (.t 12)))] [])
 (.cond (.t 13)
 (.draw [((some 14), (.mv (.t 0))), ((some 15), (.nilck (.t 14))), ((some 16), (.faddr 0 (.t 15))), ((some 17), (.load 1 false (.t 16))), ((some 18), (.mv (.t 0))), ((some 19), (.nilck (.t 18))), ((some 20), (.faddr 1 (.t 19))), ((some 21), (.load 1 false (.t 20))), ((some 22), (.iaddrS 1 (.t 17) (.t 21))), ((some 23), (.load 1 false (.t 22))), ((some 24), (.conv .i64 (.t 23))), ((some 3), (.mv (.t 24)))] [])
 .skip))
 (.seq (.reg [.op (some 25) (.mv (.t 0)),
  .op (some 26) (.nilck (.t 25)),
  .op (some 27) (.faddr 1 (.t 26)),
  .op (some 28) (.load 1 false (.t 27)),
  .op (some 29) (.binI .add (.t 28) (.v (.lit (.int .i64 (1))))),
  .op (some 30) (.nilck (.t 25)),
  .op (some 31) (.faddr 1 (.t 30)),
  .op none (.store 1 (.t 31) (.t 29))])
 (.seq (.reg [.op (some 32) (.mv (.t 0)),
  .op (some 33) (.mv (.t 0)),
  .op (some 34) (.nilck (.t 33)),
  .op (some 35) (.faddr 2 (.t 34)),
  .op (some 36) (.load 1 false (.t 35)),
  .op (some 37) (.binI .mul (.t 36) (.v (.lit (.int .u64 (6364136223846793005))))),
  .op (some 38) (.mv (.t 3)),
  .op (some 39) (.conv .u64 (.t 38)),
  .op (some 40) (.binI .add (.t 37) (.t 39)),
  .op (some 41) (.binI .add (.t 40) (.v (.lit (.int .u64 (462197))))),
  .op (some 42) (.nilck (.t 32)),
  .op (some 43) (.faddr 2 (.t 42)),
  .op none (.store 1 (.t 43) (.t 41))])
 (.seq (.seq (.draw [((some 44), (.mv (.t 0))), ((some 45), (.nilck (.t 44))), ((some 46), (.faddr 1 (.t 45))), ((some 47), (.load 1 false (.t 46))), ((some 48), (.mv (.t 0))), ((some 49), (.nilck (.t 48))), ((some 50), (.faddr 0 (.t 49))), ((some 51), (.load 1 false (.t 50))), ((some 52), (.lenL (.t 51))), ((some 53), (.binI .leq (.t 47) (.t 52)))] [])
 (.cond (.t 53)
 (.seq (.reg [.op (some 54) (.mv (.t 3)),
  .op (some 2) (.mv (.t 54))])
 .ret)
 .skip))
 (.seq (.reg [.op (some 55) (.mv (.t 0)),
  .op (some 56) (.nilck (.t 55)),
  .op (some 57) (.faddr 2 (.t 56)),
  .op (some 58) (.load 1 false (.t 57)),
  .op (some 59) (.binI .shr (.t 58) (.v (.lit (.int .u64 (40))))),
  .op (some 60) (.binI .and (.t 59) (.v (.lit (.int .u64 (255))))),
  .op (some 61) (.conv .i64 (.t 60)),
  .op (some 2) (.mv (.t 61))])
 .ret)))))))
def rs112 : List RR := [.tmp 2]
def cut112 : Nat → Nat := fun id => if id = 2 then 21 else if id = 3 then 25 else if id = 6 then 21 else 0
theorem k112 : (Try.f112.body.bind fun c => comp Try.prog Try.f112.ntmps cut112 c) = some r112 := by kernel_rfl
theorem by112 {W0 : World} {σ : List Blk} {args : List AV} {K : Cont} (hn : args.length ≤ 62) (h : rW Try.prog W0 σ.length r112 (initFr args) σ (finP W0 rs112 σ.length K)) : ACall Try.prog W0 112 args σ K :=
  ACall.introR mixed Try.func112 (by kernel_rfl) k112 (by kernel_rfl) hn h
def r113 : RC := (.seq (.reg [.op (some 2) (.mv (.v (.lit (.int .i64 (0)))))])
 (.seq (.reg [.op (some 3) (.mv (.t 0)),
  .op (some 4) (.binI .rem (.t 3) (.v (.lit (.int .i64 (6))))),
  .op (some 5) (.binI .add (.t 4) (.v (.lit (.int .i64 (6))))),
  .op (some 6) (.binI .rem (.t 5) (.v (.lit (.int .i64 (6))))),
  .op (some 2) (.mv (.t 6))])
 .ret))
def rs113 : List RR := [.tmp 2]
def cut113 : Nat → Nat := fun id => 0
theorem k113 : (Try.f113.body.bind fun c => comp Try.prog Try.f113.ntmps cut113 c) = some r113 := by kernel_rfl
theorem by113 {W0 : World} {σ : List Blk} {args : List AV} {K : Cont} (hn : args.length ≤ 7) (h : rW Try.prog W0 σ.length r113 (initFr args) σ (finP W0 rs113 σ.length K)) : ACall Try.prog W0 113 args σ K :=
  ACall.introR mixed Try.func113 (by kernel_rfl) k113 (by kernel_rfl) hn h
def r114 : RC := (.seq (.reg [.op (some 4) (.mv (.v (.lit (.int .u64 (0)))))])
 (.seq (.reg [.op (some 5) (.mv (.v (.lit (.int .u64 (0)))))])
 (.seq (.seq (.reg [.op (some 9) (.mv (.v (.lit (.int .i64 (0)))))])
 (.block 0 (.loop (.seq (.reg [.op (some 10) (.binI .lss (.t 9) (.v (.lit (.int .i64 (36)))))])
 (.seq (.cond (.t 10)
 .skip
 (.exit 0))
 (.seq (.block 1 (.seq (.reg [.op (some 11) (.mv (.t 9)),
  .op (some 6) (.mv (.t 11))])
 (.seq (.reg [.op (some 12) (.mv (.t 0)),
  .op (some 13) (.mv (.t 6)),
  .op (some 14) (.call (.v (.lit (.func (.func 84) #[] #[]))) [(.t 12), (.t 13)])])
 (.cond (.t 14)
 (.seq (.reg [.op (some 16) (.mv (.t 1)),
  .op (some 17) (.mv (.t 6)),
  .op (some 18) (.binI .rem (.t 17) (.v (.lit (.int .i64 (6))))),
  .op (some 19) (.mv (.t 6)),
  .op (some 20) (.binI .quo (.t 19) (.v (.lit (.int .i64 (6))))),
  .op (some 21) (.call (.t 16) [(.t 18), (.t 20)]),
  .op (some 15) (.mv (.t 21)),
  .op (some 22) (.ext (.t 15) 0),
  .op (some 23) (.ext (.t 15) 1),
  .op (some 7) (.mv (.t 22)),
  .op (some 8) (.mv (.t 23))])
 (.reg [.op (some 24) (.mv (.t 5)),
  .op (some 25) (.mv (.t 8)),
  .op (some 26) (.binI .mul (.t 25) (.v (.lit (.int .i64 (6))))),
  .op (some 27) (.mv (.t 7)),
  .op (some 28) (.binI .add (.t 26) (.t 27)),
  .op (some 29) (.binI .shl (.v (.lit (.int .u64 (1)))) (.t 28)),
  .op (some 30) (.binI .or (.t 24) (.t 29)),
  .op (some 5) (.mv (.t 30))]))
 .skip))))
 (.reg [.op (some 31) (.binI .add (.t 9) (.v (.lit (.int .i64 (1))))),
  .op (some 9) (.mv (.t 31))])))))))
 (.seq (.reg [.op (some 32) (.mv (.t 5)),
  .op (some 4) (.mv (.t 32))])
 .ret))))
def rs114 : List RR := [.tmp 4]
def cut114 : Nat → Nat := fun id => 0
theorem k114 : (Try.f114.body.bind fun c => comp Try.prog Try.f114.ntmps cut114 c) = some r114 := by kernel_rfl
theorem by114 {W0 : World} {σ : List Blk} {args : List AV} {K : Cont} (hn : args.length ≤ 33) (h : rW Try.prog W0 σ.length r114 (initFr args) σ (finP W0 rs114 σ.length K)) : ACall Try.prog W0 114 args σ K :=
  ACall.introR mixed Try.func114 (by kernel_rfl) k114 (by kernel_rfl) hn h
def r115 : RC := (.seq (.reg [.op (some 6) (.mv (.v (.lit (.int .i64 (0))))),
  .op (some 7) (.mv (.v (.lit (.int .i64 (0)))))])
 (.seq (.draw [((some 8), (.mv (.t 0))), ((some 9), (.load 1 false (.t 2))), ((some 10), (.binI .add (.t 8) (.t 9))), ((some 11), (.binI .rem (.t 10) (.v (.lit (.int .i64 (6)))))), ((some 12), (.mv (.t 1))), ((some 13), (.load 1 false (.t 3))), ((some 14), (.binI .add (.t 12) (.t 13))), ((some 15), (.binI .rem (.t 14) (.v (.lit (.int .i64 (6)))))), ((some 6), (.mv (.t 11))), ((some 7), (.mv (.t 15)))] [])
 .ret))
def rs115 : List RR := [.tmp 6, .tmp 7]
def cut115 : Nat → Nat := fun id => if id = 1 then 21 else 0
theorem k115 : (Try.f115.body.bind fun c => comp Try.prog Try.f115.ntmps cut115 c) = some r115 := by kernel_rfl
theorem by115 {W0 : World} {σ : List Blk} {args : List AV} {K : Cont} (hn : args.length ≤ 16) (h : rW Try.prog W0 σ.length r115 (initFr args) σ (finP W0 rs115 σ.length K)) : ACall Try.prog W0 115 args σ K :=
  ACall.introR mixed Try.func115 (by kernel_rfl) k115 (by kernel_rfl) hn h
def r116 : RC := (.seq (.reg [.op (some 2) (.mv (.v (.lit (.int .i64 (0)))))])
 (.seq (.reg [.op (some 3) (.mv (.t 0)),
  .op (some 4) (.binI .rem (.t 3) (.v (.lit (.int .i64 (6))))),
  .op (some 5) (.binI .add (.t 4) (.v (.lit (.int .i64 (6))))),
  .op (some 6) (.binI .rem (.t 5) (.v (.lit (.int .i64 (6))))),
  .op (some 2) (.mv (.t 6))])
 .ret))
def rs116 : List RR := [.tmp 2]
def cut116 : Nat → Nat := fun id => 0
theorem k116 : (Try.f116.body.bind fun c => comp Try.prog Try.f116.ntmps cut116 c) = some r116 := by kernel_rfl
theorem by116 {W0 : World} {σ : List Blk} {args : List AV} {K : Cont} (hn : args.length ≤ 7) (h : rW Try.prog W0 σ.length r116 (initFr args) σ (finP W0 rs116 σ.length K)) : ACall Try.prog W0 116 args σ K :=
  ACall.introR mixed Try.func116 (by kernel_rfl) k116 (by kernel_rfl) hn h
def r120 : RC := (.seq (.reg [.op (some 2) (.box 87 (.t 0)),
  .op (some 4) (.mv (.v (.lit (.bool false))))])
 (.seq (.reg [.op (some 5) (.faddr 0 (.t 2)),
  .op (some 6) (.load 1 false (.t 5)),
  .op (some 7) (.binI .geq (.t 6) (.v (.lit (.int .i64 (1))))),
  .op (some 8) (.mv (.t 7)),
  .grp 8 true [((some 9), (.faddr 0 (.t 2))), ((some 10), (.load 1 false (.t 9))), ((some 11), (.binI .leq (.t 10) (.v (.lit (.int .i64 (3))))))],
  .op (some 12) (.pick (.t 8) (.t 11) (.v (.lit (.bool false)))),
  .op (some 13) (.mv (.t 12)),
  .grp 13 true [((some 14), (.faddr 1 (.t 2))), ((some 15), (.load 1 false (.t 14))), ((some 16), (.binI .geq (.t 15) (.v (.lit (.int .i64 (0))))))],
  .op (some 17) (.pick (.t 13) (.t 16) (.v (.lit (.bool false)))),
  .op (some 18) (.mv (.t 17)),
  .grp 18 true [((some 19), (.faddr 1 (.t 2))), ((some 20), (.load 1 false (.t 19))), ((some 21), (.mv (.t 1))), ((some 22), (.binI .lss (.t 20) (.t 21)))],
  .op (some 23) (.pick (.t 18) (.t 22) (.v (.lit (.bool false)))),
  .op (some 24) (.mv (.t 23)),
  .grp 24 true [((some 25), (.faddr 2 (.t 2))), ((some 26), (.load 2 true (.t 25))), ((some 27), (.call (.v (.lit (.func (.func 80) #[] #[]))) [(.t 26)]))],
  .op (some 28) (.pick (.t 24) (.t 27) (.v (.lit (.bool false)))),
  .op (some 4) (.mv (.t 28))])
 .ret))
def rs120 : List RR := [.tmp 4]
def cut120 : Nat → Nat := fun id => 0
theorem k120 : (Try.f120.body.bind fun c => comp Try.prog Try.f120.ntmps cut120 c) = some r120 := by kernel_rfl
theorem by120 {W0 : World} {σ : List Blk} {args : List AV} {K : Cont} (hn : args.length ≤ 29) (h : rW Try.prog W0 σ.length r120 (initFr args) σ (finP W0 rs120 σ.length K)) : ACall Try.prog W0 120 args σ K :=
  ACall.introR mixed Try.func120 (by kernel_rfl) k120 (by kernel_rfl) hn h
def r121 : RC := (.seq (.reg [.op (some 4) (.mv (.v (.lit (.int .u64 (0)))))])
 (.seq (.reg [.op (some 5) (.load 1 false (.t 1)),
  .op (some 6) (.mv (.t 0)),
  .op (some 7) (.load 1 false (.t 2)),
  .op (some 8) (.call (.t 5) [(.t 6), (.t 7)]),
  .op (some 4) (.mv (.t 8))])
 .ret))
def rs121 : List RR := [.tmp 4]
def cut121 : Nat → Nat := fun id => 0
theorem k121 : (Try.f121.body.bind fun c => comp Try.prog Try.f121.ntmps cut121 c) = some r121 := by kernel_rfl
theorem by121 {W0 : World} {σ : List Blk} {args : List AV} {K : Cont} (hn : args.length ≤ 9) (h : rW Try.prog W0 σ.length r121 (initFr args) σ (finP W0 rs121 σ.length K)) : ACall Try.prog W0 121 args σ K :=
  ACall.introR mixed Try.func121 (by kernel_rfl) k121 (by kernel_rfl) hn h
def r122 : RC := (.seq (.reg [.op (some 4) (.mv (.v (.lit (.int .u64 (0)))))])
 (.seq (.any true (.n ⟨none, (some 5), (.mv (.t 0))⟩
 (.n ⟨none, (some 6), (.mv (.t 1))⟩
 (.n ⟨none, (some 8), (.mv (.t 0))⟩
 (.h ⟨none, (some 9), (.nilck (.t 8))⟩
 (.h ⟨none, (some 10), (.faddr 1 (.t 9))⟩
 (.h ⟨none, (some 11), (.load 1 false (.t 10))⟩
 (.h ⟨none, (some 12), (.lenL (.t 11))⟩
 (.t ⟨none, (some 7), (.call (.v (.lit (.func (.func 99) #[] #[]))) [(.t 5), (.t 6)])⟩
 (.n ⟨none, (some 13), (.iaddrS 1 (.t 7) (.t 12))⟩
 (.n ⟨none, (some 14), (.load 1 false (.t 13))⟩
 (.n ⟨none, (some 4), (.mv (.t 14))⟩
 .fin))))))))))))
 .ret))
def rs122 : List RR := [.tmp 4]
def cut122 : Nat → Nat := fun id => if id = 1 then 1000009 else 0
theorem k122 : (Try.f122.body.bind fun c => comp Try.prog Try.f122.ntmps cut122 c) = some r122 := by kernel_rfl
theorem by122 {W0 : World} {σ : List Blk} {args : List AV} {K : Cont} (hn : args.length ≤ 15) (h : rW Try.prog W0 σ.length r122 (initFr args) σ (finP W0 rs122 σ.length K)) : ACall Try.prog W0 122 args σ K :=
  ACall.introR mixed Try.func122 (by kernel_rfl) k122 (by kernel_rfl) hn h
def r123 : RC := (.seq (.reg [.op (some 2) (.box 87 (.t 0)),
  .op (some 4) (.mv (.v (.lit (.bool false))))])
 (.seq (.reg [.op (some 5) (.faddr 0 (.t 2)),
  .op (some 6) (.load 1 false (.t 5)),
  .op (some 7) (.call (.v (.lit (.func (.func 109) #[] #[]))) [(.t 6), (.v (.lit (.int .i64 (1)))), (.v (.lit (.int .i64 (3))))]),
  .op (some 8) (.mv (.t 7)),
  .grp 8 true [((some 9), (.faddr 1 (.t 2))), ((some 10), (.load 1 false (.t 9))), ((some 11), (.mv (.t 1))), ((some 12), (.binI .sub (.t 11) (.v (.lit (.int .i64 (1)))))), ((some 13), (.call (.v (.lit (.func (.func 109) #[] #[]))) [(.t 10), (.v (.lit (.int .i64 (0)))), (.t 12)]))],
  .op (some 14) (.pick (.t 8) (.t 13) (.v (.lit (.bool false)))),
  .op (some 15) (.mv (.t 14)),
  .grp 15 true [((some 16), (.faddr 2 (.t 2))), ((some 17), (.load 2 true (.t 16))), ((some 18), (.call (.v (.lit (.func (.func 82) #[] #[]))) [(.t 17)]))],
  .op (some 19) (.pick (.t 15) (.t 18) (.v (.lit (.bool false)))),
  .op (some 4) (.mv (.t 19))])
 .ret))
def rs123 : List RR := [.tmp 4]
def cut123 : Nat → Nat := fun id => 0
theorem k123 : (Try.f123.body.bind fun c => comp Try.prog Try.f123.ntmps cut123 c) = some r123 := by kernel_rfl
theorem by123 {W0 : World} {σ : List Blk} {args : List AV} {K : Cont} (hn : args.length ≤ 20) (h : rW Try.prog W0 σ.length r123 (initFr args) σ (finP W0 rs123 σ.length K)) : ACall Try.prog W0 123 args σ K :=
  ACall.introR mixed Try.func123 (by kernel_rfl) k123 (by kernel_rfl) hn h
def r124 : RC := (.seq (.reg [.op (some 3) (.box 67 (.t 0)),
  .op (some 4) (.box 26 (.t 1)),
  .op (some 6) (.alloc 26 (List.replicate 6 (.lit (.int .i64 (0)))))])
 (.seq (.seq (.reg [.op (some 7) (.mv (.v (.lit (.int .i64 (0)))))])
 (.block 0 (.loop (.seq (.seq (.reg [.op (some 8) (.mv (.t 7)),
  .op (some 9) (.mv (.t 2)),
  .op (some 10) (.binI .lss (.t 8) (.t 9))])
 (.cond (.t 10)
 .skip
 (.exit 0)))
 (.seq (.block 1 (.draw [((some 13), (.load 6 true (.t 4))), ((some 14), (.faddr 6 (.t 3))), ((some 15), (.load 1 false (.t 14))), ((some 16), (.faddr 7 (.t 3))), ((some 17), (.load 1 false (.t 16))), ((some 18), (.mv (.t 7))), ((some 19), (.iaddrS 4 (.t 17) (.t 18))), ((some 20), (.load 4 true (.t 19))), ((some 21), (.call (.v (.lit (.func (.func 125) #[] #[]))) [(.t 13), (.t 15), (.t 20)]))] [(none, (.store 6 (.t 4) (.t 21)))]))
 (.reg [.op (some 11) (.mv (.t 7)),
  .op (some 12) (.binI .add (.t 11) (.v (.lit (.int .i64 (1))))),
  .op (some 7) (.mv (.t 12))]))))))
 (.seq (.reg [.op (some 22) (.load 6 true (.t 4)),
  .op none (.store 6 (.t 6) (.t 22))])
 .ret)))
def rs124 : List RR := [.cell 6 6 true]
def cut124 : Nat → Nat := fun id => if id = 4 then 19 else 0
theorem k124 : (Try.f124.body.bind fun c => comp Try.prog Try.f124.ntmps cut124 c) = some r124 := by kernel_rfl
theorem by124 {W0 : World} {σ : List Blk} {args : List AV} {K : Cont} (hn : args.length ≤ 23) (h : rW Try.prog W0 σ.length r124 (initFr args) σ (finP W0 rs124 σ.length K)) : ACall Try.prog W0 124 args σ K :=
  ACall.introR mixed Try.func124 (by kernel_rfl) k124 (by kernel_rfl) hn h
def r125 : RC := (.seq (.reg [.op (some 3) (.box 26 (.t 0)),
  .op (some 5) (.box 87 (.t 2)),
  .op (some 6) (.alloc 26 (List.replicate 6 (.lit (.int .i64 (0)))))])
 (.seq (.draw [((some 8), (.mv (.t 1))), ((some 9), (.faddr 1 (.t 5))), ((some 10), (.load 1 false (.t 9))), ((some 11), (.iaddrS 6 (.t 8) (.t 10))), ((some 12), (.load 6 true (.t 11))), ((some 13), (.faddr 2 (.t 5))), ((some 14), (.load 2 true (.t 13))), ((some 15), (.call (.v (.lit (.func (.func 65) #[] #[]))) [(.t 12), (.t 14)]))] [((some 7), (.alloc 26 (List.replicate 6 (.lit (.int .i64 (0)))))), (none, (.store 6 (.t 7) (.t 15)))])
 (.seq (.seq (.reg [.op (some 16) (.faddr 0 (.t 5)),
  .op (some 17) (.load 1 false (.t 16))])
 (.block 0 (.seq (.reg [.op (some 19) (.binI .eql (.t 17) (.v (.lit (.int .i64 (1))))),
  .op (some 18) (.mv (.t 19))])
 (.cond (.t 18)
 (.seq (.reg [.op (some 20) (.load 6 true (.t 3)),
  .op (some 21) (.load 6 true (.t 7)),
  .op (some 22) (.call (.v (.lit (.func (.func 64) #[] #[]))) [(.t 20), (.t 21)]),
  .op none (.store 6 (.t 6) (.t 22))])
 .ret)
 (.seq (.reg [.op (some 24) (.binI .eql (.t 17) (.v (.lit (.int .i64 (2))))),
  .op (some 23) (.mv (.t 24))])
 (.cond (.t 23)
 (.seq (.reg [.op (some 25) (.load 6 true (.t 3)),
  .op (some 26) (.load 6 true (.t 7)),
  .op (some 27) (.call (.v (.lit (.func (.func 67) #[] #[]))) [(.t 25), (.t 26)]),
  .op none (.store 6 (.t 6) (.t 27))])
 .ret)
 .skip))))))
 (.seq (.draw [((some 28), (.load 6 true (.t 3))), ((some 29), (.load 6 true (.t 7))), ((some 30), (.call (.v (.lit (.func (.func 70) #[] #[]))) [(.t 29)])), ((some 31), (.call (.v (.lit (.func (.func 69) #[] #[]))) [(.t 28), (.t 30)]))] [(none, (.store 6 (.t 6) (.t 31)))])
 .ret))))
def rs125 : List RR := [.cell 6 6 true]
def cut125 : Nat → Nat := fun id => if id = 1 then 17 else if id = 7 then 9 else 0
theorem k125 : (Try.f125.body.bind fun c => comp Try.prog Try.f125.ntmps cut125 c) = some r125 := by kernel_rfl
theorem by125 {W0 : World} {σ : List Blk} {args : List AV} {K : Cont} (hn : args.length ≤ 32) (h : rW Try.prog W0 σ.length r125 (initFr args) σ (finP W0 rs125 σ.length K)) : ACall Try.prog W0 125 args σ K :=
  ACall.introR mixed Try.func125 (by kernel_rfl) k125 (by kernel_rfl) hn h
def r126 : RC := (.seq (.reg [.op (some 4) (.mv (.v (.lit (.int .i64 (0)))))])
 (.seq (.seq (.reg [.op (some 6) (.mv (.t 0)),
  .op (some 7) (.lenL (.t 6)),
  .op (some 8) (.mv (.v (.lit (.int .i64 (0)))))])
 (.block 0 (.loop (.seq (.reg [.op (some 9) (.binI .lss (.t 8) (.t 7))])
 (.seq (.cond (.t 9)
 .skip
 (.exit 0))
 (.seq (.block 1 (.seq (.reg [.op (some 10) (.mv (.t 8)),
  .op (some 5) (.mv (.t 10))])
 (.seq (.reg [.op (some 11) (.mv (.t 1)),
  .op (some 12) (.mv (.t 0)),
  .op (some 13) (.mv (.t 5)),
  .op (some 14) (.iaddrS 1 (.t 12) (.t 13)),
  .op (some 15) (.load 1 false (.t 14)),
  .op (some 16) (.binI .eql (.t 11) (.t 15))])
 (.cond (.t 16)
 (.seq (.reg [.op (some 17) (.mv (.t 5)),
  .op (some 4) (.mv (.t 17))])
 .ret)
 .skip))))
 (.reg [.op (some 18) (.binI .add (.t 8) (.v (.lit (.int .i64 (1))))),
  .op (some 8) (.mv (.t 18))])))))))
 (.seq (.reg [.op (some 4) (.mv (.v (.lit (.int .i64 (-1)))))])
 .ret)))
def rs126 : List RR := [.tmp 4]
def cut126 : Nat → Nat := fun id => 0
theorem k126 : (Try.f126.body.bind fun c => comp Try.prog Try.f126.ntmps cut126 c) = some r126 := by kernel_rfl
theorem by126 {W0 : World} {σ : List Blk} {args : List AV} {K : Cont} (hn : args.length ≤ 19) (h : rW Try.prog W0 σ.length r126 (initFr args) σ (finP W0 rs126 σ.length K)) : ACall Try.prog W0 126 args σ K :=
  ACall.introR mixed Try.func126 (by kernel_rfl) k126 (by kernel_rfl) hn h
def r127 : RC := (.seq (.reg [.op (some 2) (.mv (.v (.lit (.slice none 0 0))))])
 (.seq (.seq (.reg [.op (some 3) (.mv (.t 0)),
  .op (some 4) (.nilS false (.t 3))])
 (.cond (.t 4)
 (.seq (.reg [.op (some 2) (.mv (.v (.lit (.slice none 0 0))))])
 .ret)
 .skip))
 (.seq (.reg [.op (some 5) (.bslice 26 6 0 (List.replicate 6 (.lit (.int .i64 (0)))) []),
  .op (some 6) (.mv (.t 0)),
  .op (some 7) (.append 64 26 6 48 (.t 5) (.t 6)),
  .op (some 2) (.mv (.t 7))])
 .ret)))
def rs127 : List RR := [.tmp 2]
def cut127 : Nat → Nat := fun id => 0
theorem k127 : (Try.f127.body.bind fun c => comp Try.prog Try.f127.ntmps cut127 c) = some r127 := by kernel_rfl
theorem by127 {W0 : World} {σ : List Blk} {args : List AV} {K : Cont} (hn : args.length ≤ 8) (h : rW Try.prog W0 σ.length r127 (initFr args) σ (finP W0 rs127 σ.length K)) : ACall Try.prog W0 127 args σ K :=
  ACall.introR mixed Try.func127 (by kernel_rfl) k127 (by kernel_rfl) hn h
def r128 : RC := (.seq (.reg [.op (some 2) (.mv (.v (.lit (.slice none 0 0))))])
 (.seq (.seq (.reg [.op (some 3) (.mv (.t 0)),
  .op (some 4) (.nilS false (.t 3))])
 (.cond (.t 4)
 (.seq (.reg [.op (some 2) (.mv (.v (.lit (.slice none 0 0))))])
 .ret)
 .skip))
 (.seq (.reg [.op (some 5) (.bslice 87 4 0 (List.replicate 4 (.lit (.int .i64 (0)))) []),
  .op (some 6) (.mv (.t 0)),
  .op (some 7) (.append 65 87 4 32 (.t 5) (.t 6)),
  .op (some 2) (.mv (.t 7))])
 .ret)))
def rs128 : List RR := [.tmp 2]
def cut128 : Nat → Nat := fun id => 0
theorem k128 : (Try.f128.body.bind fun c => comp Try.prog Try.f128.ntmps cut128 c) = some r128 := by kernel_rfl
theorem by128 {W0 : World} {σ : List Blk} {args : List AV} {K : Cont} (hn : args.length ≤ 8) (h : rW Try.prog W0 σ.length r128 (initFr args) σ (finP W0 rs128 σ.length K)) : ACall Try.prog W0 128 args σ K :=
  ACall.introR mixed Try.func128 (by kernel_rfl) k128 (by kernel_rfl) hn h
def r129 : RC := (.seq (.reg [.op (some 4) (.alloc 87 (List.replicate 4 (.lit (.int .i64 (0)))))])
 (.seq (.reg [.op (some 6) (.mv (.t 0)),
  .op (some 7) (.call (.v (.lit (.func (.func 71) #[] #[]))) [(.t 6), (.v (.lit (.int .i64 (3))))]),
  .op (some 8) (.binI .add (.v (.lit (.int .i64 (1)))) (.t 7)),
  .op (some 9) (.mv (.t 0)),
  .op (some 10) (.mv (.t 1)),
  .op (some 11) (.call (.v (.lit (.func (.func 134) #[] #[]))) [(.t 10), (.v (.lit (.int .i64 (1))))]),
  .op (some 12) (.call (.v (.lit (.func (.func 71) #[] #[]))) [(.t 9), (.t 11)]),
  .op (some 13) (.mv (.t 0)),
  .op (some 14) (.call (.v (.lit (.func (.func 71) #[] #[]))) [(.t 13), (.v (.lit (.int .i64 (6))))]),
  .op (some 15) (.mv (.t 0)),
  .op (some 16) (.call (.v (.lit (.func (.func 71) #[] #[]))) [(.t 15), (.v (.lit (.int .i64 (6))))]),
  .op (some 17) (.build [(.lit (.int .i64 (0))), (.lit (.int .i64 (0)))] [((0, 1), (.t 14)), ((1, 1), (.t 16))]),
  .op (some 18) (.build (List.replicate 4 (.lit (.int .i64 (0)))) [((0, 1), (.t 8)), ((1, 1), (.t 12)), ((2, 2), (.t 17))]),
  .op (some 5) (.alloc 87 (List.replicate 4 (.lit (.int .i64 (0))))),
  .op none (.store 4 (.t 5) (.t 18))])
 (.seq (.seq (.reg [.op (some 19) (.mv (.t 0)),
  .op (some 20) (.call (.v (.lit (.func (.func 71) #[] #[]))) [(.t 19), (.v (.lit (.int .i64 (60))))])])
 (.block 0 (.seq (.reg [.op (some 22) (.binI .eql (.t 20) (.v (.lit (.int .i64 (0))))),
  .op (some 21) (.mv (.t 22))])
 (.cond (.t 21)
 (.reg [.op (some 23) (.mv (.t 0)),
  .op (some 24) (.bslice 3 1 3 [(.lit (.int .i64 (0)))] [(0, (.v (.lit (.int .i64 (0))))), (1, (.v (.lit (.int .i64 (4))))), (2, (.v (.lit (.int .i64 (-1)))))]),
  .op (some 25) (.call (.v (.lit (.func (.func 73) #[] #[]))) [(.t 23), (.t 24)]),
  .op (some 26) (.faddr 0 (.t 5)),
  .op none (.store 1 (.t 26) (.t 25))])
 (.seq (.reg [.op (some 28) (.binI .eql (.t 20) (.v (.lit (.int .i64 (1))))),
  .op (some 27) (.mv (.t 28))])
 (.cond (.t 27)
 (.reg [.op (some 29) (.mv (.t 0)),
  .op (some 30) (.bslice 3 1 3 [(.lit (.int .i64 (0)))] [(0, (.v (.lit (.int .i64 (-1))))), (1, (.v (.lit (.int .i64 (4))))), (2, (.v (.lit (.int .i64 (3)))))]),
  .op (some 31) (.call (.v (.lit (.func (.func 73) #[] #[]))) [(.t 29), (.t 30)]),
  .op (some 32) (.faddr 1 (.t 5)),
  .op none (.store 1 (.t 32) (.t 31))])
 (.seq (.reg [.op (some 34) (.binI .eql (.t 20) (.v (.lit (.int .i64 (2))))),
  .op (some 33) (.mv (.t 34))])
 (.cond (.t 33)
 (.reg [.op (some 35) (.mv (.t 0)),
  .op (some 36) (.call (.v (.lit (.func (.func 58) #[] #[]))) [(.t 35)]),
  .op (some 37) (.faddr 2 (.t 5)),
  .op none (.store 2 (.t 37) (.t 36))])
 .skip))))))))
 (.seq (.reg [.op (some 38) (.load 4 true (.t 5)),
  .op none (.store 4 (.t 4) (.t 38))])
 .ret))))
def rs129 : List RR := [.cell 4 4 true]
def cut129 : Nat → Nat := fun id => 0
theorem k129 : (Try.f129.body.bind fun c => comp Try.prog Try.f129.ntmps cut129 c) = some r129 := by kernel_rfl
theorem by129 {W0 : World} {σ : List Blk} {args : List AV} {K : Cont} (hn : args.length ≤ 39) (h : rW Try.prog W0 σ.length r129 (initFr args) σ (finP W0 rs129 σ.length K)) : ACall Try.prog W0 129 args σ K :=
  ACall.introR mixed Try.func129 (by kernel_rfl) k129 (by kernel_rfl) hn h
def r134 : RC := (.seq (.reg [.op (some 4) (.mv (.v (.lit (.int .i64 (0)))))])
 (.seq (.seq (.reg [.op (some 5) (.mv (.t 0)),
  .op (some 6) (.mv (.t 1)),
  .op (some 7) (.binI .gtr (.t 5) (.t 6))])
 (.cond (.t 7)
 (.seq (.reg [.op (some 8) (.mv (.t 0)),
  .op (some 4) (.mv (.t 8))])
 .ret)
 .skip))
 (.seq (.reg [.op (some 9) (.mv (.t 1)),
  .op (some 4) (.mv (.t 9))])
 .ret)))
def rs134 : List RR := [.tmp 4]
def cut134 : Nat → Nat := fun id => 0
theorem k134 : (Try.f134.body.bind fun c => comp Try.prog Try.f134.ntmps cut134 c) = some r134 := by kernel_rfl
theorem by134 {W0 : World} {σ : List Blk} {args : List AV} {K : Cont} (hn : args.length ≤ 10) (h : rW Try.prog W0 σ.length r134 (initFr args) σ (finP W0 rs134 σ.length K)) : ACall Try.prog W0 134 args σ K :=
  ACall.introR mixed Try.func134 (by kernel_rfl) k134 (by kernel_rfl) hn h
end Go.Proofs.Ytkcbhdjhbnnlgaa
end
