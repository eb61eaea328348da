import Derived.Test.YtkpopiejnimcoaaGreatDoorBF
set_option linter.all false
set_option maxRecDepth 100000
set_option maxHeartbeats 4000000
namespace Go.aW.Cd
open Go Go.Proofs
def axS:=bN Tryz.func299 true true
def z32:=bN Tryz.func32 true false
def azH:=bN Tryz.func235 true false
def ayO:=bN Tryz.func268 true false
def axT:=bN Tryz.func298 true false
def ayI:=bN Tryz.func277 true false
def ayM:=bN Tryz.func270 true false
def z222:=bN Tryz.func222 true false
def azL:=bN Tryz.func224 true false
def ayH:=bN Tryz.func278 true false
def ayR:=bN Tryz.func260 true false
def z236:=bN Tryz.func236 true false
def axQ:=bN Tryz.func301 true false
def axK:=bN Tryz.func309 true false
def ayG:=bN Tryz.func279 true false
def ayL:=bN Tryz.func271 true false
def z218:=bN Tryz.func218 true false
def ayA:=bN Tryz.func285 true false
def z171:=bN Tryz.func171 true false
def axH:=bN Tryz.func316 true false
def axU:=bN Tryz.func297 true false
def z62:=bN Tryz.func62 true false
def z203:=bN Tryz.func203 true false
def z164:=bN Tryz.func164 true false
def ayV:=bN Tryz.func256 true false
def azO:=bN Tryz.func220 true false
def aAb:=bN Tryz.func190 true false
def aAc:=bN Tryz.func189 true false
def z173:=bN Tryz.func173 true false
def aAm:=bN Tryz.func166 true false
def z141:=bN Tryz.func141 true false
def axV:=bN Tryz.func296 true false
def z234:=bN Tryz.func234 true false
def ayY:=bN Tryz.func253 true false
def aAO:=bN Tryz.func103 true false
def axN:=bN Tryz.func304 true false
def ayJ:=bN Tryz.func276 true false
def aAu:=bN Tryz.func144 true false
def axO:=bN Tryz.func303 true false
def axW:=bN Tryz.func295 true false
def ayD:=bN Tryz.func282 true false
def z201:=bN Tryz.func201 true false
def z148:=bN Tryz.func148 true false
def axR:=bN Tryz.func300 true false
end Go.aW.Cd
