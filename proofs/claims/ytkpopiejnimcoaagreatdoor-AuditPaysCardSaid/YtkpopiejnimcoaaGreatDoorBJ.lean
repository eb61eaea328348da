import Derived.Test.YtkpopiejnimcoaaGreatDoorBF
set_option linter.all false
set_option maxRecDepth 100000
set_option maxHeartbeats 4000000
namespace Go.aW.Cd
open Go Go.Proofs
def z159:=bN Tryz.func159 true false
def aAq:=bN Tryz.func158 true false
def aAr:=bN Tryz.func150 true false
def aAs:=bN Tryz.func149 true false
def aAt:=bN Tryz.func147 true true
def z143:=bN Tryz.func143 true false
def z139:=bN Tryz.func139 true false
def aAx:=bN Tryz.func137 true false
def aAB:=bN Tryz.func126 false false
def z119:=bN Tryz.func119 true false
def aAJ:=bN Tryz.func111 true true
def aAK:=bN Tryz.func110 true false
def aAL:=bN Tryz.func108 true false
def aAN:=bN Tryz.func104 true false
def aAP:=bN Tryz.func102 true false
def z95:=bN Tryz.func95 true false
def z86:=bN Tryz.func86 true false
def z85:=bN Tryz.func85 true true
def z84:=bN Tryz.func84 true true
def z83:=bN Tryz.func83 true false
def z82:=bN Tryz.func82 true true
def z77:=bN Tryz.func77 true false
def z76:=bN Tryz.func76 true false
def z67:=bN Tryz.func67 true false
def z64:=bN Tryz.func64 true false
def z60:=bN Tryz.func60 true false
def z59:=bN Tryz.func59 true false
def z56:=bN Tryz.func56 false false
def z53:=bN Tryz.func53 true false
def z52:=bN Tryz.func52 false false
def z51:=bN Tryz.func51 true false
def z33:=bN Tryz.func33 false false
def z29:=bN Tryz.func29 true false
def z28:=bN Tryz.func28 true false
def z27:=bN Tryz.func27 true false
def z26:=bN Tryz.func26 true false
def z25:=bN Tryz.func25 true false
def z24:=bN Tryz.func24 true false
def z23:=bN Tryz.func23 true false
def z21:=bN Tryz.func21 true false
def z19:=bN Tryz.func19 true false
def z17:=bN Tryz.func17 true false
def z14:=bN Tryz.func14 true false
def z11:=bN Tryz.func11 true false
end Go.aW.Cd
