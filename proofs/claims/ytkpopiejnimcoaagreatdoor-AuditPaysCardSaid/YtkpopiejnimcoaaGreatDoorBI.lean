import Derived.Test.YtkpopiejnimcoaaGreatDoorBF
set_option linter.all false
set_option maxRecDepth 100000
set_option maxHeartbeats 4000000
namespace Go.aW.Cd
open Go Go.Proofs
def azK:=bN Tryz.func225 true false
def azQ:=bN Tryz.func217 true false
def z206:=bN Tryz.func206 true false
def z175:=bN Tryz.func175 true false
def aAk:=bN Tryz.func170 true false
def z152:=bN Tryz.func152 true false
def aAv:=bN Tryz.func142 true false
def aAH:=bN Tryz.func114 true false
def z99:=bN Tryz.func99 true false
def z70:=bN Tryz.func70 true false
def z61:=bN Tryz.func61 true false
def z55:=bN Tryz.func55 true true
def z43:=bN Tryz.func43 true false
def z40:=bN Tryz.func40 true false
def z157:=bN Tryz.func157 true false
def aAC:=bN Tryz.func125 true false
def z105:=bN Tryz.func105 true false
def z58:=bN Tryz.func58 true false
def z57:=bN Tryz.func57 true false
def z50:=bN Tryz.func50 true false
def z39:=bN Tryz.func39 true false
def z38:=bN Tryz.func38 true false
def z22:=bN Tryz.func22 true false
def ayK:=bN Tryz.func272 true false
def ayP:=bN Tryz.func267 true true
def ayS:=bN Tryz.func259 true false
def ayX:=bN Tryz.func254 true false
def ayZ:=bN Tryz.func252 true false
def azA:=bN Tryz.func250 true false
def azC:=bN Tryz.func247 true false
def azE:=bN Tryz.func243 false false
def azJ:=bN Tryz.func230 true false
def z213:=bN Tryz.func213 true false
def z212:=bN Tryz.func212 true false
def azV:=bN Tryz.func205 true false
def azW:=bN Tryz.func204 true false
def azY:=bN Tryz.func200 true false
def azZ:=bN Tryz.func192 true true
def aAf:=bN Tryz.func185 true false
def aAg:=bN Tryz.func184 true false
def z183:=bN Tryz.func183 true false
def z168:=bN Tryz.func168 true false
def aAo:=bN Tryz.func163 true false
def z162:=bN Tryz.func162 true false
end Go.aW.Cd
