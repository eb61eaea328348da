import Derived.Test.YtkpopiejnimcoaaGreatDoorBF
set_option linter.all false
set_option maxRecDepth 100000
set_option maxHeartbeats 4000000
namespace Go.aW.Cd
open Go Go.Proofs
def axZ:=bN Tryz.func286 true false
def aAd:=bN Tryz.func188 true false
def aAw:=bN Tryz.func140 true false
def axL:=bN Tryz.func308 true false
def axX:=bN Tryz.func290 true false
def axY:=bN Tryz.func289 true false
def ayQ:=bN Tryz.func264 true false
def ayU:=bN Tryz.func257 true false
def ayW:=bN Tryz.func255 true false
def azD:=bN Tryz.func244 true false
def azF:=bN Tryz.func241 true false
def azG:=bN Tryz.func237 true false
def z229:=bN Tryz.func229 true false
def azM:=bN Tryz.func223 true false
def azN:=bN Tryz.func221 true false
def azP:=bN Tryz.func219 true false
def azR:=bN Tryz.func216 true false
def azS:=bN Tryz.func215 true false
def azU:=bN Tryz.func207 true false
def azX:=bN Tryz.func202 true false
def aAa:=bN Tryz.func191 true false
def aAh:=bN Tryz.func181 true false
def aAj:=bN Tryz.func172 true false
def z167:=bN Tryz.func167 true false
def z69:=bN Tryz.func69 true false
def axJ:=bN Tryz.func310 true false
def ayE:=bN Tryz.func281 true false
def ayF:=bN Tryz.func280 true false
def azB:=bN Tryz.func249 true false
def z124:=bN Tryz.func124 true false
def axI:=bN Tryz.func315 true false
def axP:=bN Tryz.func302 true false
def ayT:=bN Tryz.func258 true false
def aAi:=bN Tryz.func174 true false
def aAl:=bN Tryz.func169 true false
def aAn:=bN Tryz.func165 true false
def aAG:=bN Tryz.func115 true false
def aAI:=bN Tryz.func113 true false
def z74:=bN Tryz.func74 true false
def axM:=bN Tryz.func305 true false
def z65:=bN Tryz.func65 true false
def z49:=bN Tryz.func49 true false
def z34:=bN Tryz.func34 true false
def z13:=bN Tryz.func13 true false
end Go.aW.Cd
