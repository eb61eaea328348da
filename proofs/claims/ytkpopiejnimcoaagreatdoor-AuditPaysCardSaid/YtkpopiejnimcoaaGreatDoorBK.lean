import Derived.Test.YtkpopiejnimcoaaGreatDoorBF
set_option linter.all false
set_option maxRecDepth 100000
set_option maxHeartbeats 4000000
namespace Go.aW.Cd
open Go Go.Proofs
def ayB:=bN Tryz.func284 true false
def ayC:=bN Tryz.func283 true false
def ayN:=bN Tryz.func269 true false
def z233:=bN Tryz.func233 true false
def azI:=bN Tryz.func231 true false
def azT:=bN Tryz.func214 true false
def aAe:=bN Tryz.func187 true false
def z182:=bN Tryz.func182 true false
def aAp:=bN Tryz.func161 true false
def z160:=bN Tryz.func160 true false
def z146:=bN Tryz.func146 true false
def z145:=bN Tryz.func145 true false
def z138:=bN Tryz.func138 true false
def aAy:=bN Tryz.func136 true false
def aAz:=bN Tryz.func135 true false
def aAA:=bN Tryz.func134 true false
def aAD:=bN Tryz.func123 true false
def aAE:=bN Tryz.func122 true false
def aAF:=bN Tryz.func120 true false
def z117:=bN Tryz.func117 true true
def z107:=bN Tryz.func107 true false
def aAM:=bN Tryz.func106 true false
def aAQ:=bN Tryz.func101 true false
def aAR:=bN Tryz.func100 true false
def z98:=bN Tryz.func98 true false
def z97:=bN Tryz.func97 true false
def z96:=bN Tryz.func96 true false
def z81:=bN Tryz.func81 true false
def z80:=bN Tryz.func80 true false
def z79:=bN Tryz.func79 true false
def z78:=bN Tryz.func78 true false
def z75:=bN Tryz.func75 true false
def z72:=bN Tryz.func72 true true
def z71:=bN Tryz.func71 true false
def z68:=bN Tryz.func68 true false
def z66:=bN Tryz.func66 true false
def z63:=bN Tryz.func63 true true
def z47:=bN Tryz.func47 true true
def z46:=bN Tryz.func46 true false
def z45:=bN Tryz.func45 true false
def z44:=bN Tryz.func44 true false
def z41:=bN Tryz.func41 true false
def z20:=bN Tryz.func20 true false
def z10:=bN Tryz.func10 true false
end Go.aW.Cd
