import Derived.Test.YtlhffnnmmbannaaGreatMC
set_option linter.all false
section
namespace Go.aU.Cd
open Go Go.Proofs
set_option maxRecDepth 100000
def Zr:Rc:=Sq (Rg [Bx 1 0,Mb 2 false]) (Sq (Rg [Fa 8 0 1,Ld 9 8,p 10 (.call 301 [t 9]),Mv 7 10,Et 11 7 0,Et 12 7 1,Mv 3 11,Mv 4 12]) (Sq (Sq (Rg [Fa 13 5 1,Ld 14 13,Le 15 14,Mv 16 3,Bt 17 .lss 15 16,Mv 18 17,Ga 18 (Fa 19 5 1),Ga 18 (Ld 20 19),Ga 18 (Le 21 20),Ga 18 (Mv 22 4),Ga 18 (Bt 23 .gtr 21 22),Pt 24 18 23]) (Cn 24 (Sq (Rg [Mb 2 false]) Rt) Sk)) (Sq (Sq (Rg [Fa 25 0 1,Ld 26 25,Bi 27 .eql 26 2]) (Cn 27 (Sq (Rg [Fa 28 4 1,Ld 29 28,p 30 (.call 302 [t 29]),Nt 31 30]) (Cn 31 (Sq (Rg [Mb 2 false]) Rt) Sk)) (Sq (Rg [Fa 32 4 1,Ld 33 32,p 34 (.bin .neq (t 33) (.c (.w (.one (.t (.val (.string ⟨#[]⟩)))))))]) (Cn 34 (Sq (Rg [Mb 2 false]) Rt) Sk)))) (Sq (Sq (Rg [Fa 35 0 1,Ld 36 35,Bi 37 .eql 36 1]) (Cn 37 (Sq (Rg [Fa 39 1 1,Lo 3 40 39,p 41 (.call 303 [t 40]),Mv 38 41,Et 42 38 0,Et 43 38 1,Mv 5 42,Mv 6 43]) (Sq (Rg [Mv 44 6,Mv 2 44]) Rt)) Sk)) (Sq (Rg [Fa 45 1 1,Lo 3 46 45,p 47 (.build [zb,zn,zn] []),p 48 (.call 220 [t 46,t 47]),Bi 49 .eql 48 0,Mv 2 49]) Rt)))))
theorem Xm:ae Tryz.prog (Tryz.f261.body.getD .skip)=some Zr:=by kernel_rfl
theorem adO:Tryz.f261.body=some (Tryz.f261.body.getD .skip):=rfl
def ZI:Rc:=Sq (Rg [Bx 2 0,Mk 4 0]) (Sq (Sq (Rg [Mv 8 1,Bi 9 .gtr 8 12]) (Cn 9 (Sq (Rg [Mk 4 5]) Rt) Sk)) (Sq (Sq (Rg [Lo 6 10 2,p 11 (.call 261 [t 10]),Nt 12 11]) (Cn 12 (Sq (Rg [Mk 4 1]) Rt) Sk)) (Sq (Sq (Rg [Fa 13 5 2,Ld 14 13,Le 15 14,Mk 16 0]) (Bk 0 (Lp (Sq (Rg [Bt 17 .lss 16 15]) (Sq (Cn 17 Sk (Ex 0)) (Sq (Bk 1 (Sq (Rg [Ia 18 6 14 16,Lo 6 19 18,p 6 (.alloc [zi,zb,zn,zn,.t (.val (.string ⟨#[]⟩)),zn]),So 6 6 19]) (Sq (Rg [Lo 6 20 6,Mv 21 1,Bi 22 .add 21 1,p 23 (.call 217 [t 20,t 22]),Mv 7 23]) (Sq (Rg [Mv 24 7,Bi 25 .neq 24 0]) (Cn 25 (Sq (Rg [Mv 26 7,Mv 4 26]) Rt) Sk))))) (Rg [Bi 27 .add 16 1,Mv 16 27]))))))) (Sq (Rg [Mk 4 0]) Rt))))
theorem XD:ae Tryz.prog (Tryz.f217.body.getD .skip)=some ZI:=by kernel_rfl
theorem aeF:Tryz.f217.body=some (Tryz.f217.body.getD .skip):=rfl
def Z2:Rc:=Sq (Rg [Bx 1 0,Mk 2 0]) (Sq (Rg [Lo 6 3 1,p 4 (.call 217 [t 3,(k 1)]),Mv 2 4]) Rt)
theorem XY:ae Tryz.prog (Tryz.f175.body.getD .skip)=some Z2:=by kernel_rfl
theorem aeZ:Tryz.f175.body=some (Tryz.f175.body.getD .skip):=rfl
def ZD:Rc:=Sq (Rg [Mb 2 false]) (Sq (Rg [Mv 3 0,p 4 (.build [zi,zb,zn,zn,.t (.val (.string ⟨#[]⟩)),zn] [(0,1,(k 2)),(4,1,t 3)]),p 5 (.call 175 [t 4]),Bi 6 .eql 5 0,Mv 2 6]) Rt)
theorem Xy:ae Tryz.prog (Tryz.f224.body.getD .skip)=some ZD:=by kernel_rfl
theorem aeA:Tryz.f224.body=some (Tryz.f224.body.getD .skip):=rfl
def aaQ:Rc:=Sq (Rg [Mb 2 false]) (Sq (Rg [Mv 3 0,p 4 (.build [zi,zb,zn,zn,.t (.val (.string ⟨#[]⟩)),zn] [(0,1,(k 2)),(4,1,t 3)]),p 5 (.call 175 [t 4]),Bi 6 .eql 5 0,Mv 2 6]) Rt)
theorem Yo:ae Tryz.prog (Tryz.f122.body.getD .skip)=some aaQ:=by kernel_rfl
theorem afX:Tryz.f122.body=some (Tryz.f122.body.getD .skip):=rfl
def ZB:Rc:=Sq (Rg [Mn 2]) (Sq (Rg [Mn 3]) (Sq (Sq (Rg [Mv 6 0,Le 7 6,Mk 8 0]) (Bk 0 (Lp (Sq (Rg [Bt 9 .lss 8 7]) (Sq (Cn 9 Sk (Ex 0)) (Sq (Bk 1 (Sq (Rg [Ia 10 2 6 8,Lo 2 11 10,p 5 (.alloc [.t (.val (.string ⟨#[]⟩)),zn]),So 2 5 11]) (Rg [Mv 12 3,Fa 13 1 5,Ld 14 13,Fa 15 1 5,Ld 16 15,Le 17 16,Bi 18 .sub 17 1,p 19 (.slice 2 (t 14) none (some (t 18))),p 20 (.append 2 16 (t 12) (t 19)),Mv 3 20]))) (Rg [Bi 21 .add 8 1,Mv 8 21]))))))) (Sq (Rg [Mv 22 3,Mv 2 22]) Rt)))
theorem Xx:ae Tryz.prog (Tryz.f226.body.getD .skip)=some ZB:=by kernel_rfl
theorem adZ:Tryz.f226.body=some (Tryz.f226.body.getD .skip):=rfl
def ZY:Rc:=Sq (Rg [Mk 2 0]) (Sq (Sq (Rg [Mv 11 0,Le 12 11,Bi 13 .gtr 12 16]) (Cn 13 (Sq (Rg [Mk 2 5]) Rt) Sk)) (Sq (Sq (Rg [Mv 14 0,Le 15 14,Bi 16 .lss 15 2]) (Cn 16 (Sq (Rg [Mk 2 11]) Rt) Sk)) (Sq (Sq (Rg [Mv 17 0,Le 18 17,Mk 19 0]) (Bk 0 (Lp (Sq (Rg [Bt 20 .lss 19 18]) (Sq (Cn 20 Sk (Ex 0)) (Sq (Bk 1 (Sq (Rg [Mv 21 19,Ia 22 2 17 19,Lo 2 23 22,p 4 (.alloc [.t (.val (.string ⟨#[]⟩)),zn]),Mv 3 21,So 2 4 23]) (Sq (Sq (Rg [Fa 24 0 4,Ld 25 24,p 26 (.call 224 [t 25]),Nt 27 26]) (Cn 27 (Sq (Rg [Mk 2 1]) Rt) Sk)) (Sq (Sq (Rg [Mv 28 0,Mv 29 3,p 30 (.slice 2 (t 28) none (some (t 29))),Le 31 30,Mk 32 0]) (Bk 2 (Lp (Sq (Rg [Bt 33 .lss 32 31]) (Sq (Cn 33 Sk (Ex 2)) (Sq (Bk 3 (Sq (Rg [Ia 34 2 30 32,Lo 2 35 34,p 6 (.alloc [.t (.val (.string ⟨#[]⟩)),zn]),So 2 6 35]) (Sq (Rg [Fa 36 0 6,Ld 37 36,Fa 38 0 4,Ld 39 38,Bt 40 .eql 37 39]) (Cn 40 (Sq (Rg [Mk 2 7]) Rt) Sk)))) (Rg [Bi 41 .add 32 1,Mv 32 41]))))))) (Sq (Rg [Fa 42 1 4,Ld 43 42,p 44 (.call 225 [t 43]),Mv 7 44]) (Sq (Rg [Mv 45 7,Bi 46 .neq 45 0]) (Cn 46 (Sq (Rg [Mv 47 7,Mv 2 47]) Rt) Sk))))))) (Rg [Bi 48 .add 19 1,Mv 19 48]))))))) (Sq (Sq (Rg [Mv 49 0,Le 50 49,Mk 51 0]) (Bk 4 (Lp (Sq (Rg [Bt 52 .lss 51 50]) (Sq (Cn 52 Sk (Ex 4)) (Sq (Bk 5 (Sq (Rg [Mv 53 51,Ia 54 2 49 51,Lo 2 55 54,p 9 (.alloc [.t (.val (.string ⟨#[]⟩)),zn]),Mv 8 53,So 2 9 55]) (Sq (Rg [Mv 56 0,Mv 57 8,Bi 58 .add 57 1,Mv 59 0,Le 60 59,Bt 61 .rem 58 60,Ia 62 2 56 61,Lo 2 63 62,p 10 (.alloc [.t (.val (.string ⟨#[]⟩)),zn]),So 2 10 63]) (Sq (Dr [Fa 64 1 9,Ld 65 64,Fa 66 1 9,Ld 67 66,Le 68 67,Bi 69 .sub 68 1,Ia 70 2 65 69,Lo 2 71 70,Fa 72 1 10,Ld 73 72,p 74 (.dB 2 (t 73) (k 0)),Lo 2 75 74,p 76 (.Ba true [0,0] (t 71) (t 75))] [[],[0],[],[2],[3],[4],[1,5],[6],[],[8],[9],[10],[7,11]]) (Cn 76 (Sq (Rg [Mk 2 11]) Rt) Sk))))) (Rg [Bi 77 .add 51 1,Mv 51 77]))))))) (Sq (Rg [Mv 78 0,p 79 (.call 226 [t 78]),p 80 (.call 72 [t 79]),Mv 2 80]) Rt)))))
theorem XU:ae Tryz.prog (Tryz.f179.body.getD .skip)=some ZY:=by kernel_rfl
theorem aeV:Tryz.f179.body=some (Tryz.f179.body.getD .skip):=rfl
def Zy:Rc:=Sq (Rg [Mn 2,Mk 3 0]) (Sq (Sq (Rg [Mv 5 0,p 6 (.call 179 [t 5]),Mv 4 6]) (Sq (Rg [Mv 7 4,Bi 8 .neq 7 0]) (Cn 8 (Sq (Rg [Mv 9 4,Mn 2,Mv 3 9]) Rt) Sk))) (Sq (Rg [Mv 10 0,p 11 (.call 226 [t 10]),Mv 2 11,Mk 3 0]) Rt))
theorem Xt:ae Tryz.prog (Tryz.f252.body.getD .skip)=some Zy:=by kernel_rfl
theorem adV:Tryz.f252.body=some (Tryz.f252.body.getD .skip):=rfl
def PO (e:List T):Prop:= ∃s xs,e=[.val (.string s), .ao 2 xs]∧s.size≤maxLen∧cq xs∧xs.length≤maxLen
abbrev jd (es:Lz):Prop:= ∀e,e∈es→PO e
abbrev oEx (s:ByteArray):W:= .agg [.t (tI 2), .t (tB false), .t eR, .t eR, .t (.val (.string s)), .t eR]
theorem qy (k:Int): ∃ts,Fn Tryz.prog 301 [oI k] [] (aO ts) []∧(aO ts).bJ=true∧(fun ts=> ∃a b,ts=[oI a,oI b]) ts:=by
 refine aG ?_
 refine ah (n:=18) (rs:=[.tmp 2, .tmp 3]) Tryz.func301 acV WZ rfl rfl (by simp) ?_
 repeat' (conv=>whnf
          first
  |(refine az (fun h=>?_) (fun h=>?_))
  |exact iy rfl (dw rfl) (dw rfl) ⟨_,_,rfl⟩)
 all_goals (conv=>whnf)
theorem zI:HH 220 [.agg [.t (tB false), .t eR, .t eR], .agg [.t (tB false), .t eR, .t eR]] GI:=
 CX (DK false false 2 [] [] [] [] (by simp) Us.nil (by simp) Us.nil (by simp) Us.nil (by simp) Us.nil (by omega) (by omega)) (.cons (.agg (eF (dG (dG .nil)))) (.cons (.agg (eF (dG (dG .nil)))) .nil))
theorem vV (s:ByteArray) (hs:s.size≤maxLen):Tg 261 [oEx s] GB:=by
 refine ah (n:=50) (rs:=[.tmp 2]) Tryz.func261 adO Xm rfl rfl (by simp) ?_
 repeat' (conv=>whnf
          first
  |(refine az (fun h=>?_) (fun h=>?_))
  |(refine aB (fun h=>?_) (fun h=>?_))
  |(refine ai rfl (qy _) ?_;rintro _ ⟨a,b,rfl⟩)
  |(refine ai rfl (uj s hs) ?_;rintro _ ⟨b,rfl⟩)
  |(refine ai rfl (zI) ?_;rintro _ ⟨n,rfl⟩)
  |exact gB rfl rfl)
 all_goals (conv=>whnf)
theorem vW (s:ByteArray) (hs:s.size≤maxLen) (l:Int):Tg 217 [oEx s,oI l] GI:=by
 refine ah (n:=28) (rs:=[.tmp 4]) Tryz.func217 aeF XD rfl rfl (by simp) ?_
 repeat' (conv=>whnf
          first
  |(refine az (fun h=>?_) (fun h=>?_))
  |(refine aB (fun h=>?_) (fun h=>?_))
  |(refine ai rfl (vV s hs) ?_;rintro _ ⟨b,rfl⟩)
  |exact gI rfl rfl
  |(apply aK [1,14,15,16] [] [16] (RI 0) (0) [iV .i64 0];(conv=>whnf);exact⟨rfl,rfl,rfl,rfl⟩;exact rfl;exact rfl;exact RI.zero;rintro _ _ ⟨i,hi,rfl,rfl⟩))
 all_goals (conv=>whnf)
theorem nw (s:ByteArray) (hs:s.size≤maxLen):Tg 175 [oEx s] GI:=by
 refine ah (n:=5) (rs:=[.tmp 2]) Tryz.func175 aeZ XY rfl rfl (by simp) ?_
 repeat' (conv=>whnf
          first
  |(refine ai rfl (vW s hs _) ?_;rintro _ ⟨b,rfl⟩)
  |exact gI rfl rfl)
 all_goals (conv=>whnf)
theorem tC (s:ByteArray) (hs:s.size≤maxLen):Tg 224 [oS s] GB:=by
 refine ah (n:=7) (rs:=[.tmp 2]) Tryz.func224 aeA Xy rfl rfl (by simp) ?_
 repeat' (conv=>whnf
          first
  |(refine ai rfl (nw s hs) ?_;rintro _ ⟨b,rfl⟩)
  |exact gB rfl rfl)
 all_goals (conv=>whnf)
theorem oy (s:ByteArray) (hs:s.size≤maxLen):Tg 122 [oS s] GB:=by
 refine ah (n:=7) (rs:=[.tmp 2]) Tryz.func122 afX Yo rfl rfl (by simp) ?_
 repeat' (conv=>whnf
          first
  |(refine ai rfl (nw s hs) ?_;rintro _ ⟨b,rfl⟩)
  |exact gB rfl rfl)
 all_goals (conv=>whnf)
end Go.aU.Cd
end
section
namespace Go.aU.Cd
open Go Go.Proofs
set_option maxRecDepth 100000
set_option maxHeartbeats 1000000
theorem Nd {sz:Nat} {xs:Lz} {l h:Nat} {K:C→Prop} (h1:l < h) (h2:h≤xs.length) (hk: ∀y ys,(xs.drop l).take (h - l)=y::ys→K (.t (.ao sz (y::ys)))):(l≤h∧h≤xs.length)∧uH (.t (.ao sz xs)) l h K:=by
 refine fz (by omega) h2 ?_
 have hlen:((xs.drop l).take (h - l)).length=h - l:=by simp;omega
 match hm:(xs.drop l).take (h - l)with
 | []=>rw[hm]at hlen;simp at hlen;omega
 |y::ys=>exact hk y ys hm
def ln (e:List T):Nat:=
 match e with
 | [_, .ao _ xs]=>xs.length - 1
 |_=>0
def gq:Lz→Nat
 | []=>0
 |e::r=>ln e+gq r
theorem wN: ∀ (es:Lz) (e:List T),gq (es++[e])=gq es+ln e
 | [],e=>by simp[gq]
 |x::r,e=>by simp only[List.cons_append,gq,wN r e];omega
theorem wM {es:Lz} {i:Nat} {e:List T} (h:es[i]? =some e):gq (es.take (i+1))=gq (es.take i)+ln e:=by
 rw[gy h,wN]
def vt (e:List T):Lz:=
 match e with
 | [_, .ao _ xs]=>xs.take (xs.length - 1)
 |_=>[]
def fR:Lz→Lz
 | []=>[]
 |e::r=>vt e++fR r
theorem sR: ∀ (es:Lz) (e:List T),fR (es++[e])=fR es++vt e
 | [],e=>by simp[fR]
 |x::r,e=>by simp only[List.cons_append,fR,sR r e,List.append_assoc]
theorem Bh {es:Lz} {i:Nat} {e:List T} (h:es[i]? =some e):fR (es.take (i+1))=fR (es.take i)++vt e:=by
 rw[gy h,sR]
def AT (e:List T):Prop:= ∃s xs,e=[.val (.string s), .ao 2 xs]∧dO xs
theorem FD: ∀ {es:Lz},(∀e,e∈es→AT e)→gq es≤39 * es.length
 | [],_=>by simp[gq]
 |e::r,h=>by
  obtain⟨s,xs,rfl,hl⟩:=h e List.mem_cons_self
  have h1:=hl.2.1
  have:=FD (es:=r) (fun q hq=>h q (List.mem_cons_of_mem _ hq))
  simp only[gq,ln,List.length_cons]
  omega
theorem dO.E8 {xs:Lz} (h:dO xs):cq xs:=fun e he=>by
 obtain⟨a,b,rfl,_⟩:=h.2.2 e he
 exact⟨a,b,rfl⟩
def RVt (es:Lz) (m:Nat) (ws:List V) (xss:List (Lz)):Prop:= ∃ (i:Nat) (zs:Lz),i≤es.length∧m=es.length - i∧ws=[bK 4 2 zs.length,iV .i64 (i:Int)]∧xss=[zs]∧zs.length=gq (es.take i)∧cq zs∧zs=fR (es.take i)
theorem RVt.next {es zs:Lz} {i k:Nat} {s:ByteArray} {xs ys:Lz} {y:List T} (hi:(i:Int) < (es.length:Int)) (he:es.length≤16) (hs:es[((i:Int)).toNat]? =some [.val (.string s), .ao 2 xs]) (hl:dO xs) (hz:zs.length=gq (es.take i)) (hU:cq zs) (hv:zs=fR (es.take i))
 (hc:(xs.drop 0).take ((IntKind.i64.wrap ((xs.length:Int) - 1)).toNat - 0)=y::ys) (hk:k=zs.length+(ys.length+1)):RVt es (es.length - (i+1)) [bK 4 2 k,iV .i64 (IntKind.i64.wrap ((i:Int)+1))] [zs++y::ys]:=by
 have h1:=hl.1
 have h2:=hl.2.1
 have BJ:xs.take (xs.length - 1)=y::ys:=by
  rw[bO (by omega) (by omega)]at hc
  simpa using hc
 have hlen:ys.length+1=xs.length - 1:=by
  have:=congrArg List.length BJ
  simp at this
  omega
 refine⟨i+1,_,by omega,rfl,by rw[bO (by omega) (by omega),hk];simp[Nat.add_assoc],rfl,?_,?_,?_⟩
 · rw[wM (by simpa using hs)]
   simp only[ln,List.length_append,List.length_cons]
   omega
 · intro e he'
   simp only[List.mem_append]at he'
   rcases he' with he'|he'
   · exact hU e he'
   · rw[←BJ]at he'
     exact hl.E8 e (List.mem_of_mem_take he')
 · rw[Bh (by simpa using hs),hv]
   simp only[vt,BJ]
theorem qn {es:Lz} (h: ∀e,e∈es→AT e) (i:Nat) (hl:es.length≤16):gq (es.take i)≤640:=by
 have:=FD (es:=es.take i) (fun e he=>h e (List.mem_of_mem_take he))
 have h2:(es.take i).length≤es.length:=by simp;omega
 omega
theorem O9 {es zs xs ys:Lz} {y:List T} {i:Nat} (hz:zs.length=gq (es.take i)) (hb:gq (es.take i)≤640) (hc:(xs.drop 0).take ((IntKind.i64.wrap ((xs.length:Int) - 1)).toNat - 0)=y::ys) (hL:dO xs):
 zs.length=(tr zs).length∧((tr zs).length+((ys.map fun e=>e.map C.t).length+1)) * 16≤bR∧(tr zs).length+((ys.map fun e=>e.map C.t).length+1)≤maxLen:=by
 have h1:=hL.2.1
 have hlen:=congrArg List.length hc
 simp only[List.length_take,List.length_drop,List.length_cons]at hlen
 have hy:ys.length≤40:=by omega
 clear hlen hc
 refine⟨by simp[tr],?_,?_⟩
 · simp only[tr,List.length_map,bR];omega
 · simp only[tr,List.length_map,maxLen];omega
theorem Nh {es zs:Lz} {i:Nat} (hz:zs.length=gq (es.take i)) (hU:cq zs) (hv:zs=fR (es.take i)) (hi:es.length≤i):(zs.drop 0).take zs.length=fR es∧((zs.drop 0).take zs.length).length=gq es∧cq ((zs.drop 0).take zs.length):=by
 rw[List.take_of_length_le hi]at hz hv
 simp only[List.drop_zero,List.take_length]
 exact⟨hv,hz,hU⟩
theorem j0 (es:Lz) (he: ∀e,e∈es→AT e) (hl:es.length≤16):Tg 226 [oL 2 es] (GL 2 (fun vs=>vs=fR es∧vs.length=gq es∧cq vs)):=by
 refine aG ?_
 refine ah (n:=23) (rs:=[.tmp 2]) Tryz.func226 adZ Xx rfl rfl (by simp) ?_
 repeat' (conv=>whnf
          first
  |(refine az (fun h=>?_) (fun h=>?_))
  |(refine ap he (by omega) (by omega) ?_;rintro _ ⟨s,xs,rfl,hL⟩ hs)
  |(refine Nd (by have:=hL.1;have:=hL.2.1;simp (disch:=omega) only[aa];omega) (by have:=hL.1;have:=hL.2.1;simp (disch:=omega) only[aa];omega) ?_;intro y ys IS)
  |(refine And.intro (by have:=hL.1;have:=hL.2.1;simp (disch:=omega) only[aa];omega) ?_)
  |(refine And.intro (O9 hz (qn he i hl) IS hL) ?_)
  |exact mF rfl (fg rfl rfl (xs:=zs) rfl (by omega)) ⟨_,rfl,Nh hz hU hv (by omega)⟩
  |(apply eN [3,6,7,8] [] [3,8] [(4,2)] (RVt es) (es.length) [bK 4 2 0,iV .i64 0] (iA.jh 3 2 rfl);(conv=>whnf);exact⟨rfl,rfl,rfl,rfl⟩;exact rfl;exact rfl;exact .cons (aL.aF aL.nil _) .nil;exact⟨0,[],by omega,rfl,rfl,rfl,by simp[gq],(fun e he=>by simp at he),by simp[fR]⟩;rintro _ _ _ ⟨i,zs,hi,rfl,rfl,rfl,hz,hU,hv⟩)
  |(refine aq [3,6,7,8] [] ?_;(conv=>whnf);exact⟨rfl,_,[_,_],_, .cons (aL.aF (aL.G9 (xs:=zs) rfl (y::ys)) _) .nil,RVt.next (by omega) hl hs hL hz hU hv IS (by simp[tr]),rfl,rfl,by omega⟩))
 all_goals (conv=>whnf)
def rz (es:Lz):Prop:=(2≤es.length∧es.length≤16)∧(∀e,e∈es→AT e)∧xw (fR es)∧(fR es).length=gq es
def Dk (es:Lz) (i:Nat):Prop:= ∀j e,j < i→es[j]? =some e→AT e
theorem Dk.all {es:Lz} {i:Nat} (h:Dk es i) (hi:es.length≤i): ∀e,e∈es→AT e:=by
 intro e he
 obtain⟨j,hj,rfl⟩:=List.getElem_of_mem he
 exact h j _ (by omega) (by simp[hj])
def RLn (es:Lz) (m:Nat) (vs:List V):Prop:= ∃i:Nat,i≤es.length∧Dk es i∧m=es.length - i∧vs=[iV .i64 (i:Int)]
theorem RLn.next {es:Lz} {i:Nat} {s:ByteArray} {xs:Lz} (hi:(i:Int) < (es.length:Int)) (hl:es.length≤16) (h:Dk es i) (hs:es[((i:Int)).toNat]? =some [.val (.string s), .ao 2 xs]) (hL:dO xs):RLn es (es.length - (i+1)) [iV .i64 (IntKind.i64.wrap ((i:Int)+1))]:=by
 refine⟨i+1,by omega,fun j e hj he=>?_,rfl,by rw[bO (by omega) (by omega)];rfl⟩
 by_cases fk:j=i
 · subst fk
   have hs':es[j]? =some [.val (.string s), .ao 2 xs]:=by simpa using hs
   rw[hs']at he
   exact⟨s,xs,(Option.some.inj he).symm,hL⟩
 · exact h j e (by omega) he
theorem jJ (es:Lz) (he:jd es) (hm:es.length≤maxLen):Tg 179 [oL 2 es] (nF (fun n=>n=0→rz es)):=by
 refine ah (n:=81) (rs:=[.tmp 2]) Tryz.func179 aeV XU rfl rfl (by simp) ?_
 repeat' (conv=>whnf
          first
  |(refine az (fun h=>?_) (fun h=>?_))
  |(refine cv (fun h=>?_) (fun h=>?_))
  |(refine aB (fun h=>?_) (fun h=>?_))
  |(refine fz (Nat.zero_le _) (by omega) ?_)
  |(refine ap (xs:=es) (n:=(i:Int)) he (by omega) (by omega) ?_;rintro _ ⟨s,xs,rfl,hsz,hsp,hxl⟩ hs)
  |(refine ap (cI he 0 _) (n:=(j:Int)) (by omega) (by omega) ?_;rintro _ ⟨s2,xs2,rfl,yq,aGa,aFX⟩ lj)
  |(refine ap (xs:=es) (n:=(k:Int)) (hp.all (by omega)) (by omega) (by omega) ?_;rintro _ ⟨s3,xs3,rfl,Tu⟩ EC)
  |(refine ap (xs:=es) (hp.all (by omega)) (cj (by rw[bO (by omega) (by omega)];omega)) (bW (by omega)) ?_;rintro _ ⟨s4,xs4,rfl,hL4⟩ hs4)
  |(refine ap (xs:=xs3) Tu.E8 (by have:=Tu.1;have:=Tu.2.1;rw[bO (by omega) (by omega)];omega) (by have:=Tu.1;have:=Tu.2.1;rw[bO (by omega) (by omega)];omega) ?_;rintro _ ⟨a,b,rfl⟩ hs5)
  |(refine ap (xs:=xs4) hL4.E8 (by omega) (by have:=hL4.1;omega) ?_;rintro _ ⟨a,b,rfl⟩ hs6)
  |(refine And.intro (by kernel_rfl) ?_)
  |(refine And.intro (by omega) ?_)
  |(refine ai rfl (tC s hsz) ?_;rintro _ ⟨b,rfl⟩)
  |(refine ai rfl (kW xs hsp) ?_;rintro _ ⟨c,rfl,hc⟩)
  |(refine ai rfl (j0 es (hp.all (by omega)) (by omega)) ?_;rintro _ ⟨vs,rfl,rfl,hvl,hvs⟩)
  |(refine ai rfl (eE (fR es) hvs (by have:=FD (hp.all (by omega));omega)) ?_;rintro _ ⟨d,rfl,hd⟩)
  |(refine pQ rfl rfl (fun h0=>?_);first|(exfalso;omega)|exact⟨⟨by omega,by omega⟩,hp.all (by omega),hd (by omega),hvl⟩)
  |(apply aK [0,49,50,51] [] [51] (RI es.length) (es.length) [iV .i64 0];(conv=>whnf);exact⟨rfl,rfl,rfl,rfl⟩;exact rfl;exact rfl;exact RI.zero;rintro _ _ ⟨k,hk,rfl,rfl⟩)
  |(refine aq [0,49,50,51] [] ?_;(conv=>whnf);exact⟨rfl,_,[_],RI.succ (N:=es.length) (i:=k) (by omega) hm,rfl,rfl,rfl,by omega⟩)
  |(apply aK [0,4,17,18,19,30,31,32] [] [32] (RI ((es.drop 0).take ((i:Int).toNat - 0)).length) (((es.drop 0).take ((i:Int).toNat - 0)).length) [iV .i64 0];(conv=>whnf);exact⟨rfl,rfl,rfl,rfl⟩;exact rfl;exact rfl;exact RI.zero;rintro _ _ ⟨j,hj,rfl,rfl⟩)
  |(refine aq [0,4,17,18,19,30,31,32] [] ?_;(conv=>whnf);exact⟨rfl,_,[_],RI.succ (N:=((es.drop 0).take ((i:Int).toNat - 0)).length) (i:=j) (by omega) (gU hm _ _),rfl,rfl,rfl,by omega⟩)
  |(apply aK [0,17,18,19] [] [19] (RLn es) (es.length) [iV .i64 0];(conv=>whnf);exact⟨rfl,rfl,rfl,rfl⟩;exact rfl;exact rfl;exact⟨0,by omega,fun j e hj=>by omega,rfl,rfl⟩;rintro _ _ ⟨i,hi,hp,rfl,rfl⟩)
  |(refine aq [0,17,18,19] [] ?_;(conv=>whnf);exact⟨rfl,_,[_],RLn.next (by omega) (by omega) hp hs (hc (by omega)),rfl,rfl,rfl,by omega⟩))
 all_goals (conv=>whnf)
def JM (sz:Nat) (p:Lz→Prop) (ts:List W):Prop:= ∃xs e,ts=[oL sz xs,oI e]∧(e=0→p xs)
theorem kX (es:Lz) (he:jd es) (hm:es.length≤maxLen):Tg 252 [oL 2 es] (JM 2 (fun vs=>vs=fR es∧rz es)):=by
 refine aG ?_
 refine ah (n:=12) (rs:=[.tmp 2, .tmp 3]) Tryz.func252 adV Xt rfl rfl (by simp) ?_
 repeat' (conv=>whnf
          first
  |(refine cv (fun h=>?_) (fun h=>?_))
  |(refine ai rfl (jJ es he hm) ?_;rintro _ ⟨e,rfl,hc⟩)
  |(refine ai rfl (j0 es (hc (by omega)).2.1 (hc (by omega)).1.2) ?_;rintro _ ⟨vs,rfl,rfl,hvl,hvs⟩)
  |exact iy rfl (dw rfl) (dw rfl) ⟨_,_,rfl,fun _=>⟨rfl,hc (by omega)⟩⟩
  |exact iy rfl (dR 2 rfl) (dw rfl) ⟨_,_,rfl,fun h0=>absurd h0 (by omega)⟩)
 all_goals (conv=>whnf)
end Go.aU.Cd
end
section
namespace Go.aU.Cd
open Go Go.Proofs
set_option maxRecDepth 100000
def Zm:Rc:=Sq (Rg [Mk 4 0]) (Sq (Sq (Rg [Mv 6 0,Le 7 6,Mk 8 0]) (Bk 0 (Lp (Sq (Rg [Bt 9 .lss 8 7]) (Sq (Cn 9 Sk (Ex 0)) (Sq (Bk 1 (Sq (Rg [Mv 10 8,Mv 5 10]) (Sq (Rg [Mv 11 1,Mv 12 0,Mv 13 5,Ia 14 1 12 13,Ld 15 14,Bt 16 .eql 11 15]) (Cn 16 (Sq (Rg [Mv 17 5,Mv 4 17]) Rt) Sk)))) (Rg [Bi 18 .add 8 1,Mv 8 18]))))))) (Sq (Rg [p 4 (.hY (k (-1)))]) Rt))
theorem Xh:ae Tryz.prog (Tryz.f266.body.getD .skip)=some Zm:=by kernel_rfl
theorem adJ:Tryz.f266.body=some (Tryz.f266.body.getD .skip):=rfl
def ZF:Rc:=Sq (Rg [Mb 4 false]) (Sq (Rg [Mv 5 0,Mv 6 1,p 7 (.call 266 [t 5,t 6]),Bi 8 .geq 7 0,Mv 4 8]) Rt)
theorem XA:ae Tryz.prog (Tryz.f221.body.getD .skip)=some ZF:=by kernel_rfl
theorem aeC:Tryz.f221.body=some (Tryz.f221.body.getD .skip):=rfl
def ZE:Rc:=Sq (Rg [Bx 2 0,Mb 4 false]) (Sq (Rg [Mv 5 1,p 6 (.bin .leq (k 0) (t 5)),Mv 7 6,Gb 7 (Mv 8 1),Gb 7 (Fa 9 0 2),Gb 7 (Ld 10 9),Gb 7 (Le 11 10),Gb 7 (Bt 12 .lss 8 11),Pf 13 7 12,Mv 4 13]) Rt)
theorem Xz:ae Tryz.prog (Tryz.f223.body.getD .skip)=some ZE:=by kernel_rfl
theorem aeB:Tryz.f223.body=some (Tryz.f223.body.getD .skip):=rfl
def Z1:Rc:=Sq (Rg [Bx 1 0,Mk 2 0]) (Sq (Sq (Rg [Fa 11 0 1,Ld 12 11,Le 13 12,Bi 14 .gtr 13 12,Mv 15 14,Ga 15 (Fa 16 2 1),Ga 15 (Ld 17 16),Ga 15 (Le 18 17),Ga 15 (Bi 19 .gtr 18 32),Pt 20 15 19]) (Cn 20 (Sq (Rg [Mk 2 5]) Rt) Sk)) (Sq (Sq (Rg [Fa 21 0 1,Ld 22 21,Le 23 22,Bi 24 .eql 23 0]) (Cn 24 (Sq (Rg [Mk 2 1]) Rt) Sk)) (Sq (Sq (Rg [Fa 25 0 1,Ld 26 25,Le 27 26,Mk 28 0]) (Bk 0 (Lp (Sq (Rg [Bt 29 .lss 28 27]) (Sq (Cn 29 Sk (Ex 0)) (Sq (Bk 1 (Sq (Rg [Ia 30 1 26 28,Ld 31 30,Mv 4 31]) (Sq (Rg [Mv 32 4,p 33 (.call 218 [t 32]),Nt 34 33]) (Cn 34 (Sq (Rg [Mk 2 1]) Rt) Sk)))) (Rg [Bi 35 .add 28 1,Mv 28 35]))))))) (Sq (Sq (Rg [Fa 36 2 1,Ld 37 36,Le 38 37,Mk 39 0]) (Bk 2 (Lp (Sq (Rg [Bt 40 .lss 39 38]) (Sq (Cn 40 Sk (Ex 2)) (Sq (Bk 3 (Sq (Rg [Ia 41 5 37 39,Lo 5 42 41,p 6 (.alloc [.t (.val (.string ⟨#[]⟩)),zb,zn,zn,zn]),So 5 6 42]) (Sq (Rg [Fa 43 0 6,Ld 44 43,p 45 (.call 219 [t 44]),Nt 46 45,Mv 47 46,Ga 47 (Fa 48 4 6),Ga 47 (Ld 49 48),Ga 47 (Le 50 49),Ga 47 (Fa 51 0 1),Ga 47 (Ld 52 51),Ga 47 (Le 53 52),Ga 47 (Bt 54 .neq 50 53),Pt 55 47 54,Mv 56 55,Ga 56 (Fa 57 4 6),Ga 56 (Ld 58 57),Ga 56 (p 59 (.dB 3 (t 58) (k 0))),Ga 56 (Lo 3 60 59),Ga 56 (p 61 (.build [zb,zn,zn] [])),Ga 56 (p 62 (.call 220 [t 60,t 61])),Ga 56 (Bi 63 .neq 62 0),Pt 64 56 63]) (Cn 64 (Sq (Rg [Mk 2 1]) Rt) Sk)))) (Rg [Bi 65 .add 39 1,Mv 39 65]))))))) (Sq (Sq (Rg [Fa 66 0 1,Ld 67 66,Le 68 67,Mk 69 0]) (Bk 4 (Lp (Sq (Rg [Bt 70 .lss 69 68]) (Sq (Cn 70 Sk (Ex 4)) (Sq (Bk 5 (Sq (Rg [Mv 71 69,Ia 72 1 67 69,Ld 73 72,Mv 7 71,Mv 8 73]) (Sq (Rg [Fa 74 0 1,Ld 75 74,Mv 76 7,p 77 (.slice 1 (t 75) none (some (t 76))),Mv 78 8,p 79 (.call 221 [t 77,t 78])]) (Cn 79 (Sq (Rg [Mk 2 7]) Rt) Sk)))) (Rg [Bi 80 .add 69 1,Mv 69 80]))))))) (Sq (Sq (Rg [Fa 81 2 1,Ld 82 81,Le 83 82,Mk 84 0]) (Bk 6 (Lp (Sq (Rg [Bt 85 .lss 84 83]) (Sq (Cn 85 Sk (Ex 6)) (Sq (Bk 7 (Sq (Rg [Mv 86 84,Ia 87 5 82 84,Lo 5 88 87,p 10 (.alloc [.t (.val (.string ⟨#[]⟩)),zb,zn,zn,zn]),Mv 9 86,So 5 10 88]) (Sq (Dr [Fa 89 2 1,Ld 90 89,Mv 91 9,p 92 (.slice 5 (t 90) none (some (t 91))),Fa 93 0 10,Ld 94 93,p 95 (.call 222 [t 92,t 94]),Bi 96 .geq 95 0] [[],[0],[],[1,2],[],[4],[3,5],[6]]) (Cn 96 (Sq (Rg [Mk 2 7]) Rt) Sk)))) (Rg [Bi 97 .add 84 1,Mv 84 97]))))))) (Sq (Sq (Rg [Lo 3 98 1,Fa 99 1 1,Ld 100 99,p 101 (.call 223 [t 98,t 100]),Nt 102 101]) (Cn 102 (Sq (Rg [Mk 2 3]) Rt) Sk)) (Sq (Rg [Mk 2 0]) Rt))))))))
theorem XX:ae Tryz.prog (Tryz.f176.body.getD .skip)=some Z1:=by kernel_rfl
theorem aeY:Tryz.f176.body=some (Tryz.f176.body.getD .skip):=rfl
def aaP:Rc:=Sq (Rg [Mb 2 false]) (Sq (Rg [Mv 3 0,p 4 (.aT [.t (.val (.string ⟨#[]⟩))] 1 [(0,t 3)]),p 5 (.build [zn,zi,zn] [(0,1,t 4)]),p 6 (.call 176 [t 5]),Bi 7 .eql 6 0,Mv 2 7]) Rt)
theorem Yn:ae Tryz.prog (Tryz.f123.body.getD .skip)=some aaP:=by kernel_rfl
theorem afW:Tryz.f123.body=some (Tryz.f123.body.getD .skip):=rfl
def ayO (e:List T):Prop:= ∃s,e=[.val (.string s)]∧s.size≤maxLen
abbrev Sts (xs:Lz):Prop:= ∀e,e∈xs→ayO e
theorem lF (xs:Lz) (s:ByteArray) (hx:Sts xs) (hl:xs.length≤maxLen):Tg 266 [oL 1 xs,oS s] GI:=by
 refine ah (n:=19) (rs:=[.tmp 4]) Tryz.func266 adJ Xh rfl rfl (by simp) ?_
 repeat' (conv=>whnf
          first
  |(refine az (fun h=>?_) (fun h=>?_))
  |(refine aB (fun h=>?_) (fun h=>?_))
  |(refine ap hx (by first|omega|exact cj (by first|omega|(simp (disch:=omega) only[aa];omega))|(simp (disch:=omega) only[aa];omega)) (by first|omega|exact bW (by omega)|(simp (disch:=omega) only[aa];omega)) ?_;rintro _ ⟨s2,rfl,lj⟩ hs)
  |exact gI rfl rfl
  |(apply aK [0,1,7,8] [] [8] (RI xs.length) (xs.length) [iV .i64 0];(conv=>whnf);exact⟨rfl,rfl,rfl,rfl⟩;exact rfl;exact rfl;exact RI.zero;rintro _ _ ⟨i,hi,rfl,rfl⟩)
  |(refine aq [0,1,7,8] [] ?_;(conv=>whnf);exact⟨rfl,_,[_],RI.succ (N:=xs.length) (i:=i) (by omega) hl,rfl,rfl,rfl,by omega⟩))
 all_goals (conv=>whnf)
theorem jU (xs:Lz) (s:ByteArray) (hx:Sts xs) (hl:xs.length≤maxLen):Tg 221 [oL 1 xs,oS s] GB:=by
 refine ah (n:=9) (rs:=[.tmp 4]) Tryz.func221 aeC XA rfl rfl (by simp) ?_
 repeat' (conv=>whnf
          first
  |(refine ai rfl (lF xs s hx hl) ?_;rintro _ ⟨n,rfl⟩)
  |exact gB rfl rfl)
 all_goals (conv=>whnf)
abbrev oCh (ss:Lz) (b:Int):W:= .agg [.t (.ao 1 ss), .t (tI b), .t eR]
theorem we (ss:Lz) (b k:Int):Tg 223 [oCh ss b,oI k] GB:=by
 refine ah (n:=14) (rs:=[.tmp 4]) Tryz.func223 aeB Xz rfl rfl (by simp) ?_
 repeat' (conv=>whnf
          first
  |(refine az (fun h=>?_) (fun h=>?_))
  |exact gB rfl rfl)
 all_goals (conv=>whnf)
theorem AM (ss:Lz) (b:Int) (hx:Sts ss) (hl:ss.length≤maxLen):Tg 176 [oCh ss b] GI:=by
 refine ah (n:=103) (rs:=[.tmp 2]) Tryz.func176 aeY XX rfl rfl (by simp) ?_
 repeat' (conv=>whnf
          first
  |(refine az (fun h=>?_) (fun h=>?_))
  |(refine aB (fun h=>?_) (fun h=>?_))
  |(refine fz (Nat.zero_le _) (by omega) ?_)
  |(refine ap hx (by first|omega|exact cj (by first|omega|(simp (disch:=omega) only[aa];omega))|(simp (disch:=omega) only[aa];omega)) (by first|omega|exact bW (by omega)|(simp (disch:=omega) only[aa];omega)) ?_;rintro _ ⟨s2,rfl,lj⟩ hs)
  |(refine And.intro (by omega) ?_)
  |(refine ai rfl (yS s2 lj) ?_;rintro _ ⟨b,rfl⟩)
  |(refine ai rfl (jU _ s2 (cI hx _ _) (gU hl _ _)) ?_;rintro _ ⟨b,rfl⟩)
  |(refine ai rfl (we ss b _) ?_;rintro _ ⟨b,rfl⟩)
  |exact gI rfl rfl
  |(apply aK [1,82,83,84] [] [84] (RI 0) (0) [iV .i64 0];(conv=>whnf);exact⟨rfl,rfl,rfl,rfl⟩;exact rfl;exact rfl;exact RI.zero;rintro _ _ ⟨i,hi,rfl,rfl⟩)
  |(apply aK [1,67,68,69] [] [69] (RI ss.length) (ss.length) [iV .i64 0];(conv=>whnf);exact⟨rfl,rfl,rfl,rfl⟩;exact rfl;exact rfl;exact RI.zero;rintro _ _ ⟨i,hi,rfl,rfl⟩)
  |(refine aq [1,67,68,69] [] ?_;(conv=>whnf);exact⟨rfl,_,[_],RI.succ (N:=ss.length) (i:=i) (by omega) hl,rfl,rfl,rfl,by omega⟩)
  |(apply aK [1,37,38,39] [] [39] (RI 0) (0) [iV .i64 0];(conv=>whnf);exact⟨rfl,rfl,rfl,rfl⟩;exact rfl;exact rfl;exact RI.zero;rintro _ _ ⟨i,hi,rfl,rfl⟩)
  |(apply aK [1,26,27,28] [] [28] (RI ss.length) (ss.length) [iV .i64 0];(conv=>whnf);exact⟨rfl,rfl,rfl,rfl⟩;exact rfl;exact rfl;exact RI.zero;rintro _ _ ⟨i,hi,rfl,rfl⟩)
  |(refine aq [1,26,27,28] [] ?_;(conv=>whnf);exact⟨rfl,_,[_],RI.succ (N:=ss.length) (i:=i) (by omega) hl,rfl,rfl,rfl,by omega⟩))
 all_goals (conv=>whnf)
theorem xJ (s:ByteArray) (hs:s.size≤maxLen):Tg 123 [oS s] GB:=by
 refine ah (n:=8) (rs:=[.tmp 2]) Tryz.func123 afW Yn rfl rfl (by simp) ?_
 repeat' (conv=>whnf
          first
  |(refine sM (rfl) (AM [[.val (.string s)]] 0 (by intro e he;simp at he;exact⟨s,he,hs⟩) (by simp[maxLen])) ?_ ?_;(rintro _ ⟨n,rfl⟩;rfl);rintro _ ⟨n,rfl⟩)
  |exact gB rfl rfl)
 all_goals (conv=>whnf)
end Go.aU.Cd
end
section
namespace Go.aU.Cd
open Go Go.Proofs
set_option maxRecDepth 100000
set_option maxHeartbeats 2000000
def awM:Rc:=Sq (Rg [p 4 (.hY (.c (.w (.one (.t (.val (.int .u64 0))))))),p 5 (.hY (.c (.w (.one (.t (.val (.int .u64 0)))))))]) (Sq (Rg [Mv 14 0,p 15 (.bin .and (t 14) (.c (.w (.one (.t (.val (.int .u64 4294967295))))))),Mv 6 15]) (Sq (Rg [Mv 16 0,p 17 (.bin .shr (t 16) (.c (.w (.one (.t (.val (.int .u64 32))))))),Mv 7 17]) (Sq (Rg [Mv 18 1,p 19 (.bin .and (t 18) (.c (.w (.one (.t (.val (.int .u64 4294967295))))))),Mv 8 19]) (Sq (Rg [Mv 20 1,p 21 (.bin .shr (t 20) (.c (.w (.one (.t (.val (.int .u64 32))))))),Mv 9 21]) (Sq (Rg [Mv 22 6,Mv 23 8,Bt 24 .mul 22 23,Mv 10 24]) (Sq (Rg [Mv 25 7,Mv 26 8,Bt 27 .mul 25 26,Mv 28 10,p 29 (.bin .shr (t 28) (.c (.w (.one (.t (.val (.int .u64 32))))))),Bt 30 .add 27 29,Mv 11 30]) (Sq (Rg [Mv 31 11,p 32 (.bin .and (t 31) (.c (.w (.one (.t (.val (.int .u64 4294967295))))))),Mv 12 32]) (Sq (Rg [Mv 33 11,p 34 (.bin .shr (t 33) (.c (.w (.one (.t (.val (.int .u64 32))))))),Mv 13 34]) (Sq (Rg [Mv 35 12,Mv 36 6,Mv 37 9,Bt 38 .mul 36 37,Bt 39 .add 35 38,Mv 12 39]) (Sq (Rg [Mv 40 7,Mv 41 9,Bt 42 .mul 40 41,Mv 43 13,Bt 44 .add 42 43,Mv 45 12,p 46 (.bin .shr (t 45) (.c (.w (.one (.t (.val (.int .u64 32))))))),Bt 47 .add 44 46,Mv 4 47]) (Sq (Rg [Mv 48 0,Mv 49 1,Bt 50 .mul 48 49,Mv 5 50]) Rt)))))))))))
theorem Xe:ae Tryz.prog (Tryz.f271.body.getD .skip)=some awM:=by kernel_rfl
theorem adG:Tryz.f271.body=some (Tryz.f271.body.getD .skip):=rfl
def awG:Rc:=Sq (Rg [Mk 2 0]) (Sq (Rg [Mv 3 0,p 4 (.call 166 [t 3]),p 5 (.bin .sub (k 64) (t 4)),Mv 2 5]) Rt)
theorem WQ:ae Tryz.prog (Tryz.f311.body.getD .skip)=some awG:=by kernel_rfl
theorem acM:Tryz.f311.body=some (Tryz.f311.body.getD .skip):=rfl
def awL:Rc:=Sq (Rg [p 6 (.hY (.c (.w (.one (.t (.val (.int .u64 0))))))),p 7 (.hY (.c (.w (.one (.t (.val (.int .u64 0)))))))]) (Sq (Sq (Rg [Mv 19 2,p 20 (.bin .eql (t 19) (.c (.w (.one (.t (.val (.int .u64 0)))))))]) (Cn 20 (Rg [p 21 (.load none (.c (.w (.one (.t (.val (.pointer (some ⟨0,0,none⟩)))))))),q (.raw (.panic (.tmp 21)) 0)]) Sk)) (Sq (Sq (Rg [Mv 22 2,Mv 23 0,Bt 24 .leq 22 23]) (Cn 24 (Rg [p 25 (.load none (.c (.w (.one (.t (.val (.pointer (some ⟨1,0,none⟩)))))))),q (.raw (.panic (.tmp 25)) 0)]) Sk)) (Sq (Sq (Rg [Mv 26 0,p 27 (.bin .eql (t 26) (.c (.w (.one (.t (.val (.int .u64 0)))))))]) (Cn 27 (Sq (Dr [Mv 28 1,Mv 29 2,Bt 30 .quo 28 29,Mv 31 1,Mv 32 2,Bt 33 .rem 31 32,Mv 6 30,Mv 7 33] [[],[],[0,1],[],[],[3,4],[2,0,1,2],[5,6,0,1,2,3,4,5,6]]) Rt) Sk)) (Sq (Rg [Mv 34 2,p 35 (.call 311 [t 34]),p 36 (.conv .u64 (t 35)),Mv 8 36]) (Sq (Rg [Mv 37 2,Mv 38 8,Bt 39 .shl 37 38,Mv 2 39]) (Sq (Rg [Mv 40 2,p 41 (.bin .shr (t 40) (.c (.w (.one (.t (.val (.int .u64 32))))))),Mv 9 41]) (Sq (Rg [Mv 42 2,p 43 (.bin .and (t 42) (.c (.w (.one (.t (.val (.int .u64 4294967295))))))),Mv 10 43]) (Sq (Rg [Mv 44 0,Mv 45 8,Bt 46 .shl 44 45,Mv 47 1,Mv 48 8,p 49 (.bin .sub (.c (.w (.one (.t (.val (.int .u64 64)))))) (t 48)),Bt 50 .shr 47 49,Bt 51 .or 46 50,Mv 11 51]) (Sq (Rg [Mv 52 1,Mv 53 8,Bt 54 .shl 52 53,Mv 12 54]) (Sq (Rg [Mv 55 12,p 56 (.bin .shr (t 55) (.c (.w (.one (.t (.val (.int .u64 32))))))),Mv 13 56]) (Sq (Rg [Mv 57 12,p 58 (.bin .and (t 57) (.c (.w (.one (.t (.val (.int .u64 4294967295))))))),Mv 14 58]) (Sq (Rg [Mv 59 11,Mv 60 9,Bt 61 .quo 59 60,Mv 15 61]) (Sq (Rg [Mv 62 11,Mv 63 15,Mv 64 9,Bt 65 .mul 63 64,Bt 66 .sub 62 65,Mv 16 66]) (Sq (Bk 0 (Lp (Sq (Sq (Rg [Mv 67 15,p 68 (.bin .geq (t 67) (.c (.w (.one (.t (.val (.int .u64 4294967296))))))),Mv 69 68,Ga 69 (Mv 70 15),Ga 69 (Mv 71 10),Ga 69 (Bt 72 .mul 70 71),Ga 69 (Mv 73 16),Ga 69 (p 74 (.bin .mul (.c (.w (.one (.t (.val (.int .u64 4294967296)))))) (t 73))),Ga 69 (Mv 75 13),Ga 69 (Bt 76 .add 74 75),Ga 69 (Bt 77 .gtr 72 76),Pt 78 69 77]) (Cn 78 Sk (Ex 0))) (Bk 1 (Sq (Rg [Mv 79 15,p 80 (.bin .sub (t 79) (.c (.w (.one (.t (.val (.int .u64 1))))))),Mv 15 80]) (Sq (Rg [Mv 81 16,Mv 82 9,Bt 83 .add 81 82,Mv 16 83]) (Sq (Rg [Mv 84 16,p 85 (.bin .geq (t 84) (.c (.w (.one (.t (.val (.int .u64 4294967296)))))))]) (Cn 85 (Ex 0) Sk)))))))) (Sq (Rg [Mv 86 11,p 87 (.bin .mul (t 86) (.c (.w (.one (.t (.val (.int .u64 4294967296))))))),Mv 88 13,Bt 89 .add 87 88,Mv 90 15,Mv 91 2,Bt 92 .mul 90 91,Bt 93 .sub 89 92,Mv 17 93]) (Sq (Rg [Mv 94 17,Mv 95 9,Bt 96 .quo 94 95,Mv 18 96]) (Sq (Rg [Mv 97 17,Mv 98 18,Mv 99 9,Bt 100 .mul 98 99,Bt 101 .sub 97 100,Mv 16 101]) (Sq (Bk 2 (Lp (Sq (Sq (Rg [Mv 102 18,p 103 (.bin .geq (t 102) (.c (.w (.one (.t (.val (.int .u64 4294967296))))))),Mv 104 103,Ga 104 (Mv 105 18),Ga 104 (Mv 106 10),Ga 104 (Bt 107 .mul 105 106),Ga 104 (Mv 108 16),Ga 104 (p 109 (.bin .mul (.c (.w (.one (.t (.val (.int .u64 4294967296)))))) (t 108))),Ga 104 (Mv 110 14),Ga 104 (Bt 111 .add 109 110),Ga 104 (Bt 112 .gtr 107 111),Pt 113 104 112]) (Cn 113 Sk (Ex 2))) (Bk 3 (Sq (Rg [Mv 114 18,p 115 (.bin .sub (t 114) (.c (.w (.one (.t (.val (.int .u64 1))))))),Mv 18 115]) (Sq (Rg [Mv 116 16,Mv 117 9,Bt 118 .add 116 117,Mv 16 118]) (Sq (Rg [Mv 119 16,p 120 (.bin .geq (t 119) (.c (.w (.one (.t (.val (.int .u64 4294967296)))))))]) (Cn 120 (Ex 2) Sk)))))))) (Sq (Rg [Mv 121 15,p 122 (.bin .mul (t 121) (.c (.w (.one (.t (.val (.int .u64 4294967296))))))),Mv 123 18,Bt 124 .add 122 123,Mv 125 17,p 126 (.bin .mul (t 125) (.c (.w (.one (.t (.val (.int .u64 4294967296))))))),Mv 127 14,Bt 128 .add 126 127,Mv 129 18,Mv 130 2,Bt 131 .mul 129 130,Bt 132 .sub 128 131,Mv 133 8,Bt 134 .shr 132 133,Mv 6 124,Mv 7 134]) Rt)))))))))))))))))))
theorem Xd:ae Tryz.prog (Tryz.f272.body.getD .skip)=some awL:=by kernel_rfl
theorem adF:Tryz.f272.body=some (Tryz.f272.body.getD .skip):=rfl
def awP:Rc:=Sq (Rg [Mk 8 0,Mk 9 0]) (Sq (Sq (Rg [Mv 15 0,Bi 16 .lss 15 1,Mv 17 16,Ga 17 (Mv 18 0),Ga 17 (Bi 19 .gtr 18 1099511627776),Pt 20 17 19,Mv 21 20,Ga 21 (Mv 22 1),Ga 21 (Bi 23 .lss 22 0),Pt 24 21 23,Mv 25 24,Ga 25 (Mv 26 1),Ga 25 (Bi 27 .gtr 26 1099511627776),Pt 28 25 27,Mv 29 28,Ga 29 (Mv 30 3),Ga 29 (Bi 31 .lss 30 0),Pt 32 29 31,Mv 33 32,Ga 33 (Mv 34 3),Ga 33 (Mv 35 0),Ga 33 (Bt 36 .gtr 34 35),Pt 37 33 36]) (Cn 37 (Sq (Rg [Mk 8 0,Mk 9 3]) Rt) Sk)) (Sq (Rg [Mv 39 3,p 40 (.conv .u64 (t 39)),Mv 41 1,p 42 (.conv .u64 (t 41)),p 43 (.call 271 [t 40,t 42]),Mv 38 43,Et 44 38 0,Et 45 38 1,Mv 10 44,Mv 11 45]) (Sq (Rg [Mv 47 10,Mv 48 11,Mv 49 0,p 50 (.conv .u64 (t 49)),p 51 (.call 272 [t 47,t 48,t 50]),Mv 46 51,Et 52 46 0,Et 53 46 1,Mv 12 52,Mv 13 53]) (Sq (Sq (Rg [Mv 54 13,p 55 (.bin .mul (.c (.w (.one (.t (.val (.int .u64 2)))))) (t 54)),Mv 56 0,p 57 (.conv .u64 (t 56)),Bt 58 .geq 55 57]) (Cn 58 (Rg [Mv 59 12,p 60 (.bin .add (t 59) (.c (.w (.one (.t (.val (.int .u64 1))))))),Mv 12 60]) Sk)) (Sq (Rg [Mv 61 12,p 62 (.conv .i64 (t 61)),Mv 14 62]) (Sq (Sq (Rg [Mv 63 2]) (Cn 63 (Rg [Mv 64 1,Mv 65 14,Bt 66 .sub 64 65,Mv 14 66]) Sk)) (Sq (Rg [Mv 67 14,Mv 8 67,Mk 9 0]) Rt)))))))
theorem Xv:ae Tryz.prog (Tryz.f229.body.getD .skip)=some awP:=by kernel_rfl
theorem adX:Tryz.f229.body=some (Tryz.f229.body.getD .skip):=rfl
theorem HJ {s:ByteArray} {n:Int} {N B:Nat} {K:UInt8→Prop} (hN:s.size=N) (hQ:(List.range N).all (fun i=>match s[i]? with|some b=>Nat.blt i (2 ^ b.toNat)&&Nat.ble b.toNat B&& (Nat.beq i 0||Nat.ble (2 ^ (b.toNat - 1)) i&&Nat.ble 1 b.toNat)|none=>false)=true) (h0:0≤n) (h1:n < (N:Int))
 (hk: ∀b:UInt8,b.toNat≤B→n.toNat < 2 ^ b.toNat→(n.toNat=0∨(2 ^ (b.toNat - 1)≤n.toNat∧1≤b.toNat))→K b):0≤n∧ ∃b,s[n.toNat]? =some b∧K b:=by
 have hlt:n.toNat < s.size:=by omega
 have h2:=List.all_eq_true.1 hQ n.toNat (by simp;omega)
 have e:s[n.toNat]? =some s[n.toNat]:=by simp[hlt]
 rw[e]at h2
 simp only[Bool.and_eq_true,Bool.or_eq_true,Nat.blt_eq,Nat.ble_eq,Nat.beq_eq]at h2
 exact⟨h0,_,e,hk _ h2.1.2 h2.1.1 h2.2⟩
theorem t8 (x:Int):x.fdiv (2 ^ min (Int.toNat 8) IntKind.u64.bits)=x / 256:=qe x 8 (by omega)
theorem t16 (x:Int):x.fdiv (2 ^ min (Int.toNat 16) IntKind.u64.bits)=x / 65536:=qe x 16 (by omega)
theorem t32 (x:Int):x.fdiv (2 ^ min (Int.toNat 32) IntKind.u64.bits)=x / 4294967296:=qe x 32 (by omega)
theorem zW {x y n D:Int} {k:Nat} {b:UInt8} (hD:(2:Int) ^ k=D) (h0:0≤x) (hk:k≤56) (hy:y=x / D) (vR:1≤y) (hy8:y < 256) (hb:b.toNat≤8) (hq:(IntKind.u8.wrap y).toNat < 2 ^ b.toNat) (hr:(IntKind.u8.wrap y).toNat=0∨(2 ^ (b.toNat - 1)≤(IntKind.u8.wrap y).toNat∧1≤b.toNat)) (hn:n=(k+b.toNat:Nat)):
 (1≤n∧n≤64)∧2 ^ (n.toNat - 1)≤x.toNat∧x.toNat < 2 ^ n.toNat:=by
 rw[u8_in (by omega) hy8]at hq hr
 obtain⟨qT,rR⟩:2 ^ (b.toNat - 1)≤y.toNat∧1≤b.toNat:=by
  rcases hr with h|h
  · omega
  · exact h
 have hDp:D=((2 ^ k:Nat):Int):=by rw[←hD];simp
 have hp:0 < 2 ^ k:=Nat.pow_pos (by omega)
 have hyn:y.toNat=x.toNat / 2 ^ k:=by
  obtain⟨z,rfl⟩: ∃z:Nat,x=(z:Int):=⟨x.toNat,by omega⟩
  rw[hy,hDp]
  have e:(z:Int) / ((2 ^ k:Nat):Int)=((z / 2 ^ k:Nat):Int):=rfl
  rw[e,Int.toNat_natCast,Int.toNat_natCast]
 have e1:n.toNat=k+b.toNat:=by omega
 have e2:n.toNat - 1=(b.toNat - 1)+k:=by omega
 refine⟨⟨by omega,by omega⟩,?_,?_⟩
 · rw[e2,Nat.pow_add]
   have h1:2 ^ (b.toNat - 1) * 2 ^ k≤y.toNat * 2 ^ k:=Nat.mul_le_mul_right _ qT
   have h2:y.toNat * 2 ^ k≤x.toNat:=by rw[hyn];exact Nat.div_mul_le_self _ _
   omega
 · rw[e1,Nat.add_comm,Nat.pow_add]
   rw[hyn]at hq
   exact(Nat.div_lt_iff_lt_mul hp).1 hq
theorem p8:(2:Int) ^ 8=256:=by decide
theorem p16:(2:Int) ^ 16=65536:=by decide
theorem p24:(2:Int) ^ 24=16777216:=by decide
theorem p32:(2:Int) ^ 32=4294967296:=by decide
theorem p40:(2:Int) ^ 40=1099511627776:=by decide
theorem p48:(2:Int) ^ 48=281474976710656:=by decide
theorem p56:(2:Int) ^ 56=72057594037927936:=by decide
theorem Ca (x:Int) (h0:0 < x) (h1:x < 18446744073709551616):Tg 166 [oU x] (nF (fun n=>(1≤n∧n≤64)∧2 ^ (n.toNat - 1)≤x.toNat∧x.toNat < 2 ^ n.toNat)):=by
 refine ah (n:=25) (rs:=[.tmp 2]) Tryz.func166 MU MH rfl rfl (by simp) ?_
 repeat' (conv=>whnf
          first
  |(refine az (fun h=>?_) (fun h=>?_))
  |(refine HJ (N:=256) (B:=8) (by kernel_rfl) (by kernel_rfl) (PX _).1 (PX _).2 ?_;intro bb CM hq hr)
  |(refine And.intro (by omega) ?_)
  |(refine pQ rfl rfl ?_;(try simp only[t8,t16,t32]at *);first|exact zW (k:=0) (y:=x) (D:=1) (by decide) (by omega) (by omega) (by omega) (by omega) (by omega) CM hq hr (by simp (disch:=omega) only[aa];omega)|exact zW p8 (by omega) (by omega) (by omega) (by omega) (by omega) CM hq hr (by simp (disch:=omega) only[aa];omega)|exact zW p16 (by omega) (by omega) (by omega) (by omega) (by omega) CM hq hr (by simp (disch:=omega) only[aa];omega)|exact zW p24 (by omega) (by omega) (by omega) (by omega) (by omega) CM hq hr (by simp (disch:=omega) only[aa];omega)|exact zW p32 (by omega) (by omega) (by omega) (by omega) (by omega) CM hq hr (by simp (disch:=omega) only[aa];omega)|exact zW p40 (by omega) (by omega) (by omega) (by omega) (by omega) CM hq hr (by simp (disch:=omega) only[aa];omega)|exact zW p48 (by omega) (by omega) (by omega) (by omega) (by omega) CM hq hr (by simp (disch:=omega) only[aa];omega)|exact zW p56 (by omega) (by omega) (by omega) (by omega) (by omega) CM hq hr (by simp (disch:=omega) only[aa];omega)))
 all_goals (conv=>whnf)
theorem R6 {x n:Int} (hn:1≤n∧n≤64) (h1:2 ^ (n.toNat - 1)≤x.toNat) (h2:x.toNat < 2 ^ n.toNat):(0≤64 - n∧64 - n≤63)∧9223372036854775808≤x.toNat * 2 ^ (64 - n).toNat∧x.toNat * 2 ^ (64 - n).toNat < 18446744073709551616:=by
 refine⟨by omega,?_,?_⟩
 · have h:2 ^ (n.toNat - 1) * 2 ^ (64 - n).toNat≤x.toNat * 2 ^ (64 - n).toNat:=Nat.mul_le_mul_right _ h1
   rw[←Nat.pow_add,show n.toNat - 1+(64 - n).toNat=63 by omega]at h
   exact h
 · have h:x.toNat * 2 ^ (64 - n).toNat < 2 ^ n.toNat * 2 ^ (64 - n).toNat:=Nat.mul_lt_mul_of_pos_right h2 (Nat.pow_pos (by omega))
   rw[←Nat.pow_add,show n.toNat+(64 - n).toNat=64 by omega]at h
   exact h
theorem jL (x:Int) (h0:0 < x) (h1:x < 18446744073709551616):Tg 311 [oU x] (nF (fun n=>(0≤n∧n≤63)∧9223372036854775808≤x.toNat * 2 ^ n.toNat∧x.toNat * 2 ^ n.toNat < 18446744073709551616)):=by
 refine ah (n:=6) (rs:=[.tmp 2]) Tryz.func311 acM WQ rfl rfl (by simp) ?_
 repeat' (conv=>whnf
          first
  |(refine ai rfl (Ca x h0 h1) ?_;rintro _ ⟨n,rfl,hn,pN,hx2⟩)
  |(refine pQ rfl rfl ?_;rw[aa (by omega) (by omega)];exact R6 hn pN hx2))
 all_goals (conv=>whnf)
theorem He {x:Int} (h0:0≤x) (h1:x < 18446744073709551616):IntKind.u64.wrap ((BitVec.ofInt IntKind.u64.bits x&&& BitVec.ofInt IntKind.u64.bits 4294967295).toNat:Int)=x % 4294967296:=by
 have e: ∀x:Int,0≤x→x < 18446744073709551616→(BitVec.ofInt IntKind.u64.bits x).toNat=x.toNat:=by
  intro x h0 h1
  simp only[BitVec.toNat_ofInt,IntKind.bits]
  congr 1
  omega
 rw[BitVec.toNat_and,e _ h0 h1,e _ (by omega) (by omega)]
 have h:=Nat.and_two_pow_sub_one_eq_mod x.toNat 32
 rw[show(4294967295:Int).toNat=2 ^ 32 - 1 by decide,h,u64_in (by omega) (by omega)]
 omega
theorem NT {x y X0 X1 Y0 Y1 W0 Tt W1 W2 W3 HI:Int} (je:0≤x) (hx:x < 18446744073709551616) (lf:0≤y) (hy:y < 18446744073709551616)
 (e1:X0=IntKind.u64.wrap ((BitVec.ofInt IntKind.u64.bits x&&& BitVec.ofInt IntKind.u64.bits 4294967295).toNat:Int)) (e2:X1=x.fdiv (2 ^ min (Int.toNat 32) IntKind.u64.bits)) (e3:Y0=IntKind.u64.wrap ((BitVec.ofInt IntKind.u64.bits y&&& BitVec.ofInt IntKind.u64.bits 4294967295).toNat:Int)) (e4:Y1=y.fdiv (2 ^ min (Int.toNat 32) IntKind.u64.bits))
 (e5:W0=IntKind.u64.wrap (X0 * Y0)) (e6:Tt=IntKind.u64.wrap (IntKind.u64.wrap (X1 * Y0)+W0.fdiv (2 ^ min (Int.toNat 32) IntKind.u64.bits))) (e7:W1=IntKind.u64.wrap ((BitVec.ofInt IntKind.u64.bits Tt&&& BitVec.ofInt IntKind.u64.bits 4294967295).toNat:Int)) (e8:W2=Tt.fdiv (2 ^ min (Int.toNat 32) IntKind.u64.bits))
 (e9:W3=IntKind.u64.wrap (W1+IntKind.u64.wrap (X0 * Y1))) (e10:HI=IntKind.u64.wrap (IntKind.u64.wrap (IntKind.u64.wrap (X1 * Y1)+W2)+W3.fdiv (2 ^ min (Int.toNat 32) IntKind.u64.bits))):0≤HI∧HI * 18446744073709551616≤x * y:=by
 rw[He je hx]at e1
 rw[He lf hy]at e3
 rw[t32]at e2 e4 e6 e8 e10
 obtain⟨a0,a1⟩:=tF (q:=X0) (y:=Y0) (by omega) (by omega) (by omega) (by omega)
 obtain⟨b0,b1⟩:=tF (q:=X1) (y:=Y0) (by omega) (by omega) (by omega) (by omega)
 obtain⟨c0,c1⟩:=tF (q:=X0) (y:=Y1) (by omega) (by omega) (by omega) (by omega)
 obtain⟨d0,d1⟩:=tF (q:=X1) (y:=Y1) (by omega) (by omega) (by omega) (by omega)
 have Kk:x * y=X1 * Y1 * 18446744073709551616+X1 * Y0 * 4294967296+X0 * Y1 * 4294967296+X0 * Y0:=by
  have yo:x=X1 * 4294967296+X0:=by omega
  have hyy:y=Y1 * 4294967296+Y0:=by omega
  rw[yo,hyy]
  grind
 rw[Kk]
 clear Kk e1 e2 e3 e4
 generalize X0 * Y0=p00 at *
 generalize X1 * Y0=p10 at *
 generalize X0 * Y1=p01 at *
 generalize X1 * Y1=p11 at *
 rw[u64_in a0 (by omega)]at e5
 rw[u64_in b0 (by omega),u64_in (by omega) (by omega)]at e6
 rw[He (by omega) (by omega)]at e7
 rw[u64_in c0 (by omega),u64_in (by omega) (by omega)]at e9
 rw[u64_in d0 (by omega),u64_in (n:=p11+W2) (by omega) (by omega),u64_in (by omega) (by omega)]at e10
 omega
theorem rM (x y:Int) (je:0≤x) (hx:x < 18446744073709551616) (lf:0≤y) (hy:y < 18446744073709551616): ∃ts,Fn Tryz.prog 271 [oU x,oU y] [] (aO ts) []∧(aO ts).bJ=true∧(fun ts=> ∃hi lo,ts=[oU hi,oU lo]∧(0≤hi∧hi * 18446744073709551616≤x * y)∧0≤lo∧lo < 18446744073709551616) ts:=by
 refine aG ?_
 refine ah (n:=51) (rs:=[.tmp 4, .tmp 5]) Tryz.func271 adG Xe rfl rfl (by simp) ?_
 repeat' (conv=>whnf
          first
  |(refine And.intro (by omega) ?_)
  |exact iy rfl (dw rfl) (dw rfl) ⟨_,_,rfl,NT je hx lf hy rfl rfl rfl rfl rfl rfl rfl rfl rfl rfl,iR _,kw _⟩)
 all_goals (conv=>whnf)
theorem xV {a b:Int} (BO:0≤a) (ha:a < 18446744073709551616) (hb0:0 < b) (hb:b < 4294967296):0≤IntKind.u64.wrap (a - IntKind.u64.wrap (IntKind.u64.wrap (a.tdiv b) * b))∧IntKind.u64.wrap (a - IntKind.u64.wrap (IntKind.u64.wrap (a.tdiv b) * b)) < 4294967296:=by
 obtain⟨q0,q1⟩:=Fm (n:=a) (x:=b) BO (by omega)
 have e:=Int.tdiv_eq_ediv_of_nonneg (b:=b) BO
 have h1:a / b * b≤a:=Int.ediv_mul_le _ (by omega)
 have h2:a - a / b * b < b:=by
  have:=Int.lt_ediv_add_one_mul_self a hb0
  rw[Int.add_mul,Int.one_mul]at this
  omega
 have h3:0≤a / b * b:=Int.mul_nonneg (Int.ediv_nonneg BO (by omega)) (by omega)
 rw[e]at q0 q1⊢
 rw[u64_in q0 (by omega),u64_in h3 (by omega),u64_in (by omega) (by omega)]
 omega
theorem QX {y s:Int} (lf:0 < y) (hs:0≤s∧s≤63) (h1:9223372036854775808≤y.toNat * 2 ^ s.toNat) (h2:y.toNat * 2 ^ s.toNat < 18446744073709551616):
 0 < (IntKind.u64.wrap (y * 2 ^ (min (IntKind.u64.wrap s).toNat IntKind.u64.bits))).fdiv (2 ^ min (Int.toNat 32) IntKind.u64.bits)∧(IntKind.u64.wrap (y * 2 ^ (min (IntKind.u64.wrap s).toNat IntKind.u64.bits))).fdiv (2 ^ min (Int.toNat 32) IntKind.u64.bits) < 4294967296:=by
 rw[u64_in (n:=s) (by omega) (by omega),t32]
 have e:min s.toNat IntKind.u64.bits=s.toNat:=by simp only[IntKind.bits];omega
 rw[e]
 have e2:y * 2 ^ s.toNat=((y.toNat * 2 ^ s.toNat:Nat):Int):=by
  rw[Int.natCast_mul,Int.natCast_pow]
  congr 1
  omega
 rw[e2]
 generalize y.toNat * 2 ^ s.toNat=z at *
 rw[u64_in (by omega) (by omega)]
 omega
def RDv (m:Nat) (vs:List V):Prop:= ∃q r:Int,0≤r∧r < 4294967296∧m=4294967296 - r.toNat∧vs=[iV .u64 q,iV .u64 r]
theorem RDv.next {q r b:Int} (h0:0≤r) (h1:r < 4294967296) (hb0:0 < b) (hb:b < 4294967296) (h:¬IntKind.u64.wrap (r+b)≥4294967296):RDv (4294967296 - (r+b).toNat) [iV .u64 q,iV .u64 (IntKind.u64.wrap (r+b))]:=by
 rw[u64_in (by omega) (by omega)]at h⊢
 exact⟨q,r+b,by omega,by omega,rfl,rfl⟩
def RDw (m:Nat) (vs:List V):Prop:= ∃r q:Int,0≤r∧r < 4294967296∧m=4294967296 - r.toNat∧vs=[iV .u64 r,iV .u64 q]
theorem RDw.next {q r b:Int} (h0:0≤r) (h1:r < 4294967296) (hb0:0 < b) (hb:b < 4294967296) (h:¬IntKind.u64.wrap (r+b)≥4294967296):RDw (4294967296 - (r+b).toNat) [iV .u64 (IntKind.u64.wrap (r+b)),iV .u64 q]:=by
 rw[u64_in (by omega) (by omega)]at h⊢
 exact⟨r+b,q,by omega,by omega,rfl,rfl⟩
theorem ayN (y:Int) (h0:0 < y) (h1:y < 18446744073709551616):HH 311 [oU y] (nF (fun s=>(0 < (IntKind.u64.wrap (y * 2 ^ (min (IntKind.u64.wrap s).toNat IntKind.u64.bits))).fdiv (2 ^ min (Int.toNat 32) IntKind.u64.bits)∧(IntKind.u64.wrap (y * 2 ^ (min (IntKind.u64.wrap s).toNat IntKind.u64.bits))).fdiv (2 ^ min (Int.toNat 32) IntKind.u64.bits) < 4294967296))):=by
 obtain⟨ts,a,b,n,c,hs,d,e⟩:=jL y h0 h1
 exact⟨ts,a,b,n,c,QX h0 hs d e⟩
theorem rP (hi lo y:Int) (hh0:0≤hi) (hh:hi < y) (Oj:0≤lo) (hl:lo < 18446744073709551616) (hy:y < 18446744073709551616): ∃ts,Fn Tryz.prog 272 [oU hi,oU lo,oU y] [] (aO ts) []∧(aO ts).bJ=true∧(fun ts=> ∃a b,ts=[oU a,oU b]) ts:=by
 refine aG ?_
 refine ah (n:=135) (rs:=[.tmp 6, .tmp 7]) Tryz.func272 adF Xd rfl rfl (by simp) ?_
 repeat' (conv=>whnf
          first
  |(refine az (fun h=>?_) (fun h=>?_))
  |(refine And.intro (iR _) ?_)
  |(refine And.intro (show(0:Int)≤32 by omega) ?_)
  |(refine And.intro (show y≠0 by omega) ?_)
  |(refine And.intro (Int.ne_of_gt hb0) ?_)
  |(refine And.intro (by kernel_rfl) ?_)
  |(refine ai rfl (ayN y (by omega) hy) ?_;rintro _ ⟨s,rfl,hb0,vT⟩)
  |exact iy rfl (dw rfl) (dw rfl) ⟨_,_,rfl⟩
  |(apply aK [2,8,9,10,14,15,16,17,18] [] [16,18] (RDw) (_) [_,_];(conv=>whnf);exact⟨rfl,rfl,rfl,rfl⟩;exact rfl;exact rfl;exact⟨_,_,(xV (iR _) (kw _) hb0 vT).1,(xV (iR _) (kw _) hb0 vT).2,rfl,rfl⟩;rintro _ _ ⟨r,q,tR,qT,hmr,rfl⟩)
  |(refine aq [2,8,9,10,14,15,16,17,18] [] ?_;(conv=>whnf);exact⟨rfl,_,[_,_],RDw.next tR qT hb0 vT h,rfl,rfl,rfl,by omega⟩)
  |(apply aK [2,8,9,10,11,13,14,15,16] [] [15,16] (RDv) (_) [_,_];(conv=>whnf);exact⟨rfl,rfl,rfl,rfl⟩;exact rfl;exact rfl;exact⟨_,_,(xV (iR _) (kw _) hb0 vT).1,(xV (iR _) (kw _) hb0 vT).2,rfl,rfl⟩;rintro _ _ ⟨q,r,tR,qT,hmr,rfl⟩)
  |(refine aq [2,8,9,10,11,13,14,15,16] [] ?_;(conv=>whnf);exact⟨rfl,_,[_,_],RDv.next tR qT hb0 vT h,rfl,rfl,rfl,by omega⟩)
  |(exfalso;omega))
 all_goals (conv=>whnf)
theorem RB {f t a hi:Int} (hf:1≤f) (BO:0≤a) (ha:a≤f) (ht0:0≤t) (ht:t≤1099511627776) (hh:hi * 18446744073709551616≤IntKind.u64.wrap a * IntKind.u64.wrap t) (D6:f≤1099511627776):hi < IntKind.u64.wrap f:=by
 rw[u64_in BO (by omega),u64_in ht0 (by omega)]at hh
 rw[u64_in (by omega) (by omega)]
 have h1:a * t≤f * t:=Int.mul_le_mul_of_nonneg_right ha ht0
 have h2:f * t≤f * 1099511627776:=Int.mul_le_mul_of_nonneg_left ht (by omega)
 omega
def GIX (ts:List W):Prop:= ∃n e,ts=[oI n,oI e]
theorem xQ (f t:Int) (rv:Bool) (a:Int):Tg 229 [oI f,oI t,oB rv,oI a] GIX:=by
 refine aG ?_
 refine ah (n:=68) (rs:=[.tmp 8, .tmp 9]) Tryz.func229 adX Xv rfl rfl (by simp) ?_
 repeat' (conv=>whnf
          first
  |(refine az (fun h=>?_) (fun h=>?_))
  |(refine aB (fun h=>?_) (fun h=>?_))
  |(refine ai rfl (rM _ _ (iR _) (kw _) (iR _) (kw _)) ?_;rintro _ ⟨hi,lo,rfl,⟨hh0,hh⟩,Oj,hl⟩)
  |(refine ai rfl (rP hi lo _ hh0 (RB (by omega) (by omega) (by omega) (by omega) (by omega) hh (by omega)) Oj hl (kw _)) ?_;rintro _ ⟨q,r,rfl⟩)
  |exact iy rfl (dw rfl) (dw rfl) ⟨_,_,rfl⟩)
 all_goals (conv=>whnf)
end Go.aU.Cd
end
section
namespace Go.aU.Cd
open Go Go.Proofs
set_option maxRecDepth 100000
set_option maxHeartbeats 2000000
def ZX:Rc:=Sq (Rg [Bx 2 0,p 4 (.alloc [zi,zi])]) (Sq (Dr [Fa 6 0 2,Ld 7 6,Mv 8 1,Fa 9 0 2,Ld 10 9,Le 11 10,Bt 12 .rem 8 11,Ia 13 2 7 12,Lo 2 14 13,p 5 (.alloc [zi,zi]),So 2 5 14] [[],[0],[],[],[3],[4],[2,5],[1,6],[7],[],[9,8,0,1,2,3,4,5,6,7,8,9]]) (Sq (Rg [Fa 15 1 2,Ld 16 15,Fa 17 0 5,Ld 18 17,Bt 19 .mul 16 18,Fa 20 1 2,Ld 21 20,Fa 22 1 5,Ld 23 22,Bt 24 .mul 21 23,p 25 (.build [zi,zi] [(0,1,t 19),(1,1,t 24)]),So 2 4 25]) Rt))
theorem XT:ae Tryz.prog (Tryz.f180.body.getD .skip)=some ZX:=by kernel_rfl
theorem aeU:Tryz.f180.body=some (Tryz.f180.body.getD .skip):=rfl
def ZW:Rc:=Sq (Rg [Bx 4 1,Bx 5 2,Mn 6]) (Sq (Rg [Mv 11 0,Le 12 11,Bi 13 .sub 12 1,Mv 7 13]) (Sq (Rg [Mv 14 0,Le 15 14,p 16 (.make [zi,zi] 16 (t 15) (t 15)),Mv 8 16]) (Sq (Sq (Rg [Mv 17 0,Le 18 17,Mk 19 0]) (Bk 0 (Lp (Sq (Rg [Bt 20 .lss 19 18]) (Sq (Cn 20 Sk (Ex 0)) (Sq (Bk 1 (Sq (Rg [Mv 21 19,Ia 22 2 17 19,Lo 2 23 22,p 10 (.alloc [zi,zi]),Mv 9 21,So 2 10 23]) (Dr [Mv 24 8,Mv 25 9,Fa 26 0 10,Ld 27 26,Mv 28 7,Mv 29 9,Bt 30 .sub 28 29,Fa 31 0 4,Ld 32 31,Bt 33 .mul 30 32,Mv 34 9,Fa 35 0 5,Ld 36 35,Bt 37 .mul 34 36,Bt 38 .add 33 37,Mv 39 7,p 40 (.call 227 [t 38,t 39]),Bt 41 .add 27 40,Fa 42 1 10,Ld 43 42,Mv 44 7,Mv 45 9,Bt 46 .sub 44 45,Fa 47 1 4,Ld 48 47,Bt 49 .mul 46 48,Mv 50 9,Fa 51 1 5,Ld 52 51,Bt 53 .mul 50 52,Bt 54 .add 49 53,Mv 55 7,p 56 (.call 227 [t 54,t 55]),Bt 57 .add 43 56,p 58 (.build [zi,zi] [(0,1,t 41),(1,1,t 57)]),Ia 59 2 24 25,So 2 59 58] [[],[],[],[2],[],[],[4,5],[],[7],[6,8],[],[],[11],[10,12],[9,13],[],[14,15],[3,16],[],[18],[],[],[20,21],[],[23],[22,24],[],[],[27],[26,28],[25,29],[],[30,31,16],[19,32],[17,33],[0,1,0,1,2,3,4,5,6,7,8,9,10,11,12,13,14,15,16,17,18,19,20,21,22,23,24,25,26,27,28,29,30,31,32,33,34],[35,34,32,0,1,2,3,4,5,6,7,8,9,10,11,12,13,14,15,16,17,18,19,20,21,22,23,24,25,26,27,28,29,30,31,32,33,34]]))) (Rg [Bi 60 .add 19 1,Mv 19 60]))))))) (Sq (Rg [Mv 61 8,Mv 6 61]) Rt))))
theorem XS:ae Tryz.prog (Tryz.f181.body.getD .skip)=some ZW:=by kernel_rfl
theorem aeT:Tryz.f181.body=some (Tryz.f181.body.getD .skip):=rfl
def aaN:Rc:=Sq (Rg [Bx 2 0,Mn 4,Mk 5 0]) (Sq (Sq (Rg [Mv 14 1,p 15 (.call 178 [t 14,(k 100)]),Nt 16 15]) (Cn 16 (Sq (Rg [Mn 4,Mk 5 3]) Rt) Sk)) (Sq (Sq (Rg [Fa 17 4 2,Ld 18 17,Le 19 18,Fa 20 1 2,Ld 21 20,Le 22 21,Bt 23 .neq 19 22]) (Cn 23 (Sq (Rg [Mn 4,Mk 5 1]) Rt) Sk)) (Sq (Sq (Rg [Fa 24 4 2,Ld 25 24,Le 26 25,Mk 27 0]) (Bk 0 (Lp (Sq (Rg [Bt 28 .lss 27 26]) (Sq (Cn 28 Sk (Ex 0)) (Sq (Bk 1 (Sq (Rg [Ia 29 2 25 27,Lo 2 30 29,p 7 (.alloc [zi,zi]),So 2 7 30]) (Sq (Rg [Fa 31 0 7,Ld 32 31,p 33 (.call 178 [t 32,(k 1000)]),Nt 34 33,Mv 35 34,Ga 35 (Fa 36 1 7),Ga 35 (Ld 37 36),Ga 35 (p 38 (.call 178 [t 37,(k 1000)])),Ga 35 (Nt 39 38),Pt 40 35 39]) (Cn 40 (Sq (Rg [Mn 4,Mk 5 3]) Rt) Sk)))) (Rg [Bi 41 .add 27 1,Mv 27 41]))))))) (Sq (Sq (Rg [Fa 42 1 2,Ld 43 42,p 44 (.call 179 [t 43]),Mv 8 44]) (Sq (Rg [Mv 45 8,Bi 46 .neq 45 0]) (Cn 46 (Sq (Rg [Mv 47 8,Mn 4,Mv 5 47]) Rt) Sk))) (Sq (Rg [Fa 48 4 2,Ld 49 48,Mv 50 1,p 51 (.build [zn,zi] [(0,1,t 49),(1,1,t 50)]),p 52 (.raw (.makeFunc (.func 180) #[(.tmp 51)] #[]) 268),Mv 9 52]) (Sq (Rg [Mn 10]) (Sq (Sq (Rg [Fa 53 1 2,Ld 54 53,Le 55 54,Mk 56 0]) (Bk 2 (Lp (Sq (Rg [Bt 57 .lss 56 55]) (Sq (Cn 57 Sk (Ex 2)) (Sq (Bk 3 (Sq (Rg [Mv 58 56,Ia 59 2 54 56,Lo 2 60 59,p 12 (.alloc [.t (.val (.string ⟨#[]⟩)),zn]),Mv 11 58,So 2 12 60]) (Dr [Mv 61 10,Fa 62 0 12,Ld 63 62,Fa 64 1 12,Ld 65 64,Mv 66 9,Mv 67 11,p 68 (.fp (t 66) [t 67]),Mv 69 9,Mv 70 11,Bi 71 .add 70 1,p 72 (.fp (t 69) [t 71]),p 73 (.call 181 [t 65,t 68,t 72]),p 74 (.build [.t (.val (.string ⟨#[]⟩)),zn] [(0,1,t 63),(1,1,t 73)]),p 75 (.aT [.t (.val (.string ⟨#[]⟩)),zn] 1 [(0,t 74)]),p 76 (.append 2 40 (t 61) (t 75)),Mv 10 76] [[],[],[1],[],[3],[],[],[5,6],[],[],[9],[8,10,7],[4,7,11,11],[2,12],[13],[0,14,12],[15,15,0,1,2,3,4,5,6,7,8,9,10,11,12,13,14,15]]))) (Rg [Bi 77 .add 56 1,Mv 56 77]))))))) (Sq (Sq (Rg [Mv 78 10,p 79 (.call 179 [t 78]),Mv 13 79]) (Sq (Rg [Mv 80 13,Bi 81 .neq 80 0]) (Cn 81 (Sq (Rg [Mv 82 13,Mn 4,Mv 5 82]) Rt) Sk))) (Sq (Rg [Mv 83 10,Mv 4 83,Mk 5 0]) Rt)))))))))
theorem Yl:ae Tryz.prog (Tryz.f125.body.getD .skip)=some aaN:=by kernel_rfl
theorem afU:Tryz.f125.body=some (Tryz.f125.body.getD .skip):=rfl
theorem Q5 {n f ty ctr t:Nat} {tm:TS} {hp:HS} {ts:List T} {K:V→HS→Prop} (h:find tm t=some (.w (.agg (ts.map .t)))) (hk:K (.w (.one (.yY f true ts))) hp):
 ∃v hp',gQ Tryz.prog n (.makeFunc (.func f) #[.tmp t] #[]) ty tm hp ctr v hp'∧K v hp':=by
 refine⟨_,_,?_,hk⟩
 rintro⟨dst',op',ty',pos',after',guard'⟩ rfl rfl
 intro M A ρ a w hr
 have hv:=hr.tmps t _ h
 have hrun:(execOp a.eval ⟨dst', .makeFunc (.func f) #[.tmp t] #[],ty',pos',after',guard'⟩).run Tryz.prog w= .ok (.value (.func (.func f) #[a.eval (.tmp t)] #[])) w:=by
  simp[execOp,Instr.makeFunc]
 refine⟨_,_,A,ρ, .inl hrun,hr.sub (fun id bG=>by simp only[aZ]at bG⊢;omega),⟨⟨_,rfl,?_⟩,rfl⟩,cz.refl _ _,cC.refl _,bq.refl _ _⟩
 obtain⟨vs,h1,h2,h3⟩:=hv
 refine⟨vs,h1,by simpa using h2,fun k x y hx hy=>?_⟩
 have:=h3 k (.t x) y (by simp[hx]) hy
 exact⟨this.1,this.2⟩
theorem Sb {hp:HS} {id sz len:Nat} {rows:List (List C)} {xs:Lz} (hf:find hp id=some (.row sz rows)) (hR:aL rows xs) (hl:len=xs.length):bB (bH hp) [.one (.own id sz 0 len)]=some [.one (.t (.ao sz xs))]:=by
 have:=kK (hp:=hp) (i:=0) hf hR (by omega:0+len≤xs.length)
 simp only[bB,this]
 simp[hl]
theorem FB {k s B C:Int} (hk:0≤k) (F8:k≤C) (h1: -B≤s) (h2:s≤B) (hB:0≤B): -(C * B)≤k * s∧k * s≤C * B:=by
 have a1:k * s≤k * B:=Int.mul_le_mul_of_nonneg_left h2 hk
 have a2:k * B≤C * B:=Int.mul_le_mul_of_nonneg_right F8 hB
 have a3:k * (-B)≤k * s:=Int.mul_le_mul_of_nonneg_left h1 hk
 rw[Int.mul_neg]at a3
 omega
theorem DR {m s B C:Int} (hm1: -C≤m) (rT:m≤C) (h1: -B≤s) (h2:s≤B) (hB:0≤B): -(C * B)≤m * s∧m * s≤C * B:=by
 rcases Int.le_total 0 m with h|h
 · exact FB h rT h1 h2 hB
 · have:=FB (k:= -m) (s:=s) (B:=B) (C:=C) (by omega) (by omega) h1 h2 hB
   rw[Int.neg_mul]at this
   omega
def Shf (B:Int) (e:List T):Prop:= ∃a b,e=[tI a,tI b]∧(-B≤a∧a≤B)∧(-B≤b∧b≤B)
abbrev Wi (B:Int) (s:Sp):Prop:=(-B≤s.1∧s.1≤B)∧(-B≤s.2∧s.2≤B)
theorem yI (cs:Lz) (m i:Int) (hc: ∀e,e∈cs→Shf 1000 e) (hl:0 < cs.length) (hm:cs.length≤16) (hi:0≤i) (hm1: -100≤m) (rT:m≤100):Tg 180 [.agg [.t (.ao 2 cs), .t (tI m)],oI i] (PP (Wi 100000)):=by
 refine ah (n:=26) (rs:=[.cell 4 64]) Tryz.func180 aeU XT rfl rfl (by simp) ?_
 repeat' (conv=>whnf
          first
  |(refine ap hc (cj hi) (bW (by omega)) ?_;rintro _ ⟨a,b,rfl,⟨Qy,HE⟩,vT,pP⟩ hs)
  |(refine And.intro (show((cs.length:Nat):Int)≠0 by omega) ?_)
  |(refine And.intro (by kernel_rfl) ?_)
  |(have e1:=DR hm1 rT Qy HE (by omega);have e2:=DR hm1 rT vT pP (by omega);exact gSp rfl rfl rfl (by simp) rfl ⟨by simp only;rw[bO (by omega) (by omega)];omega,by simp only;rw[bO (by omega) (by omega)];omega⟩))
 all_goals (conv=>whnf)
theorem J8 {xs:Lz} {k:Nat} {a b:Int} (hL:dO xs) (hk:(k:Int) < (xs.length:Int)) (ha: -100000≤a∧a≤100000) (hb: -100000≤b∧b≤100000): -1000000000000000≤IntKind.i64.wrap (IntKind.i64.wrap (IntKind.i64.wrap (IntKind.i64.wrap ((xs.length:Int) - 1) - (k:Int)) * a)+IntKind.i64.wrap ((k:Int) * b)):=by
 have h1:=hL.1
 have h2:=hL.2.1
 rw[bO (n:=(xs.length:Int) - 1) (by omega) (by omega),bO (n:=(xs.length:Int) - 1 - (k:Int)) (by omega) (by omega)]
 have e1:=FB (k:=(xs.length:Int) - 1 - (k:Int)) (s:=a) (C:=40) (by omega) (by omega) ha.1 ha.2 (by omega)
 have e2:=FB (k:=(k:Int)) (s:=b) (C:=40) (by omega) (by omega) hb.1 hb.2 (by omega)
 rw[bO (n:=((xs.length:Int) - 1 - (k:Int)) * a) (by omega) (by omega),bO (n:=(k:Int) * b) (by omega) (by omega),bO (by omega) (by omega)]
 omega
theorem xP {xs:Lz} (hL:dO xs):0 < IntKind.i64.wrap ((xs.length:Int) - 1)∧IntKind.i64.wrap ((xs.length:Int) - 1)≤1000000000000:=by
 have h1:=hL.1
 have h2:=hL.2.1
 rw[bO (by omega) (by omega)]
 omega
theorem Ar (xs:Lz) (a b:Sp) (hL:dO xs) (ha:Wi 100000 a) (hb:Wi 100000 b):Tg 181 [oL 2 xs,gD a,gD b] (GL 2 (fun ys=>ys.length=xs.length∧cq ys)):=by
 have hx:=hL.E8
 have hl:=hL.2.1
 refine ah (n:=62) (rs:=[.tmp 6]) Tryz.func181 aeT XS rfl rfl (by simp) ?_
 repeat' (conv=>whnf
          first
  |(refine az (fun h=>?_) (fun h=>?_))
  |(refine And.intro ⟨by omega,by omega,by omega,by omega⟩ ?_)
  |(refine And.intro ⟨by omega,by omega⟩ ?_)
  |(refine ap hx (by first|omega|exact cj (by first|omega|(simp (disch:=omega) only[aa];omega))|(simp (disch:=omega) only[aa];omega)) (by first|omega|exact bW (by omega)|(simp (disch:=omega) only[aa];omega)) ?_;rintro _ ⟨c,d,rfl⟩ hs)
  |(refine And.intro (by kernel_rfl) ?_)
  |(refine Cf hc (by omega) ?_;rintro _ ⟨c,d,rfl⟩ hs)
  |(refine au rfl (nu _ _ (J8 hL (by omega) ha.1 hb.1) (xP hL).1 (xP hL).2) ?_;rintro _ ⟨n,rfl⟩)
  |(refine au rfl (nu _ _ (J8 hL (by omega) ha.2 hb.2) (xP hL).1 (xP hL).2) ?_;rintro _ ⟨n,rfl⟩)
  |exact gL rfl rfl rfl (by omega) hc (fun ys h1 h2=>⟨by omega,h2⟩)
  |(apply gS [4,5,7,8,17,18,19] [] [19] (fun m vs hq=> ∃ (i:Nat) (rows:List (List C)),i≤xs.length∧m=xs.length - i∧vs=[iV .i64 (i:Int)]∧hq=[(4, .row 2 [[.t (tI a.1), .t (tI a.2)]]),(8, .row 2 [[.t (tI b.1), .t (tI b.2)]]),(12, .row 2 rows)]∧rows.length=xs.length∧jQ JH rows) (xs.length) [iV .i64 0];(conv=>whnf);exact⟨rfl,rfl,rfl,rfl⟩;exact rfl;exact rfl;exact⟨0,_,by omega,rfl,rfl,rfl,by simp,(jQ.replicate (e:=[tI 0,tI 0]) ⟨0,0,rfl⟩).aF _⟩;rintro _ _ _ ⟨i,rows,hi,rfl,rfl,rfl,hr,hc⟩)
  |(refine aq [4,5,7,8,17,18,19] [] ?_;(conv=>whnf);exact⟨rfl,_,[_],⟨i+1,_,by omega,rfl,by rw[aa (n:=(i:Int)+1) (by omega) (by omega)];rfl,rfl,by simp[hr],(jQ.set hc (e:=[tI _,tI _]) ⟨_,_,rfl⟩).aF _⟩,rfl,rfl,by omega⟩))
 all_goals (conv=>whnf)
end Go.aU.Cd
end
section
namespace Go.aU.Cd
open Go Go.Proofs
set_option maxRecDepth 100000
set_option maxHeartbeats 800000
abbrev RO (nm:T) (es:Lz) (g:T) (ns cs ws:Lz) (mt:T):W:= .agg [.t nm, .t (.ao 2 es), .t g, .t (.ao 2 ns), .t (.ao 2 cs), .t (.ao 1 ws), .t mt]
theorem Cl {n B:Int} {b:Bool} (hB:0≤B∧B≤1000000) (hw:b=true↔(IntKind.i64.wrap (0 - B)≤n∧n≤B)) (h:(!b)=false): -B≤n∧n≤B:=by
 have:b=true:=by simpa using h
 have:=hw.1 this
 rw[bO (by omega) (by omega)]at this
 omega
def JC (cs:Lz) (i:Nat):Prop:= ∀j e,j < i→cs[j]? =some e→Shf 1000 e
theorem JC.all {cs:Lz} {i:Nat} (h:JC cs i) (hi:cs.length≤i): ∀e,e∈cs→Shf 1000 e:=by
 intro e he
 obtain⟨j,hj,rfl⟩:=List.getElem_of_mem he
 exact h j _ (by omega) (by simp[hj])
def Jt (cs:Lz) (m:Nat) (vs:List V):Prop:= ∃i:Nat,i≤cs.length∧JC cs i∧m=cs.length - i∧vs=[iV .i64 (i:Int)]
theorem Jt.next {cs:Lz} {i:Nat} {a b:Int} (hi:(i:Int) < (cs.length:Int)) (hl:cs.length≤maxLen) (h:JC cs i) (hs:cs[((i:Int)).toNat]? =some [tI a,tI b]) (ha: -1000≤a∧a≤1000) (hb: -1000≤b∧b≤1000):Jt cs (cs.length - (i+1)) [iV .i64 (IntKind.i64.wrap ((i:Int)+1))]:=by
 refine⟨i+1,by omega,fun j e hj he=>?_,rfl,by simp only[maxLen]at hl;rw[bO (by omega) (by omega)];rfl⟩
 by_cases fk:j=i
 · subst fk
   have hs':cs[j]? =some [tI a,tI b]:=by simpa using hs
   rw[hs']at he
   exact⟨a,b,(Option.some.inj he).symm,ha,hb⟩
 · exact h j e (by omega) he
def PE (e:List T):Prop:= ∃s xs,e=[.val (.string s), .ao 2 xs]∧s.size≤maxLen∧dO xs
theorem RA {es:Lz} (he:jd es) (hO: ∀e,e∈es→AT e): ∀e,e∈es→PE e:=by
 intro e h
 obtain⟨s,xs,h1,h2,_⟩:=he e h
 obtain⟨s',xs',Gl,QC⟩:=hO e h
 rw[h1]at Gl
 simp only[List.cons.injEq,T.val.injEq,Value.string.injEq,T.ao.injEq,true_and,and_true]at Gl
 obtain⟨rfl,rfl⟩:=Gl
 exact⟨s,xs,h1,h2,QC⟩
def RGr (es:Lz) (m:Nat) (ws:List V) (xss:List (Lz)):Prop:= ∃ (i:Nat) (zs:Lz),i≤es.length∧m=es.length - i∧ws=[bK 4 2 zs.length,iV .i64 (i:Int)]∧xss=[zs]∧zs.length=i∧jd zs
theorem RGr.next {es zs:Lz} {i k:Nat} {s:ByteArray} {xs ys:Lz} (hi:(i:Int) < (es.length:Int)) (he:es.length≤16) (hz:zs.length=i) (hE:jd zs) (hs:s.size≤maxLen) (hL:dO xs) (hy:ys.length=xs.length) (hys:cq ys) (hk:k=zs.length+1):RGr es (es.length - (i+1)) [bK 4 2 k,iV .i64 (IntKind.i64.wrap ((i:Int)+1))] [zs++[[.val (.string s), .ao 2 ys]]]:=by
 refine⟨i+1,_,by omega,rfl,by rw[bO (by omega) (by omega),hk];simp,rfl,by simp[hz],?_⟩
 intro e he'
 simp only[List.mem_append,List.mem_singleton]at he'
 rcases he' with he'|rfl
 · exact hE e he'
 · exact⟨s,ys,rfl,hs,hys,by have:=hL.2.1;simp only[maxLen];omega⟩
theorem Df {zs:Lz}:(zs.drop 0).take zs.length=zs:=by simp
theorem kJ (nm:T) (es:Lz) (g:T) (ns cs ws:Lz) (mt:T) (m:Int) (he:jd es) (hm:es.length≤maxLen) (hc:cq cs) (ee:cs.length≤maxLen):Tg 125 [RO nm es g ns cs ws mt,oI m] (JM 2 (fun gs=>(rz gs∧jd gs∧gs.length=es.length)∧rz es)):=by
 refine aG ?_
 refine ah (n:=84) (rs:=[.tmp 4, .tmp 5]) Tryz.func125 afU Yl rfl rfl (by simp) ?_
 repeat' (conv=>whnf
          first
  |(refine az (fun h=>?_) (fun h=>?_))
  |(refine cv (fun h=>?_) (fun h=>?_))
  |(refine aB (fun h=>?_) (fun h=>?_))
  |(refine ap hc (by omega) (by omega) ?_;rintro _ ⟨a,b,rfl⟩ hs)
  |(refine ap (RA he (hO (by omega)).2.1) (by omega) (by omega) ?_;rintro _ ⟨s,xs,rfl,hsz,hL⟩ hse)
  |(refine And.intro ⟨by simp[tr],by have:=(hO (by omega)).1.2;simp[tr,bR];omega,by have:=(hO (by omega)).1.2;simp[tr,maxLen];omega⟩ ?_)
  |(refine And.intro (by kernel_rfl) ?_)
  |(refine ai rfl (yH _ _) ?_;rintro _ ⟨wb,rfl,hw⟩)
  |(refine ai rfl (jJ es he hm) ?_;rintro _ ⟨e,rfl,hO⟩)
  |(refine au rfl (yI cs m _ (hp.all (by omega)) (by omega) (by have:=(hO (by omega)).1.2;omega) (by first|omega|(have:=(hO (by omega)).1.2;rw[bO (by omega) (by omega)];omega)) (Cl (B:=100) (by omega) hw (by assumption)).1 (Cl (B:=100) (by omega) hw (by assumption)).2) ?_;rintro _ ⟨x,y,rfl,Sj⟩)
  |(refine Q5 (ts:=[.ao 2 cs,tI m]) rfl ?_)
  |(refine au rfl (Ar xs (_,_) (_,_) hL (by assumption) (by assumption)) ?_;rintro _ ⟨ys,rfl,hy,hys⟩)
  |(refine sM (Sb (xs:=zs) rfl rfl rfl) (jJ zs hE (by have:=(hO (by omega)).1.2;simp only[maxLen];omega)) ?_ ?_;(rintro _ ⟨e2,rfl,hO2⟩;rfl);rintro _ ⟨e2,rfl,hO2⟩)
  |exact iy rfl (dR 2 rfl) (dw rfl) ⟨_,_,rfl,fun h0=>absurd h0 (by omega)⟩
  |exact iy rfl (fg rfl rfl (xs:=zs) rfl (by omega)) (dw rfl) ⟨_,_,rfl,fun _=>by rw[Df];exact⟨⟨hO2 (by omega),hE,by omega⟩,hO (by omega)⟩⟩
  |(apply eN [9,10,54,55,56] [] [10,56] [(4,2)] (RGr es) (es.length) [bK 4 2 0,iV .i64 0] (iA.jh 10 2 rfl);(conv=>whnf);exact⟨rfl,rfl,rfl,rfl⟩;exact rfl;exact rfl;exact .cons (aL.aF aL.nil _) .nil;exact⟨0,[],by omega,rfl,rfl,rfl,rfl,fun e he=>by simp at he⟩;rintro _ _ _ ⟨i2,zs,EF,rfl,rfl,rfl,hz,hE⟩)
  |(refine aq [9,10,54,55,56] [] ?_;(conv=>whnf);exact⟨rfl,_,[_,_],_, .cons (aL.aF (aL.snoc (xs:=zs) rfl [.val (.string s), .ao 2 ys]) _) .nil,RGr.next (by omega) (hO (by omega)).1.2 hz hE hsz hL hy hys (by simp[tr]),rfl,rfl,by omega⟩)
  |(apply aK [1,2,25,26,27] [] [27] (Jt cs) (cs.length) [iV .i64 0];(conv=>whnf);exact⟨rfl,rfl,rfl,rfl⟩;exact rfl;exact rfl;exact⟨0,by omega,fun j e hj=>by omega,rfl,rfl⟩;rintro _ _ ⟨i,hi,hp,rfl,rfl⟩)
  |(refine aq [1,2,25,26,27] [] ?_;(conv=>whnf);exact⟨rfl,_,[_],Jt.next (by omega) ee hp hs (Cl (by omega) (by assumption) (by assumption)) (Cl (by omega) (by assumption) (by assumption)),rfl,rfl,rfl,by omega⟩))
 all_goals (conv=>whnf)
end Go.aU.Cd
end
section
namespace Go.aU.Cd
open Go Go.Proofs
set_option maxRecDepth 100000
set_option maxHeartbeats 1000000
def ZV:Rc:=Sq (Rg [Bx 2 0,Mn 4,Mn 5,Mk 6 0]) (Sq (Rg [Lo 7 17 2,Mv 18 1,p 19 (.call 125 [t 17,t 18]),Mv 16 19,Et 20 16 0,Et 21 16 1,Mv 7 20,Mv 8 21]) (Sq (Sq (Rg [Mv 22 8,Bi 23 .neq 22 0]) (Cn 23 (Sq (Rg [Mv 24 8,Mn 4,Mn 5,Mv 6 24]) Rt) Sk)) (Sq (Sq (Rg [Fa 25 3 2,Ld 26 25,Le 27 26,Bi 28 .gtr 27 16]) (Cn 28 (Sq (Rg [Mn 4,Mn 5,Mk 6 5]) Rt) Sk)) (Sq (Rg [Mn 9]) (Sq (Sq (Rg [Fa 29 3 2,Ld 30 29,Le 31 30,Mk 32 0]) (Bk 0 (Lp (Sq (Rg [Bt 33 .lss 32 31]) (Sq (Cn 33 Sk (Ex 0)) (Sq (Bk 1 (Sq (Rg [Ia 34 2 30 32,Lo 2 35 34,p 11 (.alloc [zi,zi]),So 2 11 35]) (Sq (Sq (Rg [Fa 36 0 11,Ld 37 36,Bi 38 .lss 37 0,Mv 39 38,Ga 39 (Fa 40 0 11),Ga 39 (Ld 41 40),Ga 39 (Fa 42 1 2),Ga 39 (Ld 43 42),Ga 39 (Le 44 43),Ga 39 (Bt 45 .geq 41 44),Pt 46 39 45]) (Cn 46 (Sq (Rg [Mn 4,Mn 5,Mk 6 3]) Rt) Sk)) (Sq (Rg [Fa 48 1 2,Ld 49 48,Fa 50 0 11,Ld 51 50,Ia 52 2 49 51,Fa 53 1 52,Ld 54 53,p 55 (.call 228 [t 54]),Mv 47 55,Et 56 47 0,Et 57 47 1,Mv 12 56,Mv 13 57]) (Sq (Sq (Rg [Mv 58 13,Bi 59 .neq 58 0]) (Cn 59 (Sq (Rg [Mv 60 13,Mn 4,Mn 5,Mv 6 60]) Rt) Sk)) (Sq (Rg [Mv 62 7,Fa 63 0 11,Ld 64 63,Ia 65 2 62 64,Fa 66 1 65,Ld 67 66,p 68 (.call 228 [t 67]),Mv 61 68,Et 69 61 0,Et 70 61 1,Mv 14 69,Mv 13 70]) (Sq (Sq (Rg [Mv 71 13,Bi 72 .neq 71 0]) (Cn 72 (Sq (Rg [Mv 73 13,Mn 4,Mn 5,Mv 6 73]) Rt) Sk)) (Sq (Rg [Mv 75 12,Mv 76 14,Fa 77 1 11,Ld 78 77,p 79 (.call 229 [t 75,t 76,(kb false),t 78]),Mv 74 79,Et 80 74 0,Et 81 74 1,Mv 15 80,Mv 13 81]) (Sq (Sq (Rg [Mv 82 13,Bi 83 .neq 82 0]) (Cn 83 (Sq (Rg [Mv 84 13,Mn 4,Mn 5,Mv 6 84]) Rt) Sk)) (Rg [Mv 85 9,Mv 86 15,p 87 (.aT [zi] 1 [(0,t 86)]),p 88 (.append 1 8 (t 85) (t 87)),Mv 9 88])))))))))) (Rg [Bi 89 .add 32 1,Mv 32 89]))))))) (Sq (Rg [Mv 90 9,Mv 91 7,Mv 4 90,Mv 5 91,Mk 6 0]) Rt))))))
theorem XQ:ae Tryz.prog (Tryz.f182.body.getD .skip)=some ZV:=by kernel_rfl
theorem aeS:Tryz.f182.body=some (Tryz.f182.body.getD .skip):=rfl
def aaM:Rc:=Sq (Rg [Bx 2 0,Mn 4,Mk 5 0]) (Sq (Rg [Lo 7 10 2,Mv 11 1,p 12 (.call 182 [t 10,t 11]),Mv 9 12,Et 13 9 0,Et 14 9 1,Et 15 9 2,Mv 6 13,Mv 7 14,Mv 8 15]) (Sq (Rg [Mv 16 6,Mv 17 8,Mv 4 16,Mv 5 17]) Rt))
theorem Yk:ae Tryz.prog (Tryz.f126.body.getD .skip)=some aaM:=by kernel_rfl
theorem afT:Tryz.f126.body=some (Tryz.f126.body.getD .skip):=rfl
def c88:Rc:=Sq (Rg [Bx 3 1,Mk 4 0]) (Sq (Sq (Rg [Fa 13 0 3,Ld 14 13,p 15 (.call 122 [t 14]),Nt 16 15]) (Cn 16 (Sq (Rg [Mk 4 1]) Rt) Sk)) (Sq (Sq (Rg [Fa 17 2 3,Ld 18 17,Bi 19 .neq 18 1,Mv 20 19,Gb 20 (Fa 21 2 3),Gb 20 (Ld 22 21),Gb 20 (Bi 23 .neq 22 2),Pf 24 20 23,Mv 25 24,Gb 25 (Fa 26 2 3),Gb 25 (Ld 27 26),Gb 25 (Bi 28 .neq 27 4),Pf 29 25 28]) (Cn 29 (Sq (Rg [Mk 4 1]) Rt) Sk)) (Sq (Sq (Rg [Mv 30 0,Le 31 30,Mk 32 0]) (Bk 0 (Lp (Sq (Rg [Bt 33 .lss 32 31]) (Sq (Cn 33 Sk (Ex 0)) (Sq (Bk 1 (Sq (Rg [Ia 34 7 30 32,Lo 7 35 34,p 6 (.alloc [.t (.val (.string ⟨#[]⟩)),zn,zi,zn,zn,zn,zb]),So 7 6 35]) (Sq (Rg [Fa 36 0 6,Ld 37 36,Fa 38 0 3,Ld 39 38,Bt 40 .eql 37 39]) (Cn 40 (Sq (Rg [Mk 4 7]) Rt) Sk)))) (Rg [Bi 41 .add 32 1,Mv 32 41]))))))) (Sq (Sq (Rg [Lo 7 43 3,p 44 (.call 125 [t 43,(k 0)]),Mv 42 44,Et 45 42 0,Et 46 42 1,Mv 7 45,Mv 8 46]) (Sq (Rg [Mv 47 8,Bi 48 .neq 47 0]) (Cn 48 (Sq (Rg [Mv 49 8,Mv 4 49]) Rt) Sk))) (Sq (Sq (Rg [Lo 7 51 3,p 52 (.call 126 [t 51,(k 0)]),Mv 50 52,Et 53 50 0,Et 54 50 1,Mv 9 53,Mv 10 54]) (Sq (Rg [Mv 55 10,Bi 56 .neq 55 0]) (Cn 56 (Sq (Rg [Mv 57 10,Mv 4 57]) Rt) Sk))) (Sq (Sq (Rg [Fa 58 5 3,Ld 59 58,Le 60 59,Fa 61 1 3,Ld 62 61,Le 63 62,Bt 64 .neq 60 63]) (Cn 64 (Sq (Rg [Mk 4 1]) Rt) Sk)) (Sq (Sq (Rg [Fa 65 5 3,Ld 66 65,Le 67 66,Mk 68 0]) (Bk 2 (Lp (Sq (Rg [Bt 69 .lss 68 67]) (Sq (Cn 69 Sk (Ex 2)) (Sq (Bk 3 (Sq (Rg [Ia 70 1 66 68,Ld 71 70,Mv 12 71]) (Sq (Rg [Mv 72 12,Bi 73 .lss 72 0,Mv 74 73,Ga 74 (Mv 75 12),Ga 74 (Bi 76 .gtr 75 500),Pt 77 74 76]) (Cn 77 (Sq (Rg [Mk 4 3]) Rt) Sk)))) (Rg [Bi 78 .add 68 1,Mv 68 78]))))))) (Sq (Rg [Mk 4 0]) Rt))))))))
theorem auU:ae Tryz.prog (Tryz.f88.body.getD .skip)=some c88:=by kernel_rfl
theorem axA:Tryz.f88.body=some (Tryz.f88.body.getD .skip):=rfl
def c89:Rc:=Sq (Rg [Bx 3 0,Mb 6 false]) (Sq (Rg [Mv 7 1,p 8 (.bin .leq (k 0) (t 7)),Mv 9 8,Gb 9 (Mv 10 1),Gb 9 (Fa 11 3 3),Gb 9 (Ld 12 11),Gb 9 (Le 13 12),Gb 9 (Bt 14 .lss 10 13),Pf 15 9 14,Mv 16 15,Gb 16 (Mv 17 2),Gb 16 (p 18 (.bin .leq (k 0) (t 17))),Pf 19 16 18,Mv 20 19,Gb 20 (Mv 21 2),Gb 20 (Fa 22 3 3),Gb 20 (Ld 23 22),Gb 20 (Mv 24 1),Gb 20 (Ia 25 7 23 24),Gb 20 (Fa 26 1 25),Gb 20 (Ld 27 26),Gb 20 (Le 28 27),Gb 20 (Bt 29 .lss 21 28),Pf 30 20 29,Mv 6 30]) Rt)
theorem auT:ae Tryz.prog (Tryz.f89.body.getD .skip)=some c89:=by kernel_rfl
theorem awZ:Tryz.f89.body=some (Tryz.f89.body.getD .skip):=rfl
abbrev Is (xs:Lz):Prop:= ∀e,e∈xs→IsI e
theorem Is.snoc {xs:Lz} (h:Is xs) (n:Int):Is (xs++[[tI n]]):=by
 intro e he
 simp only[List.mem_append,List.mem_singleton]at he
 rcases he with he|rfl
 · exact h e he
 · exact⟨n,rfl⟩
abbrev pcT (nm:T) (es:Lz) (g:T) (ns cs ws:Lz) (mt:T):List T:=[nm, .ao 2 es,g, .ao 2 ns, .ao 2 cs, .ao 1 ws,mt]
def RPl (pc:List T) (N:Nat) (m:Nat) (ws:List V) (xss:List (Lz)):Prop:= ∃ (i:Nat) (zs:Lz),i≤N∧m=N - i∧ws=[bK 8 1 zs.length,iV .i64 (i:Int)]∧xss=[[pc],zs]∧zs.length=i∧Is zs
theorem RPl.next {pc:List T} {N i k:Nat} {zs:Lz} {n:Int} (hi:(i:Int) < (N:Int)) (hN:N≤100000) (hz:zs.length=i) (hI:Is zs) (hk:k=zs.length+1):RPl pc N (N - (i+1)) [bK 8 1 k,iV .i64 (IntKind.i64.wrap ((i:Int)+1))] [[pc],zs++[[tI n]]]:=
 ⟨i+1,_,by omega,rfl,by rw[bO (by omega) (by omega),hk];simp,rfl,by simp[hz],hI.snoc n⟩
def GPl (ts:List W):Prop:= ∃xs ys e,ts=[oL 1 xs,oL 2 ys,oI e]
theorem ye (nm:T) (es:Lz) (g:T) (ns cs ws:Lz) (mt:T) (m:Int) (he:jd es) (hm:es.length≤maxLen) (hn:cq ns) (hc:cq cs) (ee:cs.length≤maxLen):Tg 182 [RO nm es g ns cs ws mt,oI m] GPl:=by
 refine aG ?_
 refine ah (n:=92) (rs:=[.tmp 4, .tmp 5, .tmp 6]) Tryz.func182 aeS XQ rfl rfl (by simp) ?_
 repeat' (conv=>whnf
          first
  |(refine az (fun h=>?_) (fun h=>?_))
  |(refine cv (fun h=>?_) (fun h=>?_))
  |(refine ap hn (by omega) (by omega) ?_;rintro _ ⟨a,b,rfl⟩ hs)
  |(refine ap he (by omega) (by omega) ?_;rintro _ ⟨s1,xs1,rfl,tP,iw,P9⟩ mD)
  |(refine ap (hG (by omega)).1.2.1 (by omega) (by have:=(hG (by omega)).1.2.2;omega) ?_;rintro _ ⟨s2,xs2,rfl,vj,hp2,pO⟩ lj)
  |(refine And.intro ⟨by simp[tr],by simp[tr,bR];omega,by simp[tr,maxLen];omega⟩ ?_)
  |(refine ai rfl (kJ nm es g ns cs ws mt m he hm hc ee) ?_;rintro _ ⟨gs,e,rfl,hG⟩)
  |(refine ai rfl (kV xs1 iw) ?_;rintro _ ⟨n1,e1,rfl,_⟩)
  |(refine ai rfl (kV xs2 hp2) ?_;rintro _ ⟨n2,e2,rfl,_⟩)
  |(refine ai rfl (xQ _ _ _ _) ?_;rintro _ ⟨n3,e3,rfl⟩)
  |exact EH rfl (dR 1 rfl) (dR 2 rfl) (dw rfl) ⟨_,_,_,rfl⟩
  |exact EH rfl (fg rfl rfl (xs:=zs) rfl (by omega)) (dw rfl) (dw rfl) ⟨_,_,_,rfl⟩
  |(apply eN [2,7,9,30,31,32] [] [9,32] [(4,7),(8,1)] (RPl (pcT nm es g ns cs ws mt) ns.length) (ns.length) [bK 8 1 0,iV .i64 0] (iA.jh 9 1 rfl);(conv=>whnf);exact⟨rfl,rfl,rfl,rfl⟩;exact rfl;exact rfl;exact .cons (aL.aF (xs:=[pcT nm es g ns cs ws mt]) rfl _) (.cons (aL.aF aL.nil _) .nil);exact⟨0,[],by omega,rfl,rfl,rfl,rfl,fun e he=>by simp at he⟩;rintro _ _ _ ⟨i,zs,hi,rfl,rfl,rfl,hz,hI⟩)
  |(refine aq [2,7,9,30,31,32] [] ?_;(conv=>whnf);exact⟨rfl,_,[_,_],_, .cons (aL.aF (xs:=[pcT nm es g ns cs ws mt]) rfl _) (.cons (aL.aF (aL.snoc (xs:=zs) rfl [tI _]) _) .nil),RPl.next (by omega) (by omega) hz hI (by simp[tr]),rfl,rfl,by omega⟩))
 all_goals (conv=>whnf)
theorem yf (nm:T) (es:Lz) (g:T) (ns cs ws:Lz) (mt:T) (m:Int) (he:jd es) (hm:es.length≤maxLen) (hn:cq ns) (hc:cq cs) (ee:cs.length≤maxLen): ∃ts,Fn Tryz.prog 126 [RO nm es g ns cs ws mt,oI m] [] (aO ts) []∧(aO ts).bJ=true∧(fun ts=> ∃xs e,ts=[oL 1 xs,oI e]) ts:=by
 refine aG ?_
 refine ah (n:=18) (rs:=[.tmp 4, .tmp 5]) Tryz.func126 afT Yk rfl rfl (by simp) ?_
 repeat' (conv=>whnf
          first
  |(refine ai rfl (ye nm es g ns cs ws mt m he hm hn hc ee) ?_;rintro _ ⟨xs,ys,e,rfl⟩)
  |exact iy rfl (dw rfl) (dw rfl) ⟨_,_,rfl⟩)
 all_goals (conv=>whnf)
def JI (e:List T):Prop:= ∃nm es g ns cs ws mt,e=[.val (.string nm), .ao 2 es,tI g, .ao 2 ns, .ao 2 cs, .ao 1 ws,tB mt]∧nm.size≤maxLen∧(jd es∧es.length≤maxLen)∧(cq ns∧ns.length≤maxLen)∧(cq cs∧cs.length≤maxLen)∧Is ws∧ws.length≤maxLen
theorem qa (ps:Lz) (hp: ∀e,e∈ps→JI e) (mN:ps.length≤maxLen) (nm:ByteArray) (es:Lz) (g:Int) (ns cs ws:Lz) (mt:Bool) (hnm:nm.size≤maxLen) (he:jd es) (hm:es.length≤maxLen) (hn:cq ns) (hc:cq cs) (ee:cs.length≤maxLen) (hw:Is ws) (ze:ws.length≤maxLen):Tg 88 [oL 7 ps,RO (.val (.string nm)) es (tI g) ns cs ws (tB mt)] GI:=by
 refine ah (n:=79) (rs:=[.tmp 4]) Tryz.func88 axA auU rfl rfl (by simp) ?_
 repeat' (conv=>whnf
          first
  |(refine az (fun h=>?_) (fun h=>?_))
  |(refine cv (fun h=>?_) (fun h=>?_))
  |(refine aB (fun h=>?_) (fun h=>?_))
  |(refine ap hp (by first|omega|exact cj (by first|omega|(simp (disch:=omega) only[aa];omega))|(simp (disch:=omega) only[aa];omega)) (by first|omega|exact bW (by omega)|(simp (disch:=omega) only[aa];omega)) ?_;rintro _ ⟨nm2,QE,g2,ns2,cs2,ws2,mt2,rfl,aqD,_⟩ hs)
  |(refine ap hw (by first|omega|exact cj (by first|omega|(simp (disch:=omega) only[aa];omega))|(simp (disch:=omega) only[aa];omega)) (by first|omega|exact bW (by omega)|(simp (disch:=omega) only[aa];omega)) ?_;rintro _ ⟨a,rfl⟩ hs)
  |(refine ai rfl (oy nm hnm) ?_;rintro _ ⟨b,rfl⟩)
  |(refine ai rfl (kJ (.val (.string nm)) es (tI g) ns cs ws (tB mt) _ he hm hc ee) ?_;rintro _ ⟨gs,e,rfl,_⟩)
  |(refine ai rfl (yf (.val (.string nm)) es (tI g) ns cs ws (tB mt) _ he hm hn hc ee) ?_;rintro _ ⟨xs,e,rfl⟩)
  |exact gI rfl rfl
  |(apply aK [66,67,68] [] [68] (RI ws.length) (ws.length) [iV .i64 0];(conv=>whnf);exact⟨rfl,rfl,rfl,rfl⟩;exact rfl;exact rfl;exact RI.zero;rintro _ _ ⟨i,hi,rfl,rfl⟩)
  |(refine aq [66,67,68] [] ?_;(conv=>whnf);exact⟨rfl,_,[_],RI.succ (N:=ws.length) (i:=i) (by omega) ze,rfl,rfl,rfl,by omega⟩)
  |(apply aK [3,30,31,32] [] [32] (RI ps.length) (ps.length) [iV .i64 0];(conv=>whnf);exact⟨rfl,rfl,rfl,rfl⟩;exact rfl;exact rfl;exact RI.zero;rintro _ _ ⟨i,hi,rfl,rfl⟩)
  |(refine aq [3,30,31,32] [] ?_;(conv=>whnf);exact⟨rfl,_,[_],RI.succ (N:=ps.length) (i:=i) (by omega) mN,rfl,rfl,rfl,by omega⟩))
 all_goals (conv=>whnf)
end Go.aU.Cd
end
section
namespace Go.aU.Cd
open Go Ieee
def rA (K:Nat) (w:Nat):Prop:=w < K * 4503599627370496
theorem O0 (way:Toward) (neg:Bool) (n drop:Nat):Toward.cut way neg n drop≤n / (1 <<< min drop (n.log2+2))+1:=by
 unfold Toward.cut
 simp only
 have: ∀b:Bool,b.toNat≤1:=fun b=>by cases b<;>simp
 exact Nat.add_le_add_left (this _) _
theorem log2_lt {n k:Nat} (h:n < 2 ^ k) (hk:0 < k):n.log2 < k:=by
 by_cases h0:n=0
 · subst h0;simpa using hk
 · exact(Nat.log2_lt h0).2 h
theorem sQ {mag:Nat} {place:Int} {L:Int} {K:Nat} (hm:mag < 2 ^ 60) (hp: -1000≤place) (hL:place+mag.log2 - 52≤L) (tZ:L≤900) (hL1: -1074≤L) (hK:((L+1074).toNat+3)≤K):rA K (Ieee.double.write (.number false mag place)):=by
 unfold rA Format.write Format.nearest
 simp only
 split
 · simp only[Format.word,Bool.false_eq_true,if_false]
   have:1 * 4503599627370496≤K * 4503599627370496:=Nat.mul_le_mul_right _ (by omega)
   omega
 · rename_i h0
   have hfb:(Ieee.double.fractionBits:Int)=52:=rfl
   have hlp:Ieee.double.leastPlace= -1074:=by decide
   have Oz:Ieee.double.binade=4503599627370496:=by decide
   simp only[Format.word,Bool.false_eq_true,if_false,hfb,hlp,Oz]
   generalize nn:max (place+(mag.log2:Int) - 52) (-1074)=last
   have P9:last≤L:=by omega
   have pO: -1074≤last:=by omega
   have aqL:2 ^ mag.log2≤mag:=Nat.log2_self_le h0
   have Km:mag < 2 ^ (mag.log2+1):=Nat.lt_log2_self
   have SW:Toward.even.cut false (mag <<< (place - last).toNat) (last - place).toNat≤9007199254740992:=by
    refine Nat.le_trans (O0 _ _ _ _) ?_
    rcases Int.le_total last place with hle|hle
    ·
     have e0:(last - place).toNat=0:=by omega
     rw[e0,Nat.zero_min,Nat.shiftLeft_eq,Nat.shiftLeft_eq,Nat.pow_zero,Nat.mul_one,Nat.div_one]
     have hsh:mag.log2+(place - last).toNat≤52:=by omega
     have h1:mag * 2 ^ (place - last).toNat < 2 ^ (mag.log2+1) * 2 ^ (place - last).toNat:=Nat.mul_lt_mul_of_pos_right Km (Nat.pow_pos (by omega))
     rw[←Nat.pow_add]at h1
     have h2:2 ^ (mag.log2+1+(place - last).toNat)≤2 ^ 53:=Nat.pow_le_pow_right (by omega) (by omega)
     have h3:(2:Nat) ^ 53=9007199254740992:=by decide
     omega
    · have e0:(place - last).toNat=0:=by omega
      rw[e0,Nat.shiftLeft_eq,Nat.pow_zero,Nat.mul_one,Nat.shiftLeft_eq,Nat.one_mul]
      have h53:(2:Nat) ^ 53=9007199254740992:=by decide
      have aCc:(last - place).toNat=mag.log2 - 52∨last= -1074:=by omega
      have hmn:mag / 2 ^ min (last - place).toNat (mag.log2+2) < 9007199254740992:=by
       rw[←h53]
       rw[Nat.div_lt_iff_lt_mul (Nat.pow_pos (by omega)), ←Nat.pow_add]
       refine Nat.lt_of_lt_of_le Km (Nat.pow_le_pow_right (by omega) ?_)
       omega
      omega
   have hmin:min ((last - -1074).toNat * 4503599627370496+Toward.even.cut false (mag <<< (place - last).toNat) (last - place).toNat) Ieee.double.infRung≤(last - -1074).toNat * 4503599627370496+9007199254740992:=Nat.le_trans (Nat.min_le_left _ _) (Nat.add_le_add_left SW _)
   have hqq:(last - -1074).toNat+3≤K:=by omega
   generalize (last - -1074).toNat=q at hmin hqq⊢
   have hq:q+3≤K:=hqq
   refine Nat.lt_of_le_of_lt hmin (Nat.lt_of_lt_of_le ?_ (Nat.mul_le_mul_right 4503599627370496 hq))
   rw[Nat.add_mul]
   exact Nat.add_lt_add_left (by decide) _
theorem wD {K w:Nat} (h:rA K w) (hK:K≤1500): ∃m i,Ieee.double.read w= .number false m i∧m < 9007199254740992∧ -1074≤i∧i≤max ((K:Int) - 2 - 1074) (-1074):=by
 unfold rA at h
 have hsw:Ieee.double.signWeight=9223372036854775808:=by decide
 have Oz:Ieee.double.binade=4503599627370496:=by decide
 have hin:Ieee.double.infRung=9218868437227405312:=by decide
 have hlp:Ieee.double.leastPlace= -1074:=by decide
 have hlt:w < 1500 * 4503599627370496:=Nat.lt_of_lt_of_le h (Nat.mul_le_mul_right _ hK)
 unfold Format.read
 simp only[hsw,Oz,hin,hlp]
 have e1:w / 9223372036854775808 % 2=0:=by omega
 have e2:w % 9223372036854775808=w:=Nat.mod_eq_of_lt (by omega)
 rw[e1,e2]
 simp only[show((0:Nat)==1)=false by decide]
 split
 · exact⟨w, -1074,rfl,by omega,by omega,by omega⟩
 · rename_i hb
   rw[if_pos (show w < 9218868437227405312 by omega)]
   refine⟨_,_,rfl,by omega,by omega,?_⟩
   have:w / 4503599627370496 < K:=by
    rw[Nat.div_lt_iff_lt_mul (by omega)];exact h
   omega
theorem lM {n:Nat}: ∀ (todo root:Nat),root * root≤n→Datum.rootFrom n todo root * Datum.rootFrom n todo root≤n
 |0,root,h=>h
 |todo+1,root,h=>by
  simp only[Datum.rootFrom]
  split
  · rename_i hl;exact lM todo _ hl
  · exact lM todo _ h
theorem Dz {n:Nat} (hn:n < 2 ^ 53): ∃r,Ieee.double.sqrt (Ieee.double.write (.number false n 0))=some r∧rA 1053 r:=by
 have aqL:n.log2 < 53:=log2_lt hn (by omega)
 have h1:rA 1077 (Ieee.double.write (.number false n 0)):=sQ (L:=0) (by
  have:(2:Nat) ^ 53≤2 ^ 60:=Nat.pow_le_pow_right (by omega) (by omega)
  omega) (by omega) (by omega) (by omega) (by omega) (by decide)
 obtain⟨m,i,e,hm,Ot,EF⟩:=wD h1 (by omega)
 unfold Format.sqrt
 rw[e]
 unfold Datum.root
 simp only
 have hfb:Ieee.double.fractionBits+2=54:=rfl
 simp only[hfb]
 by_cases hm0:m=0
 · subst hm0
   simp only[if_true,Option.map_some]
   refine⟨_,rfl,?_⟩
   unfold rA Format.write Format.nearest
   simp[Format.word]
 · simp only[hm0,if_false,Bool.false_eq_true,Option.map_some]
   refine⟨_,rfl,?_⟩
   have hml:m.log2 < 53:=log2_lt (by rw[show(2:Nat) ^ 53=9007199254740992 by decide];exact hm) (by omega)
   have rT:m < 2 ^ (m.log2+1):=Nat.lt_log2_self
   have SR:((i - ((2 * 54 - m.log2:Nat):Int)) % 2).toNat≤1:=by omega
   generalize aB5:2 * 54 - m.log2+((i - ((2 * 54 - m.log2:Nat):Int)) % 2).toNat=more
   have aqH:56≤more:=by omega
   have aqG:more+m.log2≤109:=by omega
   generalize hN:m <<< more=N
   have aG4:N < 2 ^ 110:=by
    rw[←hN,Nat.shiftLeft_eq]
    have:m * 2 ^ more < 2 ^ (m.log2+1) * 2 ^ more:=Nat.mul_lt_mul_of_pos_right rT (Nat.pow_pos (by omega))
    rw[←Nat.pow_add]at this
    exact Nat.lt_of_lt_of_le this (Nat.pow_le_pow_right (by omega) (by omega))
   have hsq:=lM (n:=N) (N.log2 / 2+1) 0 (by simp)
   generalize Datum.rootFrom N (N.log2 / 2+1) 0=whole at hsq
   have hw:whole < 2 ^ 55:=by
    apply Nat.lt_of_not_le
    intro hge
    have h2:2 ^ 55 * 2 ^ 55≤whole * whole:=Nat.mul_le_mul hge hge
    rw[←Nat.pow_add]at h2
    omega
   have hb: ∀b:Bool,b.toNat≤1:=fun b=>by cases b<;>simp
   have vT:=hb (whole * whole !=N)
   generalize (whole * whole !=N).toNat=bb at vT
   have h55:(2:Nat) ^ 55=36028797018963968:=by decide
   have h60:(2:Nat) ^ 60=1152921504606846976:=by decide
   have hlm:(2 * whole+bb).log2 < 57:=log2_lt (by rw[show(2:Nat) ^ 57=144115188075855872 by decide];omega) (by omega)
   exact sQ (L:= -24) (by omega) (by omega) (by omega) (by omega) (by omega) (by decide)
theorem FK {w:Nat} (h:rA 1053 w): ∃r:Int,(Ieee.double.read w).toInt .zero=some r∧0≤r∧r≤1073741824:=by
 obtain⟨m,i,e,hm,Ot,EF⟩:=wD h (by omega)
 rw[e]
 unfold Datum.toInt Datum.integral
 simp only
 have e0:i.toNat=0:=by omega
 rw[e0,Nat.shiftLeft_eq,Nat.pow_zero,Nat.mul_one]
 refine⟨_,rfl,?_,?_⟩
 · simp only[signed,Bool.false_eq_true,if_false]
   exact Int.natCast_nonneg _
 · simp only[signed,Bool.false_eq_true,if_false,Toward.cut,Bool.toNat_false,Nat.add_zero,Nat.shiftLeft_eq,Nat.pow_zero,Nat.mul_one,Nat.one_mul]
   by_cases hm0:m=0
   · subst hm0;simp
   · have hml:m.log2 < 53:=log2_lt (by rw[show(2:Nat) ^ 53=9007199254740992 by decide];exact hm) (by omega)
     have rT:m < 2 ^ (m.log2+1):=Nat.lt_log2_self
     have hq:m / 2 ^ min (-i).toNat (m.log2+2) < 1073741824:=by
      rw[show(1073741824:Nat)=2 ^ 30 by decide,Nat.div_lt_iff_lt_mul (Nat.pow_pos (by omega)), ←Nat.pow_add]
      exact Nat.lt_of_lt_of_le rT (Nat.pow_le_pow_right (by omega) (by omega))
     generalize m / 2 ^ min (-i).toNat (m.log2+2)=q at hq
     omega
end Go.aU.Cd
end
section
namespace Go.aU.Cd
open Go Go.Proofs
set_option maxRecDepth 100000
set_option maxHeartbeats 1000000
theorem run_pure {n ctr:Nat} {ty:TypeId} {op:Op} {tm:TS} {hp:HS} {v:V} (h: ∀o:Oper,o.op=op→o.type=ty→aY Tryz.prog (St.get ⟨n,tm,hp⟩) o=some v):gQ Tryz.prog n op ty tm hp ctr v hp:=by
 intro o h1 h2 M A ρ a w hr
 exact gk (st:=⟨n,tm,hp⟩) (h o h1 h2) hr (fun id bG=>by simp only[aZ]at *;omega)
theorem uI:Tryz.prog.underlying 3=some (.int .i64):=by kernel_rfl
theorem uF:Tryz.prog.underlying 376=some (.float .f64):=by kernel_rfl
abbrev oF (x:Nat):W:= .one (.t (.val (.float .f64 x)))
theorem Q1 {n ctr t:Nat} {ty:TypeId} {k:Int} {tm:TS} {hp:HS} {K:V→HS→Prop} (h:find tm t=some (iV .i64 k)) (hk:K (.w (oF (FloatKind.f64.nearest k))) hp):
 ∃v hp',gQ Tryz.prog n (.convert 3 376 (.tmp t)) ty tm hp ctr v hp'∧K v hp':=by
 refine⟨_,_,run_pure ?_,hk⟩
 rintro⟨dst',op',ty',pos',after',guard'⟩ rfl rfl
 have hg:St.get ⟨n,tm,hp⟩ (.tmp t)=iV .i64 k:=by simp[St.get,h]
 simp[aY,fj,Op.operands,hg,V.val?,W.val?,C.val?,execOp,convert,aC,aI uI,aI uF,Conv.intToFloat,av,V.ofValue]
theorem Q2 {n ctr t x:Nat} {ty:TypeId} {r:Int} {tm:TS} {hp:HS} {K:V→HS→Prop} (h:find tm t=some (.w (oF x))) (hr:(FloatKind.f64.decode x).toInt .zero=some r) (h0:0≤r) (h1:r≤4294967296) (hk:K (iV .i64 r) hp):
 ∃v hp',gQ Tryz.prog n (.convert 376 3 (.tmp t)) ty tm hp ctr v hp'∧K v hp':=by
 refine⟨_,_,run_pure ?_,hk⟩
 rintro⟨dst',op',ty',pos',after',guard'⟩ rfl rfl
 have hg:St.get ⟨n,tm,hp⟩ (.tmp t)= .w (oF x):=by simp[St.get,h]
 have hmin:IntKind.i64.min≤r∧r≤IntKind.i64.max:=by
  have e1:IntKind.i64.min= -9223372036854775808:=by decide
  have e2:IntKind.i64.max=9223372036854775807:=by decide
  omega
 have hle:r≤9223372036854775807:=by omega
 simp[aY,fj,Op.operands,hg,V.val?,W.val?,C.val?,execOp,convert,aC,aI uI,aI uF,Conv.floatToInt,hr,hmin,if_pos hle,av,V.ofValue]
theorem BU:Extern.findNext Tryz.f363=none∧(Tryz.f363.name== "runtime.NumGoroutine")=false∧Tryz.f363.body.isNone=true:=⟨by kernel_rfl,by kernel_rfl,by kernel_rfl⟩
theorem I8:Extern.find Tryz.f363=some Go.Extern.MathSqrt.sqrt:=by kernel_rfl
theorem If {x r:Nat} (hr:FloatKind.f64.format.sqrt x=some r):aA Tryz.prog (callFunc 363 #[.float .f64 x])=some (.value (.float .f64 r)):=by
 have h1:Tryz.prog.funcs[363]? =some Tryz.f363:=Tryz.func363
 have hs:Go.Extern.MathSqrt.sqrt #[.float .f64 x]=pure (.float .f64 r):=by
  change (match FloatKind.f64.format.sqrt x with
   |some r=>(pure (.float .f64 r):Sem Value)
   |none=>do pure (.float .f64 (←choose (.nanBits .f64 x x))))=_
  rw[hr]
 have hn:¬Tryz.f363.name= "runtime.NumGoroutine" :=by simpa using BU.2.1
 have hb:Tryz.f363.body=none:=by simpa using BU.2.2
 simp[callFunc,aC,program,aA,h1,BU.1,I8,hs,av,hn,hb,cR,mark]
theorem Nb {n ctr t x r:Nat} {ty:TypeId} {tm:TS} {hp:HS} {K:V→HS→Prop} (h:find tm t=some (.w (oF x))) (hr:FloatKind.f64.format.sqrt x=some r) (hk:K (.w (oF r)) hp):
 ∃v hp',gQ Tryz.prog n (.call ⟨.value (.func 363), #[.tmp t], #[376]⟩) ty tm hp ctr v hp'∧K v hp':=by
 refine⟨_,_,run_pure ?_,hk⟩
 rintro⟨dst',op',ty',pos',after',guard'⟩ rfl rfl
 have hg:St.get ⟨n,tm,hp⟩ (.tmp t)= .w (oF x):=by simp[St.get,h]
 have hf:St.get ⟨n,tm,hp⟩ (.func 363)= .w (.one (.t (.val (.func (.func 363) #[] #[])))):=rfl
 have iw:=If hr
 simp[aY,fj,Op.operands,Call.operands,hg,hf,V.val?,W.val?,C.val?,execOp,resolve,invoke,Deferred.ofValue,aC,av,iw,V.ofValue]
end Go.aU.Cd
end
section
namespace Go.aU.Cd
open Go Go.Proofs
set_option maxRecDepth 100000
set_option maxHeartbeats 1000000
def Y5:Rc:=Sq (Rg [p 2 (.hY (.c (.w (.one (.t (.val (.float .f64 0)))))))]) (Sq (Rg [Mv 3 0,p 4 (.raw (.call ⟨.value (.func 363),#[(.tmp 3)],#[376]⟩) 376),Mv 2 4]) Rt)
theorem WO:ae Tryz.prog (Tryz.f331.body.getD .skip)=some Y5:=by kernel_rfl
theorem acL:Tryz.f331.body=some (Tryz.f331.body.getD .skip):=rfl
def Zk:Rc:=Sq (Rg [Mk 2 0]) (Sq (Rg [Mv 4 0,p 5 (.raw (.convert 3 376 (.tmp 4)) 376),p 6 (.call 331 [t 5]),p 7 (.raw (.convert 376 3 (.tmp 6)) 3),Mv 3 7]) (Sq (Bk 0 (Lp (Sq (Sq (Rg [Mv 8 3,Mv 9 3,Bt 10 .mul 8 9,Mv 11 0,Bt 12 .gtr 10 11]) (Cn 12 Sk (Ex 0))) (Bk 1 (Rg [Mv 13 3,Bi 14 .sub 13 1,Mv 3 14]))))) (Sq (Bk 2 (Lp (Sq (Sq (Rg [Mv 15 3,Bi 16 .add 15 1,Mv 17 3,Bi 18 .add 17 1,Bt 19 .mul 16 18,Mv 20 0,Bt 21 .leq 19 20]) (Cn 21 Sk (Ex 2))) (Bk 3 (Rg [Mv 22 3,Bi 23 .add 22 1,Mv 3 23]))))) (Sq (Rg [Mv 24 3,Mv 2 24]) Rt))))
theorem Xc:ae Tryz.prog (Tryz.f291.body.getD .skip)=some Zk:=by kernel_rfl
theorem adE:Tryz.f291.body=some (Tryz.f291.body.getD .skip):=rfl
theorem DS (x r:Nat) (hr:FloatKind.f64.format.sqrt x=some r): ∃ts,Fn Tryz.prog 331 [oF x] [] (aO ts) []∧(aO ts).bJ=true∧(fun ts=>ts=[oF r]) ts:=by
 refine aG ?_
 refine ah (n:=5) (rs:=[.tmp 2]) Tryz.func331 acL WO rfl rfl (by simp) ?_
 repeat' (conv=>whnf
          first
  |(refine Nb rfl hr ?_)
  |exact mF rfl (dw rfl) rfl)
 all_goals (conv=>whnf)
theorem Bo {r n:Int} (h0:0≤r) (h1:r≤4294967296) (hn:0≤n) (h:IntKind.i64.wrap (r * r) > n):1≤r:=by
 rcases Int.lt_or_le 0 r with hr|hr
 · omega
 · have:r=0:=by omega
   subst this
   rw[bO (by omega) (by omega)]at h
   omega
theorem Bm {r n:Int} (h0:0≤r) (h1:r≤1073741824) (hn:n≤1125899906842624) (h:IntKind.i64.wrap (IntKind.i64.wrap (r+1) * IntKind.i64.wrap (r+1))≤n):r+1≤33554432:=by
 rw[bO (n:=r+1) (by omega) (by omega)]at h
 have hb:=FB (k:=r+1) (s:=r+1) (B:=1073741825) (C:=1073741825) (by omega) (by omega) (by omega) (by omega) (by omega)
 rw[bO (by omega) (by omega)]at h
 apply Int.not_lt.1
 intro hlt
 have h3:(33554433:Int) * 33554433≤(r+1) * (r+1):=Int.mul_le_mul (by omega) (by omega) (by omega) (by omega)
 omega
theorem Fj {r n:Int} (h0:0≤r) (hn:1≤n) (h:¬IntKind.i64.wrap (IntKind.i64.wrap (r+1) * IntKind.i64.wrap (r+1))≤n):1≤r:=by
 rcases Int.lt_or_le 0 r with hr|hr
 · omega
 · have:r=0:=by omega
   subst this
   exfalso
   apply h
   have e:IntKind.i64.wrap (IntKind.i64.wrap (0+1) * IntKind.i64.wrap (0+1))=1:=by decide
   rw[e];exact hn
theorem uU (n:Int) (h0:0≤n) (h1:n≤1125899906842624):Tg 291 [oI n] (nF (fun r=>(0≤r∧r≤1073741824)∧(1≤n→1≤r))):=by
 obtain⟨sq,hsq,SP⟩:=Dz (n:=n.natAbs) (by rw[show(2:Nat) ^ 53=9007199254740992 by decide];omega)
 obtain⟨r0,hr,tR,qT⟩:=FK SP
 have hneg:decide (n < 0)=false:=by simp;omega
 have apG:FloatKind.f64.format.sqrt (FloatKind.f64.nearest n)=some sq:=by(unfold FloatKind.nearest;rw[hneg];exact hsq)
 refine ah (n:=25) (rs:=[.tmp 2]) Tryz.func291 adE Xc rfl rfl (by simp) ?_
 repeat' (conv=>whnf
          first
  |(refine az (fun h=>?_) (fun h=>?_))
  |(refine Q1 rfl ?_)
  |(have gj:=Bo hra (by omega) h0 h;clear h)
  |(have F8:=Bm hrc hrd h1 h;clear h)
  |(refine ai rfl (DS _ sq apG) ?_;rintro _ rfl)
  |(refine Q2 rfl hr tR (by omega) ?_)
  |exact pQ rfl rfl ⟨⟨hrc,hrd⟩,fun hn=>Fj hrc hn h⟩
  |(apply aK [0,3] [] [3] (fun m vs=> ∃r:Int,0≤r∧r≤1073741824∧m=(1073741824 - r).toNat∧vs=[iV .i64 r]) ((1073741824 - r).toNat) [iV .i64 r];(conv=>whnf);exact⟨rfl,rfl,rfl,rfl⟩;exact rfl;exact rfl;exact⟨r,hra,hrb,rfl,rfl⟩;rintro _ _ ⟨r2,hrc,hrd,rfl,rfl⟩)
  |(refine aq [0,3] [] ?_;(conv=>whnf);exact⟨rfl,_,[_],⟨r2+1,by omega,by omega,rfl,by rw[bO (by omega) (by omega)]⟩,rfl,rfl,rfl,by omega⟩)
  |(apply aK [0,3] [] [3] (fun m vs=> ∃r:Int,0≤r∧r≤1073741824∧m=r.toNat∧vs=[iV .i64 r]) (r0.toNat) [iV .i64 r0];(conv=>whnf);exact⟨rfl,rfl,rfl,rfl⟩;exact rfl;exact rfl;exact⟨r0,tR,qT,rfl,rfl⟩;rintro _ _ ⟨r,hra,hrb,rfl,rfl⟩)
  |(refine aq [0,3] [] ?_;(conv=>whnf);exact⟨rfl,_,[_],⟨r - 1,by omega,by omega,rfl,by rw[bO (by omega) (by omega)]⟩,rfl,rfl,rfl,by omega⟩))
 all_goals (conv=>whnf)
end Go.aU.Cd
end
section
namespace Go.aU.Cd
open Go Go.Proofs
set_option maxRecDepth 100000
set_option maxHeartbeats 1000000
def Zx:Rc:=Sq (Rg [Mn 4]) (Sq (Rg [Mn 5]) (Sq (Sq (Rg [Mv 8 0,Le 9 8,Mk 10 0]) (Bk 0 (Lp (Sq (Rg [Bt 11 .lss 10 9]) (Sq (Cn 11 Sk (Ex 0)) (Sq (Bk 1 (Sq (Rg [Mv 12 10,Ia 13 2 8 10,Lo 2 14 13,p 7 (.alloc [.t (.val (.string ⟨#[]⟩)),zn]),Mv 6 12,So 2 7 14]) (Sq (Rg [Fa 15 1 7,Ld 16 15,Le 17 16,Bi 18 .sub 17 1,Mk 19 0]) (Bk 2 (Lp (Sq (Rg [Bt 20 .lss 19 18]) (Sq (Cn 20 Sk (Ex 2)) (Sq (Bk 3 (Rg [Mv 21 5,Mv 22 1,Mv 23 6,Ia 24 1 22 23,Ld 25 24,p 26 (.aT [zi] 1 [(0,t 25)]),p 27 (.append 1 8 (t 21) (t 26)),Mv 5 27])) (Rg [Bi 28 .add 19 1,Mv 19 28]))))))))) (Rg [Bi 29 .add 10 1,Mv 10 29]))))))) (Sq (Rg [Mv 30 5,Mv 4 30]) Rt)))
theorem Xs:ae Tryz.prog (Tryz.f253.body.getD .skip)=some Zx:=by kernel_rfl
theorem adU:Tryz.f253.body=some (Tryz.f253.body.getD .skip):=rfl
def Zt:Rc:=Sq (Rg [Mk 2 0]) (Sq (Rg [Mv 3 0,p 4 (.call 297 [t 3]),p 5 (.call 82 [t 4,(k 0)]),Mv 2 5]) Rt)
theorem Xo:ae Tryz.prog (Tryz.f257.body.getD .skip)=some Zt:=by kernel_rfl
theorem adQ:Tryz.f257.body=some (Tryz.f257.body.getD .skip):=rfl
def Zh:Rc:=Sq (Rg [Bx 1 0,p 2 (.alloc [zb,zn,zn,zb,zn,zn])]) (Sq (Rg [Fa 3 0 1,Ld 4 3,Fa 5 1 1,Ld 6 5,p 7 (.call 335 [t 4,t 6]),So 6 2 7]) Rt)
theorem Xa:ae Tryz.prog (Tryz.f294.body.getD .skip)=some Zh:=by kernel_rfl
theorem adC:Tryz.f294.body=some (Tryz.f294.body.getD .skip):=rfl
def Wd (e:List T):Prop:= ∃w,e=[tI w]∧0≤w∧w≤500
abbrev Jq (xs:Lz):Prop:= ∀e,e∈xs→Wd e
theorem Jq.snoc {xs:Lz} (h:Jq xs) {w:Int} (h0:0≤w) (h1:w≤500):Jq (xs++[[tI w]]):=by
 intro e he
 simp only[List.mem_append,List.mem_singleton]at he
 rcases he with he|rfl
 · exact h e he
 · exact⟨w,rfl,h0,h1⟩
def RSw (es:Lz) (m:Nat) (ws:List V) (xss:List (Lz)):Prop:= ∃ (i:Nat) (zs:Lz),i≤es.length∧m=es.length - i∧ws=[bK 4 1 zs.length,iV .i64 (i:Int)]∧xss=[zs]∧zs.length=gq (es.take i)∧Jq zs
def RSi (N L:Nat) (m:Nat) (ws:List V) (xss:List (Lz)):Prop:= ∃ (j:Nat) (zs:Lz),j≤L∧m=L - j∧ws=[bK 4 1 zs.length,iV .i64 (j:Int)]∧xss=[zs]∧zs.length=N+j∧Jq zs
theorem Rf {xs:Lz} {j:Nat} (hL:dO xs) (hj:(j:Int) < IntKind.i64.wrap ((xs.length:Int) - 1)):j < xs.length - 1:=by
 have a:=hL.1
 have b:=hL.2.1
 rw[bO (by omega) (by omega)]at hj
 omega
theorem RSi.next {N L j k:Nat} {zs:Lz} {w:Int} {xs:Lz} (hL:dO xs) (hl:L=xs.length - 1) (hj:j < xs.length - 1) (hz:zs.length=N+j) (hW:Jq zs) (h0:0≤w) (h1:w≤500) (hk:k=zs.length+1):RSi N L (L - (j+1)) [bK 4 1 k,iV .i64 (IntKind.i64.wrap ((j:Int)+1))] [zs++[[tI w]]]:=by
 have a:=hL.1
 have b:=hL.2.1
 exact⟨j+1,_,by omega,rfl,by rw[bO (by omega) (by omega),hk];simp,rfl,by simp;omega,hW.snoc h0 h1⟩
theorem RSw.next {es zs xs:Lz} {i j:Nat} {s:ByteArray} (hi:(i:Int) < (es.length:Int)) (he:es.length≤16) (hs:es[((i:Int)).toNat]? =some [.val (.string s), .ao 2 xs]) (hL:dO xs) (hz:zs.length=gq (es.take i)+j) (hW:Jq zs) (hj:j≤xs.length - 1) (hx:¬ (j:Int) < IntKind.i64.wrap ((xs.length:Int) - 1)):RSw es (es.length - (i+1)) [bK 4 1 zs.length,iV .i64 (IntKind.i64.wrap ((i:Int)+1))] [zs]:=by
 have a:=hL.1
 have b:=hL.2.1
 rw[bO (n:=(xs.length:Int) - 1) (by omega) (by omega)]at hx
 refine⟨i+1,zs,by omega,rfl,by rw[bO (by omega) (by omega)];rfl,rfl,?_,hW⟩
 rw[wM (by simpa using hs)]
 simp only[ln]
 omega
theorem fO (es ws:Lz) (he: ∀e,e∈es→AT e) (hl:es.length≤16) (hw:Jq ws) (ze:ws.length=es.length):Tg 253 [oL 2 es,oL 1 ws] (GL 1 (fun zs=>zs.length=gq es∧Jq zs)):=by
 refine aG ?_
 refine ah (n:=31) (rs:=[.tmp 4]) Tryz.func253 adU Xs rfl rfl (by simp) ?_
 repeat' (conv=>whnf
          first
  |(refine az (fun h=>?_) (fun h=>?_))
  |(refine ap he (by omega) (by omega) ?_;rintro _ ⟨s,xs,rfl,hL⟩ hs)
  |(have hjj:=Rf hL h;clear h)
  |(refine ap hw (by omega) (by omega) ?_;rintro _ ⟨w,rfl,Hy,zg⟩ hsw)
  |(refine And.intro ⟨by simp[tr],by have:=qn he i hl;have:=hL.2.1;simp[tr,bR];omega,by have:=qn he i hl;have:=hL.2.1;simp[tr,maxLen];omega⟩ ?_)
  |exact mF rfl (fg rfl rfl (xs:=zs) rfl (by omega)) ⟨_,rfl,by rw[Df];exact⟨by rw[List.take_of_length_le (by omega)]at hz;exact hz,hW⟩⟩
  |(apply bc [1,5,6,8,9,10,18,19] [] [5,19] [(4,1)] (RSi (gq (es.take i)) (xs.length - 1)) (xs.length - 1) [bK 4 1 zs.length,iV .i64 0];(conv=>whnf);exact⟨rfl,rfl,rfl,rfl⟩;exact rfl;exact rfl;exact .cons (aL.aF (xs:=zs) rfl _) .nil;exact⟨0,zs,by omega,rfl,rfl,rfl,by omega,hW⟩;rintro _ _ _ ⟨j,Dq,hj,rfl,rfl,rfl,vj,hW2⟩)
  |(refine aq [1,5,6,8,9,10,18,19] [] ?_;(conv=>whnf);exact⟨rfl,_,[_,_],_, .cons (aL.aF (aL.snoc (xs:=Dq) rfl [tI _]) _) .nil,RSi.next hL rfl hjj vj hW2 Hy zg (by simp[tr]),rfl,rfl,by omega⟩)
  |(apply eN [1,5,8,9,10] [] [5,10] [(4,1)] (RSw es) (es.length) [bK 4 1 0,iV .i64 0] (iA.jh 5 1 rfl);(conv=>whnf);exact⟨rfl,rfl,rfl,rfl⟩;exact rfl;exact rfl;exact .cons (aL.aF aL.nil _) .nil;exact⟨0,[],by omega,rfl,rfl,rfl,by simp[gq],(fun e he=>by simp at he)⟩;rintro _ _ _ ⟨i,zs,hi,rfl,rfl,rfl,hz,hW⟩)
  |(refine aq [1,5,8,9,10] [] ?_;(conv=>whnf);exact⟨rfl,_,[_,_],_, .cons (aL.aF (xs:=Dq) rfl _) .nil,RSw.next (by omega) hl hs hL vj hW2 hj h,rfl,rfl,by omega⟩))
 all_goals (conv=>whnf)
theorem Hu (a b:Int):Tg 82 [oI a,oI b] (nF (fun n=> -1≤n∧n≤1)):=by
 refine ah (n:=20) (rs:=[.tmp 4]) Tryz.func82 O4 O3 rfl rfl (by simp) ?_
 repeat' (conv=>whnf
          first
  |(refine az (fun h=>?_) (fun h=>?_))
  |(refine aB (fun h=>?_) (fun h=>?_))
  |(refine ai rfl (FH _) ?_;rintro _ ⟨c,rfl,hc⟩)
  |(refine pQ rfl rfl ?_;omega))
 all_goals (conv=>whnf)
theorem dZ (xs:Lz) (hx:cq xs) (hl:xs.length≤1000000):Tg 257 [oL 2 xs] (nF (fun n=> -1≤n∧n≤1)):=by
 refine ah (n:=6) (rs:=[.tmp 2]) Tryz.func257 adQ Xo rfl rfl (by simp) ?_
 repeat' (conv=>whnf
          first
  |(refine ai rfl (vI xs hx hl) ?_;rintro _ ⟨n,rfl⟩)
  |(refine ai rfl (Hu _ _) ?_;rintro _ ⟨c,rfl,hc⟩)
  |exact pQ rfl rfl hc)
 all_goals (conv=>whnf)
theorem su (s:Sp):Tg 294 [gD s] (QS 2):=by
 refine aG ?_
 refine ah (n:=8) (rs:=[.cell 2 345]) Tryz.func294 adC Xa rfl rfl (by simp) ?_
 repeat' (conv=>whnf
          first
  |(refine ai rfl (Fs _ _) ?_;rintro _ ⟨b,xs,ds,c,ys,es,rfl,h1,h2⟩)
  |exact mF rfl (bE MY JV rfl rfl (Nat.le_refl _) rfl (cG.refl _)) ⟨_,xs,ds,_,ys,es,rfl,h1,h2⟩)
 all_goals (conv=>whnf)
end Go.aU.Cd
end
section
namespace Go.aU.Cd
open Go Go.Proofs
set_option maxRecDepth 100000
set_option maxHeartbeats 1000000
def Zz:Rc:=Sq (Rg [Mn 4,Mk 5 0]) (Sq (Rg [Mv 21 0,p 22 (.call 252 [t 21]),Mv 20 22,Et 23 20 0,Et 24 20 1,Mv 6 23,Mv 7 24]) (Sq (Sq (Rg [Mv 25 7,Bi 26 .neq 25 0]) (Cn 26 (Sq (Rg [Mv 27 7,Mn 4,Mv 5 27]) Rt) Sk)) (Sq (Sq (Rg [Mv 28 1,Le 29 28,Mv 30 0,Le 31 30,Bt 32 .neq 29 31]) (Cn 32 (Sq (Rg [Mn 4,Mk 5 1]) Rt) Sk)) (Sq (Sq (Rg [Mv 33 1,Le 34 33,Mk 35 0]) (Bk 0 (Lp (Sq (Rg [Bt 36 .lss 35 34]) (Sq (Cn 36 Sk (Ex 0)) (Sq (Bk 1 (Sq (Rg [Ia 37 1 33 35,Ld 38 37,Mv 9 38]) (Sq (Rg [Mv 39 9,Bi 40 .lss 39 0,Mv 41 40,Ga 41 (Mv 42 9),Ga 41 (Bi 43 .gtr 42 500),Pt 44 41 43]) (Cn 44 (Sq (Rg [Mn 4,Mk 5 3]) Rt) Sk)))) (Rg [Bi 45 .add 35 1,Mv 35 45]))))))) (Sq (Rg [Mv 46 6,p 47 (.call 257 [t 46]),Mv 10 47]) (Sq (Rg [Mv 48 0,Mv 49 1,p 50 (.call 253 [t 48,t 49]),Mv 11 50]) (Sq (Rg [Mv 51 6,Le 52 51,p 53 (.make [zi,zi] 16 (t 52) (t 52)),Mv 12 53]) (Sq (Sq (Rg [Mv 54 6,Le 55 54,Mk 56 0]) (Bk 2 (Lp (Sq (Rg [Bt 57 .lss 56 55]) (Sq (Cn 57 Sk (Ex 2)) (Sq (Bk 3 (Sq (Rg [Mv 58 56,Ia 59 2 54 56,Lo 2 60 59,p 14 (.alloc [zi,zi]),Mv 13 58,So 2 14 60]) (Sq (Rg [Mv 61 6,Mv 62 13,Bi 63 .add 62 1,Mv 64 6,Le 65 64,Bt 66 .rem 63 65,Ia 67 2 61 66,Lo 2 68 67,p 15 (.alloc [zi,zi]),So 2 15 68]) (Sq (Dr [Fa 69 0 15,Ld 70 69,Fa 71 0 14,Ld 72 71,Bt 73 .sub 70 72,Fa 74 1 15,Ld 75 74,Fa 76 1 14,Ld 77 76,Bt 78 .sub 75 77,Mv 79 10,Mv 80 11,Mv 81 13,Ia 82 1 80 81,Ld 83 82,Bt 84 .mul 79 83,Mv 16 73,Mv 17 78,Mv 18 84] [[],[0],[],[2],[1,3],[],[5],[],[7],[6,8],[],[],[],[11,12],[13],[10,14],[4,0,1,2,3,4],[9,16,0,1,2,3,4,5,6,7,8,9,16],[15,17,0,1,2,3,4,5,6,7,8,9,10,11,12,13,14,15,16,17]]) (Sq (Rg [Mv 85 16,Mv 86 16,Bt 87 .mul 85 86,Mv 88 17,Mv 89 17,Bt 90 .mul 88 89,Bt 91 .add 87 90,p 92 (.call 291 [t 91]),Mv 19 92]) (Rg [Mv 93 12,Mv 94 13,Mv 95 18,Mv 96 17,Bt 97 .mul 95 96,Mv 98 19,p 99 (.call 292 [t 97,t 98]),Mv 100 18,p 101 (.neg (t 100)),Mv 102 16,Bt 103 .mul 101 102,Mv 104 19,p 105 (.call 292 [t 103,t 104]),p 106 (.build [zi,zi] [(0,1,t 99),(1,1,t 105)]),Ia 107 2 93 94,So 2 107 106])))))) (Rg [Bi 108 .add 56 1,Mv 56 108]))))))) (Sq (Rg [Mv 109 12,Mv 4 109,Mk 5 0]) Rt)))))))))
theorem Xu:ae Tryz.prog (Tryz.f251.body.getD .skip)=some Zz:=by kernel_rfl
theorem adW:Tryz.f251.body=some (Tryz.f251.body.getD .skip):=rfl
def Zv:Rc:=Sq (Rg [Bx 3 0,Bx 4 1,Bx 5 2,Mn 6]) (Sq (Dr [Fa 12 0 4,Lo 2 13 12,p 14 (.call 294 [t 13]),Fa 15 2 4,Lo 2 16 15,p 17 (.call 294 [t 16]),Fa 18 0 5,Lo 2 19 18,p 20 (.call 294 [t 19]),Fa 21 2 5,Lo 2 22 21,p 23 (.call 294 [t 22]),p 24 (.call 293 [t 14,t 17,t 20,t 23]),Mv 11 24,Et 25 11 0,Et 26 11 1,p 7 (.alloc [zb,zn,zn,zb,zn,zn]),So 6 7 25,Mv 8 26] [[],[0],[1],[],[3],[4,2],[],[6],[7,5],[],[9],[10,8],[2,5,8,11,11],[12],[13],[13],[],[16,14,12,0,1,2,3,4,5,6,7,8,9,10,11,12,13,14,16],[15,17,0,1,2,3,4,5,6,7,8,9,10,11,12,13,14,15,16,17]]) (Sq (Sq (Rg [Mv 27 8,Bi 28 .eql 27 0]) (Cn 28 (Sq (Dr [Lo 6 30 7,Lo 2 31 3,p 32 (.call 294 [t 31]),p 33 (.call 296 [t 30,t 32]),p 34 (.call 295 [t 33]),Mv 29 34,Et 35 29 0,Et 36 29 1,p 9 (.alloc [zi,zi]),So 2 9 35,Mv 10 36] [[],[],[1],[0,2,2],[3,3],[4],[5],[5],[],[8,6,4,0,1,2,3,4,5,6,8],[7,9,0,1,2,3,4,5,6,7,8,9]]) (Sq (Rg [Mv 37 10,Bi 38 .eql 37 0,Mv 39 38,Gb 39 (Lo 2 40 9),Gb 39 (Fa 41 4 4),Gb 39 (Ld 42 41),Gb 39 (Fa 43 4 5),Gb 39 (Ld 44 43),Gb 39 (p 45 (.qd (t 42) (t 44))),Gb 39 (p 46 (.bin .mul (k 4) (t 45))),Gb 39 (Bi 47 .add 46 4),Gb 39 (p 48 (.call 256 [t 40,t 47])),Pf 49 39 48]) (Cn 49 (Sq (Rg [Lo 2 50 3,Lo 2 51 9,p 52 (.call 254 [t 50,t 51]),p 53 (.aT [zi,zi] 1 [(0,t 52)]),Mv 6 53]) Rt) Sk))) Sk)) (Sq (Rg [Fa 54 2 4,Lo 2 55 54,Fa 56 0 5,Lo 2 57 56,p 58 (.aT [zi,zi] 2 [(0,t 55),(1,t 57)]),Mv 6 58]) Rt)))
theorem Xq:ae Tryz.prog (Tryz.f255.body.getD .skip)=some Zv:=by kernel_rfl
theorem adS:Tryz.f255.body=some (Tryz.f255.body.getD .skip):=rfl
def JA (ws:Lz) (i:Nat):Prop:= ∀j e,j < i→ws[j]? =some e→Wd e
theorem JA.all {ws:Lz} {i:Nat} (h:JA ws i) (hi:ws.length≤i): ∀e,e∈ws→Wd e:=by
 intro e he
 obtain⟨j,hj,rfl⟩:=List.getElem_of_mem he
 exact h j _ (by omega) (by simp[hj])
def RWd (ws:Lz) (m:Nat) (vs:List V):Prop:= ∃i:Nat,i≤ws.length∧JA ws i∧m=ws.length - i∧vs=[iV .i64 (i:Int)]
theorem RWd.next {ws:Lz} {i:Nat} {w:Int} (hi:(i:Int) < (ws.length:Int)) (hl:ws.length≤maxLen) (h:JA ws i) (hs:ws[((i:Int)).toNat]? =some [tI w]) (h0:0≤w) (h1:w≤500):RWd ws (ws.length - (i+1)) [iV .i64 (IntKind.i64.wrap ((i:Int)+1))]:=by
 refine⟨i+1,by omega,fun j e hj he=>?_,rfl,by simp only[maxLen]at hl;rw[bO (by omega) (by omega)];rfl⟩
 by_cases fk:j=i
 · subst fk
   have hs':ws[j]? =some [tI w]:=by simpa using hs
   rw[hs']at he
   exact⟨w,(Option.some.inj he).symm,h0,h1⟩
 · exact h j e (by omega) he
theorem jK {es vs:Lz} (h:vs=fR es∧rz es):cq vs∧(3≤vs.length∧vs.length≤40)∧EK vs vs.length∧(∀e,e∈vs→JK e)∧vs.length=gq es:=by
 obtain⟨rfl,h1,h2,⟨⟨h3,h4,h5⟩,h6⟩,h7⟩:=h
 exact⟨fun e he=>by obtain⟨a,b,r,_⟩:=h5 e he;exact⟨a,b,r⟩,⟨h3,h4⟩,h6,h5,h7⟩
theorem zS {xs:Lz} {i j:Nat} {e:List T} (hi:xs[i]? =some e) (hij:i < j):e∈xs.take j:=
 List.mem_of_getElem? (i:=i) (by rw[List.getElem?_take,if_pos hij];exact hi)
theorem OZ {xs:Lz} (h:EK xs xs.length) {i j:Nat} {e e':List T} (hi:xs[i]? =some e) (hj:xs[j]? =some e') (hij:i≠j):e≠e':=by
 rintro rfl
 have yA:=(List.getElem?_eq_some_iff.1 hi).1
 have AY:=(List.getElem?_eq_some_iff.1 hj).1
 rcases Nat.lt_or_gt_of_ne hij with hlt|hlt
 · exact h j e AY hj (zS hi hlt)
 · exact h i e yA hi (zS hj hlt)
theorem RU {i N:Nat} (hi:(i:Int) < (N:Int)) (hN:2≤N) (hb:N≤1000000):((i:Int)).toNat≠ ((IntKind.i64.wrap ((i:Int)+1)).tmod (N:Int)).toNat:=by
 rw[bO (by omega) (by omega)]
 by_cases h:(i:Int)+1 < (N:Int)
 · rw[Int.tmod_eq_of_lt (by omega) h];omega
 · have e:(i:Int)+1=(N:Int):=by omega
   rw[e,Int.tmod_self];omega
theorem J5 {vs:Lz} {i:Nat} {a b c d:Int} (h:EK vs vs.length) (hi:(i:Int) < (vs.length:Int)) (hN:3≤vs.length∧vs.length≤40) (h1:vs[((i:Int)).toNat]? =some [tI a,tI b]) (h2:vs[((IntKind.i64.wrap ((i:Int)+1)).tmod (vs.length:Int)).toNat]? =some [tI c,tI d]):a≠c∨b≠d:=by
 have:=OZ h h1 h2 (RU hi (by omega) (by omega))
 by_cases hac:a=c
 · by_cases hbd:b=d
   · subst hac;subst hbd;exact absurd rfl this
   · exact .inr hbd
 · exact .inl hac
theorem sqr {x:Int} (h1: -2097152≤x) (h2:x≤2097152):0≤x * x∧x * x≤4398046511104∧(x≠0→1≤x * x):=by
 have:=DR (m:=x) (s:=x) (B:=2097152) (C:=2097152) h1 h2 h1 h2 (by omega)
 have e:((x.natAbs * x.natAbs:Nat):Int)=x * x:=Int.natAbs_mul_self
 refine⟨by omega,by omega,fun hx=>?_⟩
 have:0 < x.natAbs * x.natAbs:=Nat.mul_pos (by omega) (by omega)
 omega
theorem Cv {a b c d:Int} (h1:Er (a,b)) (h2:Er (c,d)):0≤IntKind.i64.wrap (IntKind.i64.wrap (IntKind.i64.wrap (c - a) * IntKind.i64.wrap (c - a))+IntKind.i64.wrap (IntKind.i64.wrap (d - b) * IntKind.i64.wrap (d - b)))∧
 IntKind.i64.wrap (IntKind.i64.wrap (IntKind.i64.wrap (c - a) * IntKind.i64.wrap (c - a))+IntKind.i64.wrap (IntKind.i64.wrap (d - b) * IntKind.i64.wrap (d - b)))≤1125899906842624∧
 (a≠c∨b≠d→1≤IntKind.i64.wrap (IntKind.i64.wrap (IntKind.i64.wrap (c - a) * IntKind.i64.wrap (c - a))+IntKind.i64.wrap (IntKind.i64.wrap (d - b) * IntKind.i64.wrap (d - b)))):=by
 obtain⟨⟨a1,a2⟩,b1,b2⟩:=h1
 obtain⟨⟨c1,c2⟩,d1,d2⟩:=h2
 simp only at a1 a2 b1 b2 c1 c2 d1 d2
 rw[bO (n:=c - a) (by omega) (by omega),bO (n:=d - b) (by omega) (by omega)]
 have e1:=sqr (x:=c - a) (by omega) (by omega)
 have e2:=sqr (x:=d - b) (by omega) (by omega)
 rw[bO (n:=(c - a) * (c - a)) (by omega) (by omega),bO (n:=(d - b) * (d - b)) (by omega) (by omega),bO (by omega) (by omega)]
 refine⟨by omega,by omega,fun h=>?_⟩
 rcases h with h|h
 · have:=e1.2.2 (by omega);omega
 · have:=e2.2.2 (by omega);omega
theorem JX {a b c d s w:Int} (hs: -1≤s∧s≤1) (Hy:0≤w) (zg:w≤500) (h1:Er (a,b)) (h2:Er (c,d)): -1000000000000000≤IntKind.i64.wrap (IntKind.i64.wrap (s * w) * IntKind.i64.wrap (d - b))∧
 -1000000000000000≤IntKind.i64.wrap (IntKind.i64.wrap (0 - IntKind.i64.wrap (s * w)) * IntKind.i64.wrap (c - a)):=by
 obtain⟨⟨a1,a2⟩,b1,b2⟩:=h1
 obtain⟨⟨c1,c2⟩,d1,d2⟩:=h2
 simp only at a1 a2 b1 b2 c1 c2 d1 d2
 have e:=DR (m:=s) (s:=w) (B:=500) (C:=1) hs.1 hs.2 (by omega) zg (by omega)
 rw[bO (n:=c - a) (by omega) (by omega),bO (n:=d - b) (by omega) (by omega),bO (n:=s * w) (by omega) (by omega),bO (n:=0 - s * w) (by omega) (by omega)]
 have e1:=DR (m:=s * w) (s:=d - b) (B:=2097152) (C:=500) (by omega) (by omega) (by omega) (by omega) (by omega)
 have e2:=DR (m:=0 - s * w) (s:=c - a) (B:=2097152) (C:=500) (by omega) (by omega) (by omega) (by omega) (by omega)
 rw[bO (by omega) (by omega),bO (by omega) (by omega)]
 omega
theorem cq.set {xs:Lz} (h:cq xs) (j:Nat) (a b:Int):cq (xs.set j [tI a,tI b]):=by
 intro e he
 rcases List.mem_or_eq_of_mem_set he with he|rfl
 · exact h e he
 · exact⟨a,b,rfl⟩
theorem cq.Fl (n:Nat):cq (List.replicate n [tI 0,tI 0]):=by
 intro e he
 obtain⟨_,rfl⟩:=List.mem_replicate.1 he
 exact⟨0,0,rfl⟩
theorem cq.snoc {xs:Lz} (h:cq xs) (a b:Int):cq (xs++[[tI a,tI b]]):=by
 intro e he
 simp only[List.mem_append,List.mem_singleton]at he
 rcases he with he|rfl
 · exact h e he
 · exact⟨a,b,rfl⟩
theorem iS {zs:Lz} {n:Nat} (h:n=zs.length):(zs.drop 0).take n=zs:=by subst h;simp
def RSf (N:Nat) (m:Nat) (vs:List V) (xss:List (Lz)):Prop:= ∃ (i:Nat) (zs:Lz),i≤N∧m=N - i∧vs=[iV .i64 (i:Int)]∧xss=[zs]∧zs.length=N∧cq zs
theorem RSf.next {N i j:Nat} {zs:Lz} {a b:Int} (h:(i:Int) < (N:Int)) (hN:N≤1000000) (hl:zs.length=N) (hU:cq zs):RSf N (N - (i+1)) [iV .i64 (IntKind.i64.wrap ((i:Int)+1))] [zs.set j [tI a,tI b]]:=
 ⟨i+1,_,by omega,rfl,by rw[bO (by omega) (by omega)];rfl,rfl,by simp[hl],hU.set j a b⟩
theorem qI (es ws:Lz) (he:jd es) (hm:es.length≤maxLen) (hw:Is ws) (ze:ws.length≤maxLen):Tg 251 [oL 2 es,oL 1 ws] (JM 2 (fun ss=>(cq ss∧ss.length=gq es)∧rz es∧(∀e,e∈ws→Wd e)∧ws.length=es.length)):=by
 refine aG ?_
 refine ah (n:=110) (rs:=[.tmp 4, .tmp 5]) Tryz.func251 adW Xu rfl rfl (by simp) ?_
 repeat' (conv=>whnf
          first
  |(refine az (fun h=>?_) (fun h=>?_))
  |(refine cv (fun h=>?_) (fun h=>?_))
  |(refine ap (xs:=vs) (n:=(i:Int)) (jK (hP (by omega))).2.2.2.1 (by omega) (by omega) ?_;rintro _ ⟨a,b,rfl,QB⟩ mD)
  |(refine ap (xs:=vs) (jK (hP (by omega))).2.2.2.1 (cj (by have:=(jK (hP (by omega))).2.1;rw[bO (by omega) (by omega)];omega)) (bW (by have:=(jK (hP (by omega))).2.1;omega)) ?_;rintro _ ⟨c,d,rfl,QA⟩ lj)
  |(refine ap (xs:=ws) hw (by omega) (by omega) ?_;rintro _ ⟨w,rfl⟩ hs)
  |(refine ap (xs:=ys) hyW (by omega) (by have:=(jK (hP (by omega))).2.2.2.2;omega) ?_;rintro _ ⟨w2,rfl,Hy,zg⟩ hsw)
  |(refine And.intro ⟨by omega,by omega,by have:=(jK (hP (by omega))).2.1;omega,by have:=(jK (hP (by omega))).2.1;omega⟩ ?_)
  |(refine And.intro (show((vs.length:Nat):Int)≠0 by have:=(jK (hP (by omega))).2.1;omega) ?_)
  |(refine And.intro ⟨by omega,by omega⟩ ?_)
  |(refine And.intro (by kernel_rfl) ?_)
  |(refine ai rfl (kX es he hm) ?_;rintro _ ⟨vs,e,rfl,hP⟩)
  |(refine ai rfl (dZ vs (jK (hP (by omega))).1 (by have:=(jK (hP (by omega))).2.1;omega)) ?_;rintro _ ⟨sg,rfl,SA⟩)
  |(refine ai rfl (fO es ws (hP (by omega)).2.2.1 (hP (by omega)).2.1.2 (hp.all (by omega)) (by omega)) ?_;rintro _ ⟨ys,rfl,vl,hyW⟩)
  |(refine cg (xs:=zs) rfl hU (by omega) ?_;rintro _ ⟨x,y,rfl⟩ EC)
  |(refine ai rfl (uU _ (Cv QB QA).1 (Cv QB QA).2.1) ?_;rintro _ ⟨r,rfl,hr,qT⟩)
  |(refine ai rfl (jD _ _ (JX SA Hy zg QB QA).1 (by have:=qT ((Cv QB QA).2.2 (J5 (jK (hP (by omega))).2.2.1 (by omega) (jK (hP (by omega))).2.1 mD lj));omega) (by omega)) ?_;rintro _ ⟨n,rfl⟩)
  |(refine ai rfl (jD _ _ (JX SA Hy zg QB QA).2 (by have:=qT ((Cv QB QA).2.2 (J5 (jK (hP (by omega))).2.2.1 (by omega) (jK (hP (by omega))).2.1 mD lj));omega) (by omega)) ?_;rintro _ ⟨n,rfl⟩)
  |exact iy rfl (dR 2 rfl) (dw rfl) ⟨_,_,rfl,fun h0=>absurd h0 (by omega)⟩
  |exact iy rfl (fg rfl rfl (xs:=zs) rfl (by omega)) (dw rfl) ⟨_,_,rfl,fun _=>by rw[iS (by omega)];exact⟨⟨hU,by have:=(jK (hP (by omega))).2.2.2.2;omega⟩,(hP (by omega)).2,hp.all (by omega),by omega⟩⟩
  |(apply bc [6,10,11,12,54,55,56] [] [56] [(4,2)] (RSf vs.length) (vs.length) [iV .i64 0];(conv=>whnf);exact⟨rfl,rfl,rfl,rfl⟩;exact rfl;exact rfl;exact .cons (aL.aF (aL.replicate _ [tI 0,tI 0]) _) .nil;exact⟨0,_,by omega,rfl,rfl,rfl,by simp,cq.Fl _⟩;rintro _ _ _ ⟨i,zs,hi,rfl,rfl,rfl,hz,hU⟩)
  |(refine aq [6,10,11,12,54,55,56] [] ?_;(conv=>whnf);exact⟨rfl,_,[_],_, .cons (aL.aF (aL.set (xs:=zs) rfl _ [tI _,tI _]) _) .nil,RSf.next (by omega) (by have:=(jK (hP (by omega))).2.1;omega) hz hU,rfl,rfl,by omega⟩)
  |(apply aK [0,1,6,33,34,35] [] [35] (RWd ws) (ws.length) [iV .i64 0];(conv=>whnf);exact⟨rfl,rfl,rfl,rfl⟩;exact rfl;exact rfl;exact⟨0,by omega,fun j e hj=>by omega,rfl,rfl⟩;rintro _ _ ⟨i,hi,hp,rfl,rfl⟩)
  |(refine aq [0,1,6,33,34,35] [] ?_;(conv=>whnf);exact⟨rfl,_,[_],RWd.next (by omega) ze hp hs (by omega) (by omega),rfl,rfl,rfl,by omega⟩))
 all_goals (conv=>whnf)
abbrev RN (a b:Sp) (w:Int):W:= .agg [.t (tI a.1), .t (tI a.2), .t (tI b.1), .t (tI b.2), .t (tI w)]
theorem anI (a b:Int):cq ((([[tI a,tI b]]:Lz).drop 0).take 1):=by
 intro e he
 simp at he
 exact⟨a,b,he⟩
theorem anH (a b c d:Int):cq ((([[tI a,tI b],[tI c,tI d]]:Lz).drop 0).take 2):=by
 intro e he
 simp at he
 rcases he with he|he
 · exact⟨a,b,he⟩
 · exact⟨c,d,he⟩
theorem qH (v a1 a2 b1 b2:Sp) (wa wb:Int):Tg 255 [gD v,RN a1 a2 wa,RN b1 b2 wb] (GL 2 (fun ps=>cq ps∧ps.length≤2)):=by
 refine aG ?_
 refine ah (n:=59) (rs:=[.tmp 6]) Tryz.func255 adS Xq rfl rfl (by simp) ?_
 repeat' (conv=>whnf
          first
  |(refine az (fun h=>?_) (fun h=>?_))
  |(refine aB (fun h=>?_) (fun h=>?_))
  |(refine And.intro (by kernel_rfl) ?_)
  |(refine au rfl (su (_,_)) ?_;rintro _ ⟨b,xs,ds,c,ys,es,rfl,h1,h2⟩)
  |(refine au rfl (Br _ _ _ _ _ _ _ _ _ _ _ _ _ _ _ _ _ _ _ _ _ _ _ _ (by assumption) (by assumption) (by assumption) (by assumption) (by assumption) (by assumption) (by assumption) (by assumption)) ?_;rintro _ ⟨b,xs,ds,c,ys,es,n,rfl,h1,h2⟩)
  |(refine au rfl (jZ 341 _ _ _ _ _ _ _ _ _ _ _ _ (by assumption) (by assumption) (fZ (k:=2) (by assumption) (by omega)) (fZ (k:=2) (by assumption) (by omega)) (by omega) (by omega)) ?_;rintro _ ⟨b,xs,ds,c,ys,es,rfl,h1,h2⟩)
  |(refine au rfl (Bu 683 _ _ _ _ _ _ (by assumption) (by assumption) (by omega) (by omega)) ?_;rintro _ ⟨⟨x,y⟩,n,rfl⟩)
  |(refine ai rfl (kp (_,_) _) ?_;rintro _ ⟨q,rfl⟩)
  |(refine ai rfl (nD (_,_) (_,_)) ?_;rintro _ ⟨x,y,rfl,_⟩)
  |exact mF rfl (fg rfl rfl (xs:=[[tI _,tI _]]) rfl (by simp)) ⟨_,rfl,anI _ _,by simp⟩
  |exact mF rfl (fg rfl rfl (xs:=[[tI _,tI _],[tI _,tI _]]) rfl (by simp)) ⟨_,rfl,anH _ _ _ _,by simp⟩)
 all_goals (conv=>whnf)
end Go.aU.Cd
end
section
namespace Go.aU.Cd
open Go Go.Proofs
set_option maxRecDepth 100000
set_option maxHeartbeats 2000000
def ZT:Rc:=Sq (Rg [Mn 4,Mk 5 0]) (Sq (Rg [Mv 23 0,Mv 24 1,p 25 (.call 251 [t 23,t 24]),Mv 22 25,Et 26 22 0,Et 27 22 1,Mv 6 26,Mv 7 27]) (Sq (Sq (Rg [Mv 28 7,Bi 29 .neq 28 0]) (Cn 29 (Sq (Rg [Mv 30 7,Mn 4,Mv 5 30]) Rt) Sk)) (Sq (Rg [Mv 32 0,p 33 (.call 252 [t 32]),Mv 31 33,Et 34 31 0,Et 35 31 1,Mv 8 34,Mv 7 35]) (Sq (Sq (Rg [Mv 36 7,Bi 37 .neq 36 0]) (Cn 37 (Sq (Rg [Mv 38 7,Mn 4,Mv 5 38]) Rt) Sk)) (Sq (Rg [Mv 39 0,Mv 40 1,p 41 (.call 253 [t 39,t 40]),Mv 9 41]) (Sq (Rg [Mv 42 8,Le 43 42,Mv 10 43]) (Sq (Rg [Mv 44 10,p 45 (.make [zi,zi,zi,zi,zi] 40 (t 44) (t 44)),Mv 11 45]) (Sq (Sq (Rg [Mv 46 6,Le 47 46,Mk 48 0]) (Bk 0 (Lp (Sq (Rg [Bt 49 .lss 48 47]) (Sq (Cn 49 Sk (Ex 0)) (Sq (Bk 1 (Sq (Rg [Mv 50 48,Ia 51 2 46 48,Lo 2 52 51,p 13 (.alloc [zi,zi]),Mv 12 50,So 2 13 52]) (Dr [Mv 53 11,Mv 54 12,Mv 55 8,Mv 56 12,Ia 57 2 55 56,Lo 2 58 57,Lo 2 59 13,p 60 (.call 254 [t 58,t 59]),Mv 61 8,Mv 62 12,Bi 63 .add 62 1,Mv 64 10,Bt 65 .rem 63 64,Ia 66 2 61 65,Lo 2 67 66,Lo 2 68 13,p 69 (.call 254 [t 67,t 68]),Mv 70 9,Mv 71 12,Ia 72 1 70 71,Ld 73 72,p 74 (.build [zi,zi,zi,zi,zi] [(0,2,t 60),(2,2,t 69),(4,1,t 73)]),Ia 75 5 53 54,So 5 75 74] [[],[],[],[],[2,3],[4],[],[5,6],[],[],[9],[],[10,11],[8,12],[13],[],[14,15,7],[],[],[17,18],[19],[7,16,20],[0,1,0,1,2,3,4,5,6,7,8,9,10,11,12,13,14,15,16,17,18,19,20,21],[22,21,16,0,1,2,3,4,5,6,7,8,9,10,11,12,13,14,15,16,17,18,19,20,21]]))) (Rg [Bi 76 .add 48 1,Mv 48 76]))))))) (Sq (Rg [Mn 14]) (Sq (Sq (Rg [Mv 77 8,Le 78 77,Mk 79 0]) (Bk 2 (Lp (Sq (Rg [Bt 80 .lss 79 78]) (Sq (Cn 80 Sk (Ex 2)) (Sq (Bk 3 (Sq (Rg [Mv 81 79,Ia 82 2 77 79,Lo 2 83 82,p 16 (.alloc [zi,zi]),Mv 15 81,So 2 16 83]) (Sq (Dr [Lo 2 84 16,Mv 85 11,Mv 86 15,Mv 87 10,Bt 88 .add 86 87,Bi 89 .sub 88 1,Mv 90 10,Bt 91 .rem 89 90,Ia 92 5 85 91,Lo 5 93 92,Mv 94 11,Mv 95 15,Ia 96 5 94 95,Lo 5 97 96,p 98 (.call 255 [t 84,t 93,t 97]),Le 99 98,Mk 100 0] [[],[],[],[],[2,3],[4],[],[5,6],[1,7],[8],[],[],[10,11],[12],[0,9,13],[14],[]]) (Bk 4 (Lp (Sq (Rg [Bt 101 .lss 100 99]) (Sq (Cn 101 Sk (Ex 4)) (Sq (Bk 5 (Sq (Rg [Ia 102 2 98 100,Lo 2 103 102,p 18 (.alloc [zi,zi]),So 2 18 103]) (Sq (Dr [Mv 104 14,Le 105 104,Bi 106 .eql 105 0,Mv 107 106,Ga 107 (Mv 108 14),Ga 107 (Mv 109 14),Ga 107 (Le 110 109),Ga 107 (Bi 111 .sub 110 1),Ga 107 (Ia 112 2 108 111),Ga 107 (Lo 2 113 112),Ga 107 (Lo 2 114 18),Ga 107 (p 115 (.Ba true [0,0] (t 113) (t 114))),Pt 116 107 115] [[],[0],[1],[2],[3],[3],[5,3],[6,3],[4,7,3],[8,3],[3],[9,10,3],[3,11]]) (Cn 116 (Rg [Mv 117 14,Lo 2 118 18,p 119 (.aT [zi,zi] 1 [(0,t 118)]),p 120 (.append 2 16 (t 117) (t 119)),Mv 14 120]) Sk)))) (Rg [Bi 121 .add 100 1,Mv 100 121]))))))))) (Rg [Bi 122 .add 79 1,Mv 79 122]))))))) (Sq (Bk 6 (Lp (Sq (Sq (Dr [Mv 123 14,Le 124 123,Bi 125 .geq 124 2,Mv 126 125,Gb 126 (Mv 127 14),Gb 126 (Mv 128 14),Gb 126 (Le 129 128),Gb 126 (Bi 130 .sub 129 1),Gb 126 (Ia 131 2 127 130),Gb 126 (Lo 2 132 131),Gb 126 (Mv 133 14),Gb 126 (p 134 (.dB 2 (t 133) (k 0))),Gb 126 (Lo 2 135 134),Gb 126 (p 136 (.Ba false [0,0] (t 132) (t 135))),Pf 137 126 136] [[],[0],[1],[2],[3],[3],[5,3],[6,3],[4,7,3],[8,3],[3],[10,3],[11,3],[9,12,3],[3,13]]) (Cn 137 Sk (Ex 6))) (Bk 7 (Rg [Mv 138 14,Mv 139 14,Le 140 139,Bi 141 .sub 140 1,p 142 (.slice 2 (t 138) none (some (t 141))),Mv 14 142]))))) (Sq (Sq (Rg [Mv 143 14,Le 144 143,Mk 145 0]) (Bk 8 (Lp (Sq (Rg [Bt 146 .lss 145 144]) (Sq (Cn 146 Sk (Ex 8)) (Sq (Bk 9 (Sq (Rg [Ia 147 2 143 145,Lo 2 148 147,p 20 (.alloc [zi,zi]),So 2 20 148]) (Sq (Rg [Lo 2 149 20,p 150 (.call 256 [t 149,(k 1048576)]),Nt 151 150]) (Cn 151 (Sq (Rg [Mn 4,Mk 5 3]) Rt) Sk)))) (Rg [Bi 152 .add 145 1,Mv 145 152]))))))) (Sq (Sq (Rg [Mv 153 14,p 154 (.call 72 [t 153]),Mv 21 154]) (Sq (Rg [Mv 155 21,Bi 156 .neq 155 0]) (Cn 156 (Sq (Rg [Mv 157 21,Mn 4,Mv 5 157]) Rt) Sk))) (Sq (Sq (Rg [Mv 158 14,p 159 (.call 257 [t 158]),Mv 160 8,p 161 (.call 257 [t 160]),Bt 162 .neq 159 161]) (Cn 162 (Sq (Rg [Mn 4,Mk 5 11]) Rt) Sk)) (Sq (Rg [Mv 163 14,Mv 4 163,Mk 5 0]) Rt)))))))))))))))
theorem XO:ae Tryz.prog (Tryz.f199.body.getD .skip)=some ZT:=by kernel_rfl
theorem aeQ:Tryz.f199.body=some (Tryz.f199.body.getD .skip):=rfl
def Sg (e:List T):Prop:= ∃a b c d w,e=[tI a,tI b,tI c,tI d,tI w]
abbrev M3 (xs:Lz):Prop:= ∀e,e∈xs→Sg e
theorem M3.set {xs:Lz} (h:M3 xs) (j:Nat) (a b c d w:Int):M3 (xs.set j [tI a,tI b,tI c,tI d,tI w]):=by
 intro e he
 rcases List.mem_or_eq_of_mem_set he with he|rfl
 · exact h e he
 · exact⟨a,b,c,d,w,rfl⟩
theorem M3.Fl (n:Nat):M3 (List.replicate n [tI 0,tI 0,tI 0,tI 0,tI 0]):=by
 intro e he
 obtain⟨_,rfl⟩:=List.mem_replicate.1 he
 exact⟨0,0,0,0,0,rfl⟩
def RSg (N:Nat) (m:Nat) (vs:List V) (xss:List (Lz)):Prop:= ∃ (i:Nat) (zs:Lz),i≤N∧m=N - i∧vs=[iV .i64 (i:Int)]∧xss=[zs]∧zs.length=N∧M3 zs
theorem RSg.next {N i j:Nat} {zs:Lz} {a b c d w:Int} (h:(i:Int) < (N:Int)) (hN:N≤1000000) (hl:zs.length=N) (hU:M3 zs):RSg N (N - (i+1)) [iV .i64 (IntKind.i64.wrap ((i:Int)+1))] [zs.set j [tI a,tI b,tI c,tI d,tI w]]:=
 ⟨i+1,_,by omega,rfl,by rw[bO (by omega) (by omega)];rfl,rfl,by simp[hl],hU.set j a b c d w⟩
def RPo (zs:Lz) (N:Nat) (m:Nat) (ws:List V) (xss:List (Lz)):Prop:= ∃ (i:Nat) (ps:Lz),i≤N∧m=N - i∧ws=[bK 8 2 ps.length,iV .i64 (i:Int)]∧xss=[zs,ps]∧ps.length≤2 * i∧cq ps
theorem RPo.next {N i:Nat} {zs ps:Lz} (h:(i:Int) < (N:Int)) (hN:N≤1000000) (hp:ps.length≤2 * (i+1)) (hS:cq ps):RPo zs N (N - (i+1)) [bK 8 2 ps.length,iV .i64 (IntKind.i64.wrap ((i:Int)+1))] [zs,ps]:=
 ⟨i+1,_,by omega,rfl,by rw[bO (by omega) (by omega)];rfl,rfl,hp,hS⟩
def PI (zs:Lz) (b L:Nat) (m:Nat) (ws:List V) (xss:List (Lz)):Prop:= ∃ (j:Nat) (ps:Lz),j≤L∧m=L - j∧ws=[bK 8 2 ps.length,iV .i64 (j:Int)]∧xss=[zs,ps]∧ps.length≤b+j∧cq ps
theorem PI.same {b L j:Nat} {zs ps:Lz} (h:(j:Int) < (L:Int)) (hL:L≤2) (hp:ps.length≤b+j) (hS:cq ps):PI zs b L (L - (j+1)) [bK 8 2 ps.length,iV .i64 (IntKind.i64.wrap ((j:Int)+1))] [zs,ps]:=
 ⟨j+1,_,by omega,rfl,by rw[bO (by omega) (by omega)];rfl,rfl,by omega,hS⟩
theorem PI.G9 {b L j k:Nat} {zs ps:Lz} {x y:Int} (h:(j:Int) < (L:Int)) (hL:L≤2) (hp:ps.length≤b+j) (hS:cq ps) (hk:k=ps.length+1):PI zs b L (L - (j+1)) [bK 8 2 k,iV .i64 (IntKind.i64.wrap ((j:Int)+1))] [zs,ps++[[tI x,tI y]]]:=
 ⟨j+1,_,by omega,rfl,by rw[bO (by omega) (by omega),hk];simp,rfl,by simp;omega,hS.snoc x y⟩
def RTr (ps:Lz) (m:Nat) (vs:List V) (xss:List (Lz)):Prop:= ∃k:Nat,k≤ps.length∧m=k∧vs=[bK 4 2 k]∧xss=[ps]
theorem RTr.next {ps:Lz} {k:Nat} (hk:k≤ps.length) (h2:(k:Int)≥2) (hb:ps.length≤1000):RTr ps (k - 1) [bK 4 2 ((IntKind.i64.wrap ((k:Int) - 1)).toNat - 0)] [ps]:=by
 have e:(IntKind.i64.wrap ((k:Int) - 1)).toNat - 0=k - 1:=by rw[bO (by omega) (by omega)];omega
 rw[e]
 exact⟨k - 1,by omega,rfl,rfl,rfl⟩
def RPk (ps:Lz) (k:Nat) (m:Nat) (vs:List V) (xss:List (Lz)):Prop:= ∃i:Nat,i≤k∧m=k - i∧vs=[iV .i64 (i:Int)]∧xss=[ps]
theorem RPk.next {ps:Lz} {i k:Nat} (h:(i:Int) < (k:Int)) (hk:k≤1000):RPk ps k (k - (i+1)) [iV .i64 (IntKind.i64.wrap ((i:Int)+1))] [ps]:=
 ⟨i+1,by omega,rfl,by rw[bO (by omega) (by omega)];rfl,rfl⟩
theorem Ka {hp:HS} {id sz len:Nat} {rows:List (List C)} {xs:Lz} (hf:find hp id=some (.row sz rows)) (hR:aL rows xs) (hl:len≤xs.length):bB (bH hp) [.one (.own id sz 0 len)]=some [.one (.t (.ao sz (xs.take len)))]:=by
 have:=kK (hp:=hp) (i:=0) hf hR (by omega:0+len≤xs.length)
 simp only[bB,this]
 simp
theorem cq.take {xs:Lz} (h:cq xs) (n:Nat):cq (xs.take n):=fun e he=>h e (List.mem_of_mem_take he)
theorem Cq {xs:Lz} {n B:Nat} (h:xs.length≤B):(xs.take n).length≤B:=by simp;omega
theorem Ni {i N:Nat} (hN:1≤N) (hb:N≤1000000) (hi:i < N):0≤(IntKind.i64.wrap (IntKind.i64.wrap ((i:Int)+(N:Int)) - 1)).tmod (N:Int)∧(IntKind.i64.wrap (IntKind.i64.wrap ((i:Int)+(N:Int)) - 1)).tmod (N:Int) < (N:Int):=
 ⟨cj (by rw[bO (n:=(i:Int)+(N:Int)) (by omega) (by omega),bO (by omega) (by omega)];omega),bW (by omega)⟩
theorem pL {es vs:Lz} (h:vs=fR es∧rz es):(3≤vs.length∧vs.length≤40)∧vs.length=gq es:=⟨(jK h).2.1,(jK h).2.2.2.2⟩
theorem sw (es ws:Lz) (he:jd es) (hm:es.length≤maxLen) (hw:Is ws) (ze:ws.length≤maxLen):Tg 199 [oL 2 es,oL 1 ws] (JM 2 xw):=by
 refine aG ?_
 refine ah (n:=164) (rs:=[.tmp 4, .tmp 5]) Tryz.func199 aeQ XO rfl rfl (by simp) ?_
 repeat' (conv=>whnf
          first
  |(refine az (fun h=>?_) (fun h=>?_))
  |(refine cv (fun h=>?_) (fun h=>?_))
  |(refine aB (fun h=>?_) (fun h=>?_))
  |(refine ap (xs:=ss) (hS (by omega)).1.1 (by omega) (by omega) ?_;rintro _ ⟨x0,y0,rfl⟩ hs0;have EF:(i:Int) < (vs.length:Int):=by(have:=(hS (by omega)).1.2;have:=(pL (hP (by omega))).2;omega))
  |(refine ap (xs:=vs) (n:=(i:Int)) (jK (hP (by omega))).1 (by omega) (by first|omega|(have:=(hS (by omega)).1.2;have:=(pL (hP (by omega))).2;omega)) ?_;rintro _ ⟨a,b,rfl⟩ mD)
  |(refine ap (xs:=vs) (jK (hP (by omega))).1 (cj (by have:=(pL (hP (by omega))).1;rw[bO (by omega) (by omega)];omega)) (bW (by have:=(pL (hP (by omega))).1;omega)) ?_;rintro _ ⟨c,d,rfl⟩ lj)
  |(refine ap (xs:=ys) hyW (by omega) (by have:=(pL (hP (by omega))).2;have:=(hS (by omega)).1.2;omega) ?_;rintro _ ⟨w2,rfl,Hy,zg⟩ hsw)
  |(refine ap (xs:=cs) hcs (by omega) (by omega) ?_;rintro _ ⟨cx,cy,rfl⟩ hsc)
  |(refine And.intro ⟨by omega,by omega,by have:=(pL (hP (by omega))).1;omega,by have:=(pL (hP (by omega))).1;omega⟩ ?_)
  |(refine And.intro (show((vs.length:Nat):Int)≠0 by have:=(pL (hP (by omega))).1;omega) ?_)
  |(refine And.intro ⟨by simp[tr],by have:=(pL (hP (by omega))).1;simp[tr,bR];omega,by have:=(pL (hP (by omega))).1;simp[tr,maxLen];omega⟩ ?_)
  |(refine nH (Nat.zero_le _) (by have:=(pL (hP (by omega))).1;rw[bO (by omega) (by omega)];omega) (.inr rfl) ?_)
  |(refine And.intro (show(0:Int)≤IntKind.i64.wrap ((k:Int) - 1) by rw[bO (by omega) (by have:=(pL (hP (by omega))).1;omega)];omega) ?_)
  |(refine And.intro ⟨cj (by have:=(pL (hP (by omega))).1;rw[bO (n:=(i:Int)+(vs.length:Int)) (by omega) (by omega),bO (by omega) (by omega)];omega),bW (by have:=(pL (hP (by omega))).1;omega)⟩ ?_)
  |(refine And.intro ⟨by omega,by omega⟩ ?_)
  |(refine And.intro ⟨by have:=(pL (hP (by omega))).1;rw[bO (by omega) (by omega)];omega,by have:=(pL (hP (by omega))).1;rw[bO (by omega) (by omega)];omega⟩ ?_)
  |(refine And.intro (by kernel_rfl) ?_)
  |(refine ai rfl (qI es ws he hm hw ze) ?_;rintro _ ⟨ss,e1,rfl,hS⟩)
  |(refine ai rfl (kX es he hm) ?_;rintro _ ⟨vs,e,rfl,hP⟩)
  |(refine ai rfl (fO es ws (hP (by omega)).2.2.1 (hP (by omega)).2.1.2 (hS (by omega)).2.2.1 (hS (by omega)).2.2.2) ?_;rintro _ ⟨ys,rfl,vl,hyW⟩)
  |(refine cg (xs:=zs) rfl hU (by first|omega|(have:=Ni (i:=i) (N:=vs.length) (by have:=(pL (hP (by omega))).1;omega) (by have:=(pL (hP (by omega))).1;omega) (by omega);omega)) ?_;rintro _ ⟨s1,s2,s3,s4,s5,rfl⟩ EC)
  |(refine cg (xs:=PZ) rfl IG (by first|omega|(have:=(pL (hP (by omega))).1;rw[bO (by omega) (by omega)];omega)) ?_;rintro _ ⟨x,y,rfl⟩ EC)
  |(refine cg (xs:=ps) rfl hps (by first|omega|(have:=(pL (hP (by omega))).1;rw[bO (by omega) (by omega)];omega)) ?_;rintro _ ⟨x,y,rfl⟩ EC)
  |(refine au rfl (nD (_,_) (_,_)) ?_;rintro _ ⟨x,y,rfl,_⟩)
  |(refine au rfl (qH (_,_) (_,_) (_,_) (_,_) (_,_) _ _) ?_;rintro _ ⟨cs,rfl,hcs,ee⟩)
  |(refine ai rfl (kp (_,_) _) ?_;rintro _ ⟨q,rfl⟩)
  |(refine sM (Ka (xs:=ps) rfl rfl (by omega)) (eE _ (hps.take _) (Cq (by have:=(pL (hP (by omega))).1;omega))) ?_ ?_;(rintro _ ⟨d,rfl,hd⟩;rfl);rintro _ ⟨d,rfl,hd⟩)
  |(refine sM (Ka (xs:=ps) rfl rfl (by omega)) (dZ _ (hps.take _) (Cq (by have:=(pL (hP (by omega))).1;omega))) ?_ ?_;(rintro _ ⟨o1,rfl,_⟩;rfl);rintro _ ⟨o1,rfl,_⟩)
  |(refine ai rfl (dZ vs (jK (hP (by omega))).1 (by have:=(pL (hP (by omega))).1;omega)) ?_;rintro _ ⟨o2,rfl,_⟩)
  |exact iy rfl (dR 2 rfl) (dw rfl) ⟨_,_,rfl,fun h0=>absurd h0 (by omega)⟩
  |exact iy rfl (fg rfl rfl (xs:=ps) rfl (by omega)) (dw rfl) ⟨_,_,rfl,fun _=>by simpa using hd (by omega)⟩
  |(apply bc [8,14,143,144,145] [] [145] [(4,2)] (RPk ps k) (k) [iV .i64 0];(conv=>whnf);exact⟨rfl,rfl,rfl,rfl⟩;exact rfl;exact rfl;exact .cons (aL.aF (xs:=ps) rfl _) .nil;exact⟨0,by omega,rfl,rfl,rfl⟩;rintro _ _ _ ⟨q,hq,rfl,rfl,rfl⟩)
  |(refine aq [8,14,143,144,145] [] ?_;(conv=>whnf);exact⟨rfl,_,[_],_, .cons (aL.aF (xs:=ps) rfl _) .nil,RPk.next (by omega) (by have:=(pL (hP (by omega))).1;omega),rfl,rfl,by omega⟩)
  |(apply bc [8,10,11,14,77,78,79,98,99,100] [] [14,100] [(4,5),(8,2)] (PI zs (2 * i) cs.length) (cs.length) [bK 8 2 ps.length,iV .i64 0];(conv=>whnf);exact⟨rfl,rfl,rfl,rfl⟩;exact rfl;exact rfl;exact .cons (aL.aF (xs:=zs) rfl _) (.cons (aL.aF (xs:=ps) rfl _) .nil);exact⟨0,ps,by omega,rfl,rfl,rfl,by omega,hps⟩;rintro _ _ _ ⟨j,PZ,hj,rfl,rfl,rfl,SI,IG⟩)
  |(refine aq [8,10,11,14,77,78,79,98,99,100] [] ?_;(conv=>whnf);first|exact⟨rfl,_,[_,_],_, .cons (aL.aF (xs:=zs) rfl _) (.cons (aL.aF (xs:=PZ) rfl _) .nil),PI.same (by omega) ee SI IG,rfl,rfl,by omega⟩|exact⟨rfl,_,[_,_],_, .cons (aL.aF (xs:=zs) rfl _) (.cons (aL.aF (aL.snoc (xs:=PZ) rfl [tI _,tI _]) _) .nil),PI.G9 (by omega) ee SI IG (by simp[tr]),rfl,rfl,by omega⟩)
  |(apply bc [8,14] [] [14] [(4,2)] (RTr ps) (ps.length) [bK 4 2 ps.length];(conv=>whnf);exact⟨rfl,rfl,rfl,rfl⟩;exact rfl;exact rfl;exact .cons (aL.aF (xs:=ps) rfl _) .nil;exact⟨ps.length,by omega,rfl,rfl,rfl⟩;rintro _ _ _ ⟨k,hk,hmk,rfl,rfl⟩)
  |(refine aq [8,14] [] ?_;(conv=>whnf);exact⟨rfl,_,[_],_, .cons (aL.aF (xs:=ps) rfl _) .nil,RTr.next hk (by omega) (by have:=(pL (hP (by omega))).1;omega),rfl,rfl,by omega⟩)
  |(apply eN [8,10,11,14,77,78,79] [] [14,79] [(4,5),(8,2)] (RPo zs vs.length) (vs.length) [bK 8 2 0,iV .i64 0] (iA.jh 14 2 rfl);(conv=>whnf);exact⟨rfl,rfl,rfl,rfl⟩;exact rfl;exact rfl;exact .cons (aL.aF (xs:=zs) rfl _) (.cons (aL.aF aL.nil _) .nil);exact⟨0,[],by omega,rfl,rfl,rfl,by simp,fun e he=>by simp at he⟩;rintro _ _ _ ⟨i,ps,hi,rfl,rfl,rfl,mN,hps⟩)
  |(refine aq [8,10,11,14,77,78,79] [] ?_;(conv=>whnf);exact⟨rfl,_,[_,_],_, .cons (aL.aF (xs:=zs) rfl _) (.cons (aL.aF (xs:=PZ) rfl _) .nil),RPo.next (by omega) (by have:=(pL (hP (by omega))).1;omega) (by omega) IG,rfl,rfl,by omega⟩)
  |(apply bc [8,9,10,11,46,47,48] [] [48] [(4,5)] (RSg vs.length) (vs.length) [iV .i64 0];(conv=>whnf);exact⟨rfl,rfl,rfl,rfl⟩;exact rfl;exact rfl;exact .cons (aL.aF (aL.replicate _ [tI 0,tI 0,tI 0,tI 0,tI 0]) _) .nil;exact⟨0,_,by omega,rfl,rfl,rfl,by simp,M3.Fl _⟩;rintro _ _ _ ⟨i,zs,hi,rfl,rfl,rfl,hz,hU⟩)
  |(refine aq [8,9,10,11,46,47,48] [] ?_;(conv=>whnf);exact⟨rfl,_,[_],_, .cons (aL.aF (aL.set (xs:=zs) rfl _ [tI _,tI _,tI _,tI _,tI _]) _) .nil,RSg.next (by have:=(hS (by omega)).1.2;have:=(pL (hP (by omega))).2;omega) (by have:=(pL (hP (by omega))).1;omega) hz hU,rfl,rfl,by omega⟩))
 all_goals (conv=>whnf)
end Go.aU.Cd
end
section
namespace Go.aU
open Go
variable {P:Program} {M A:Nat→Prop} {ρ:Env} {F:Nat→Prop} {st:St} {a:Act} {w:World}
abbrev cf:=List (Value×C×Nat)
structure fP (P:Program) (kt:TypeId) (Kd:Value→Prop):Prop where
 at_: ∀ (es:cf) (kv:Value) (empty:Bool),(∀p,p∈es→Kd p.1)→Kd kv→
  (h8 P empty kt kv es=some none∧ ∀p,p∈es→p.1≠kv)∨ ∃i p,h8 P empty kt kv es=some (some i)∧es[i]? =some p∧p.1=kv
 same: ∀kv,Kd kv→Instr.sameBits 10000 kv kv=true
theorem uw {d:TypeDesc} {Kd:Value→Prop} {kv:Value} (hs: ∀b,Kd b→ ∃q,Instr.sameNow d kv b=some q∧(q=true↔b=kv)): ∀ (es:cf) (i0:Nat),(∀p,p∈es→Kd p.1)→
 (Instr.findNow d kv (cF es) i0=some none∧ ∀p,p∈es→p.1≠kv)∨ ∃i p v,Instr.findNow d kv (cF es) i0=some (some (i0+i,v))∧es[i]? =some p∧p.1=kv
 | [],i0,_=> .inl ⟨rfl,fun p hp=>by simp at hp⟩
 |e::es,i0,h=>by
  obtain⟨q,h1,h2⟩:=hs e.1 (h e List.mem_cons_self)
  have Gl:Instr.sameNow d kv (⟨e.1, .bool false,0⟩:MapEntry).key=some q:=h1
  show((match Instr.sameNow d kv (⟨e.1, .bool false,0⟩:MapEntry).key with
   |some true=>some (some (i0,(⟨e.1, .bool false,0⟩:MapEntry).val))
   |some false=>Instr.findNow d kv (cF es) (i0+1)
   |none=>none)=some none∧_)∨ ∃i p v,(match Instr.sameNow d kv (⟨e.1, .bool false,0⟩:MapEntry).key with
   |some true=>some (some (i0,(⟨e.1, .bool false,0⟩:MapEntry).val))
   |some false=>Instr.findNow d kv (cF es) (i0+1)
   |none=>none)=some (some (i0+i,v))∧_
  rw[Gl]
  cases q with
  |true=>exact .inr ⟨0,e,_,rfl,rfl,h2.1 rfl⟩
  |false=>
   have hne:e.1≠kv:=fun he=>by have:=h2.2 he;simp at this
   rcases uw hs es (i0+1) (fun p hp=>h p (List.mem_cons_of_mem _ hp))with⟨h3,h4⟩|⟨i,p,v,h3,h4,h5⟩
   · refine .inl ⟨h3,fun p hp=>?_⟩
     rcases List.mem_cons.1 hp with rfl|hp
     · exact hne
     · exact h4 p hp
   · exact .inr ⟨i+1,p,v,by rw[show i0+(i+1)=i0+1+i by omega];exact h3,by simpa using h4,h5⟩
theorem ny {kt:TypeId} {Kd:Value→Prop} {kv:Value} (hs: ∀b,Kd b→ ∃q,aA P (Op.equal kt kv b)=some q∧(q=true↔b=kv)): ∀ (es:cf) (i0:Nat),(∀p,p∈es→Kd p.1)→
 (aA P (Instr.findAsking kt kv (cF es) i0)=some none∧ ∀p,p∈es→p.1≠kv)∨ ∃i p v,aA P (Instr.findAsking kt kv (cF es) i0)=some (some (i0+i,v))∧es[i]? =some p∧p.1=kv
 | [],i0,_=> .inl ⟨rfl,fun p hp=>by simp at hp⟩
 |e::es,i0,h=>by
  obtain⟨q,h1,h2⟩:=hs e.1 (h e List.mem_cons_self)
  have hd:cF (e::es)=⟨e.1, .bool false,0⟩::cF es:=rfl
  simp only[hd,Instr.findAsking,aC,h1,Option.bind_some]
  cases q with
  |true=>exact .inr ⟨0,e,_,rfl,rfl,h2.1 rfl⟩
  |false=>
   have hne:e.1≠kv:=fun he=>by have:=h2.2 he;simp at this
   simp only[Bool.false_eq_true,if_false]
   rcases ny hs es (i0+1) (fun p hp=>h p (List.mem_cons_of_mem _ hp))with⟨h3,h4⟩|⟨i,p,v,h3,h4,h5⟩
   · refine .inl ⟨h3,fun p hp=>?_⟩
     rcases List.mem_cons.1 hp with rfl|hp
     · exact hne
     · exact h4 p hp
   · exact .inr ⟨i+1,p,v,by rw[show i0+(i+1)=i0+1+i by omega];exact h3,by simpa using h4,h5⟩
theorem wR {kt:TypeId} {d:TypeDesc} {Kd:Value→Prop} (hu:P.underlying kt=some d) (vq: ∀e kv,Kd kv→ ∃u,aA P (Instr.checkKey e 10000 kt kv)=some u)
 (hs: ∀a b,Kd a→Kd b→ ∃q,Instr.sameNow d a b=some q∧(q=true↔b=a)) (N5: ∀kv,Kd kv→Instr.sameBits 10000 kv kv=true):fP P kt Kd:=by
 refine⟨fun es kv empty he hk=>?_,N5⟩
 obtain⟨u,oo⟩:=vq empty kv hk
 rcases uw (fun b hb=>hs kv b hk hb) es 0 he with⟨h3,h4⟩|⟨i,p,v,h3,h4,h5⟩
 · refine .inl ⟨?_,h4⟩
   have:aA P (Instr.findKey kt kv (cF es))=some none:=by simp only[Instr.findKey,aC,aI hu,Option.bind_some,h3,av]
   simp only[h8,oo,this]
 · refine .inr ⟨i,p,?_,h4,h5⟩
   have:aA P (Instr.findKey kt kv (cF es))=some (some (i,v)):=by simp only[Instr.findKey,aC,aI hu,Option.bind_some,h3,av,Nat.zero_add]
   simp only[h8,oo,this]
theorem DW {kt:TypeId} {d:TypeDesc} {Kd:Value→Prop} (hu:P.underlying kt=some d) (vq: ∀e kv,Kd kv→ ∃u,aA P (Instr.checkKey e 10000 kt kv)=some u)
 (hn: ∀a b,Kd a→Kd b→Instr.sameNow d a b=none) (hs: ∀a b,Kd a→Kd b→ ∃q,aA P (Op.equal kt a b)=some q∧(q=true↔b=a)) (N5: ∀kv,Kd kv→Instr.sameBits 10000 kv kv=true):fP P kt Kd:=by
 refine⟨fun es kv empty he hk=>?_,N5⟩
 obtain⟨u,oo⟩:=vq empty kv hk
 cases es with
 |nil=>
  refine .inl ⟨?_,fun p hp=>by simp at hp⟩
  have:aA P (Instr.findKey kt kv (cF []))=some none:=by simp only[Instr.findKey,aC,aI hu,Option.bind_some,cF,List.map_nil,Instr.findNow,av]
  simp only[h8,oo,this]
 |cons e es=>
  have hfn:Instr.findNow d kv (cF (e::es)) 0=none:=by
   show(match Instr.sameNow d kv (⟨e.1, .bool false,0⟩:MapEntry).key with
    |some true=>some (some (0,(⟨e.1, .bool false,0⟩:MapEntry).val))
    |some false=>Instr.findNow d kv (cF es) (0+1)
    |none=>none)=none
   have:=hn kv e.1 hk (he e List.mem_cons_self)
   rw[show(⟨e.1, .bool false,0⟩:MapEntry).key=e.1 from rfl,this]
  rcases ny (P:=P) (kt:=kt) (fun b hb=>hs kv b hk hb) (e::es) 0 he with⟨h3,h4⟩|⟨i,p,v,h3,h4,h5⟩
  · refine .inl ⟨?_,h4⟩
    have:aA P (Instr.findKey kt kv (cF (e::es)))=some none:=by simp only[Instr.findKey,aC,aI hu,Option.bind_some,hfn,h3]
    simp only[h8,oo,this]
  · refine .inr ⟨i,p,?_,h4,h5⟩
    have:aA P (Instr.findKey kt kv (cF (e::es)))=some (some (i,v)):=by simp only[Instr.findKey,aC,aI hu,Option.bind_some,hfn,h3,Nat.zero_add]
    simp only[h8,oo,this]
theorem bytes_beq (a b:ByteArray):(a==b)=true↔a=b:=by
 cases a;cases b
 show ByteArray.beq _ _=true↔_
 rw[ByteArray.beq.eq_def]
 simp
theorem O2 {kt:TypeId} {j:IntKind} (hu:P.underlying kt=some (.int j)) (k:Nat) (e:Bool) (m:Int):aA P (Instr.checkKey e (k+1) kt (.int .i64 m))=some ():=by
 simp only[Instr.checkKey,aC,aI hu,Option.bind_some,av]
theorem O1 {kt:TypeId} (hu:P.underlying kt=some .string) (k:Nat) (e:Bool) (m:ByteArray):aA P (Instr.checkKey e (k+1) kt (.string m))=some ():=by
 simp only[Instr.checkKey,aC,aI hu,Option.bind_some,av]
def mW (v:Value):Prop:= ∃n,v= .int .i64 n
def PN (v:Value):Prop:= ∃s,v= .string s
theorem DV {kt:TypeId} {j:IntKind} (hu:P.underlying kt=some (.int j)):fP P kt mW:=by
 refine wR hu ?_ ?_ ?_
 · rintro e _ ⟨n,rfl⟩
   exact⟨(),O2 hu 9999 e n⟩
 · rintro _ _ ⟨n,rfl⟩ ⟨m,rfl⟩
   refine⟨n==m,by simp[Instr.sameNow],?_⟩
   simp only[beq_iff_eq,Value.int.injEq,true_and]
   exact⟨fun h=>h.symm,fun h=>h.symm⟩
 · rintro _ ⟨n,rfl⟩
   simp[Instr.sameBits]
theorem DU {kt:TypeId} (hu:P.underlying kt=some .string):fP P kt PN:=by
 refine wR hu ?_ ?_ ?_
 · rintro e _ ⟨n,rfl⟩
   exact⟨(),O1 hu 9999 e n⟩
 · rintro _ _ ⟨n,rfl⟩ ⟨m,rfl⟩
   refine⟨n==m,by simp[Instr.sameNow],?_⟩
   rw[bytes_beq,Value.string.injEq]
   exact⟨fun h=>h.symm,fun h=>h.symm⟩
 · rintro _ ⟨n,rfl⟩
   show(n==n)=true
   rw[bytes_beq]
def jm (Kd:Value→Prop) (Pc:C→Prop) (es:cf):Prop:= ∀p,p∈es→Kd p.1∧Pc p.2.1
theorem jm.nil {Kd:Value→Prop} {Pc:C→Prop}:jm Kd Pc []:=fun p hp=>by simp at hp
theorem jm.keys {Kd:Value→Prop} {Pc:C→Prop} {es:cf} (h:jm Kd Pc es): ∀p,p∈es→Kd p.1:=fun p hp=>(h p hp).1
abbrev Gt (n:Nat) (tm:TS) (x:Operand):V:=St.get ⟨n,tm,[]⟩ x
theorem iG {n:Nat} {tm:TS} {hp:HS} (x:Operand):St.get ⟨n,tm,hp⟩ x=Gt n tm x:=by cases x<;>rfl
theorem jT {n ctr:Nat} {t ty:TypeId} {tm:TS} {hp:HS} {K:V→HS→Prop} (hk:K (.w (.one (.map ctr))) ((ctr, .mp [] 0)::hp)):
 ∃v hp',gQ P n (.makeMap t none) ty tm hp ctr v hp'∧K v hp':=by
 refine⟨_,_,?_,hk⟩
 rintro⟨dst',op',ty',pos',after',guard'⟩ rfl rfl
 intro M A ρ a w hr
 obtain⟨r1,r2⟩:=Rel.Fz (st:=⟨n,tm,hp⟩) hr (Nat.le_refl ctr)
 refine⟨.map (some w.heap.size),w.alloc (.map #[] 0),_,_, .inl ?_,r1.sub fU,⟨⟨w.heap.size,by simp[cP],rfl⟩,rfl⟩,cz.alloc M w _,r2,bq.new A w⟩
 simp[execOp,Instr.makeMap]
theorem zT {n ctr:Nat} {t ty kt et:TypeId} {m k:Operand} {ok:Bool} {tm:TS} {hp:HS} {id clock i:Nat} {es:cf} {kv k0:Value} {c:C} {born:Nat} (hm:Gt n tm m= .w (.one (.map id))) (hk:(Gt n tm k).val? =some kv) (hu:P.underlying t=some (.map kt et)) (hf:find hp id=some (.mp es clock))
 (nt:h8 P es.isEmpty kt kv es=some (some i)) (yw:es[i]? =some (k0,c,born)):gQ P n (.lookup t m k ok) ty tm hp ctr (if ok=true then .dn [.one c,bT true]else .w (.one c)) hp:=by
 rintro⟨dst',op',ty',pos',after',guard'⟩ rfl rfl
 intro M A ρ a w hr
 have vm:=hr.get m
 rw[iG,hm]at vm
 have vk:=V.bg hk (by have:=hr.get k;rw[iG]at this;exact this)
 obtain⟨b,en,q1,q2,q3,q4,q5⟩:=fa hr hf vm
 obtain⟨c1,o2,c2,c3,c4⟩:=cH nt (eb (id:=id) (clock:=clock) q4 q5) w
 cases o2 with
 |none=>simp at c3
 |some p=>
  obtain⟨j,v⟩:=p
  simp only[Option.map_some,Option.some.injEq]at c3
  subst c3
  obtain⟨e0,e1,e2,e3,e4,e5⟩:=q5 j k0 c born yw
  obtain⟨e',g1,rfl⟩:=c4 j v rfl
  rw[e1]at g1
  simp only[Option.some.injEq]at g1
  subst g1
  have hrun:(execOp a.eval ⟨dst', .lookup t m k ok,ty',pos',after',guard'⟩).run P w= .ok (.value (if ok then .tuple #[e0.val, .bool true]else e0.val)) w:=by
   simp only[execOp,Instr.lookup,Sem.run_bind,run_underlying hu,Result.andThen_ok,q2,ld q3,Sem.run_pure,vk,dz q4,c1,c2]
  refine⟨_,w,A,ρ, .inl hrun,hr.sub bX,?_,cz.refl _ _,cC.refl _,bq.refl _ _⟩
  cases ok with
  |true=>exact Du e4 e5
  |false=>exact⟨e4,e5⟩
theorem wP {n ctr:Nat} {t ty kt et:TypeId} {m k:Operand} {ok:Bool} {tm:TS} {hp:HS} {id clock:Nat} {es:cf} {kv z:Value} (hm:Gt n tm m= .w (.one (.map id))) (hk:(Gt n tm k).val? =some kv) (hu:P.underlying t=some (.map kt et)) (hf:find hp id=some (.mp es clock))
 (nt:h8 P es.isEmpty kt kv es=some none) (hz:jS P et=some z):gQ P n (.lookup t m k ok) ty tm hp ctr (if ok=true then .dn [.one (.t (.val z)),bT false]else .w (.one (.t (.val z)))) hp:=by
 rintro⟨dst',op',ty',pos',after',guard'⟩ rfl rfl
 intro M A ρ a w hr
 have vm:=hr.get m
 rw[iG,hm]at vm
 have vk:=V.bg hk (by have:=hr.get k;rw[iG]at this;exact this)
 obtain⟨b,en,q1,q2,q3,q4,q5⟩:=fa hr hf vm
 obtain⟨c1,o2,c2,c3,c4⟩:=cH nt (eb (id:=id) (clock:=clock) q4 q5) w
 cases o2 with
 |some p=>simp at c3
 |none=>
  obtain⟨Sf,tP⟩:=pS hz w
  have hrun:(execOp a.eval ⟨dst', .lookup t m k ok,ty',pos',after',guard'⟩).run P w= .ok (.value (if ok then .tuple #[z, .bool false]else z)) w:=by
   simp only[execOp,Instr.lookup,Sem.run_bind,run_underlying hu,Result.andThen_ok,q2,ld q3,Sem.run_pure,vk,dz q4,c1,c2,Sf]
  refine⟨_,w,A,ρ, .inl hrun,hr.sub bX,?_,cz.refl _ _,cC.refl _,bq.refl _ _⟩
  cases ok with
  |true=>exact Du (RT.val tP) tP
  |false=>exact⟨RT.val tP,tP⟩
theorem ES {n ctr:Nat} {t ty kt et:TypeId} {m k:Operand} {tm:TS} {hp:HS} {id clock:Nat} {es:cf} {kv z:Value} {Kd:Value→Prop} {K:V→HS→Prop} (hm:Gt n tm m= .w (.one (.map id))) (hf:find hp id=some (.mp es clock)) (hk:(Gt n tm k).val? =some kv) (hu:P.underlying t=some (.map kt et))
 (hz:jS P et=some z) (hK:fP P kt Kd) (hkv:Kd kv) (iF: ∀p,p∈es→Kd p.1) (h1: ∀ (i:Nat) (p:Value×C×Nat),es[i]? =some p→p.1=kv→K (.w (.one p.2.1)) hp) (h2:(∀p,p∈es→p.1≠kv)→K (.w (.one (.t (.val z)))) hp):
 ∃v hp',gQ P n (.lookup t m k false) ty tm hp ctr v hp'∧K v hp':=by
 rcases hK.at_ es kv es.isEmpty iF hkv with⟨h3,h4⟩|⟨i,⟨k0,c,born⟩,h3,h4,h5⟩
 · exact⟨_,_,wP hm hk hu hf h3 hz,by simpa using h2 h4⟩
 · exact⟨_,_,zT hm hk hu hf h3 h4,by simpa using h1 i _ h4 h5⟩
theorem Ch {n ctr:Nat} {t ty kt et:TypeId} {m k:Operand} {tm:TS} {hp:HS} {id clock:Nat} {es:cf} {kv z:Value} {Kd:Value→Prop} {K:V→HS→Prop} (hm:Gt n tm m= .w (.one (.map id))) (hf:find hp id=some (.mp es clock)) (hk:(Gt n tm k).val? =some kv) (hu:P.underlying t=some (.map kt et))
 (hz:jS P et=some z) (hK:fP P kt Kd) (hkv:Kd kv) (iF: ∀p,p∈es→Kd p.1) (h1: ∀ (i:Nat) (p:Value×C×Nat),es[i]? =some p→p.1=kv→K (.dn [.one p.2.1,bT true]) hp) (h2:(∀p,p∈es→p.1≠kv)→K (.dn [.one (.t (.val z)),bT false]) hp):
 ∃v hp',gQ P n (.lookup t m k true) ty tm hp ctr v hp'∧K v hp':=by
 rcases hK.at_ es kv es.isEmpty iF hkv with⟨h3,h4⟩|⟨i,⟨k0,c,born⟩,h3,h4,h5⟩
 · exact⟨_,_,wP hm hk hu hf h3 hz,by simpa using h2 h4⟩
 · exact⟨_,_,zT hm hk hu hf h3 h4,by simpa using h1 i _ h4 h5⟩
theorem Cg {n ctr:Nat} {t ty kt et:TypeId} {m k:Operand} {tm:TS} {hp:HS} {id clock:Nat} {es:cf} {kv z:Value} {Kd:Value→Prop} {Pc:C→Prop} {K:V→HS→Prop} (hm:Gt n tm m= .w (.one (.map id))) (hf:find hp id=some (.mp es clock)) (hk:(Gt n tm k).val? =some kv) (hu:P.underlying t=some (.map kt et))
 (hz:jS P et=some z) (hK:fP P kt Kd) (hkv:Kd kv) (iF:jm Kd Pc es) (hzP:Pc (.t (.val z))) (h: ∀c,Pc c→K (.w (.one c)) hp):
 ∃v hp',gQ P n (.lookup t m k false) ty tm hp ctr v hp'∧K v hp':=
 ES hm hf hk hu hz hK hkv iF.keys (fun i p hp _=>h _ (iF p (List.mem_of_getElem? hp)).2) (fun _=>h _ hzP)
theorem EQ {n ctr:Nat} {t ty kt et:TypeId} {m k:Operand} {tm:TS} {hp:HS} {id clock:Nat} {es:cf} {kv z:Value} {Kd:Value→Prop} {Pc:C→Prop} {K:V→HS→Prop} (hm:Gt n tm m= .w (.one (.map id))) (hf:find hp id=some (.mp es clock)) (hk:(Gt n tm k).val? =some kv) (hu:P.underlying t=some (.map kt et))
 (hz:jS P et=some z) (hK:fP P kt Kd) (hkv:Kd kv) (iF:jm Kd Pc es) (h: ∀c b,(b=true→Pc c)→(b=false→c= .t (.val z))→K (.dn [.one c,bT b]) hp):
 ∃v hp',gQ P n (.lookup t m k true) ty tm hp ctr v hp'∧K v hp':=
 Ch hm hf hk hu hz hK hkv iF.keys (fun i p hp _=>h _ true (fun _=>(iF p (List.mem_of_getElem? hp)).2) (fun h=>by simp at h)) (fun _=>h _ false (fun h=>by simp at h) (fun _=>rfl))
theorem Ie {n ctr:Nat} {t ty kt et:TypeId} {m k x:Operand} {tm:TS} {hp:HS} {id clock i:Nat} {es:cf} {kv:Value} {c c0:C} {born:Nat} (hm:Gt n tm m= .w (.one (.map id))) (hk:(Gt n tm k).val? =some kv) (hx:Gt n tm x= .w (.one c)) (hu:P.underlying t=some (.map kt et)) (hf:find hp id=some (.mp es clock))
 (nt:h8 P false kt kv es=some (some i)) (yw:es[i]? =some (kv,c0,born)) (N5:Instr.sameBits 10000 kv kv=true):gQ P n (.mapUpdate t m k x) ty tm hp ctr .undef (iC hp id (.mp (es.set i (kv,c,born)) clock)):=by
 rintro⟨dst',op',ty',pos',after',guard'⟩ rfl rfl
 intro M A ρ a w hr
 have vm:=hr.get m
 rw[iG,hm]at vm
 have vk:=V.bg hk (by have:=hr.get k;rw[iG]at this;exact this)
 have vx:=hr.get x
 rw[iG,hx]at vx
 obtain⟨b,en,q1,q2,q3,q4,q5⟩:=fa hr hf vm
 obtain⟨c1,o2,c2,c3,c4⟩:=cH nt (eb (id:=id) (clock:=clock) q4 q5) w
 cases o2 with
 |none=>simp at c3
 |some p=>
  obtain⟨j,v⟩:=p
  simp only[Option.map_some,Option.some.injEq]at c3
  subst c3
  obtain⟨e0,e1,e2,e3,_⟩:=q5 j kv c0 born yw
  have hi:j < en.size:=(Array.getElem?_eq_some_iff.1 e1).1
  obtain⟨r1,r2⟩:=Rel.qf (st:=⟨n,tm,hp⟩) (clock':=clock) (es':=es.set j (kv,c,born)) (en':=en.modify j fun e=>{e with key:=kv,val:=a.eval x}) hr hf q1 q3 (by simp[q4]) (fun i k' c' n' hi'=>by
   by_cases hij:j=i
   · subst hij
     rw[List.getElem?_set_self (by rw[←q4];exact hi)]at hi'
     simp only[Option.some.injEq,Prod.mk.injEq]at hi'
     obtain⟨rfl,rfl,rfl⟩:=hi'
     refine⟨{e0 with key:=kv,val:=a.eval x},by simp[Array.getElem?_modify,e1],rfl,e3,vx.1,vx.2⟩
   · rw[List.getElem?_set_ne hij]at hi'
     obtain⟨e,g1,g2,g3,g4,g5⟩:=q5 i k' c' n' hi'
     exact⟨e,by simp[Array.getElem?_modify,hij,g1],g2,g3,g4,g5⟩)
  refine⟨undef,_,A,ρ, .inr ⟨?_,rfl⟩,r1.sub bX,trivial,r2,cC.refl _,bq.refl _ _⟩
  have hks:(Instr.keyThatStays (((en[j]?).map (·.key)).getD kv) kv).run P w= .ok kv w:=by
   simp[Instr.keyThatStays,e1,e2,N5]
  simp only[execOp,Instr.mapUpdate,Sem.run_bind,run_underlying hu,Result.andThen_ok,q2,ld q3,vk,c1,c2,hks,zK _ q3,Sem.run_pure]
theorem Fo {n ctr:Nat} {t ty kt et:TypeId} {m k x:Operand} {tm:TS} {hp:HS} {id clock:Nat} {es:cf} {kv:Value} {c:C} (hm:Gt n tm m= .w (.one (.map id))) (hk:(Gt n tm k).val? =some kv) (hx:Gt n tm x= .w (.one c)) (hu:P.underlying t=some (.map kt et)) (hf:find hp id=some (.mp es clock))
 (nt:h8 P false kt kv es=some none):gQ P n (.mapUpdate t m k x) ty tm hp ctr .undef (iC hp id (.mp (es++[(kv,c,clock)]) (clock+1))):=by
 rintro⟨dst',op',ty',pos',after',guard'⟩ rfl rfl
 intro M A ρ a w hr
 have vm:=hr.get m
 rw[iG,hm]at vm
 have vk:=V.bg hk (by have:=hr.get k;rw[iG]at this;exact this)
 have vx:=hr.get x
 rw[iG,hx]at vx
 obtain⟨b,en,q1,q2,q3,q4,q5⟩:=fa hr hf vm
 obtain⟨c1,o2,c2,c3,c4⟩:=cH nt (eb (id:=id) (clock:=clock) q4 q5) w
 cases o2 with
 |some p=>simp at c3
 |none=>
  obtain⟨r1,r2⟩:=Rel.qf (st:=⟨n,tm,hp⟩) (clock':=clock+1) (es':=es++[(kv,c,clock)]) (en':=en.push {key:=kv,val:=a.eval x,born:=clock}) hr hf q1 q3 (by simp[q4]) (fun i k' c' n' hi'=>by
   by_cases hlt:i < es.length
   · rw[List.getElem?_append_left hlt]at hi'
     obtain⟨e,g1,g2,g3,g4,g5⟩:=q5 i k' c' n' hi'
     exact⟨e,by rw[Array.getElem?_push,if_neg (by omega)];exact g1,g2,g3,g4,g5⟩
   · rw[List.getElem?_append_right (by omega)]at hi'
     have hz:i - es.length=0:=by
      have:=(List.getElem?_eq_some_iff.1 hi').1
      simp at this
      omega
     rw[hz]at hi'
     simp only[List.getElem?_cons_zero,Option.some.injEq,Prod.mk.injEq]at hi'
     obtain⟨rfl,rfl,rfl⟩:=hi'
     exact⟨⟨kv,a.eval x,clock⟩,by rw[Array.getElem?_push,if_pos (by omega)],rfl,rfl,vx.1,vx.2⟩)
  refine⟨undef,_,A,ρ, .inr ⟨?_,rfl⟩,r1.sub bX,trivial,r2,cC.refl _,bq.refl _ _⟩
  simp only[execOp,Instr.mapUpdate,Sem.run_bind,run_underlying hu,Result.andThen_ok,q2,ld q3,vk,c1,c2,zK _ q3,Sem.run_pure]
def Dj (es:cf) (clock:Nat) (kv:Value) (c:C) (es':cf) (clock':Nat):Prop:=
 (∃i p,es[i]? =some p∧p.1=kv∧es'=es.set i (kv,c,p.2.2)∧clock'=clock)∨((∀p,p∈es→p.1≠kv)∧es'=es++[(kv,c,clock)]∧clock'=clock+1)
theorem EO {n ctr:Nat} {t ty kt et:TypeId} {m k x:Operand} {tm:TS} {hp:HS} {id clock:Nat} {es:cf} {kv:Value} {c:C} {Kd:Value→Prop} {K:V→HS→Prop} (hm:Gt n tm m= .w (.one (.map id))) (hf:find hp id=some (.mp es clock)) (hk:(Gt n tm k).val? =some kv) (hx:Gt n tm x= .w (.one c)) (hu:P.underlying t=some (.map kt et))
 (hK:fP P kt Kd) (hkv:Kd kv) (iF: ∀p,p∈es→Kd p.1) (h: ∀es' clock',Dj es clock kv c es' clock'→K .undef (iC hp id (.mp es' clock'))):
 ∃v hp',gQ P n (.mapUpdate t m k x) ty tm hp ctr v hp'∧K v hp':=by
 rcases hK.at_ es kv false iF hkv with⟨h3,h4⟩|⟨i,⟨k0,c0,born⟩,h3,h4,h5⟩
 · exact⟨_,_,Fo hm hk hx hu hf h3,h _ _ (.inr ⟨h4,rfl,rfl⟩)⟩
 · simp only at h5
   subst h5
   exact⟨_,_,Ie hm hk hx hu hf h3 h4 (hK.same _ hkv),h _ _ (.inl ⟨i,_,h4,rfl,rfl,rfl⟩)⟩
theorem Dj.all {es es':cf} {clock clock':Nat} {kv:Value} {c:C} {Kd:Value→Prop} {Pc:C→Prop} (h:Dj es clock kv c es' clock') (iF:jm Kd Pc es) (hk:Kd kv) (hc:Pc c):jm Kd Pc es':=by
 rcases h with⟨i,p,_,_,rfl,_⟩|⟨_,rfl,_⟩
 · intro p hp
   rcases List.mem_or_eq_of_mem_set hp with hp|rfl
   · exact iF p hp
   · exact⟨hk,hc⟩
 · intro p hp
   simp only[List.mem_append,List.mem_singleton]at hp
   rcases hp with hp|rfl
   · exact iF p hp
   · exact⟨hk,hc⟩
theorem Bd {n ctr:Nat} {t ty kt et:TypeId} {m k x:Operand} {tm:TS} {hp:HS} {id clock:Nat} {es:cf} {kv:Value} {c:C} {Kd:Value→Prop} {Pc:C→Prop} {K:V→HS→Prop} (hm:Gt n tm m= .w (.one (.map id))) (hf:find hp id=some (.mp es clock)) (hk:(Gt n tm k).val? =some kv) (hx:Gt n tm x= .w (.one c)) (hu:P.underlying t=some (.map kt et))
 (hK:fP P kt Kd) (hkv:Kd kv) (iF:jm Kd Pc es) (hc:Pc c) (h: ∀es' clock',jm Kd Pc es'→K .undef (iC hp id (.mp es' clock'))):
 ∃v hp',gQ P n (.mapUpdate t m k x) ty tm hp ctr v hp'∧K v hp':=
 EO hm hf hk hx hu hK hkv iF.keys (fun es' clock' hp=>h es' clock' (hp.all iF hkv hc))
theorem jm.aF {Kd:Value→Prop} {Pc:C→Prop} {es:cf} (h:jm Kd Pc es) {f:C→C} (hf: ∀c,Pc c→Pc (f c)):jm Kd Pc (es.map fun p=>(p.1,f p.2.1,p.2.2)):=by
 intro p hp
 simp only[List.mem_map]at hp
 obtain⟨q,hq,rfl⟩:=hp
 exact⟨(h q hq).1,hf _ (h q hq).2⟩
def uZ (c:C):Prop:= ∃b,c= .t (.val (.bool b))
end Go.aU
end
section
namespace Go.aU.Cd
open Go Go.Proofs
set_option maxRecDepth 100000
set_option maxHeartbeats 1000000
def Z0:Rc:=Sq (Rg [Mk 4 0]) (Sq (Sq (Rg [Mv 6 0,Le 7 6,Mk 8 0]) (Bk 0 (Lp (Sq (Rg [Bt 9 .lss 8 7]) (Sq (Cn 9 Sk (Ex 0)) (Sq (Bk 1 (Sq (Rg [Mv 10 8,Mv 5 10]) (Sq (Rg [Mv 11 1,Mv 12 0,Mv 13 5,Ia 14 1 12 13,Ld 15 14,Bt 16 .eql 11 15]) (Cn 16 (Sq (Rg [Mv 17 5,Mv 4 17]) Rt) Sk)))) (Rg [Bi 18 .add 8 1,Mv 8 18]))))))) (Sq (Rg [p 4 (.hY (k (-1)))]) Rt))
theorem XW:ae Tryz.prog (Tryz.f177.body.getD .skip)=some Z0:=by kernel_rfl
theorem aeX:Tryz.f177.body=some (Tryz.f177.body.getD .skip):=rfl
def aaO:Rc:=Sq (Rg [Mb 4 false]) (Sq (Rg [Mv 5 0,Mv 6 1,p 7 (.call 177 [t 5,t 6]),Bi 8 .geq 7 0,Mv 4 8]) Rt)
theorem Ym:ae Tryz.prog (Tryz.f124.body.getD .skip)=some aaO:=by kernel_rfl
theorem afV:Tryz.f124.body=some (Tryz.f124.body.getD .skip):=rfl
def c87:Rc:=Sq (Rg [Bx 1 0,Mk 2 0]) (Sq (Sq (Rg [Fa 10 0 1,Ld 11 10,p 12 (.call 122 [t 11]),Nt 13 12,Mv 14 13,Ga 14 (Fa 15 1 1),Ga 14 (Ld 16 15),Ga 14 (Le 17 16),Ga 14 (Bi 18 .eql 17 0),Pt 19 14 18]) (Cn 19 (Sq (Rg [Mk 2 1]) Rt) Sk)) (Sq (Sq (Rg [Fa 20 1 1,Ld 21 20,Le 22 21,Mk 23 0]) (Bk 0 (Lp (Sq (Rg [Bt 24 .lss 23 22]) (Sq (Cn 24 Sk (Ex 0)) (Sq (Bk 1 (Sq (Rg [Ia 25 1 21 23,Ld 26 25,Mv 4 26]) (Sq (Rg [Mv 27 4,p 28 (.call 123 [t 27]),Nt 29 28]) (Cn 29 (Sq (Rg [Mk 2 1]) Rt) Sk)))) (Rg [Bi 30 .add 23 1,Mv 23 30]))))))) (Sq (Sq (Rg [Fa 31 2 1,Ld 32 31,Le 33 32,Fa 34 1 1,Ld 35 34,Le 36 35,Bt 37 .neq 33 36,Mv 38 37,Ga 38 (Fa 39 2 1),Ga 38 (Ld 40 39),Ga 38 (p 41 (.call 124 [t 40,(k 0)])),Ga 38 (Nt 42 41),Pt 43 38 42]) (Cn 43 (Sq (Rg [Mk 2 1]) Rt) Sk)) (Sq (Rg [p 44 (.raw (.makeMap 211 none) 211),Mv 5 44]) (Sq (Sq (Rg [Fa 45 1 1,Ld 46 45,Le 47 46,Mk 48 0]) (Bk 2 (Lp (Sq (Rg [Bt 49 .lss 48 47]) (Sq (Cn 49 Sk (Ex 2)) (Sq (Bk 3 (Sq (Rg [Ia 50 1 46 48,Ld 51 50,Mv 7 51]) (Sq (Sq (Rg [Mv 52 5,Mv 53 7,p 54 (.raw (.lookup 211 (.tmp 52) (.tmp 53) false) 4)]) (Cn 54 (Sq (Rg [Mk 2 7]) Rt) Sk)) (Rg [Mv 55 5,Mv 56 7,q (.raw (.mapUpdate 211 (.tmp 55) (.tmp 56) (.const (.bool true))) 0)])))) (Rg [Bi 57 .add 48 1,Mv 48 57]))))))) (Sq (Sq (Rg [Fa 58 1 1,Ld 59 58,Le 60 59,Bi 61 .gtr 60 12,Mv 62 61,Ga 62 (Fa 63 3 1),Ga 62 (Ld 64 63),Ga 62 (Le 65 64),Ga 62 (Bi 66 .gtr 65 12),Pt 67 62 66,Mv 68 67,Ga 68 (Fa 69 4 1),Ga 68 (Ld 70 69),Ga 68 (Le 71 70),Ga 68 (Bi 72 .gtr 71 12),Pt 73 68 72]) (Cn 73 (Sq (Rg [Mk 2 5]) Rt) Sk)) (Sq (Sq (Rg [Fa 74 5 1,Ld 75 74,Le 76 75,Bi 77 .gtr 76 24,Mv 78 77,Ga 78 (Fa 79 6 1),Ga 78 (Ld 80 79),Ga 78 (Le 81 80),Ga 78 (Bi 82 .gtr 81 16),Pt 83 78 82]) (Cn 83 (Sq (Rg [Mk 2 5]) Rt) Sk)) (Sq (Sq (Rg [Fa 84 2 1,Ld 85 84,Le 86 85,Mk 87 0]) (Bk 4 (Lp (Sq (Rg [Bt 88 .lss 87 86]) (Sq (Cn 88 Sk (Ex 4)) (Sq (Bk 5 (Sq (Rg [Ia 89 1 85 87,Ld 90 89,Mv 9 90]) (Sq (Rg [Mv 91 9,p 92 (.bin .lss (t 91) (k (-100))),Mv 93 92,Ga 93 (Mv 94 9),Ga 93 (Bi 95 .gtr 94 100),Pt 96 93 95]) (Cn 96 (Sq (Rg [Mk 2 3]) Rt) Sk)))) (Rg [Bi 97 .add 87 1,Mv 87 97]))))))) (Sq (Rg [Mk 2 0]) Rt)))))))))
theorem auV:ae Tryz.prog (Tryz.f87.body.getD .skip)=some c87:=by kernel_rfl
theorem axB:Tryz.f87.body=some (Tryz.f87.body.getD .skip):=rfl
def c55:Rc:=Sq (Rg [Bx 1 0,Mk 2 0]) (Sq (Sq (Rg [Lo 7 11 1,p 12 (.call 87 [t 11]),Mv 3 12]) (Sq (Rg [Mv 13 3,Bi 14 .neq 13 0]) (Cn 14 (Sq (Rg [Mv 15 3,Mv 2 15]) Rt) Sk))) (Sq (Sq (Rg [Fa 16 3 1,Ld 17 16,Le 18 17,Mk 19 0]) (Bk 0 (Lp (Sq (Rg [Bt 20 .lss 19 18]) (Sq (Cn 20 Sk (Ex 0)) (Sq (Bk 1 (Sq (Rg [Mv 21 19,Ia 22 7 17 19,Lo 7 23 22,p 5 (.alloc [.t (.val (.string ⟨#[]⟩)),zn,zi,zn,zn,zn,zb]),Mv 4 21,So 7 5 23]) (Sq (Dr [Fa 24 3 1,Ld 25 24,Mv 26 4,p 27 (.slice 7 (t 25) none (some (t 26))),Lo 7 28 5,p 29 (.call 88 [t 27,t 28]),Mv 6 29] [[],[0],[],[1,2],[],[3,4],[5,5,0,1,2,3,4,5]]) (Sq (Rg [Mv 30 6,Bi 31 .neq 30 0]) (Cn 31 (Sq (Rg [Mv 32 6,Mv 2 32]) Rt) Sk))))) (Rg [Bi 33 .add 19 1,Mv 19 33]))))))) (Sq (Sq (Rg [Fa 34 4 1,Ld 35 34,Le 36 35,Mk 37 0]) (Bk 2 (Lp (Sq (Rg [Bt 38 .lss 37 36]) (Sq (Cn 38 Sk (Ex 2)) (Sq (Bk 3 (Sq (Rg [Ia 39 3 35 37,Lo 3 40 39,p 8 (.alloc [zi,zi,zb]),So 3 8 40]) (Sq (Rg [Fa 41 0 8,Ld 42 41,Bi 43 .lss 42 0,Mv 44 43,Ga 44 (Fa 45 0 8),Ga 44 (Ld 46 45),Ga 44 (Fa 47 3 1),Ga 44 (Ld 48 47),Ga 44 (Le 49 48),Ga 44 (Bt 50 .geq 46 49),Pt 51 44 50,Mv 52 51,Ga 52 (Fa 53 1 8),Ga 52 (Ld 54 53),Ga 52 (Bi 55 .lss 54 1),Pt 56 52 55,Mv 57 56,Ga 57 (Fa 58 1 8),Ga 57 (Ld 59 58),Ga 57 (Bi 60 .gtr 59 4),Pt 61 57 60]) (Cn 61 (Sq (Rg [Mk 2 3]) Rt) Sk)))) (Rg [Bi 62 .add 37 1,Mv 37 62]))))))) (Sq (Sq (Rg [Fa 63 5 1,Ld 64 63,Le 65 64,Mk 66 0]) (Bk 4 (Lp (Sq (Rg [Bt 67 .lss 66 65]) (Sq (Cn 67 Sk (Ex 4)) (Sq (Bk 5 (Sq (Rg [Ia 68 6 64 66,Lo 6 69 68,p 10 (.alloc [zi,zi,zi,zi,zb,zi]),So 6 10 69]) (Sq (Sq (Rg [Lo 7 70 1,Fa 71 0 10,Ld 72 71,Fa 73 1 10,Ld 74 73,p 75 (.call 89 [t 70,t 72,t 74]),Nt 76 75,Mv 77 76,Ga 77 (Lo 7 78 1),Ga 77 (Fa 79 2 10),Ga 77 (Ld 80 79),Ga 77 (Fa 81 3 10),Ga 77 (Ld 82 81),Ga 77 (p 83 (.call 89 [t 78,t 80,t 82])),Ga 77 (Nt 84 83),Pt 85 77 84]) (Cn 85 (Sq (Rg [Mk 2 3]) Rt) Sk)) (Sq (Rg [Fa 86 5 10,Ld 87 86,Bi 88 .lss 87 0]) (Cn 88 (Sq (Rg [Mk 2 1]) Rt) Sk))))) (Rg [Bi 89 .add 66 1,Mv 66 89]))))))) (Sq (Rg [Mk 2 0]) Rt)))))
theorem avF:ae Tryz.prog (Tryz.f55.body.getD .skip)=some c55:=by kernel_rfl
theorem axL:Tryz.f55.body=some (Tryz.f55.body.getD .skip):=rfl
theorem uSB:Tryz.prog.underlying 211=some (.map 9 4):=by kernel_rfl
theorem zBo:jS Tryz.prog 4=some (.bool false):=by kernel_rfl
theorem kSt:fP Tryz.prog 9 PN:=DU (by kernel_rfl)
theorem uZ.aF {c:C} (h:uZ c) (f:Nat→Option Nat):uZ (c.aF f):=by
 obtain⟨b,rfl⟩:=h
 exact⟨b,rfl⟩
theorem oz (xs:Lz) (a:Int) (hx:Is xs) (hl:xs.length≤maxLen):Tg 177 [oL 1 xs,oI a] GI:=by
 refine ah (n:=19) (rs:=[.tmp 4]) Tryz.func177 aeX XW rfl rfl (by simp) ?_
 repeat' (conv=>whnf
          first
  |(refine az (fun h=>?_) (fun h=>?_))
  |(refine ap hx (by first|omega|exact cj (by first|omega|(simp (disch:=omega) only[aa];omega))|(simp (disch:=omega) only[aa];omega)) (by first|omega|exact bW (by omega)|(simp (disch:=omega) only[aa];omega)) ?_;rintro _ ⟨b,rfl⟩ hs)
  |exact gI rfl rfl
  |(apply aK [0,1,7,8] [] [8] (RI xs.length) (xs.length) [iV .i64 0];(conv=>whnf);exact⟨rfl,rfl,rfl,rfl⟩;exact rfl;exact rfl;exact RI.zero;rintro _ _ ⟨i,hi,rfl,rfl⟩)
  |(refine aq [0,1,7,8] [] ?_;(conv=>whnf);exact⟨rfl,_,[_],RI.succ (N:=xs.length) (i:=i) (by omega) hl,rfl,rfl,rfl,by omega⟩))
 all_goals (conv=>whnf)
theorem lG (xs:Lz) (a:Int) (hx:Is xs) (hl:xs.length≤maxLen):Tg 124 [oL 1 xs,oI a] GB:=by
 refine ah (n:=9) (rs:=[.tmp 4]) Tryz.func124 afV Ym rfl rfl (by simp) ?_
 repeat' (conv=>whnf
          first
  |(refine ai rfl (oz xs _ hx hl) ?_;rintro _ ⟨n,rfl⟩)
  |exact gB rfl rfl)
 all_goals (conv=>whnf)
def agT (e:List T):Prop:= ∃a b c,e=[tI a,tI b,tB c]
def agV (e:List T):Prop:= ∃a b c d q f,e=[tI a,tI b,tI c,tI d,tB q,tI f]
def Cb (e:List T):Prop:= ∃nm m t af us,e=[.val (.string nm),tI m,tI t, .ao 1 af, .ao 1 us]∧nm.size≤maxLen∧(Is af∧af.length≤maxLen)∧Is us∧us.length≤maxLen
abbrev g8 (sn:ByteArray) (bM ms ps us ss os:Lz):W:= .agg [.t (.val (.string sn)), .t (.ao 1 bM), .t (.ao 1 ms), .t (.ao 7 ps), .t (.ao 3 us), .t (.ao 6 ss), .t (.ao 5 os)]
structure jE (sn:ByteArray) (bM ms ps us ss os:Lz):Prop where
 FV:sn.size≤maxLen
 FU:Sts bM
 apD:bM.length≤maxLen
 hms:Is ms
 hml:ms.length≤maxLen
 hps: ∀e,e∈ps→JI e
 mN:ps.length≤maxLen
 eU: ∀e,e∈us→agT e
 BC:us.length≤maxLen
 hss: ∀e,e∈ss→agV e
 IF:ss.length≤maxLen
 hos: ∀e,e∈os→Cb e
 II:os.length≤maxLen
def RMs (row:List C) (N:Nat) (m:Nat) (vs:List V) (hq:HS):Prop:= ∃ (i:Nat) (es:cf) (c:Nat),i≤N∧jm PN uZ es∧m=N - i∧vs=[iV .i64 (i:Int)]∧hq=[(4, .row 7 [row]),(8, .mp es c)]
abbrev agK (bM ms ps us ss os:Lz):Prop:=(ms.length=bM.length∧1≤bM.length)∧(bM.length≤12∧ps.length≤12∧us.length≤12)∧ss.length≤24∧os.length≤16
theorem p0 (sn:ByteArray) (bM ms ps us ss os:Lz) (hS:jE sn bM ms ps us ss os):Tg 87 [g8 sn bM ms ps us ss os] (nF (fun n=>n=0→agK bM ms ps us ss os)):=by
 have tP:=hS.apD
 have vj:=hS.hml
 refine ah (n:=98) (rs:=[.tmp 2]) Tryz.func87 axB auV rfl rfl (by simp) ?_
 repeat' (conv=>whnf
          first
  |(refine az (fun h=>?_) (fun h=>?_))
  |(refine cv (fun h=>?_) (fun h=>?_))
  |(refine aB (fun h=>?_) (fun h=>?_))
  |(refine ap (xs:=bM) hS.FU (by omega) (by omega) ?_;rintro _ ⟨s,rfl,hsz⟩ hs)
  |(refine ap (xs:=ms) hS.hms (by omega) (by omega) ?_;rintro _ ⟨a,rfl⟩ hs)
  |(refine ai rfl (oy sn hS.FV) ?_;rintro _ ⟨b,rfl⟩)
  |(refine ai rfl (xJ s hsz) ?_;rintro _ ⟨b,rfl⟩)
  |(refine ai rfl (lG ms _ hS.hms vj) ?_;rintro _ ⟨b,rfl⟩)
  |(refine jT ?_)
  |(refine Cg rfl rfl rfl uSB zBo kSt ⟨_,rfl⟩ hM ⟨false,rfl⟩ ?_;rintro _ ⟨b,rfl⟩)
  |(refine Bd rfl rfl rfl rfl uSB kSt ⟨_,rfl⟩ hM ⟨true,rfl⟩ ?_;rintro QE c2 HF)
  |(refine pQ rfl rfl (fun h0=>?_);first|(exfalso;omega)|omega|exact⟨⟨by omega,by omega⟩,⟨by omega,by omega,by omega⟩,by omega,by omega⟩)
  |(apply aK [85,86,87] [] [87] (RI ms.length) (ms.length) [iV .i64 0];(conv=>whnf);exact⟨rfl,rfl,rfl,rfl⟩;exact rfl;exact rfl;exact RI.zero;rintro _ _ ⟨i,hi,rfl,rfl⟩)
  |(refine aq [85,86,87] [] ?_;(conv=>whnf);exact⟨rfl,_,[_],RI.succ (N:=ms.length) (i:=i) (by omega) vj,rfl,rfl,rfl,by omega⟩)
  |(apply gS [1,5,46,47,48] [] [48] (RMs [.t (.val (.string sn)), .t (.ao 1 bM), .t (.ao 1 ms), .t (.ao 7 ps), .t (.ao 3 us), .t (.ao 6 ss), .t (.ao 5 os)] bM.length) (bM.length) [iV .i64 0];(conv=>whnf);exact⟨rfl,rfl,rfl,rfl⟩;exact rfl;exact rfl;exact⟨0,_,_,by omega,jm.nil,rfl,rfl,rfl⟩;rintro _ _ _ ⟨i,es,c,hi,hM,rfl,rfl,rfl⟩)
  |(refine aq [1,5,46,47,48] [] ?_;(conv=>whnf);exact⟨rfl,_,[_],⟨i+1,_,_,by omega,HF.aF (fun c hc=>uZ.aF hc _),rfl,by simp only[maxLen]at tP;rw[bO (by omega) (by omega)];rfl,rfl⟩,rfl,rfl,by omega⟩)
  |(apply aK [1,21,22,23] [] [23] (RI bM.length) (bM.length) [iV .i64 0];(conv=>whnf);exact⟨rfl,rfl,rfl,rfl⟩;exact rfl;exact rfl;exact RI.zero;rintro _ _ ⟨i,hi,rfl,rfl⟩)
  |(refine aq [1,21,22,23] [] ?_;(conv=>whnf);exact⟨rfl,_,[_],RI.succ (N:=bM.length) (i:=i) (by omega) tP,rfl,rfl,rfl,by omega⟩))
 all_goals (conv=>whnf)
def UOk (N:Nat) (e:List T):Prop:= ∃a b c,e=[tI a,tI b,tB c]∧(0≤a∧a < (N:Int))∧1≤b∧b≤4
def JB (us:Lz) (N i:Nat):Prop:= ∀j e,j < i→us[j]? =some e→UOk N e
theorem JB.all {us:Lz} {N i:Nat} (h:JB us N i) (hi:us.length≤i): ∀e,e∈us→UOk N e:=by
 intro e he
 obtain⟨j,hj,rfl⟩:=List.getElem_of_mem he
 exact h j _ (by omega) (by simp[hj])
def RUs (us:Lz) (N:Nat) (m:Nat) (vs:List V):Prop:= ∃i:Nat,i≤us.length∧JB us N i∧m=us.length - i∧vs=[iV .i64 (i:Int)]
theorem RUs.next {us:Lz} {N i:Nat} {a b:Int} {c:Bool} (hi:(i:Int) < (us.length:Int)) (hl:us.length≤maxLen) (h:JB us N i) (hs:us[((i:Int)).toNat]? =some [tI a,tI b,tB c]) (ha:0≤a) (HE:a < (N:Int)) (hb:1≤b) (pP:b≤4):RUs us N (us.length - (i+1)) [iV .i64 (IntKind.i64.wrap ((i:Int)+1))]:=by
 refine⟨i+1,by omega,fun j e hj he=>?_,rfl,by simp only[maxLen]at hl;rw[bO (by omega) (by omega)];rfl⟩
 by_cases fk:j=i
 · subst fk
   have hs':us[j]? =some [tI a,tI b,tB c]:=by simpa using hs
   rw[hs']at he
   exact⟨a,b,c,(Option.some.inj he).symm,⟨ha,HE⟩,hb,pP⟩
 · exact h j e (by omega) he
theorem xK (sn:ByteArray) (bM ms ps us ss os:Lz) (hp: ∀e,e∈ps→JI e) (a b:Int):Tg 89 [g8 sn bM ms ps us ss os,oI a,oI b] GB:=by
 refine ah (n:=31) (rs:=[.tmp 6]) Tryz.func89 awZ auT rfl rfl (by simp) ?_
 repeat' (conv=>whnf
          first
  |(refine az (fun h=>?_) (fun h=>?_))
  |(refine ap (xs:=ps) hp (by omega) (by omega) ?_;rintro _ ⟨nm,es,g,ns,cs,ws,mt,rfl,hnm,⟨he,hm⟩,⟨hn,_⟩,⟨hc,ee⟩,hw,ze⟩ hs)
  |exact gB rfl rfl)
 all_goals (conv=>whnf)
abbrev ahG (bM ms ps us ss os:Lz):Prop:=agK bM ms ps us ss os∧ ∀e,e∈us→UOk ps.length e
theorem jn (sn:ByteArray) (bM ms ps us ss os:Lz) (hS:jE sn bM ms ps us ss os):Tg 55 [g8 sn bM ms ps us ss os] (nF (fun n=>n=0→ahG bM ms ps us ss os)):=by
 have tP:=hS.mN
 have vj:=hS.BC
 have hz3:=hS.IF
 refine ah (n:=90) (rs:=[.tmp 2]) Tryz.func55 axL avF rfl rfl (by simp) ?_
 repeat' (conv=>whnf
          first
  |(refine az (fun h=>?_) (fun h=>?_))
  |(refine cv (fun h=>?_) (fun h=>?_))
  |(refine aB (fun h=>?_) (fun h=>?_))
  |(refine fz (Nat.zero_le _) (by omega) ?_)
  |(refine ap (xs:=ps) hS.hps (by omega) (by omega) ?_;rintro _ ⟨nm,es,g,ns,cs,ws,mt,rfl,hnm,⟨he,hm⟩,⟨hn,_⟩,⟨hc,ee⟩,hw,ze⟩ hs)
  |(refine ap (xs:=us) hS.eU (by omega) (by omega) ?_;rintro _ ⟨a,b,c,rfl⟩ hs)
  |(refine ap (xs:=ss) hS.hss (by omega) (by omega) ?_;rintro _ ⟨a,b,c,d,q,f,rfl⟩ hs)
  |(refine And.intro (by kernel_rfl) ?_)
  |(refine And.intro (by omega) ?_)
  |(refine ai rfl (p0 sn bM ms ps us ss os hS) ?_;rintro _ ⟨e,rfl,hW⟩)
  |(refine au rfl (qa _ (cI hS.hps _ _) (gU tP _ _) nm es g ns cs ws mt hnm he hm hn hc ee hw ze) ?_;rintro _ ⟨e,rfl⟩)
  |(refine ai rfl (xK sn bM ms ps us ss os hS.hps _ _) ?_;rintro _ ⟨b,rfl⟩)
  |(refine pQ rfl rfl (fun h0=>?_);first|(exfalso;omega)|exact⟨hW (by omega),hp.all (by omega)⟩)
  |(apply aK [1,64,65,66] [] [66] (RI ss.length) (ss.length) [iV .i64 0];(conv=>whnf);exact⟨rfl,rfl,rfl,rfl⟩;exact rfl;exact rfl;exact RI.zero;rintro _ _ ⟨i,hi,rfl,rfl⟩)
  |(refine aq [1,64,65,66] [] ?_;(conv=>whnf);exact⟨rfl,_,[_],RI.succ (N:=ss.length) (i:=i) (by omega) hz3,rfl,rfl,rfl,by omega⟩)
  |(apply aK [1,35,36,37] [] [37] (RUs us ps.length) (us.length) [iV .i64 0];(conv=>whnf);exact⟨rfl,rfl,rfl,rfl⟩;exact rfl;exact rfl;exact⟨0,by omega,fun j e hj=>by omega,rfl,rfl⟩;rintro _ _ ⟨i,hi,hp,rfl,rfl⟩)
  |(refine aq [1,35,36,37] [] ?_;(conv=>whnf);exact⟨rfl,_,[_],RUs.next (by omega) vj hp hs (by omega) (by omega) (by omega) (by omega),rfl,rfl,rfl,by omega⟩)
  |(apply aK [1,17,18,19] [] [19] (RI ps.length) (ps.length) [iV .i64 0];(conv=>whnf);exact⟨rfl,rfl,rfl,rfl⟩;exact rfl;exact rfl;exact RI.zero;rintro _ _ ⟨i,hi,rfl,rfl⟩)
  |(refine aq [1,17,18,19] [] ?_;(conv=>whnf);exact⟨rfl,_,[_],RI.succ (N:=ps.length) (i:=i) (by omega) tP,rfl,rfl,rfl,by omega⟩))
 all_goals (conv=>whnf)
end Go.aU.Cd
end
section
namespace Go.aU.Cd
open Go Go.Proofs
set_option maxRecDepth 100000
set_option maxHeartbeats 2000000
def ZU:Rc:=Sq (Rg [Bx 3 0,Mn 6,p 7 (.alloc [.t (.val (.string ⟨#[]⟩)),zn,zi,zn,zn,zn,zb]),Mk 8 0]) (Sq (Sq (Rg [Lo 7 13 3,p 14 (.call 55 [t 13]),Mv 9 14]) (Sq (Rg [Mv 15 9,Bi 16 .neq 15 0]) (Cn 16 (Sq (Rg [p 17 (.build [.t (.val (.string ⟨#[]⟩)),zn,zi,zn,zn,zn,zb] []),Mv 18 9,Mn 6,So 7 7 17,Mv 8 18]) Rt) Sk))) (Sq (Sq (Rg [Mv 19 1,Bi 20 .lss 19 0,Mv 21 20,Ga 21 (Mv 22 1),Ga 21 (Fa 23 1 3),Ga 21 (Ld 24 23),Ga 21 (Le 25 24),Ga 21 (Bt 26 .geq 22 25),Pt 27 21 26,Mv 28 27,Ga 28 (Mv 29 2),Ga 28 (Bi 30 .lss 29 0),Pt 31 28 30,Mv 32 31,Ga 32 (Mv 33 2),Ga 32 (Fa 34 4 3),Ga 32 (Ld 35 34),Ga 32 (Le 36 35),Ga 32 (Bt 37 .geq 33 36),Pt 38 32 37]) (Cn 38 (Sq (Rg [p 39 (.build [.t (.val (.string ⟨#[]⟩)),zn,zi,zn,zn,zn,zb] []),Mn 6,So 7 7 39,Mk 8 3]) Rt) Sk)) (Sq (Dr [Fa 40 3 3,Ld 41 40,Fa 42 4 3,Ld 43 42,Mv 44 2,Ia 45 3 43 44,Fa 46 0 45,Ld 47 46,Ia 48 7 41 47,Lo 7 49 48,p 10 (.alloc [.t (.val (.string ⟨#[]⟩)),zn,zi,zn,zn,zn,zb]),So 7 10 49] [[],[0],[],[2],[],[3,4],[5],[6],[1,7],[8],[],[10,9,0,1,2,3,4,5,6,7,8,9,10]]) (Sq (Dr [Lo 7 51 10,Fa 52 2 3,Ld 53 52,Mv 54 1,Ia 55 1 53 54,Ld 56 55,p 57 (.call 125 [t 51,t 56]),Mv 50 57,Et 58 50 0,Et 59 50 1,Mv 11 58,Mv 12 59] [[],[],[1],[],[2,3],[4],[0,5],[6],[7],[7],[8,6,0,1,2,3,4,5,6,7,8],[9,10,0,1,2,3,4,5,6,7,8,9,10]]) (Sq (Dr [Mv 60 11,Lo 7 61 10,Mv 62 12,Mv 6 60,So 7 7 61,Mv 8 62] [[],[],[],[0,0],[1,3,0,1,3],[2,4,0,1,2,3,4]]) Rt)))))
theorem XP:ae Tryz.prog (Tryz.f198.body.getD .skip)=some ZU:=by kernel_rfl
theorem aeR:Tryz.f198.body=some (Tryz.f198.body.getD .skip):=rfl
def aaI:Rc:=Sq (Rg [Bx 3 0,Mn 6,Mk 7 0]) (Sq (Rg [Lo 7 12 3,Mv 13 1,Mv 14 2,p 15 (.call 198 [t 12,t 13,t 14]),Mv 11 15,Et 16 11 0,Et 17 11 1,Et 18 11 2,p 9 (.alloc [.t (.val (.string ⟨#[]⟩)),zn,zi,zn,zn,zn,zb]),Mv 8 16,So 7 9 17,Mv 10 18]) (Sq (Sq (Rg [Mv 19 10,Bi 20 .neq 19 0]) (Cn 20 (Sq (Rg [Mv 21 10,Mn 6,Mv 7 21]) Rt) Sk)) (Sq (Rg [Mv 22 8,Fa 23 5 9,Ld 24 23,p 25 (.call 199 [t 22,t 24]),Et 26 25 0,Et 27 25 1,Mv 6 26,Mv 7 27]) Rt)))
theorem Yg:ae Tryz.prog (Tryz.f148.body.getD .skip)=some aaI:=by kernel_rfl
theorem afP:Tryz.f148.body=some (Tryz.f148.body.getD .skip):=rfl
def aaH:Rc:=Sq (Rg [Bx 3 0,p 6 (.alloc [zi,zi]),Mk 7 0]) (Sq (Rg [Lo 7 12 3,Mv 13 1,Mv 14 2,p 15 (.call 198 [t 12,t 13,t 14]),Mv 11 15,Et 16 11 0,Et 17 11 1,Et 18 11 2,p 9 (.alloc [.t (.val (.string ⟨#[]⟩)),zn,zi,zn,zn,zn,zb]),Mv 8 16,So 7 9 17,Mv 10 18]) (Sq (Sq (Rg [Mv 19 10,Bi 20 .neq 19 0]) (Cn 20 (Sq (Rg [p 21 (.build [zi,zi] []),Mv 22 10,So 2 6 21,Mv 7 22]) Rt) Sk)) (Sq (Rg [Mv 23 8,p 24 (.dB 2 (t 23) (k 0)),Fa 25 1 24,Ld 26 25,p 27 (.dB 2 (t 26) (k 0)),Lo 2 28 27,So 2 6 28,Mk 7 0]) Rt)))
theorem Yf:ae Tryz.prog (Tryz.f149.body.getD .skip)=some aaH:=by kernel_rfl
theorem afO:Tryz.f149.body=some (Tryz.f149.body.getD .skip):=rfl
def abC:Rc:=Sq (Rg [Bx 1 0,Mn 2]) (Sq (Sq (Rg [Lo 7 8 1,p 9 (.call 55 [t 8]),Bi 10 .neq 9 0]) (Cn 10 (Sq (Rg [Mn 2]) Rt) Sk)) (Sq (Rg [Mn 3]) (Sq (Sq (Rg [Fa 11 4 1,Ld 12 11,Le 13 12,Mk 14 0]) (Bk 0 (Lp (Sq (Rg [Bt 15 .lss 14 13]) (Sq (Cn 15 Sk (Ex 0)) (Sq (Bk 1 (Sq (Rg [Mv 16 14,Ia 17 3 12 14,Lo 3 18 17,p 5 (.alloc [zi,zi,zb]),Mv 4 16,So 3 5 18]) (Sq (Rg [Fa 19 1 5,Ld 20 19,Mk 21 0]) (Bk 2 (Lp (Sq (Rg [Bt 22 .lss 21 20]) (Sq (Cn 22 Sk (Ex 2)) (Sq (Bk 3 (Sq (Rg [Mv 23 21,Mv 6 23]) (Sq (Rg [Fa 24 2 5,Ld 25 24,Mv 26 25,Gb 26 (Mv 27 6),Gb 26 (Bi 28 .rem 27 2),Gb 26 (Bi 29 .eql 28 1),Pf 30 26 29,Mv 7 30]) (Rg [Mv 31 3,Mv 32 4,Mv 33 6,Mv 34 7,p 35 (.build [zb,zi] [(0,1,t 34)]),p 36 (.build [zi,zi,zi,zb,zi,zi,zi] [(1,1,t 32),(2,1,t 33),(3,2,t 35)]),p 37 (.aT [zi,zi,zi,zb,zi,zi,zi] 1 [(0,t 36)]),p 38 (.append 7 56 (t 31) (t 37)),Mv 3 38])))) (Rg [Bi 39 .add 21 1,Mv 21 39]))))))))) (Rg [Bi 40 .add 14 1,Mv 14 40]))))))) (Sq (Rg [Mv 41 3,Mv 2 41]) Rt))))
theorem Yz:ae Tryz.prog (Tryz.f103.body.getD .skip)=some abC:=by kernel_rfl
theorem agI:Tryz.f103.body=some (Tryz.f103.body.getD .skip):=rfl
theorem aPc:iN Tryz.prog 106=some true:=by kernel_rfl
theorem zPc:cD Tryz.prog 106=some 7:=by kernel_rfl
abbrev agL (us:Lz) (N:Nat) (Cm:Int):Prop:=(0≤Cm∧Cm < (us.length:Int))∧ ∀e,e∈us→UOk N e
def GOl (us:Lz) (N:Nat) (Cm:Int) (ts:List W):Prop:= ∃gs nm es g ns cs ws mt e,ts=[oL 2 gs,RO nm es g ns cs ws mt,oI e]∧(e=0→(rz gs∧jd gs∧gs.length≤maxLen)∧(Is ws∧ws.length≤maxLen)∧agL us N Cm)
theorem kU (sn:ByteArray) (bM ms ps us ss os:Lz) (hS:jE sn bM ms ps us ss os) (size Cm:Int):Tg 198 [g8 sn bM ms ps us ss os,oI size,oI Cm] (GOl us ps.length Cm):=by
 refine aG ?_
 refine ah (n:=63) (rs:=[.tmp 6, .cell 7 106, .tmp 8]) Tryz.func198 aeR XP rfl rfl (by simp) ?_
 repeat' (conv=>whnf
          first
  |(refine az (fun h=>?_) (fun h=>?_))
  |(refine cv (fun h=>?_) (fun h=>?_))
  |(refine ap (xs:=us) (hC (by omega)).2 (by omega) (by omega) ?_;rintro _ ⟨a,b,c,rfl,⟨ha,HE⟩,hb⟩ hs)
  |(refine ap (xs:=ps) hS.hps ha HE ?_;rintro _ ⟨nm,es,g,ns,cs,ws,mt,rfl,hnm,⟨he,hm⟩,⟨hn,_⟩,⟨hc,ee⟩,hw,ze⟩ lj)
  |(refine ap (xs:=ms) hS.hms (by omega) (by have:=(hC (by omega)).1.1.1;omega) ?_;rintro _ ⟨m,rfl⟩ EC)
  |(refine And.intro (by kernel_rfl) ?_)
  |(refine ai rfl (jn sn bM ms ps us ss os hS) ?_;rintro _ ⟨e,rfl,hC⟩)
  |(refine au rfl (kJ (.val (.string nm)) es (tI g) ns cs ws (tB mt) _ he hm hc ee) ?_;rintro _ ⟨gs,e2,rfl,hG⟩)
  |exact EH rfl (dR 2 rfl) (bE aPc zPc rfl rfl (Nat.le_refl _) rfl (eF (.cons (.nil 2) (eF (.cons (.nil 2) (.cons (.nil 2) (.cons (.nil 1) (eF .nil)))))))) (dw rfl) ⟨_,_,_,_,_,_,_,_,_,rfl,fun h0=>absurd h0 (by omega)⟩
  |exact EH rfl (dw rfl) (bE aPc zPc rfl rfl (Nat.le_refl _) rfl (cG.refl _)) (dw rfl) ⟨gs,_,es,_,ns,cs,ws,_,_,rfl,fun h0=>⟨⟨(hG h0).1.1,(hG h0).1.2.1,by have:=(hG h0).1.2.2;omega⟩,⟨hw,ze⟩,⟨by omega,by omega⟩,(hC (by omega)).2⟩⟩)
 all_goals (conv=>whnf)
theorem Dx (sn:ByteArray) (bM ms ps us ss os:Lz) (hS:jE sn bM ms ps us ss os) (size Cm:Int):Tg 148 [g8 sn bM ms ps us ss os,oI size,oI Cm] (JM 2 (fun xs=>xw xs∧agL us ps.length Cm)):=by
 refine aG ?_
 refine ah (n:=28) (rs:=[.tmp 6, .tmp 7]) Tryz.func148 afP Yg rfl rfl (by simp) ?_
 repeat' (conv=>whnf
          first
  |(refine cv (fun h=>?_) (fun h=>?_))
  |(refine ai rfl (kU sn bM ms ps us ss os hS size Cm) ?_;rintro _ ⟨gs,nm,es,g,ns,cs,ws,mt,e,rfl,hO⟩)
  |(refine ai rfl (sw gs ws (hO (by omega)).1.2.1 (hO (by omega)).1.2.2 (hO (by omega)).2.1.1 (hO (by omega)).2.1.2) ?_;rintro _ ⟨xs,e2,rfl,hA⟩)
  |exact iy rfl (dR 2 rfl) (dw rfl) ⟨_,_,rfl,fun h0=>absurd h0 (by omega)⟩
  |exact iy rfl (dw rfl) (dw rfl) ⟨xs,e2,rfl,fun h0=>⟨hA h0,(hO (by omega)).2.2⟩⟩)
 all_goals (conv=>whnf)
theorem xM (sn:ByteArray) (bM ms ps us ss os:Lz) (hS:jE sn bM ms ps us ss os) (size Cm:Int):Tg 149 [g8 sn bM ms ps us ss os,oI size,oI Cm] agY:=by
 refine aG ?_
 refine ah (n:=29) (rs:=[.cell 6 64, .tmp 7]) Tryz.func149 afO Yf rfl rfl (by simp) ?_
 repeat' (conv=>whnf
          first
  |(refine cv (fun h=>?_) (fun h=>?_))
  |(refine ap (xs:=gs) (hO (by omega)).1.1.2.1 (by omega) (by have:=(hO (by omega)).1.1.1;omega) ?_;rintro _ ⟨s,xs,rfl,hL⟩ hs)
  |(refine ap (xs:=xs) hL.E8 (by omega) (by have:=hL.1;omega) ?_;rintro _ ⟨a,b,rfl⟩ hs)
  |(refine ai rfl (kU sn bM ms ps us ss os hS size Cm) ?_;rintro _ ⟨gs,nm,es,g,ns,cs,ws,mt,e,rfl,hO⟩)
  |exact iy rfl (bE aSp zSp rfl rfl (Nat.le_refl _) rfl (cG.refl _)) (dw rfl) ⟨(_,_),_,rfl⟩)
 all_goals (conv=>whnf)
def azB (N:Nat) (e:List T):Prop:= ∃g u k f q x y,e=[tI g,tI u,tI k,tB f,tI q,tI x,tI y]∧0≤u∧u < (N:Int)
abbrev Ev (N:Nat) (xs:Lz):Prop:= ∀e,e∈xs→azB N e
theorem Ev.snoc {N:Nat} {xs:Lz} (h:Ev N xs) (g u k q x y:Int) (f:Bool) (h0:0≤u) (h1:u < (N:Int)):Ev N (xs++[[tI g,tI u,tI k,tB f,tI q,tI x,tI y]]):=by
 intro e he
 simp only[List.mem_append,List.mem_singleton]at he
 rcases he with he|rfl
 · exact h e he
 · exact⟨g,u,k,f,q,x,y,rfl,h0,h1⟩
def RCo (N:Nat) (m:Nat) (ws:List V) (xss:List (Lz)):Prop:= ∃ (i:Nat) (zs:Lz),i≤N∧m=N - i∧ws=[bK 4 7 zs.length,iV .i64 (i:Int)]∧xss=[zs]∧zs.length≤4 * i∧Ev N zs
theorem RCo.next {N i:Nat} {zs:Lz} (h:(i:Int) < (N:Int)) (hN:N≤12) (hp:zs.length≤4 * (i+1)) (hS:Ev N zs):RCo N (N - (i+1)) [bK 4 7 zs.length,iV .i64 (IntKind.i64.wrap ((i:Int)+1))] [zs]:=
 ⟨i+1,_,by omega,rfl,by rw[bO (by omega) (by omega)];rfl,rfl,hp,hS⟩
def RCi (N:Nat) (row:List T) (b L:Nat) (m:Nat) (ws:List V) (xss:List (Lz)):Prop:= ∃ (j:Nat) (zs:Lz),j≤L∧m=L - j∧ws=[bK 4 7 zs.length,iV .i64 (j:Int)]∧xss=[zs,[row]]∧zs.length≤b+j∧Ev N zs
theorem RCi.next {N b L j k:Nat} {row:List T} {zs:Lz} {u:Int} {g q x y:Int} {f:Bool} (h:j < L) (hL:L≤4) (hp:zs.length≤b+j) (hS:Ev N zs) (h0:0≤u) (h1:u < (N:Int)) (hk:k=zs.length+1):RCi N row b L (L - (j+1)) [bK 4 7 k,iV .i64 (IntKind.i64.wrap ((j:Int)+1))] [zs++[[tI g,tI u,tI (j:Int),tB f,tI q,tI x,tI y]],[row]]:=
 ⟨j+1,_,by omega,rfl,by rw[bO (by omega) (by omega),hk];simp,rfl,by simp;omega,hS.snoc g u _ q x y f h0 h1⟩
theorem xL (sn:ByteArray) (bM ms ps us ss os:Lz) (hS:jE sn bM ms ps us ss os):Tg 103 [g8 sn bM ms ps us ss os] (GL 7 (fun zs=>Ev us.length zs∧zs.length≤48)):=by
 refine aG ?_
 refine ah (n:=42) (rs:=[.tmp 2]) Tryz.func103 agI Yz rfl rfl (by simp) ?_
 repeat' (conv=>whnf
          first
  |(refine az (fun h=>?_) (fun h=>?_))
  |(refine cv (fun h=>?_) (fun h=>?_))
  |(refine aB (fun h=>?_) (fun h=>?_))
  |(refine ap (xs:=us) (hC (by omega)).2 (by omega) (by omega) ?_;rintro _ ⟨a,b,c,rfl,⟨ha,HE⟩,hb,pP⟩ hs)
  |(refine And.intro ⟨by simp[tr],by have:=(hC (by omega)).1.2.1;simp[tr,bR];omega,by have:=(hC (by omega)).1.2.1;simp[tr,maxLen];omega⟩ ?_)
  |(refine And.intro (by omega) ?_)
  |(refine ai rfl (jn sn bM ms ps us ss os hS) ?_;rintro _ ⟨e,rfl,hC⟩)
  |exact mF rfl (dR 7 rfl) ⟨[],rfl,fun e he=>by simp at he,by simp⟩
  |exact mF rfl (fg rfl rfl (xs:=zs) rfl (by omega)) ⟨_,rfl,by rw[iS rfl];exact⟨hz,by have:=(hC (by omega)).1.2.1;omega⟩⟩
  |(apply bc [3,4,5,12,13,14,20,21] [] [3,21] [(4,7),(8,3)] (RCi us.length [tI a,tI b,tB c] (4 * i) b.toNat) (b.toNat) [bK 4 7 zs.length,iV .i64 0];(conv=>whnf);exact⟨rfl,rfl,rfl,rfl⟩;exact rfl;exact rfl;exact .cons (aL.aF (xs:=zs) rfl _) (.cons (aL.aF (xs:=[[tI a,tI b,tB c]]) rfl _) .nil);exact⟨0,zs,by omega,rfl,rfl,rfl,by omega,hz⟩;rintro _ _ _ ⟨j,Dq,hj,rfl,rfl,rfl,Iw,vj⟩)
  |(refine aq [3,4,5,12,13,14,20,21] [] ?_;(conv=>whnf);exact⟨rfl,_,[_,_],_, .cons (aL.aF (aL.snoc (xs:=Dq) rfl [tI _,tI _,tI _,tB _,tI _,tI _,tI _]) _) (.cons (aL.aF (xs:=[[tI a,tI b,tB c]]) rfl _) .nil),RCi.next (by omega) (by omega) Iw vj (by omega) (by omega) (by simp[tr]),rfl,rfl,by omega⟩)
  |(apply eN [3,12,13,14] [] [3,14] [(4,7)] (RCo us.length) (us.length) [bK 4 7 0,iV .i64 0] (iA.jh 3 7 rfl);(conv=>whnf);exact⟨rfl,rfl,rfl,rfl⟩;exact rfl;exact rfl;exact .cons (aL.aF aL.nil _) .nil;exact⟨0,[],by omega,rfl,rfl,rfl,by simp,fun e he=>by simp at he⟩;rintro _ _ _ ⟨i,zs,hi,rfl,rfl,rfl,sG,hz⟩)
  |(refine aq [3,12,13,14] [] ?_;(conv=>whnf);exact⟨rfl,_,[_,_],_, .cons (aL.aF (xs:=Dq) rfl _) .nil,RCo.next (by omega) (by have:=(hC (by omega)).1.2.1;omega) (by omega) vj,rfl,rfl,by omega⟩))
 all_goals (conv=>whnf)
end Go.aU.Cd
end
section
namespace Go.aU
open Go
variable {P:Program}
theorem Gp {ids:List Nat} {ctr:Nat} (hlt: ∀id,id∈ids→id < ctr) (D4:ids.Nodup): ∀i j k,fD ids ctr i=some k→fD ids ctr j=some k→i=j:=by
 intro i j k hi hj
 unfold fD at hi hj
 split at hi
 · split at hj
   · simp only[Option.some.injEq]at hi hj
     cases h1:ids[i]? with
     |none=>
      rw[h1]at hi
      simp only[Option.getD_none]at hi
      cases h2:ids[j]? with
      |none=>
       rw[h2]at hj
       simp only[Option.getD_none]at hj
       omega
      |some b=>
       rw[h2]at hj
       simp only[Option.getD_some]at hj
       have:=hlt b (List.mem_of_getElem? h2)
       omega
     |some a=>
      rw[h1]at hi
      simp only[Option.getD_some]at hi
      cases h2:ids[j]? with
      |none=>
       rw[h2]at hj
       simp only[Option.getD_none]at hj
       have:=hlt a (List.mem_of_getElem? h1)
       omega
      |some b=>
       rw[h2]at hj
       simp only[Option.getD_some]at hj
       obtain⟨p1,e1⟩:=List.getElem?_eq_some_iff.1 h1
       obtain⟨p2,e2⟩:=List.getElem?_eq_some_iff.1 h2
       exact(List.getElem_inj D4).1 (by rw[e1,e2,hi,hj])
   · simp at hj
 · simp at hi
theorem ja {ids:List Nat} {k:Nat} (hn:bu ids k=none): ∀ (hp:HS),find (iz ids hp) k=find hp k
 | []=>rfl
 |(q,c)::r=>by
  simp only[iz]
  split
  · rename_i j hj
    rw[aj,if_neg,ja hn r]
    intro e
    subst e
    rw[hn]at hj
    simp at hj
  · rw[aj,aj,ja hn r]
theorem n7 {g:Nat→Option Nat}: ∀ {hout:HS} {k:Nat} {b:bt},find (dX g hout) k=some b→ ∃j b',find hout j=some b'∧g j=some k
 | [],k,b,h=>by simp[dX,find]at h
 |(q,c)::r,k,b,h=>by
  simp only[dX]at h
  split at h
  · rename_i k' hk'
    rw[aj]at h
    split at h
    · rename_i e
      subst e
      exact⟨q,c,by rw[aj,if_pos rfl],hk'⟩
    · obtain⟨j,b',h1,h2⟩:=n7 h
      by_cases e:q=j
      · subst e
        exact⟨q,c,by rw[aj,if_pos rfl],h2⟩
      · exact⟨j,b',by rw[aj,if_neg e];exact h1,h2⟩
  · obtain⟨j,b',h1,h2⟩:=n7 h
    by_cases e:q=j
    · subst e
      exact⟨q,c,by rw[aj,if_pos rfl],h2⟩
    · exact⟨j,b',by rw[aj,if_neg e];exact h1,h2⟩
theorem qU {g:Nat→Option Nat} {k:Nat}: ∀ {hout:HS} {j:Nat} {b:bt},find hout j=some b→g j=some k→ ∃b',find (dX g hout) k=some b'
 | [],j,b,h,_=>by simp[find]at h
 |(q,c)::r,j,b,h,hg=>by
  rw[aj]at h
  split at h
  · rename_i e
    subst e
    simp only[dX,hg]
    exact⟨_,by rw[aj,if_pos rfl]⟩
  · obtain⟨b',h'⟩:=qU h hg
    simp only[dX]
    split
    · rw[aj]
      split
      · exact⟨_,rfl⟩
      · exact⟨b',h'⟩
    · exact⟨b',h'⟩
theorem tV {f:Nat→Option Nat} {hp:HS}: ∀ {ids:List Nat} {j i id:Nat} {b:bt},ids[i]? =some id→(∀ (i' id':Nat),ids[i']? =some id'→ ∃b',find hp id'=some b')→find hp id=some b→find (cu f hp j ids) (j+i)=some (b.aF f)
 | [],j,i,id,b,h,_,_=>by simp at h
 |x::r,j,i,id,b,h,ef,hb=>by
  simp only[cu]
  obtain⟨bx,hbx⟩:=ef 0 x rfl
  rw[hbx]
  cases i with
  |zero=>
   simp only[List.getElem?_cons_zero,Option.some.injEq]at h
   subst h
   rw[hb]at hbx
   simp only[Option.some.injEq]at hbx
   subst hbx
   simp[find]
  |succ i=>
   have:find (cu f hp (j+1) r) (j+1+i)=some (b.aF f):=tV (by simpa using h) (fun i' id' h'=>ef (i'+1) id' (by simpa using h')) hb
   rw[show j+(i+1)=j+1+i by omega,aj,if_neg (by omega)]
   exact this
theorem yU {f:FuncId} {us args:List W} {hp hin:HS} {ctr:Nat} {res:V} (ids:List Nat) (hok:tN ids ctr=true) (hfn:Fn P f args hin res hin)
 (ha:us.map (W.aF (bu ids))=args) (hh:cu (bu ids) hp 0 ids=hin) (Aq: ∀id,id∈ids→ ∃b,find hp id=some b∧(b.aF (bu ids)).aF (fD ids ctr)=b):
 dQ P f us hp ctr (res.aF (fD ids ctr)) hp (ctr+4):=by
 have rS:=hok
 simp only[tN,Bool.and_eq_true,decide_eq_true_eq,List.all_eq_true]at rS
 obtain⟨⟨hlen,hlt⟩,D4⟩:=rS
 have hinj:=Gp (ids:=ids) (ctr:=ctr) hlt D4
 intro M A ρ a w n L xs hr hx
 refine(rj ids hok hfn ha hh M A ρ a w n L xs hr hx).mono ?_
 rintro e w' ⟨x,A',ρ',rfl,r1,r2,r3,r4,r5⟩
 refine⟨x,A',ρ',rfl,r1.forget rfl (fun _ _ h=>h) (fun k b hb=>?_),r2,r3,r4,r5⟩
 simp only at hb⊢
 cases hk:bu ids k with
 |none=>
  have F4:find (dX (fD ids ctr) hin) k=none:=by
   cases hq:find (dX (fD ids ctr) hin) k with
   |none=>rfl
   |some b2=>
    obtain⟨j,b',h1,h2⟩:=n7 hq
    rw[←hh]at h1
    obtain⟨i,id,b3,rfl,h3,h4,_⟩:=bQ h1
    have hi4:0+i < 4:=by have:=(List.getElem?_eq_some_iff.1 h3).1;omega
    have aqY:i < 4:=by omega
    simp only[fD,Nat.zero_add,h3,Option.getD_some,if_pos aqY,Option.some.injEq]at h2
    subst h2
    exact absurd h3 (gF hk i)
  rw[cA,F4,Option.none_or,ja hk]
  exact hb
 |some j=>
  have hj:=dH hk
  have hj4:j < 4:=by have:=(List.getElem?_eq_some_iff.1 hj).1;omega
  have hg:fD ids ctr j=some k:=by simp only[fD,if_pos hj4,hj,Option.getD_some]
  have S9:find hin j=some (b.aF (bu ids)):=by
   rw[←hh]
   have:=tV (f:=bu ids) (hp:=hp) (j:=0) hj (fun i' id' h'=>by
    obtain⟨b',h1,_⟩:=Aq id' (List.mem_of_getElem? h')
    exact⟨b',h1⟩) hb
   simpa using this
  obtain⟨b2,pP⟩:=qU S9 hg
  obtain⟨j',b',g1,g2,g3⟩:=ie hinj pP
  have:=hinj _ _ _ g1 hg
  subst this
  rw[S9]at g2
  simp only[Option.some.injEq]at g2
  subst g2
  obtain⟨b4,h4,h5⟩:=Aq k (List.mem_of_getElem? hj)
  rw[hb]at h4
  simp only[Option.some.injEq]at h4
  subst h4
  rw[cA,pP,Option.some_or,g3,h5]
end Go.aU
end
section
namespace Go.aU
open Go
variable {P:Program} {M A:Nat→Prop} {ρ:Env} {F:Nat→Prop} {st:St} {a:Act} {w:World}
theorem iA.cut {tm:TS} {hp:HS} {ctr sz:Nat} {rows:List (List C)} (id k:Nat) (hf:find hp id=some (.row sz rows)):iA tm hp ctr tm (iC hp id (.row sz (rows.take k))) ctr:=by
 intro M A ρ n a w hr
 refine⟨A,ρ,⟨hr.size,hr.defers,hr.tmps,fun q blk hb=>?_,fun id1 D1 b1 b2 b h1 h2 r1 r2=>?_,hr.fresh,hr.bound,hr.may,hr.dm⟩,gR.refl _,eY.refl M A w⟩
 · simp only[bp]at hb
   split at hb
   · rename_i e
     subst e
     rw[hf]at hb
     simp only[Option.map_some,Option.some.injEq]at hb
     subst hb
     obtain⟨h1,h2⟩:=hr.heap q _ hf
     refine⟨fun e he=>h1 e (List.mem_of_mem_take he),?_⟩
     rcases h2 with⟨b,c,e,k1,k2,k3,k4,k5,k6⟩|⟨k1,k2⟩
     · refine .inl ⟨b,c,e,k1,k2,k3,k4,?_,fun i el j q' hi hj=>k6 i el j q' (zx hi) hj⟩
       refine Nat.le_trans (Nat.mul_le_mul_right _ ?_) k5
       simp only[List.length_take]
       omega
     · exact .inr ⟨k1,by rw[k2];simp⟩
   · exact hr.heap q blk hb
 · have old: ∀ {q:Nat} {bl:bt},find (iC hp id (.row sz (rows.take k))) q=some bl→ ∃zj,find hp q=some zj:=by
    intro q bl hq
    simp only[bp]at hq
    split at hq
    · rename_i e
      subst e
      exact⟨_,hf⟩
    · exact⟨_,hq⟩
   obtain⟨c1,g1⟩:=old h1
   obtain⟨c2,g2⟩:=old h2
   exact hr.inj id1 D1 c1 c2 b g1 g2 r1 r2
end Go.aU
end
section
namespace Go.aU
open Go
variable {P:Program} {M A:Nat→Prop} {ρ:Env} {F:Nat→Prop} {st:St} {a:Act} {w:World}
theorem Be {n ctr:Nat} {op:Op} {ty:TypeId} {tm:TS} {hp:HS} {v:V} {K:V→HS→Prop} (h:aY P (St.get ⟨n,tm,[]⟩) ⟨none,op,ty, "", #[],none⟩=some v) (hk:K v hp):
 ∃v hp',gQ P n op ty tm hp ctr v hp'∧K v hp':=by
 refine⟨_,_,?_,hk⟩
 rintro⟨dst',op',ty',pos',after',guard'⟩ rfl rfl
 intro M A ρ a w hr
 have hg:St.get ⟨n,tm,hp⟩=St.get ⟨n,tm,[]⟩:=by
  funext x
  exact iG x
 refine gk (st:=⟨n,tm,hp⟩) ?_ hr bX
 rw[hg]
 exact h
theorem Nf {n ctr m size bytes:Nat} {t t' ty e:TypeId} {ik:IntKind} {s x:Operand} {tm:TS} {hp:HS} {z:List C} {N:Int} {K:V→HS→Prop} (hs:Gt n tm s= .w (.one (.t eR))) (hx:(Gt n tm x).eS =some (.i64,N)) (hN:N=((m+1:Nat):Int))
 (hu:P.underlying t=some (.slice e)) (yp:P.underlying t'=some (.int ik)) (hT:pq P e=some (size,bytes)) (hz:jR P e=some z) (hsz:z.length=size) (hb:(m+1) * bytes≤70368744177664) (hm:m+1≤70368744177664)
 (hk:K (.w (.one (.own ctr size 0 (m+1)))) ((ctr, .row size (List.replicate (m+1) z))::hp)):
 ∃v hp',gQ P n (.call ⟨.builtin .append, #[s,x], #[t,t']⟩) ty tm hp ctr v hp'∧K v hp':=by
 refine⟨_,_,?_,hk⟩
 rintro⟨dst',op',ty',pos',after',guard'⟩ rfl rfl
 intro M A ρ a w hr
 have vs:=hr.get s
 rw[iG,hs]at vs
 have vx:=V.gG hx (by have:=hr.get x;rw[iG]at this;exact this)
 have Sx:a.eval s= .slice none 0 0:=V.bg (v:= .slice none 0 0) rfl vs
 obtain⟨inf,zv,z1,z2,z3,z4,z5,z6⟩:=kO hT
 obtain⟨aoK,zv',y1,y2,y3,y4,y5⟩:=eo hz w A ρ
 rw[z1]at y1
 simp only[Option.some.injEq]at y1
 subst y1
 rw[z2]at y2
 simp only[Option.some.injEq]at y2
 subst y2
 have hrun:=jW (P:=P) (ty:=ty') hu yp z1 z2 (m+1) (by omega) (by omega) hm (by rw[z4];exact hb) w
 have hge:=grownCap_ge w (m+1) 0 e
 obtain⟨e1,e2,e3⟩:=lA y5 (m+1)
 have hlen:(List.replicate (m+1) z).length=m+1:=by simp
 obtain⟨A',ρ',r1,r2,r3,r4,r5⟩:=iZ (st:=⟨n,tm,hp⟩) (e:=e) (z:=zv.cells) (cap:=grownCap w (m+1) 0 e) (zs:=List.replicate (m+1) z) (vs:=(Builtin.zeroCells zv.cells (m+1)).toList) (size:=size) hr (Nat.le_refl ctr) z5
  (fun el hel=>by rw[List.eq_of_mem_replicate hel];exact hsz)
  (by rw[Array.length_toList,size_zeroCells,z5,hlen]) (by rw[hlen];exact hge)
  (fun i el j k hi hj=>by
    obtain⟨y,hy,qT,rR⟩:=e3 i el j k hi hj
    refine⟨y,?_,qT,rR⟩
    rw[Array.getElem?_toList, ←hsz]
    have ez:Builtin.zeroCells zv.cells (m+1)=(Array.range ((m+1) * z.length)).map fun k=>zv.cells[k % zv.cells.size]! :=by
     unfold Builtin.zeroCells
     have:zv.cells.size=z.length:=by rw[y3,y4]
     rw[this]
    rw[ez]
    exact hy)
 rw[hlen]at r1 r2 r3
 simp only[Array.toArray_toList]at r1 r2 r3
 refine⟨_,_,A',ρ', .inl ?_,r1.sub fU,r2,r3,r4,r5⟩
 have Sl:a.eval x= .int .i64 ((m+1:Nat):Int):=by rw[vx,hN]
 have Oz:(execOp a.eval ⟨dst',Op.call ⟨.builtin .append, #[s,x], #[t,t']⟩,ty',pos',after',guard'⟩).run P w=((Builtin.append_ #[t,t'] ty' #[a.eval s,a.eval x]).run P w).andThen fun v w'=> .ok (.value v) w':=by
  simp[execOp,resolve,invoke,builtin]
 rw[Oz,Sx,Sl,hrun]
 rfl
theorem sL {f:FuncId} {us ts:List W} {hp:HS} {ctr sz:Nat} {K:V→HS→Prop} {p:Lz→Prop} (hl:ir hp us=some ts) (hfl: ∀xs,p xs→(bt.row sz (tr xs)).flat=true) (h: ∃rs hout,zk P f ts (aO rs) hout∧GN sz p rs hout)
 (hk: ∀xs,p xs→K (.w (.one (.own (0+ctr) sz 0 xs.length))) ((0+ctr, .row sz (tr xs))::hp)): ∃v hp',dP P hp ctr f us v hp'∧K v hp':=by
 obtain⟨rs,hout,h1,xs,rfl,rfl,h2⟩:=h
 have gv:dP P hp ctr f us ((aO [.one (.own 0 sz 0 xs.length)]).up ctr) (eZ ctr [(0, .row sz (tr xs))]++hp):=
  .inl ⟨_,_,ts,h1,rfl,rfl, .inr ⟨hl,rfl,fun id blk hf=>by
   simp only[find]at hf
   split at hf
   · simp only[Option.some.injEq]at hf
     subst hf
     exact hfl xs h2
   · simp at hf⟩⟩
 refine⟨_,_,gv,?_⟩
 have:=hk xs h2
 simp only[aO,V.up,W.up,C.up,eZ,bt.up,Nat.zero_lt_succ,if_true,J0]at this⊢
 exact this
end Go.aU
end
section
namespace Go.aU
open Go
variable {P:Program} {M A:Nat→Prop} {ρ:Env} {F:Nat→Prop} {st:St} {a:Act} {w:World}
theorem Rel.cut {hp:HS} {n:Nat} {tm:TS} {sz:Nat} {rows:List (List C)} (hr:Rel M A ρ F ⟨n,tm,hp⟩ a w) (id k:Nat) (hf:find hp id=some (.row sz rows)):Rel M A ρ F ⟨n,tm,iC hp id (.row sz (rows.take k))⟩ a w:=by
 refine⟨hr.size,hr.defers,hr.tmps,fun q blk hb=>?_,fun id1 D1 b1 b2 b h1 h2 r1 r2=>?_,hr.fresh,hr.bound,hr.may,hr.dm⟩
 · simp only[bp]at hb
   split at hb
   · rename_i e
     subst e
     rw[hf]at hb
     simp only[Option.map_some,Option.some.injEq]at hb
     subst hb
     obtain⟨h1,h2⟩:=hr.heap q _ hf
     refine⟨fun e he=>h1 e (List.mem_of_mem_take he),?_⟩
     rcases h2 with⟨b,c,e,k1,k2,k3,k4,k5,k6⟩|⟨k1,k2⟩
     · refine .inl ⟨b,c,e,k1,k2,k3,k4,?_,fun i el j q' hi hj=>k6 i el j q' (zx hi) hj⟩
       refine Nat.le_trans (Nat.mul_le_mul_right _ ?_) k5
       simp only[List.length_take]
       omega
     · exact .inr ⟨k1,by rw[k2];simp⟩
   · exact hr.heap q blk hb
 · have old: ∀ {q:Nat} {bl:bt},find (iC hp id (.row sz (rows.take k))) q=some bl→ ∃zj,find hp q=some zj:=by
    intro q bl hq
    simp only[bp]at hq
    split at hq
    · rename_i e
      subst e
      exact⟨_,hf⟩
    · exact⟨_,hq⟩
   obtain⟨c1,g1⟩:=old h1
   obtain⟨c2,g2⟩:=old h2
   exact hr.inj id1 D1 c1 c2 b g1 g2 r1 r2
theorem zk.cut {f:FuncId} {args:List W} {v:V} {sz:Nat} {rows:List (List C)} (k:Nat) (h:zk P f args v [(0, .row sz rows)]):zk P f args v [(0, .row sz (rows.take k))]:=by
 intro w A xs hH hx
 refine(h w A xs hH hx).mono ?_
 rintro e w' ⟨x,A',ρ',F',h1,h2,h3,h4,h5⟩
 refine⟨x,A',ρ',F',h1,h2,?_,h4,h5⟩
 have:=Rel.cut (sz:=sz) (rows:=rows) h3 0 k (by simp[find])
 exact this
def xX (v:V):List Nat→TS→TS
 | [],tm=>tm
 |t::ts,tm=>(t,v)::xX v ts tm
theorem qY {v u:V} {tm:TS} {k:Nat}: ∀ {ts:List Nat},find (xX v ts tm) k=some u→(k∈ts∧u=v)∨find tm k=some u
 | [],h=> .inr h
 |t::ts,h=>by
  simp only[xX,aj]at h
  split at h
  · rename_i e
    subst e
    simp only[Option.some.injEq]at h
    exact .inl ⟨List.mem_cons_self,h.symm⟩
  · rcases qY h with⟨h1,h2⟩|h
    · exact .inl ⟨List.mem_cons_of_mem _ h1,h2⟩
    · exact .inr h
theorem iA.OH {tm:TS} {hp:HS} {ctr sz len:Nat} {rows:List (List C)} {xs:Lz} (ts:List Nat) (id:Nat) (h: ∀t,t∈ts→find tm t=some (.w (.one (.own id sz 0 len)))) (hf:find hp id=some (.row sz rows)) (hR:aL rows xs) (hl:len≤xs.length):
 iA tm hp ctr (xX (.w (.one (.t (.ao sz (xs.take len))))) ts tm) (del hp id) ctr:=by
 intro M A ρ n a w hr
 have h0:=Rel.forget hr (st':=⟨n,tm,[(id, .row sz rows)]⟩) rfl (fun _ _ h=>h) (fun k b hb=>by
  simp only[aj]at hb
  split at hb
  · rename_i e
    subst e
    rw[←hb]
    exact hf
  · simp[find]at hb)
 let B:Nat→Prop:=fun b=>A b∧ρ id≠some (.eM b)
 have hfz:bH [(id,bt.row sz rows)] (.one (.own id sz 0 len))=some (.one (.t (.ao sz ((xs.drop 0).take len)))):=kK (hp:=[(id,bt.row sz rows)]) (by simp[find]) hR (by omega)
 have hnew: ∀t,t∈ts→RW w B ρ (.one (.t (.ao sz ((xs.drop 0).take len)))) (a.tmps.getD t undef):=fun t ht=>
  fE h0 (B:=B) (fun b hb=>hb.1) (fun k blk b hk hρ hB=>by
   simp only[aj]at hk
   split at hk
   · rename_i e
     subst e
     exact hB.2 hρ
   · simp[find]at hk) hfz (hr.tmps t _ (h t ht)) ρ
 have hs:Rel M B ρ (aZ ctr) ⟨n,tm,del hp id⟩ a w:=Rel.shrink (hp:=del hp id) hr (fun b hb=>hb.1) (fun k b hk=>by
  rw[dI]at hk
  split at hk
  · simp at hk
  · exact hk) (fun k blk b hk hρ=>by
  rw[dI]at hk
  split at hk
  · simp at hk
  · rename_i hne
    refine⟨(BM (hr.heap k blk hk) hρ).1,fun h2=>?_⟩
    exact hne (hr.inj k id blk _ b hk hf hρ h2))
 refine⟨B,ρ,⟨hs.size,hs.defers,fun u v hv=>?_,hs.heap,hs.inj,hs.fresh,hs.bound,hs.may,hs.dm⟩,gR.refl _,fun b hA hM=>⟨hA,fun h2=>hM ((hr.heap id _ hf).lt h2).2.1⟩,fun b _ hb=>hb.1⟩
 rcases qY hv with⟨h1,rfl⟩|hv
 · have e:(xs.drop 0).take len=xs.take len:=by simp
   have:=hnew u h1
   rw[e]at this
   exact this
 · exact hs.tmps u v hv
theorem NU {p:Nat→Prop} {a b:Nat} (ha:p a) (hb:p b): ∀t,t∈ [a,b]→p t:=by
 intro t ht
 simp only[List.mem_cons,List.not_mem_nil,or_false]at ht
 rcases ht with rfl|rfl
 · exact ha
 · exact hb
theorem aoH {p:Nat→Prop} {a:Nat} (ha:p a): ∀t,t∈ [a]→p t:=by
 intro t ht
 simp only[List.mem_singleton]at ht
 subst ht
 exact ha
def GNc (sz:Nat) (ts:List W) (hout:HS):Prop:= ∃rows,ts=[.one (.own 0 sz 0 0)]∧hout=[(0, .row sz rows)]
theorem gNc {hp:HS} {tm:TS} {rs:List ResultVar} {t id sz:Nat} {rows:List (List C)} (hr:rs=[.tmp t]) (h:find tm t=some (.w (.one (.own id sz 0 0)))) (hf:find hp id=some (.row sz rows)):
 ∃us ids,aE P hp tm rs=some us∧(ids.length≤4∧ids.Nodup)∧GNc sz (us.map (W.aF (bu ids))) (cu (bu ids) hp 0 ids):=by
 subst hr
 refine⟨[.one (.own id sz 0 0)],[id],by simp only[aE,bZ,h],⟨by simp,by simp⟩,rows.map fun e=>e.map (C.aF (bu [id])),?_,?_⟩
 · simp[W.aF,C.aF,bu]
 · simp only[cu,hf,bt.aF]
theorem GNc.new {f:FuncId} {args:List W} {sz:Nat} (h: ∃ts hout,zk P f args (aO ts) hout∧GNc sz ts hout): ∃ts hout,zk P f args (aO ts) hout∧GN sz (fun xs=>xs=[]) ts hout:=by
 obtain⟨ts,hout,h1,rows,rfl,rfl⟩:=h
 have:=h1.cut 0
 rw[List.take_zero]at this
 exact⟨_,_,this,[],rfl,rfl,rfl⟩
theorem S3 {hp:HS} {id sz:Nat} {rows:List (List C)} {xs:Lz} (hf:find hp id=some (.row sz rows)) (hR:aL rows xs):cu (bu [id]) hp 0 [id]=[(0, .row sz (tr xs))]:=by
 simp only[cu,hf,bt.aF]
 rw[hR,iq]
theorem Ci {f:FuncId} {us ts:List W} {hp:HS} {ctr:Nat} {K:V→HS→Prop} {Good:List W→Prop} (hl:ir hp us=some ts) (h: ∃rs,Fn P f ts [] (aO rs) []∧(aO rs).bJ=true∧Good rs) (hf: ∀rs,Good rs→(aO rs).flat=true) (hk: ∀rs,Good rs→K (aO rs) hp): ∃v hp',dP P hp ctr f us v hp'∧K v hp':=by
 obtain⟨rs,h1,h2,h3⟩:=h
 refine⟨aO rs,hp, .inl ⟨aO rs,[],ts,h1.toF,(V.nO h2).symm,rfl, .inr ⟨hl,hf rs h3,fun id blk h=>by simp[find]at h⟩⟩,hk rs h3⟩
end Go.aU
end
section
namespace Go.aU.Cd
open Go Go.Proofs
set_option maxRecDepth 100000
set_option maxHeartbeats 1000000
def awR:Rc:=Sq (Rg [Mv 4 0,Le 5 4,Bi 6 .sub 5 1,Mk 2 0,Mv 3 6]) (Bk 0 (Lp (Sq (Sq (Rg [Mv 7 2,Mv 8 3,Bt 9 .lss 7 8]) (Cn 9 Sk (Ex 0))) (Sq (Bk 1 (Dr [Mv 14 0,Mv 15 2,Mv 16 0,Mv 17 3,Mv 18 0,Mv 19 3,Ia 20 2 18 19,Lo 2 21 20,Mv 22 0,Mv 23 2,Ia 24 2 22 23,Lo 2 25 24,Ia 26 2 14 15,So 2 26 21,Ia 27 2 16 17,So 2 27 25] [[],[],[],[],[],[],[4,5],[6],[],[],[8,9],[10],[0,1,0,1,4,5,6,7,11],[12,7,0,1,4,5,6,7,11],[2,3,0,1,2,3,4,5,6,7,8,9,10,11,12,13],[14,11,13,0,1,2,3,4,5,6,7,8,9,10,11,12,13]])) (Rg [Mv 10 2,Bi 11 .add 10 1,Mv 12 3,Bi 13 .sub 12 1,Mv 2 11,Mv 3 13])))))
theorem XF:ae Tryz.prog (Tryz.f214.body.getD .skip)=some awR:=by kernel_rfl
theorem aeH:Tryz.f214.body=some (Tryz.f214.body.getD .skip):=rfl
def Zs:Rc:=Sq (Rg [Mn 4]) (Sq (Sq (Rg [Mv 5 1,Bi 6 .lss 5 0]) (Cn 6 (Rg [p 7 (.raw (.makeInterface 9 (.const (.string ⟨#[99,97,110,110,111,116,32,98,101,32,110,101,103,97,116,105,118,101]⟩))) 20),q (.raw (.panic (.tmp 7)) 0)]) Sk)) (Sq (Sq (Rg [Mv 8 1,Mv 9 0,p 10 (.raw (.call ⟨.builtin .cap,#[(.tmp 9)],#[97]⟩) 3),Mv 11 0,Le 12 11,Bt 13 .sub 10 12,Bt 14 .sub 8 13,Mv 1 14]) (Sq (Rg [Mv 15 1,Bi 16 .gtr 15 0]) (Cn 16 (Rg [Mv 17 0,Mv 18 0,p 19 (.raw (.call ⟨.builtin .cap,#[(.tmp 18)],#[97]⟩) 3),p 20 (.raw (.slice 97 (.tmp 17) none (some (.tmp 19)) none) 97),Mv 21 1,p 22 (.raw (.call ⟨.builtin .append,#[(.tmp 20),(.tmp 21)],#[97,3]⟩) 97),Mv 23 0,Le 24 23,p 25 (.slice 2 (t 22) none (some (t 24))),Mv 0 25]) Sk))) (Sq (Rg [Mv 26 0,Mv 4 26]) Rt)))
theorem MA:ae Tryz.prog (Tryz.f260.body.getD .skip)=some Zs:=by kernel_rfl
theorem MO:Tryz.f260.body=some (Tryz.f260.body.getD .skip):=rfl
def ZK:Rc:=Sq (Rg [Mn 2]) (Sq (Rg [Mk 3 0]) (Sq (Sq (Rg [Mv 9 0,Le 10 9,Mk 11 0]) (Bk 0 (Lp (Sq (Rg [Bt 12 .lss 11 10]) (Sq (Cn 12 Sk (Ex 0)) (Sq (Bk 1 (Sq (Rg [Ia 13 1 9 11,Ld 14 13,Mv 5 14]) (Sq (Rg [Mv 15 3,Mv 16 5,Le 17 16,Bt 18 .add 15 17,Mv 3 18]) (Sq (Rg [Mv 19 3,Bi 20 .lss 19 0]) (Cn 20 (Rg [p 21 (.raw (.makeInterface 9 (.const (.string ⟨#[108,101,110,32,111,117,116,32,111,102,32,114,97,110,103,101]⟩))) 20),q (.raw (.panic (.tmp 21)) 0)]) Sk))))) (Rg [Bi 22 .add 11 1,Mv 11 22]))))))) (Sq (Rg [Mv 23 3,p 24 (.call 260 [kn,t 23]),Mv 6 24]) (Sq (Sq (Rg [Mv 25 0,Le 26 25,Mk 27 0]) (Bk 2 (Lp (Sq (Rg [Bt 28 .lss 27 26]) (Sq (Cn 28 Sk (Ex 2)) (Sq (Bk 3 (Sq (Rg [Ia 29 1 25 27,Ld 30 29,Mv 8 30]) (Rg [Mv 31 6,Mv 32 8,p 33 (.append 2 16 (t 31) (t 32)),Mv 6 33]))) (Rg [Bi 34 .add 27 1,Mv 27 34]))))))) (Sq (Rg [Mv 35 6,Mv 2 35]) Rt)))))
theorem ME:ae Tryz.prog (Tryz.f215.body.getD .skip)=some ZK:=by kernel_rfl
theorem MR:Tryz.f215.body=some (Tryz.f215.body.getD .skip):=rfl
def RRv (n:Nat) (m:Nat) (ws:List V) (xss:List (Lz)):Prop:= ∃ (i q:Int) (zs:Lz),(0≤i∧i≤(n:Int)∧q < (n:Int)∧ -1≤q)∧m=(q+1 - i).toNat∧ws=[iV .i64 i,iV .i64 q]∧xss=[zs]∧zs.length=n∧cq zs
theorem RRv.next {n:Nat} {i q:Int} {zs:Lz} (hb:0≤i∧i≤(n:Int)∧q < (n:Int)∧ -1≤q) (h:i < q) (hn:n≤1000000) (hz:zs.length=n) (hS:cq zs) (j1 j2:Nat) (a b c d:Int):
 RRv n (q - 1+1 - (i+1)).toNat [iV .i64 (IntKind.i64.wrap (i+1)),iV .i64 (IntKind.i64.wrap (q - 1))] [(zs.set j1 [tI a,tI b]).set j2 [tI c,tI d]]:=
 ⟨i+1,q - 1,_,by omega,rfl,by rw[bO (by omega) (by omega),bO (by omega) (by omega)],rfl,by simp[hz],(hS.set j1 a b).set j2 c d⟩
def GRv (n:Nat) (ts:List W) (hout:HS):Prop:=ts=[]∧ ∃ys,hout=[(0, .row 2 (tr ys))]∧ys.length=n∧cq ys
theorem lE (xs:Lz) (hx:cq xs) (hl:xs.length≤1000000): ∃ts hout,Fn Tryz.prog 214 [.one (.own 0 2 0 xs.length)] [(0, .row 2 (tr xs))] (aO ts) hout∧GRv xs.length ts hout:=by
 refine fl (n:=28) (rs:=[]) Tryz.func214 aeH XF rfl rfl (by simp) ?_
 repeat' (conv=>whnf
          first
  |(refine az (fun h=>?_) (fun h=>?_))
  |(refine And.intro ⟨by omega,by omega⟩ ?_)
  |(refine And.intro (by kernel_rfl) ?_)
  |(refine cg (xs:=zs) rfl hU (by omega) ?_;rintro _ ⟨a,b,rfl⟩ hs)
  |(refine cg (xs:=zs.set _ [tI _,tI _]) (aL.set (xs:=zs) rfl _ [tI _,tI _]) (hU.set _ _ _) (by simp;omega) ?_;rintro _ ⟨a,b,rfl⟩ hs)
  |exact⟨[],[],_,rfl,rfl,iu rfl (xs:=xs) (ys:=zs) rfl,rfl,zs,rfl,hz,hU⟩
  |(apply bc [0,2,3] [] [2,3] [(0,2)] (RRv xs.length) (xs.length) [iV .i64 0,iV .i64 (IntKind.i64.wrap ((xs.length:Int) - 1))];(conv=>whnf);exact⟨rfl,rfl,rfl,rfl⟩;exact rfl;exact rfl;exact .cons (aL.aF (xs:=xs) rfl _) .nil;exact⟨0,(xs.length:Int) - 1,xs,by omega,by omega,by rw[bO (by omega) (by omega)],rfl,rfl,hx⟩;rintro _ _ _ ⟨i,q,zs,hb,rfl,rfl,rfl,hz,hU⟩)
  |(refine aq [0,2,3] [] ?_;(conv=>whnf);exact⟨rfl,_,[_,_],_, .cons (aL.aF (aL.set (aL.set (xs:=zs) rfl _ [tI _,tI _]) _ [tI _,tI _]) _) .nil,RRv.next hb (by omega) hl hz hU _ _ _ _ _ _,rfl,rfl,by omega⟩))
 all_goals (conv=>whnf)
def JL (ts:List W):Prop:=ts=[.one (.t eR)]
theorem TA (_u:Unit):Tg 260 [.one (.t eR),oI 0] JL:=by
 refine ah (n:=27) (rs:=[.tmp 4]) Tryz.func260 MO MA rfl rfl (by simp) ?_
 repeat' (conv=>whnf
          first
  |(refine Be (op:= .call ⟨.builtin .cap, #[.tmp _], #[97]⟩) (v:=iV .i64 0) (by kernel_rfl) ?_)
  |exact g1 rfl rfl rfl)
 all_goals (conv=>whnf)
theorem uSl:Tryz.prog.underlying 97=some (.slice 64):=by kernel_rfl
theorem uIn:Tryz.prog.underlying 3=some (.int .i64):=by kernel_rfl
theorem auH:pq Tryz.prog 64=some (2,16):=by kernel_rfl
theorem alF:jR Tryz.prog 64=some [.t (tI 0), .t (tI 0)]:=by kernel_rfl
theorem Gm {n:Nat} (hn:n≤1000000):IntKind.i64.wrap ((n:Int) - IntKind.i64.wrap (0 - ((0:Nat):Int)))=(n:Int):=by
 rw[bO (n:=0 - ((0:Nat):Int)) (by omega) (by omega),bO (by omega) (by omega)]
 omega
theorem OD {n:Nat} (h1:1≤n) (hn:n≤1000000):IntKind.i64.wrap ((n:Int) - IntKind.i64.wrap (0 - ((0:Nat):Int)))=((n - 1+1:Nat):Int):=by
 rw[Gm hn]
 omega
theorem Tz (n:Nat) (h1:1≤n) (hn:n≤1000000): ∃ts hout,zk Tryz.prog 260 [.one (.t eR),oI n] (aO ts) hout∧GNc 2 ts hout:=by
 refine um (n:=27) (rs:=[.tmp 4]) Tryz.func260 MO MA rfl rfl (by simp) ?_
 repeat' (conv=>whnf
          first
  |(refine az (fun h=>?_) (fun h=>?_))
  |(refine nH (Nat.zero_le _) (by omega) (.inr rfl) ?_)
  |(refine And.intro (by omega) ?_)
  |(refine Be (op:= .call ⟨.builtin .cap, #[.tmp _], #[97]⟩) (v:=iV .i64 0) (by kernel_rfl) ?_)
  |(refine Be (op:= .slice 97 (.tmp 17) none (some (.tmp 19)) none) (v:=DQ) (by kernel_rfl) ?_)
  |(refine Nf (m:=n - 1) rfl rfl (OD h1 hn) uSl uIn auH alF rfl (by omega) (by omega) ?_)
  |exact gNc rfl rfl rfl
  |(exfalso;rw[Gm hn]at h;omega))
 all_goals (conv=>whnf)
theorem OE (n:Nat) (h:n=0):HH 260 [.one (.t eR),oI n] JL:=by subst h;exact TA ()
def tl (e:List T):Nat:=
 match e with
 | [.ao _ xs]=>xs.length
 |_=>0
def fB:Lz→Nat
 | []=>0
 |e::r=>tl e+fB r
theorem wu: ∀ (es:Lz) (e:List T),fB (es++[e])=fB es+tl e
 | [],e=>by simp[fB]
 |x::r,e=>by simp only[List.cons_append,fB,wu r e];omega
theorem pY {es:Lz} {i:Nat} {e:List T} (h:es[i]? =some e):fB (es.take (i+1))=fB (es.take i)+tl e:=by
 rw[gy h,wu]
def Cc (e:List T):Prop:= ∃ys,e=[.ao 2 ys]∧cq ys∧ys.length≤100000
theorem Co: ∀ {es:Lz},(∀e,e∈es→Cc e)→fB es≤100000 * es.length
 | [],_=>by simp[fB]
 |e::r,h=>by
  obtain⟨ys,rfl,_,hl⟩:=h e List.mem_cons_self
  have:=Co (es:=r) (fun q hq=>h q (List.mem_cons_of_mem _ hq))
  simp only[fB,tl,List.length_cons]
  omega
theorem tb {es:Lz} (h: ∀e,e∈es→Cc e) (hl:es.length≤4) (i:Nat):fB (es.take i)≤400000:=by
 have:=Co (es:=es.take i) (fun e he=>h e (List.mem_of_mem_take he))
 have h2:(es.take i).length≤es.length:=by simp;omega
 omega
theorem HQ {es:Lz} {i:Nat} {y:List T} {ys:Lz} (h0:fB es=0) (hs:es[i]? =some [.ao 2 (y::ys)]):False:=by
 have h1: ∀ (l:Lz),[T.ao 2 (y::ys)]∈l→1≤fB l:=by
  intro l
  induction l with
  |nil=>intro h;simp at h
  |cons a r ih=>
   intro h
   rcases List.mem_cons.1 h with rfl|h
   · simp only[fB,tl,List.length_cons];omega
   · have:=ih h;simp only[fB];omega
 have:=h1 es (List.mem_of_getElem? hs)
 omega
def QM (ls:Lz) (m:Nat) (vs:List V):Prop:= ∃i:Nat,i≤ls.length∧m=ls.length - i∧vs=[iV .i64 (fB (ls.take i):Int),iV .i64 (i:Int)]
theorem QM.next {ls:Lz} {i:Nat} {ys:Lz} {n:Int} (hls: ∀e,e∈ls→Cc e) (hl:ls.length≤4) (hi:(i:Int) < (ls.length:Int)) (hs:ls[((i:Int)).toNat]? =some [.ao 2 ys]) (hn:n=(ys.length:Int)):QM ls (ls.length - (i+1)) [iV .i64 (IntKind.i64.wrap ((fB (ls.take i):Int)+n)),iV .i64 (IntKind.i64.wrap ((i:Int)+1))]:=by
 have h1:=pY (es:=ls) (i:=i) (by simpa using hs)
 have h2:=tb hls hl (i+1)
 simp only[tl]at h1
 refine⟨i+1,by omega,rfl,?_⟩
 rw[hn,bO (by omega) (by omega),bO (by omega) (by omega),h1]
 simp
theorem ML {ls:Lz} {i:Nat} {n:Nat} (hls: ∀e,e∈ls→Cc e) (hl:ls.length≤4) (hn:n≤100000) (h:IntKind.i64.wrap ((fB (ls.take i):Int)+(n:Int)) < 0):False:=by
 have:=tb hls hl i
 rw[bO (by omega) (by omega)]at h
 omega
def PL (ls:Lz) (m:Nat) (ws:List V) (xss:List (Lz)):Prop:= ∃ (i:Nat) (zs:Lz),i≤ls.length∧m=ls.length - i∧ws=[bK 4 2 zs.length,iV .i64 (i:Int)]∧xss=[zs]∧zs.length=fB (ls.take i)∧cq zs
theorem PL.same {ls zs:Lz} {i:Nat} (hl:ls.length≤4) (hi:(i:Int) < (ls.length:Int)) (hs:ls[((i:Int)).toNat]? =some [.ao 2 []]) (hz:zs.length=fB (ls.take i)) (hS:cq zs):PL ls (ls.length - (i+1)) [bK 4 2 zs.length,iV .i64 (IntKind.i64.wrap ((i:Int)+1))] [zs]:=by
 have h1:=pY (es:=ls) (i:=i) (by simpa using hs)
 simp only[tl,List.length_nil,Nat.add_zero]at h1
 exact⟨i+1,zs,by omega,rfl,by rw[bO (by omega) (by omega)];rfl,rfl,by omega,hS⟩
theorem PL.G9 {ls zs ys:Lz} {y:List T} {i k:Nat} (hl:ls.length≤4) (hi:(i:Int) < (ls.length:Int)) (hs:ls[((i:Int)).toNat]? =some [.ao 2 (y::ys)]) (hy:cq (y::ys)) (hz:zs.length=fB (ls.take i)) (hS:cq zs) (hk:k=zs.length+(ys.length+1)):PL ls (ls.length - (i+1)) [bK 4 2 k,iV .i64 (IntKind.i64.wrap ((i:Int)+1))] [zs++y::ys]:=by
 have h1:=pY (es:=ls) (i:=i) (by simpa using hs)
 simp only[tl,List.length_cons]at h1
 refine⟨i+1,_,by omega,rfl,by rw[bO (by omega) (by omega),hk];simp,rfl,by simp;omega,?_⟩
 intro e he
 simp only[List.mem_append]at he
 rcases he with he|he
 · exact hS e he
 · exact hy e he
theorem avY {zs ys:Lz} (h1:zs.length≤400000) (h2:ys.length≤100000):zs.length=(tr zs).length∧((tr zs).length+((ys.map fun e=>e.map C.t).length+1)) * 16≤bR∧(tr zs).length+((ys.map fun e=>e.map C.t).length+1)≤maxLen:=by
 refine⟨by simp[tr],?_,?_⟩
 · simp only[tr,List.length_map,bR];omega
 · simp only[tr,List.length_map,maxLen];omega
theorem Jk (ls:Lz) (hls: ∀e,e∈ls→Cc e) (hl:ls.length≤4) (h1:1≤fB ls): ∃ts hout,zk Tryz.prog 215 [oL 1 ls] (aO ts) hout∧GN 2 (fun zs=>zs.length=fB ls∧cq zs) ts hout:=by
 refine um (n:=36) (rs:=[.tmp 2]) Tryz.func215 MR ME rfl rfl (by simp) ?_
 repeat' (conv=>whnf
          first
  |(refine az (fun h=>?_) (fun h=>?_))
  |(refine ap (xs:=ls) (n:=(i:Int)) hls (by omega) (by omega) ?_;rintro _ ⟨ys,rfl,hys,vl⟩ hs)
  |(refine ap (xs:=ls) (n:=(q:Int)) hls (by omega) (by omega) ?_;rintro _ ⟨_|⟨y,ys⟩,rfl,hys,vl⟩ hs)
  |(exfalso;exact ML hls hl vl h)
  |(refine And.intro (avY (by have:=tb hls hl q;omega) (by simp at vl;omega)) ?_)
  |(refine QZ rfl (GNc.new (Tz (fB (ls.take i)) (by rw[List.take_of_length_le (by omega)];exact h1) (by have:=tb hls hl i;omega))) ?_;rintro _ rfl)
  |exact gN rfl rfl rfl (xs:=zs) rfl rfl ⟨by rw[List.take_of_length_le (by omega)]at hz;exact hz,hS⟩
  |(apply bc [6,25,26,27] [] [6,27] [(4,2)] (PL ls) (ls.length) [bK 4 2 0,iV .i64 0];(conv=>whnf);exact⟨rfl,rfl,rfl,rfl⟩;exact rfl;exact rfl;exact .cons (aL.aF (xs:=[]) rfl _) .nil;exact⟨0,[],by omega,rfl,rfl,rfl,by simp[fB],fun e he=>by simp at he⟩;rintro _ _ _ ⟨q,zs,hq,rfl,rfl,rfl,hz,hS⟩)
  |(refine aq [6,25,26,27] [] ?_;(conv=>whnf);first|exact⟨rfl,_,[_,_],_, .cons (aL.aF (xs:=zs) rfl _) .nil,PL.same hl (by omega) hs hz hS,rfl,rfl,by omega⟩|exact⟨rfl,_,[_,_],_, .cons (aL.aF (aL.G9 (xs:=zs) rfl (y::ys)) _) .nil,PL.G9 hl (by omega) hs hys hz hS (by simp[tr]),rfl,rfl,by omega⟩)
  |(apply aK [0,3,9,10,11] [] [3,11] (QM ls) (ls.length) [iV .i64 0,iV .i64 0];(conv=>whnf);exact⟨rfl,rfl,rfl,rfl⟩;exact rfl;exact rfl;exact⟨0,by omega,rfl,by simp[fB]⟩;rintro _ _ ⟨i,hi,rfl,rfl⟩)
  |(refine aq [0,3,9,10,11] [] ?_;(conv=>whnf);exact⟨rfl,_,[_,_],QM.next hls hl (by omega) hs (by simp),rfl,rfl,rfl,by omega⟩))
 all_goals (conv=>whnf)
def RCn (ls:Lz) (m:Nat) (vs:List V):Prop:= ∃i:Nat,i≤ls.length∧m=ls.length - i∧vs=[DQ,iV .i64 (i:Int)]
theorem RCn.next {ls:Lz} {i:Nat} (hl:ls.length≤4) (hi:(i:Int) < (ls.length:Int)):RCn ls (ls.length - (i+1)) [DQ,iV .i64 (IntKind.i64.wrap ((i:Int)+1))]:=
 ⟨i+1,by omega,rfl,by rw[bO (by omega) (by omega)];rfl⟩
theorem Jl (ls:Lz) (hls: ∀e,e∈ls→Cc e) (hl:ls.length≤4) (h0:fB ls=0):Tg 215 [oL 1 ls] JL:=by
 refine ah (n:=36) (rs:=[.tmp 2]) Tryz.func215 MR ME rfl rfl (by simp) ?_
 repeat' (conv=>whnf
          first
  |(refine az (fun h=>?_) (fun h=>?_))
  |(refine ap (xs:=ls) (n:=(i:Int)) hls (by omega) (by omega) ?_;rintro _ ⟨ys,rfl,hys,vl⟩ hs)
  |(refine ap (xs:=ls) (n:=(q:Int)) hls (by omega) (by omega) ?_;rintro _ ⟨_|⟨y,ys⟩,rfl,hys,vl⟩ hs)
  |(exfalso;exact ML hls hl vl h)
  |(exfalso;exact HQ h0 hs)
  |(refine ai rfl (OE (fB (ls.take i)) (by rw[List.take_of_length_le (by omega)];exact h0)) ?_;rintro _ rfl)
  |exact g1 rfl rfl rfl
  |(apply aK [6,25,26,27] [] [6,27] (RCn ls) (ls.length) [DQ,iV .i64 0];(conv=>whnf);exact⟨rfl,rfl,rfl,rfl⟩;exact rfl;exact rfl;exact⟨0,by omega,rfl,rfl⟩;rintro _ _ ⟨q,hq,rfl,rfl⟩)
  |(refine aq [6,25,26,27] [] ?_;(conv=>whnf);exact⟨rfl,_,[_,_],RCn.next hl (by omega),rfl,rfl,rfl,by omega⟩)
  |(apply aK [0,3,9,10,11] [] [3,11] (QM ls) (ls.length) [iV .i64 0,iV .i64 0];(conv=>whnf);exact⟨rfl,rfl,rfl,rfl⟩;exact rfl;exact rfl;exact⟨0,by omega,rfl,by simp[fB]⟩;rintro _ _ ⟨i,hi,rfl,rfl⟩)
  |(refine aq [0,3,9,10,11] [] ?_;(conv=>whnf);exact⟨rfl,_,[_,_],QM.next hls hl (by omega) hs (by simp),rfl,rfl,rfl,by omega⟩))
 all_goals (conv=>whnf)
end Go.aU.Cd
end
section
namespace Go.aU.Cd
open Go Go.Proofs
set_option maxRecDepth 100000
set_option maxHeartbeats 1000000
def aaA:Rc:=Sq (Rg [Mn 2,Mk 3 0]) (Sq (Sq (Rg [Mv 12 0,p 13 (.call 72 [t 12]),Mv 4 13]) (Sq (Rg [Mv 14 4,Bi 15 .neq 14 0]) (Cn 15 (Sq (Rg [Mv 16 4,Mn 2,Mv 3 16]) Rt) Sk))) (Sq (Rg [Mn 5]) (Sq (Sq (Rg [Mv 17 0,Le 18 17,Mk 19 0]) (Bk 0 (Lp (Sq (Rg [Bt 20 .lss 19 18]) (Sq (Cn 20 Sk (Ex 0)) (Sq (Bk 1 (Sq (Rg [Mv 21 19,Ia 22 2 17 19,Lo 2 23 22,p 7 (.alloc [zi,zi]),Mv 6 21,So 2 7 23]) (Sq (Rg [Mv 24 0,Mv 25 6,p 26 (.call 212 [t 24,t 25]),Bi 27 .neq 26 0]) (Cn 27 (Rg [Mv 28 5,Lo 2 29 7,p 30 (.aT [zi,zi] 1 [(0,t 29)]),p 31 (.append 2 16 (t 28) (t 30)),Mv 5 31]) Sk)))) (Rg [Bi 32 .add 19 1,Mv 19 32]))))))) (Sq (Sq (Rg [Mv 33 0,p 34 (.call 213 [t 33]),Bi 35 .lss 34 0]) (Cn 35 (Rg [Mv 36 5,p 37 (.call 214 [t 36])]) Sk)) (Sq (Rg [Mk 8 0]) (Sq (Sq (Rg [Mv 38 5,Le 39 38,Mk 40 0]) (Bk 2 (Lp (Sq (Rg [Bt 41 .lss 40 39]) (Sq (Cn 41 Sk (Ex 2)) (Sq (Bk 3 (Sq (Rg [Mv 42 40,Ia 43 2 38 40,Lo 2 44 43,p 10 (.alloc [zi,zi]),Mv 9 42,So 2 10 44]) (Sq (Rg [Mv 45 5,Mv 46 8,Ia 47 2 45 46,Lo 2 48 47,p 11 (.alloc [zi,zi]),So 2 11 48]) (Sq (Rg [Fa 49 0 10,Ld 50 49,Fa 51 0 11,Ld 52 51,Bt 53 .lss 50 52,Mv 54 53,Ga 54 (Fa 55 0 10),Ga 54 (Ld 56 55),Ga 54 (Fa 57 0 11),Ga 54 (Ld 58 57),Ga 54 (Bt 59 .eql 56 58),Ga 54 (Mv 60 59),Gb 60 (Fa 61 1 10),Gb 60 (Ld 62 61),Gb 60 (Fa 63 1 11),Gb 60 (Ld 64 63),Gb 60 (Bt 65 .lss 62 64),Ga 54 (Pf 66 60 65),Pt 67 54 66]) (Cn 67 (Rg [Mv 68 9,Mv 8 68]) Sk))))) (Rg [Bi 69 .add 40 1,Mv 40 69]))))))) (Sq (Dr [Mv 70 5,Mv 71 8,p 72 (.slice 2 (t 70) (some (t 71)) none),Mv 73 5,Mv 74 8,p 75 (.slice 2 (t 73) none (some (t 74))),p 76 (.aT [zn] 2 [(0,t 72),(1,t 75)]),p 77 (.call 215 [t 76]),Mv 2 77,Mk 3 0] [[],[],[0,1],[],[],[3,4],[2,5],[6],[7,7,0,1,2,3,4,5,6,7],[8,0,1,2,3,4,5,6,7,8]]) Rt)))))))
theorem X7:ae Tryz.prog (Tryz.f167.body.getD .skip)=some aaA:=by kernel_rfl
theorem afG:Tryz.f167.body=some (Tryz.f167.body.getD .skip):=rfl
theorem EY {A B:Lz} (hA:cq A) (hB:cq B) (h:A.length+B.length≤100000): ∀e,e∈ ([[.ao 2 A],[.ao 2 B]]:Lz)→Cc e:=by
 intro e he
 simp only[List.mem_cons,List.not_mem_nil,or_false]at he
 rcases he with rfl|rfl
 · exact⟨A,rfl,hA,by omega⟩
 · exact⟨B,rfl,hB,by omega⟩
theorem xE (A B:Lz):fB [[.ao 2 A],[.ao 2 B]]=A.length+B.length:=by simp[fB,tl]
theorem C8 {A B:Lz} (hA:cq A) (hB:cq B) (h1:1≤A.length+B.length) (h:A.length+B.length≤100000): ∃ts hout,zk Tryz.prog 215 [oL 1 [[.ao 2 A],[.ao 2 B]]] (aO ts) hout∧GN 2 (fun zs=>zs.length=A.length+B.length∧cq zs) ts hout:=by
 have:=Jk [[.ao 2 A],[.ao 2 B]] (EY hA hB h) (by simp) (by rw[xE];exact h1)
 rw[xE]at this
 exact this
theorem C7 {A B:Lz} (hA:cq A) (hB:cq B) (h:A.length+B.length=0):HH 215 [oL 1 [[.ao 2 A],[.ao 2 B]]] JL:=
 Jl [[.ao 2 A],[.ao 2 B]] (EY hA hB (by omega)) (by simp) (by rw[xE];exact h)
theorem flN {n:Nat}: ∀xs:Lz,xs.length=n∧cq xs→(bt.row 2 (tr xs)).flat=true:=by
 rintro xs ⟨_,h⟩
 simp only[bt.flat,tr,List.all_eq_true,List.mem_map]
 rintro r ⟨e,he,rfl⟩
 obtain⟨a,b,rfl⟩:=h e he
 intro c hc
 simp only[List.map_cons,List.map_nil,List.mem_cons,List.not_mem_nil,or_false]at hc
 rcases hc with rfl|rfl<;>rfl
def PK (N:Nat) (m:Nat) (ws:List V) (xss:List (Lz)):Prop:= ∃ (i:Nat) (zs:Lz),i≤N∧m=N - i∧ws=[bK 4 2 zs.length,iV .i64 (i:Int)]∧xss=[zs]∧zs.length≤i∧cq zs
theorem PK.same {N i:Nat} {zs:Lz} (h:(i:Int) < (N:Int)) (hN:N≤1000000) (hz:zs.length≤i) (hS:cq zs):PK N (N - (i+1)) [bK 4 2 zs.length,iV .i64 (IntKind.i64.wrap ((i:Int)+1))] [zs]:=
 ⟨i+1,zs,by omega,rfl,by rw[bO (by omega) (by omega)];rfl,rfl,by omega,hS⟩
theorem PK.G9 {N i k:Nat} {zs:Lz} {x y:Int} (h:(i:Int) < (N:Int)) (hN:N≤1000000) (hz:zs.length≤i) (hS:cq zs) (hk:k=zs.length+1):PK N (N - (i+1)) [bK 4 2 k,iV .i64 (IntKind.i64.wrap ((i:Int)+1))] [zs++[[tI x,tI y]]]:=
 ⟨i+1,_,by omega,rfl,by rw[bO (by omega) (by omega),hk];simp,rfl,by simp;omega,hS.snoc x y⟩
def Jx (N:Nat) (m:Nat) (ws:List V) (xss:List (Lz)):Prop:= ∃ (i f:Nat),i≤N∧(f < N∨N=0∧f=0)∧m=N - i∧ws=[iV .i64 (f:Int),iV .i64 (i:Int)]∧xss=[]
theorem Jx.zero {N:Nat}:Jx N N [iV .i64 0,iV .i64 0] []:=⟨0,0,by omega,by omega,rfl,rfl,rfl⟩
theorem Jx.keep {N i f:Nat} (h:(i:Int) < (N:Int)) (hN:N≤1000000) (hf:f < N):Jx N (N - (i+1)) [iV .i64 (f:Int),iV .i64 (IntKind.i64.wrap ((i:Int)+1))] []:=
 ⟨i+1,f,by omega, .inl hf,rfl,by rw[bO (by omega) (by omega)];rfl,rfl⟩
theorem tw (xs:Lz) (hx:cq xs) (hl:xs.length≤1000000):Tg 167 [oL 2 xs] (JM 2 (fun zs=>cq zs∧zs.length≤40)):=by
 refine aG ?_
 refine ah (n:=78) (rs:=[.tmp 2, .tmp 3]) Tryz.func167 afG X7 rfl rfl (by simp) ?_
 repeat' (conv=>whnf
          first
  |(refine az (fun h=>?_) (fun h=>?_))
  |(refine cv (fun h=>?_) (fun h=>?_))
  |(refine ap (xs:=xs) hx (by omega) (by omega) ?_;rintro _ ⟨a,b,rfl⟩ hs)
  |(refine ap (xs:=zs.take zs.length) (hz.take _) (by omega) (by simp;omega) ?_;rintro _ ⟨a,b,rfl⟩ hs)
  |(refine ap (xs:=ys.take zs.length) (hys.take _) (by omega) (by simp;omega) ?_;rintro _ ⟨a,b,rfl⟩ hs)
  |(refine And.intro ⟨by simp[tr],by simp[tr,bR];omega,by simp[tr,maxLen];omega⟩ ?_)
  |(refine fz (Nat.zero_le _) (by simp;omega) ?_)
  |(refine fz (by simp;omega) (by simp) ?_)
  |(refine fz (by omega) (by omega) ?_)
  |(refine And.intro (by kernel_rfl) ?_)
  |(refine And.intro (by omega) ?_)
  |(refine ai rfl (eE xs hx hl) ?_;rintro _ ⟨e,rfl,hP⟩)
  |(refine ai rfl (xY xs i hx hl (by omega)) ?_;rintro _ ⟨n,rfl⟩)
  |(refine ai rfl (oH xs hx hl) ?_;rintro _ ⟨n,rfl⟩)
  |(refine EM [4] rfl (lE zs hz (by omega)) rfl (S3 rfl rfl) ?_;rintro _ _ ⟨rfl,ys,rfl,vl,hys⟩)
  |(refine sL rfl flN (C8 (cI (hz.take _) _ _) (cI (hz.take _) _ _) (by simp;omega) (by have:=(hP (by omega)).1.2.1;simp;omega)) ?_;rintro ws ⟨ze,D2⟩)
  |(refine sL rfl flN (C8 (cI (hys.take _) _ _) (cI (hys.take _) _ _) (by simp;omega) (by have:=(hP (by omega)).1.2.1;simp;omega)) ?_;rintro ws ⟨ze,D2⟩)
  |(refine Ci rfl (C7 (cI (hz.take _) _ _) (cI (hz.take _) _ _) (by simp only[List.length_take,List.length_drop];omega)) (fun rs h=>by subst h;rfl) ?_;rintro _ rfl)
  |(refine Ci rfl (C7 (cI (hys.take _) _ _) (cI (hys.take _) _ _) (by simp only[List.length_take,List.length_drop];omega)) (fun rs h=>by subst h;rfl) ?_;rintro _ rfl)
  |exact iy rfl (dR 2 rfl) (dw rfl) ⟨_,_,rfl,fun h0=>absurd h0 (by omega)⟩
  |exact iy rfl (fg rfl rfl (xs:=ws) rfl (by omega)) (dw rfl) ⟨_,_,rfl,fun _=>by rw[iS rfl];exact⟨D2,by have:=(hP (by omega)).1.2.1;simp at ze;omega⟩⟩
  |exact iy rfl (dR 2 rfl) (dw rfl) ⟨_,_,rfl,fun _=>⟨fun e he=>by simp at he,by simp⟩⟩
  |(apply eN [5,8,38,39,40] [] [8,40] [] (Jx zs.length) (zs.length) [iV .i64 0,iV .i64 0] (iA.OH (xs:=ys) [5,38] 4 (NU rfl rfl) rfl (aL.aF rfl _) (by omega));(conv=>whnf);exact⟨rfl,rfl,rfl,rfl⟩;exact rfl;exact rfl;exact .nil;exact Jx.zero;rintro _ _ _ ⟨q,f,hq,(hf|⟨hc,rfl⟩),rfl,rfl,rfl⟩)
  |(refine aq [5,8,38,39,40] [] ?_;(conv=>whnf);exact⟨rfl,_,[_,_],_, .nil,Jx.keep (by omega) (by omega) (by omega),rfl,rfl,by omega⟩)
  |(apply eN [5,8,38,39,40] [] [8,40] [] (Jx zs.length) (zs.length) [iV .i64 0,iV .i64 0] (iA.OH (xs:=zs) [5,38] 4 (NU rfl rfl) rfl rfl (Nat.le_refl _));(conv=>whnf);exact⟨rfl,rfl,rfl,rfl⟩;exact rfl;exact rfl;exact .nil;exact Jx.zero;rintro _ _ _ ⟨q,f,hq,(hf|⟨hc,rfl⟩),rfl,rfl,rfl⟩)
  |(apply eN [0,5,17,18,19] [] [5,19] [(4,2)] (PK xs.length) (xs.length) [bK 4 2 0,iV .i64 0] (iA.jh 5 2 rfl);(conv=>whnf);exact⟨rfl,rfl,rfl,rfl⟩;exact rfl;exact rfl;exact .cons (aL.aF aL.nil _) .nil;exact⟨0,[],by omega,rfl,rfl,rfl,by simp,fun e he=>by simp at he⟩;rintro _ _ _ ⟨i,zs,hi,rfl,rfl,rfl,sG,hz⟩)
  |(refine aq [0,5,17,18,19] [] ?_;(conv=>whnf);first|exact⟨rfl,_,[_,_],_, .cons (aL.aF (xs:=zs) rfl _) .nil,PK.same (by omega) hl sG hz,rfl,rfl,by omega⟩|exact⟨rfl,_,[_,_],_, .cons (aL.aF (aL.snoc (xs:=zs) rfl [tI _,tI _]) _) .nil,PK.G9 (by omega) hl sG hz (by simp[tr]),rfl,rfl,by omega⟩))
 all_goals (conv=>whnf)
end Go.aU.Cd
end
section
namespace Go.aU
open Go
variable {P:Program} {M A:Nat→Prop} {ρ:Env} {F:Nat→Prop} {st:St} {a:Act} {w:World}
theorem wF (j:IntKind) (x y:Int): ∃n,aA P (Builtin.min2 (.int j x) (.int j y))=some (.int j n):=by
 unfold Builtin.min2
 simp[av]
theorem DL (gx:Array TypeId) (ty:TypeId) (j:IntKind) (x y z:Int): ∃n,aA P (Builtin.min_ gx ty #[.int j x, .int j y, .int j z])=some (.int j n):=by
 obtain⟨a,ha⟩:=wF (P:=P) j x y
 obtain⟨b,hb⟩:=wF (P:=P) j a z
 refine⟨b,?_⟩
 unfold Builtin.min_
 simp[aC,ha,hb]
theorem HM {ctr a b c:Nat} {ty:TypeId} {gx:Array TypeId} {tm:TS} {hp:HS} {x y z:Int} {K:V→HS→Prop} (ha:find tm a=some (iV .i64 x)) (hb:find tm b=some (iV .i64 y)) (hc:find tm c=some (iV .i64 z)) (hk: ∀m,K (iV .i64 m) hp):
 ∃v hp',EvR P (.call ⟨.builtin .min, #[.tmp a, .tmp b, .tmp c],gx⟩) ty tm hp ctr v hp'∧K v hp':=by
 obtain⟨m,hm⟩:=DL (P:=P) gx ty .i64 x y z
 refine⟨iV .i64 m,hp,⟨fun get=>rfl,?_⟩,hk m⟩
 rintro n ⟨dst',op',ty',pos',after',guard'⟩ rfl rfl
 have e:aY P (St.get ⟨n,tm,hp⟩) ⟨dst', .call ⟨.builtin .min, #[.tmp a, .tmp b, .tmp c],gx⟩,ty',pos',after',guard'⟩=some (iV .i64 m):=by
  unfold aY
  have ef:(fj (Op.call ⟨.builtin .min, #[.tmp a, .tmp b, .tmp c],gx⟩)&& (Op.call ⟨.builtin .min, #[.tmp a, .tmp b, .tmp c],gx⟩).operands.toList.all fun x=>(St.get ⟨n,tm,hp⟩ x).val?.isSome)=true:=by
   have apY:(Op.call ⟨.builtin .min, #[.tmp a, .tmp b, .tmp c],gx⟩).operands.toList=[.tmp a, .tmp b, .tmp c]:=rfl
   rw[apY]
   simp[fj,St.get,ha,hb,hc,V.val?,W.val?,C.val?]
  rw[if_pos ef]
  have:aA P (execOp (fun x=>((St.get ⟨n,tm,hp⟩ x).val?).getD undef) ⟨dst', .call ⟨.builtin .min, #[.tmp a, .tmp b, .tmp c],gx⟩,ty',pos',after',guard'⟩)=some (.value (.int .i64 m)):=by
   simp[execOp,resolve,invoke,builtin,cR,St.get,ha,hb,hc,V.val?,W.val?,C.val?,hm]
  rw[this]
  rfl
 simp only[ak,e,Option.map_some]
theorem Ei {hp:HS} {id sz i len:Nat} {rows:List (List C)} {xs:Lz} (hf:find hp id=some (.row sz rows)) (hR:aL rows xs) (hl:i+len≤xs.length):elems hp (.own id sz i len)=some (sz,tr ((xs.drop i).take len)):=by
 have hl':i+len≤rows.length:=by rw[hR.len];exact hl
 simp only[elems,hf,true_and,hl',if_true]
 rw[hR,xH]
theorem Cj {d s t1 t2 ty e id sz i len ctr:Nat} {tm:TS} {hp:HS} {c:C} {rows:List (List C)} {xs ys:Lz} {K:V→HS→Prop}
 (hd:find tm d=some (.w (.one (.own id sz i len)))) (hs:find tm s=some (.w (.one c))) (hn:isNil c=false) (he:elems hp c=some (sz,tr ys))
 (ht:P.underlying t1=some (.slice e)) (hz:cD P e=some sz) (hf:find hp id=some (.row sz rows)) (hR:aL rows xs) (hl:i+len≤xs.length)
 (h0: ∀n,K (iV .i64 n) hp) (hk: ∀n,K (iV .i64 n) (iC hp id (.row sz (tr (aQ xs i (ys.take len)))))):
 ∃v hp',EvR P (.call ⟨.builtin .copy, #[.tmp d, .tmp s], #[t1,t2]⟩) ty tm hp ctr v hp'∧K v hp':=by
 have BP:rows=tr xs:=hR
 subst BP
 by_cases hc:(ys.take len).length=0
 · refine⟨_,hp,⟨fun get=>rfl,?_⟩,h0 0⟩
   rintro n ⟨dst',op',ty',pos',after',guard'⟩ rfl rfl
   simp only[ak,St.get,hd,hs,Option.getD_some,dS,ht,hz,hn,he,Bool.false_eq_true,if_false,sB,xG,hc,if_true]
   rfl
 · refine⟨_,_,⟨fun get=>rfl,?_⟩,hk ((ys.take len).length:Nat)⟩
   rintro n ⟨dst',op',ty',pos',after',guard'⟩ rfl rfl
   have hl':True∧True∧True∧i+len≤xs.length:=⟨trivial,trivial,trivial,hl⟩
   simp only[ak,St.get,hd,hs,Option.getD_some,dS,ht,hz,hn,he,hf,Bool.false_eq_true,if_false,sB,xG,hc,wz]
   rw[if_pos hl']
   rfl
theorem sZ {α:Type} {xs ys:List α} {i:Nat} (h:i+ys.length≤xs.length):(aQ xs i ys).length=xs.length:=by
 unfold aQ
 simp only[List.length_append,List.length_take,List.length_drop]
 omega
theorem Bj {α:Type} {xs ys:List α} {i:Nat} {e:α} (h:e∈aQ xs i ys):e∈xs∨e∈ys:=by
 unfold aQ at h
 simp only[List.mem_append]at h
 rcases h with(h|h)|h
 · exact .inl (List.mem_of_mem_take h)
 · exact .inr h
 · exact .inl (List.mem_of_mem_drop h)
theorem zl {n:Nat} {b:Rc} {Q:Exit→TS→HS→Nat→Prop} {tm rG:TS} {hp yu:HS} {ctr c0:Nat} (keys:List Nat) (nest:List (Nat×Nat)) (ks:List Nat) (R:Nat→List V→HS→Prop) (m0:Nat) (xC:List V) {kz:TS} {lX:HS} {cB:Nat}
 (hW:iA tm hp ctr rG yu c0)
 (hB:Av (uQ keys nest rG yu) fun S=>o9 (S.tm rG) fun t=>qx (S.hp yu) fun q=>S.ok=true∧t=kz∧q=lX∧S.ctr=cB)
 (Dg:kz.length=keys.length) (h0:kz=jG ks xC kz) (IX:R m0 xC lX)
 (hstep: ∀m vs hq,R m vs hq→o9 (jG ks vs kz) fun kr=>X P n b (ff (bI fun aW hp' c'=> ∃m' vs',R m' vs' hp'∧aW=jG ks vs' kz∧c'=cB∧m' < m) Q) kr hq cB):
 ∃I:Nat→TS→HS→Nat→Prop,bI (fun tm hp c=> ∃m,I m tm hp c) tm hp ctr∧
  ∀m tm hp c,I m tm hp c→X P n b (ff (bI fun tm hp c=> ∃m',m' < m∧I m' tm hp c) Q) tm hp c:=by
 rw[mG,fy,gX]at hB
 obtain⟨hS,e1,e2,e3⟩:=hB
 refine⟨fun m aW hp' c'=> ∃vs',R m vs' hp'∧aW=jG ks vs' kz∧c'=cB, .sem hW (bI.mk' ⟨uQ keys nest rG yu,hS,m0,xC,by rw[e2];exact IX,e1.trans h0,e3⟩),?_⟩
 rintro m aW hq c' ⟨vs,hR,rfl,rfl⟩
 have:=hstep m vs hq hR
 rw[fy]at this
 refine(congrArg (fun J=>X P n b (ff (bI J) Q) _ _ _) ?_).mp this
 funext aW hp' c''
 exact propext ⟨fun⟨m',vs',h1,h2,h4,h5⟩=>⟨m',h5,vs',h1,h2,h4⟩,fun⟨m',h5,vs',h1,h2,h4⟩=>⟨m',vs',h1,h2,h4,h5⟩⟩
theorem nG {f:FuncId} {us args:List W} {hp hin:HS} {ctr:Nat} {K:V→HS→Nat→Prop} {Good:List W→Prop} (ids:List Nat) (hok:tN ids ctr=true) (hb: ∀id,id∈ids→ ∃b,find hp id=some b∧(b.aF (bu ids)).aF (fD ids ctr)=b)
 (ha:us.map (W.aF (bu ids))=args) (hh:cu (bu ids) hp 0 ids=hin) (h: ∃ts hout,Fn P f args hin (aO ts) hout∧hout=hin∧Good ts) (hk: ∀ts,Good ts→K ((aO ts).aF (fD ids ctr)) hp (ctr+4)): ∃v hp' c',dQ P f us hp ctr v hp' c'∧K v hp' c':=by
 obtain⟨ts,hout,h1,rfl,h2⟩:=h
 exact⟨_,_,_,yU ids hok h1 ha hh hb,hk ts h2⟩
theorem ND {hp:HS} {tm:TS} {t id cV sl NW len k:Nat} {rs zs:Lz} {rows wA:List (List C)} (h:find tm t=some (.w (.one (.own id 1 0 len)))) (hf:find hp id=some (.row 1 rows)) (SE:rows=tr rs++[[.own NW cV 0 k]]) (hl:len=rs.length+1)
 (D6:find hp NW=some (.row cV wA)) (hR2:aL wA zs) (hk:k≤zs.length) (_:sl=cV):Rs P hp tm (.tmp t) (.one (.t (.ao 1 (rs++[[.ao cV (zs.take k)]])))):=by
 subst SE
 subst hl
 have hk':0+k≤wA.length:=by rw[hR2.len];omega
 have nn:de 5 hp (.own NW cV 0 k)=some (.ao cV (zs.take k)):=by
  simp only[de,D6,true_and,hk',if_true]
  rw[hR2,xH,ue]
  simp
 have arW: ∀ (xs:Lz),bB (bB (de 5 hp)) (tr xs++[[.own NW cV 0 k]])=some (xs++[[.ao cV (zs.take k)]]):=by
  intro xs
  induction xs with
  |nil=>simp only[tr,List.map_nil,List.nil_append,bB,nn]
  |cons e xs ih=>
   have hone:=ue (hp:=hp) (d:=5) [e]
   have he:bB (de 5 hp) (e.map .t)=some e:=by
    simp only[tr,List.map_cons,List.map_nil,bB]at hone
    split at hone
    · rename_i y l hy hl
      simp only[Option.some.injEq]at hl
      subst hl
      simp only[Option.some.injEq,List.cons.injEq,and_true]at hone
      subst hone
      exact hy
    · simp at hone
   have ih':=ih
   simp only[tr]at ih'⊢
   simp only[List.map_cons,List.cons_append,bB,he,ih']
 have hlen:0+(rs.length+1)≤(tr rs++[[C.own NW cV 0 k]]).length:=by simp[tr]
 have IS:((tr rs++[[C.own NW cV 0 k]]).drop 0).take (rs.length+1)=tr rs++[[C.own NW cV 0 k]]:=by
  rw[List.drop_zero]
  exact List.take_of_length_le (by simp[tr])
 refine⟨.one (.own id 1 0 (rs.length+1)), .one (.t (.ao 1 (rs++[[.ao cV (zs.take k)]]))),by simp only[bZ,h],?_,AU.refl _⟩
 have:de 6 hp (.own id 1 0 (rs.length+1))=some (.ao 1 (rs++[[.ao cV (zs.take k)]])):=by
  simp only[de,hf,true_and,hlen,if_true]
  rw[IS,arW]
  rfl
 simp only[bH,this,Option.map_some]
end Go.aU
end
section
namespace Go.aU.Cd
open Go Go.Proofs
set_option maxRecDepth 100000
set_option maxHeartbeats 1000000
def Z5:Rc:=Sq (Rg [Bx 3 1,Mk 4 0]) (Sq (Sq (Rg [Mv 10 0,Le 11 10,Bi 12 .neq 11 3,Mv 13 12,Ga 13 (Lo 2 14 3),Ga 13 (p 15 (.call 216 [t 14])),Pt 16 13 15,Mv 17 16,Ga 17 (Mv 18 0),Ga 17 (p 19 (.dB 2 (t 18) (k 0))),Ga 17 (Lo 2 20 19),Ga 17 (p 21 (.call 216 [t 20])),Pt 22 17 21,Mv 23 22,Ga 23 (Mv 24 0),Ga 23 (p 25 (.dB 2 (t 24) (k 1))),Ga 23 (Lo 2 26 25),Ga 23 (p 27 (.call 216 [t 26])),Pt 28 23 27,Mv 29 28,Ga 29 (Mv 30 0),Ga 29 (p 31 (.dB 2 (t 30) (k 2))),Ga 29 (Lo 2 32 31),Ga 29 (p 33 (.call 216 [t 32])),Pt 34 29 33]) (Cn 34 (Sq (Rg [p 4 (.hY (k (-1)))]) Rt) Sk)) (Sq (Dr [Mv 35 0,p 36 (.dB 2 (t 35) (k 0)),Lo 2 37 36,Mv 38 0,p 39 (.dB 2 (t 38) (k 1)),Lo 2 40 39,Mv 41 0,p 42 (.dB 2 (t 41) (k 2)),Lo 2 43 42,p 5 (.alloc [zi,zi]),p 6 (.alloc [zi,zi]),p 7 (.alloc [zi,zi]),So 2 5 37,So 2 6 40,So 2 7 43] [[],[0],[1],[],[3],[4],[],[6],[7],[],[],[],[9,2,0,1,2,9,10,11],[10,5,12,0,1,2,3,4,5,9,10,11,12],[11,8,13,0,1,2,3,4,5,6,7,8,9,10,11,12,13]]) (Sq (Rg [Lo 2 44 5,Lo 2 45 6,Lo 2 46 7,p 47 (.call 170 [t 44,t 45,t 46]),Mv 8 47]) (Sq (Sq (Rg [Mv 48 8,Bi 49 .eql 48 0]) (Cn 49 (Sq (Rg [p 4 (.hY (k (-1)))]) Rt) Sk)) (Sq (Sq (Rg [Mv 50 8,Bi 51 .lss 50 0]) (Cn 51 (Rg [Lo 2 52 7,Lo 2 53 6,So 2 6 52,So 2 7 53]) Sk)) (Sq (Dr [Lo 2 54 5,Lo 2 55 6,Lo 2 56 3,p 57 (.call 170 [t 54,t 55,t 56]),Lo 2 58 6,Lo 2 59 7,Lo 2 60 3,p 61 (.call 170 [t 58,t 59,t 60]),Lo 2 62 7,Lo 2 63 5,Lo 2 64 3,p 65 (.call 170 [t 62,t 63,t 64]),p 66 (.raw (.call ⟨.builtin .min,#[(.tmp 57),(.tmp 61),(.tmp 65)],#[3,3,3]⟩) 3),Mv 9 66] [[],[],[],[0,1,2],[],[],[],[4,5,6,3],[],[],[],[8,9,10,7],[3,7,11],[12,11,0,1,2,3,4,5,6,7,8,9,10,11,12]]) (Sq (Bk 0 (Sq (Rg [Mv 68 9,Bi 69 .gtr 68 0,Mv 67 69]) (Cn 67 (Sq (Rg [Mk 4 1]) Rt) (Sq (Rg [Mv 71 9,Bi 72 .eql 71 0,Mv 70 72]) (Cn 70 (Sq (Rg [Mk 4 0]) Rt) Sk))))) (Sq (Rg [p 4 (.hY (k (-1)))]) Rt))))))))
theorem X2:ae Tryz.prog (Tryz.f172.body.getD .skip)=some Z5:=by kernel_rfl
theorem afB:Tryz.f172.body=some (Tryz.f172.body.getD .skip):=rfl
def Z9:Rc:=Sq (Rg [p 3 (.alloc [zi,zi]),p 4 (.alloc [zi,zi]),p 5 (.alloc [zi,zi])]) (Sq (Rg [Ld 7 1,Le 8 7,Mv 6 8]) (Sq (Dr [Ld 9 1,Mv 10 0,Mv 11 6,Bt 12 .add 10 11,Bi 13 .sub 12 1,Mv 14 6,Bt 15 .rem 13 14,Ia 16 2 9 15,Lo 2 17 16,Ld 18 1,Mv 19 0,Ia 20 2 18 19,Lo 2 21 20,Ld 22 1,Mv 23 0,Bi 24 .add 23 1,Mv 25 6,Bt 26 .rem 24 25,Ia 27 2 22 26,Lo 2 28 27,So 2 3 17,So 2 4 21,So 2 5 28] [[],[],[],[1,2],[3],[],[4,5],[0,6],[7],[],[],[9,10],[11],[],[],[14],[],[15,16],[13,17],[18],[8,0,1,2,3,4,5,6,7,8],[12,20,0,1,2,3,4,5,6,7,8,9,10,11,12,20],[19,21,0,1,2,3,4,5,6,7,8,9,10,11,12,13,14,15,16,17,18,19,20,21]]) Rt))
theorem X6:ae Tryz.prog (Tryz.f168.body.getD .skip)=some Z9:=by kernel_rfl
theorem afF:Tryz.f168.body=some (Tryz.f168.body.getD .skip):=rfl
def Z8:Rc:=Sq (Rg [Mb 3 false]) (Sq (Rg [Ld 4 1,Mv 5 0,p 6 (.fp (t 4) [t 5]),Et 7 6 0,Et 8 6 1,Et 9 6 2,p 10 (.call 170 [t 7,t 8,t 9]),Bi 11 .eql 10 0,Mv 3 11]) Rt)
theorem X5:ae Tryz.prog (Tryz.f169.body.getD .skip)=some Z8:=by kernel_rfl
theorem afE:Tryz.f169.body=some (Tryz.f169.body.getD .skip):=rfl
def Z6:Rc:=Sq (Rg [Mb 4 false]) (Sq (Rg [Ld 11 1,Mv 12 0,p 13 (.fp (t 11) [t 12]),Mv 10 13,Et 14 10 0,Et 15 10 1,Et 16 10 2,p 5 (.alloc [zi,zi]),p 6 (.alloc [zi,zi]),p 7 (.alloc [zi,zi]),So 2 5 14,So 2 6 15,So 2 7 16]) (Sq (Sq (Rg [Lo 2 17 5,Lo 2 18 6,Lo 2 19 7,p 20 (.call 170 [t 17,t 18,t 19]),Bi 21 .leq 20 0]) (Cn 21 (Sq (Rg [Mb 4 false]) Rt) Sk)) (Sq (Sq (Rg [Ld 22 2,Le 23 22,Mk 24 0]) (Bk 0 (Lp (Sq (Rg [Bt 25 .lss 24 23]) (Sq (Cn 25 Sk (Ex 0)) (Sq (Bk 1 (Sq (Rg [Ia 26 2 22 24,Lo 2 27 26,p 9 (.alloc [zi,zi]),So 2 9 27]) (Sq (Rg [Lo 2 28 9,Lo 2 29 5,p 30 (.Ba true [0,0] (t 28) (t 29)),Mv 31 30,Gb 31 (Lo 2 32 9),Gb 31 (Lo 2 33 6),Gb 31 (p 34 (.Ba true [0,0] (t 32) (t 33))),Pf 35 31 34,Mv 36 35,Gb 36 (Lo 2 37 9),Gb 36 (Lo 2 38 7),Gb 36 (p 39 (.Ba true [0,0] (t 37) (t 38))),Pf 40 36 39,Mv 41 40,Gb 41 (Lo 2 42 5),Gb 41 (Lo 2 43 6),Gb 41 (Lo 2 44 7),Gb 41 (p 45 (.raw (.buildSlice 97 3 #[(0,(.tmp 42)),(1,(.tmp 43)),(2,(.tmp 44))]) 97)),Gb 41 (Lo 2 46 9),Gb 41 (p 47 (.call 172 [t 45,t 46])),Gb 41 (Bi 48 .geq 47 0),Pf 49 41 48]) (Cn 49 (Sq (Rg [Mb 4 false]) Rt) Sk)))) (Rg [Bi 50 .add 24 1,Mv 24 50]))))))) (Sq (Rg [Mb 4 true]) Rt))))
theorem X3:ae Tryz.prog (Tryz.f171.body.getD .skip)=some Z6:=by kernel_rfl
theorem afC:Tryz.f171.body=some (Tryz.f171.body.getD .skip):=rfl
def Z4:Rc:=Sq (Rg [Mk 4 0]) (Sq (Sq (Rg [Mv 6 0,Mk 7 0]) (Bk 0 (Lp (Sq (Rg [Bt 8 .lss 7 6]) (Sq (Cn 8 Sk (Ex 0)) (Sq (Bk 1 (Sq (Rg [Mv 9 7,Mv 5 9]) (Sq (Rg [Mv 10 1,Mv 11 5,p 12 (.fp (t 10) [t 11])]) (Cn 12 (Sq (Rg [Mv 13 5,Mv 4 13]) Rt) Sk)))) (Rg [Bi 14 .add 7 1,Mv 7 14]))))))) (Sq (Rg [p 4 (.hY (k (-1)))]) Rt))
theorem MG:ae Tryz.prog (Tryz.f173.body.getD .skip)=some Z4:=by kernel_rfl
theorem MT:Tryz.f173.body=some (Tryz.f173.body.getD .skip):=rfl
theorem sV (xs:Lz) (q:Sp) (hx:cq xs):Tg 172 [oL 2 xs,gD q] GI:=by
 refine ah (n:=73) (rs:=[.tmp 4]) Tryz.func172 afB X2 rfl rfl (by simp) ?_
 repeat' (conv=>whnf
          first
  |(refine az (fun h=>?_) (fun h=>?_))
  |(refine cv (fun h=>?_) (fun h=>?_))
  |(refine aB (fun h=>?_) (fun h=>?_))
  |(refine ap hx (by first|omega|exact cj (by first|omega|(simp (disch:=omega) only[aa];omega))|(simp (disch:=omega) only[aa];omega)) (by first|omega|exact bW (by omega)|(simp (disch:=omega) only[aa];omega)) ?_;rintro _ ⟨a,b,rfl⟩ hs)
  |(refine And.intro (by kernel_rfl) ?_)
  |(refine ai rfl (pZ (_,_)) ?_;rintro _ ⟨b,rfl⟩)
  |(refine ai rfl (fT (_,_) (_,_) (_,_)) ?_;rintro _ ⟨n,rfl⟩)
  |(refine au rfl (fT (_,_) (_,_) (_,_)) ?_;rintro _ ⟨n,rfl⟩)
  |(refine HM rfl rfl rfl ?_;intro mn)
  |exact gI rfl rfl)
 all_goals (conv=>whnf)
abbrev Ts (k:Nat) (zs:Lz):HS:=[(0, .row 1 [[.own 1 2 0 k]]),(1, .row 2 (tr zs))]
abbrev Gk (k:Nat) (zs:Lz):HS:=[(0, .row 1 [[.own 1 2 0 k]]),(1, .row 2 (tr zs)),(2, .row 1 [[.jc 168 [(0,1,0,0)]]])]
theorem Fi {hin:HS} (xs:Lz) (sz:Nat):Hl hin (.row sz (tr xs)):=by
 intro e he c hc
 simp only[tr,List.mem_map]at he
 obtain⟨e',_,rfl⟩:=he
 simp only[List.mem_map]at hc
 obtain⟨c',_,rfl⟩:=hc
 rfl
theorem It {hp:HS} {k:Nat} {zs:Lz} {rows:List (List C)} (h0:find hp 0=some (.row 1 [[.own 1 2 0 k]])) (h1:find hp 1=some (.row 2 rows)) (hR:aL rows zs):jP (Ts k zs) hp (Ts k zs):=by
 have BP:rows=tr zs:=hR
 subst BP
 refine⟨fun q b hq=>?_,fun q blk hq=>?_⟩
 · simp only[find]at hq
   split at hq
   · rename_i e;subst e;exact⟨by omega,_,h0⟩
   · split at hq
     · rename_i e;subst e;exact⟨by omega,_,h1⟩
     · simp at hq
 · simp only[find]at hq
   split at hq
   · rename_i e
     subst e
     simp only[Option.some.injEq]at hq
     subst hq
     refine⟨h0,rfl,fun e he c hc=>?_⟩
     simp only[List.mem_singleton]at he
     subst he
     simp only[List.mem_singleton]at hc
     subst hc
     rfl
   · split at hq
     · rename_i e
       subst e
       simp only[Option.some.injEq]at hq
       subst hq
       exact⟨h1,rfl,Fi _ _⟩
     · simp at hq
theorem oX {hp:HS} {k:Nat} {zs:Lz} {rows:List (List C)} (h0:find hp 0=some (.row 1 [[.own 1 2 0 k]])) (h1:find hp 1=some (.row 2 rows)) (h2:find hp 2=some (.row 1 [[.jc 168 [(0,1,0,0)]]])) (hR:aL rows zs):jP (Gk k zs) hp (Gk k zs):=by
 have BP:rows=tr zs:=hR
 subst BP
 refine⟨fun q b hq=>?_,fun q blk hq=>?_⟩
 · simp only[find]at hq
   split at hq
   · rename_i e;subst e;exact⟨by omega,_,h0⟩
   · split at hq
     · rename_i e;subst e;exact⟨by omega,_,h1⟩
     · split at hq
       · rename_i e;subst e;exact⟨by omega,_,h2⟩
       · simp at hq
 · simp only[find]at hq
   split at hq
   · rename_i e
     subst e
     simp only[Option.some.injEq]at hq
     subst hq
     refine⟨h0,rfl,fun e he c hc=>?_⟩
     simp only[List.mem_singleton]at he
     subst he
     simp only[List.mem_singleton]at hc
     subst hc
     rfl
   · split at hq
     · rename_i e
       subst e
       simp only[Option.some.injEq]at hq
       subst hq
       exact⟨h1,rfl,Fi _ _⟩
     · split at hq
       · rename_i e
         subst e
         simp only[Option.some.injEq]at hq
         subst hq
         refine⟨h2,rfl,fun e he c hc=>?_⟩
         simp only[List.mem_singleton]at he
         subst he
         simp only[List.mem_singleton]at hc
         subst hc
         rfl
       · simp at hq
theorem Ot {hp:HS} {a l k:Nat} {rows:List (List C)} {zs:Lz} (h0:find hp a=some (.row 1 [[.own l 2 0 k]])) (h1:find hp l=some (.row 2 rows)) (hR:aL rows zs) (hl:bu [a,l] l=some 1):cu (bu [a,l]) hp 0 [a,l]=Ts k zs:=by
 have BP:rows=tr zs:=hR
 subst BP
 simp only[cu,h0,h1,bt.aF,List.map_cons,List.map_nil,C.aF,hl,iq]
theorem bk1 {hp:HS} {a l k ctr:Nat} {rows:List (List C)} {zs:Lz} (h0:find hp a=some (.row 1 [[.own l 2 0 k]])) (h1:find hp l=some (.row 2 rows)) (hR:aL rows zs) (hl:bu [a,l] l=some 1) (hf:fD [a,l] ctr 1=some l): ∀id,id∈ [a,l]→ ∃b,find hp id=some b∧(b.aF (bu [a,l])).aF (fD [a,l] ctr)=b:=by
 have BP:rows=tr zs:=hR
 subst BP
 refine NU ⟨_,h0,?_⟩ ⟨_,h1,?_⟩
 · simp only[bt.aF,List.map_cons,List.map_nil,C.aF,hl,hf]
 · simp only[bt.aF,iq]
theorem EF {hp:HS} {a l b k:Nat} {rows:List (List C)} {zs:Lz} (h0:find hp a=some (.row 1 [[.own l 2 0 k]])) (h1:find hp l=some (.row 2 rows)) (h2:find hp b=some (.row 1 [[.jc 168 [(a,1,0,0)]]])) (hR:aL rows zs) (hl:bu [a,l,b] l=some 1) (ha:bu [a,l,b] a=some 0):cu (bu [a,l,b]) hp 0 [a,l,b]=Gk k zs:=by
 have BP:rows=tr zs:=hR
 subst BP
 simp only[cu,h0,h1,h2,bt.aF,List.map_cons,List.map_nil,C.aF,hl,ha,iq,List.all_cons,List.all_nil,Option.isSome_some,Bool.and_self,if_true,Option.getD_some]
theorem bk2 {hp:HS} {a l b k ctr:Nat} {rows:List (List C)} {zs:Lz} (h0:find hp a=some (.row 1 [[.own l 2 0 k]])) (h1:find hp l=some (.row 2 rows)) (h2:find hp b=some (.row 1 [[.jc 168 [(a,1,0,0)]]])) (hR:aL rows zs) (hl:bu [a,l,b] l=some 1) (ha:bu [a,l,b] a=some 0) (hf:fD [a,l,b] ctr 1=some l) (hg:fD [a,l,b] ctr 0=some a): ∀id,id∈ [a,l,b]→ ∃bl,find hp id=some bl∧(bl.aF (bu [a,l,b])).aF (fD [a,l,b] ctr)=bl:=by
 have BP:rows=tr zs:=hR
 subst BP
 intro id bG
 simp only[List.mem_cons,List.not_mem_nil,or_false]at bG
 rcases bG with rfl|rfl|rfl
 · exact⟨_,h0,by simp only[bt.aF,List.map_cons,List.map_nil,C.aF,hl,hf]⟩
 · exact⟨_,h1,by simp only[bt.aF,iq]⟩
 · exact⟨_,h2,by simp only[bt.aF,List.map_cons,List.map_nil,C.aF,ha,hg,List.all_cons,List.all_nil,Option.isSome_some,Bool.and_self,if_true,Option.getD_some]⟩
theorem OW:enters Tryz.prog 168=true:=by kernel_rfl
theorem auG:enters Tryz.prog 169=true:=by kernel_rfl
theorem auF:enters Tryz.prog 171=true:=by kernel_rfl
def ayS (ts:List W):Prop:= ∃a b c d e f:Int,ts=[gD (a,b),gD (c,d),gD (e,f)]
theorem Nq (k:Nat) (zs:Lz) (hz:cq zs) (hk:k≤zs.length) (F7:zs.length≤1000000) (i:Int) (IN:0≤i) (hi:i < (k:Int)): ∃ts hout,Fn Tryz.prog 168 [oI i, .one (.ptr 0 1 0 0)] (Ts k zs) (aO ts) hout∧(fun ts hout=>hout=Ts k zs∧ayS ts) ts hout:=by
 refine fl (n:=29) (rs:=[.cell 3 64, .cell 4 64, .cell 5 64]) Tryz.func168 afF X6 rfl rfl (by simp) ?_
 repeat' (conv=>whnf
          first
  |(refine And.intro ⟨by omega,by omega⟩ ?_)
  |(refine And.intro ⟨cj (by rw[bO (n:=i+(k:Int)) (by omega) (by omega),bO (by omega) (by omega)];omega),bW (by omega)⟩ ?_)
  |(refine And.intro ⟨cj (by rw[bO (by omega) (by omega)];omega),bW (by omega)⟩ ?_)
  |(refine And.intro (show((k:Nat):Int)≠0 by omega) ?_)
  |(refine And.intro (by kernel_rfl) ?_)
  |(refine cg (xs:=zs) rfl hz (by first|omega|(have h1:=bW (a:=IntKind.i64.wrap (IntKind.i64.wrap (i+(k:Int)) - 1)) (b:=(k:Int)) (by omega);have h2:=bW (a:=IntKind.i64.wrap (i+1)) (b:=(k:Int)) (by omega);omega)) ?_;rintro _ ⟨x,y,rfl⟩ hs)
  |exact⟨_,_,_,rfl,rfl,It rfl rfl rfl,rfl,_,_,_,_,_,_,rfl⟩)
 all_goals (conv=>whnf)
theorem anK (k:Nat) (zs:Lz) (hz:cq zs) (hk:k≤zs.length) (F7:zs.length≤1000000) (i:Int) (IN:0≤i) (hi:i < (k:Int)): ∃ts hout,Fn Tryz.prog 169 [oI i, .one (.ptr 2 1 0 0)] (Gk k zs) (aO ts) hout∧(fun ts hout=>hout=Gk k zs∧GB ts) ts hout:=by
 refine fl (n:=12) (rs:=[.tmp 3]) Tryz.func169 afE X5 rfl rfl (by simp) ?_
 repeat' (conv=>whnf
          first
  |(refine And.intro OW ?_)
  |(refine nG [0,1] rfl (bk1 rfl rfl rfl rfl rfl) rfl (Ot rfl rfl rfl rfl) (Nq k zs hz hk F7 i IN hi) ?_;rintro _ ⟨a,b,c,d,e,f,rfl⟩)
  |(refine ai rfl (fT (_,_) (_,_) (_,_)) ?_;rintro _ ⟨n,rfl⟩)
  |exact⟨_,_,_,rfl,rfl,oX rfl rfl rfl rfl,rfl,_,rfl⟩)
 all_goals (conv=>whnf)
theorem HX (a b c d e f:Int):cq ([[tI a,tI b],[tI c,tI d],[tI e,tI f]]:Lz):=by
 intro q hq
 simp at hq
 rcases hq with hq|hq|hq
 · exact⟨a,b,hq⟩
 · exact⟨c,d,hq⟩
 · exact⟨e,f,hq⟩
theorem EU {n ctr ty t1 t2 t3:Nat} {a b c d e f:Int} {tm:TS} {hp:HS} {K:V→HS→Prop} (h1:find tm t1=some (.w (.agg [.t (tI a), .t (tI b)]))) (h2:find tm t2=some (.w (.agg [.t (tI c), .t (tI d)]))) (h3:find tm t3=some (.w (.agg [.t (tI e), .t (tI f)])))
 (hk:K (.w (.one (.t (.ao 2 [[tI a,tI b],[tI c,tI d],[tI e,tI f]])))) hp): ∃v hp',gQ Tryz.prog n (.buildSlice 97 3 #[(0, .tmp t1),(1, .tmp t2),(2, .tmp t3)]) ty tm hp ctr v hp'∧K v hp':=by
 refine⟨_,_,H9 (sz:=2) (l:=[(0, .agg [.t (tI a), .t (tI b)]),(1, .agg [.t (tI c), .t (tI d)]),(2, .agg [.t (tI e), .t (tI f)])]) (xs:=[[tI a,tI b],[tI c,tI d],[tI e,tI f]]) ?_ ?_ rfl,hk⟩
 · simp only[fC,St.get,h1,h2,h3,Option.getD_some]
 · kernel_rfl
def RS3 (k:Nat) (zs:Lz) (a b c d e f:Int) (m:Nat) (vs:List V) (hq:HS):Prop:= ∃ (i:Nat) (rows:List (List C)),i≤k∧m=k - i∧vs=[iV .i64 (i:Int)]∧aL rows zs∧
 hq=[(0, .row 1 [[.own 1 2 0 k]]),(1, .row 2 rows),(2, .row 1 [[.jc 168 [(0,1,0,0)]]]),(4, .row 2 [[.t (tI a), .t (tI b)]]),(8, .row 2 [[.t (tI c), .t (tI d)]]),(12, .row 2 [[.t (tI e), .t (tI f)]])]
theorem anJ (k:Nat) (zs:Lz) (hz:cq zs) (hk:k≤zs.length) (F7:zs.length≤1000000) (i:Int) (IN:0≤i) (hi:i < (k:Int)): ∃ts hout,Fn Tryz.prog 171 [oI i, .one (.ptr 2 1 0 0), .one (.ptr 0 1 0 0)] (Gk k zs) (aO ts) hout∧(fun ts hout=>hout=Gk k zs∧GB ts) ts hout:=by
 refine fl (n:=51) (rs:=[.tmp 4]) Tryz.func171 afC X3 rfl rfl (by simp) ?_
 repeat' (conv=>whnf
          first
  |(refine az (fun h=>?_) (fun h=>?_))
  |(refine aB (fun h=>?_) (fun h=>?_))
  |(refine And.intro OW ?_)
  |(refine And.intro ⟨by omega,by omega⟩ ?_)
  |(refine nG [0,1] rfl (bk1 rfl rfl rfl rfl rfl) rfl (Ot rfl rfl rfl rfl) (Nq k zs hz hk F7 i IN hi) ?_;rintro _ ⟨a,b,c,d,e,f,rfl⟩)
  |(refine cg (xs:=zs) hR hz (by omega) ?_;rintro _ ⟨x,y,rfl⟩ hs)
  |(refine EU rfl rfl rfl ?_)
  |(refine ai rfl (fT (_,_) (_,_) (_,_)) ?_;rintro _ ⟨n,rfl⟩)
  |(refine ai rfl (sV _ (_,_) (HX _ _ _ _ _ _)) ?_;rintro _ ⟨n,rfl⟩)
  |exact⟨_,_,_,rfl,rfl,oX rfl rfl rfl rfl,rfl,_,rfl⟩
  |exact⟨_,_,_,rfl,rfl,oX rfl rfl rfl hR,rfl,_,rfl⟩
  |(apply gS [5,6,7,22,23,24] [] [24] (RS3 k zs a b c d e f) (k) [iV .i64 0];(conv=>whnf);exact⟨rfl,rfl,rfl,rfl⟩;exact rfl;exact rfl;exact⟨0,_,by omega,rfl,rfl,aL.aF (xs:=zs) rfl _,rfl⟩;rintro _ _ _ ⟨j,rows,hj,rfl,rfl,hR,rfl⟩)
  |(refine aq [5,6,7,22,23,24] [] ?_;(conv=>whnf);exact⟨rfl,_,[_],⟨j+1,_,by omega,rfl,by rw[bO (by omega) (by omega)];rfl,hR.aF _,rfl⟩,rfl,rfl,by omega⟩))
 all_goals (conv=>whnf)
def GIr (k:Nat) (ts:List W):Prop:= ∃r:Int,ts=[oI r]∧ -1≤r∧r < (k:Int)
def RF (k:Nat) (zs:Lz) (m:Nat) (vs:List V) (hq:HS):Prop:= ∃ (i:Nat) (rows:List (List C)),i≤k∧m=k - i∧vs=[iV .i64 (i:Int)]∧aL rows zs∧
 hq=[(0, .row 1 [[.own 1 2 0 k]]),(1, .row 2 rows),(2, .row 1 [[.jc 168 [(0,1,0,0)]]])]
theorem OR (k:Nat) (zs:Lz) (hz:cq zs) (hk:k≤zs.length) (F7:zs.length≤1000000): ∃ts hout,Fn Tryz.prog 173 [oI k, .one (.jc 169 [(2,1,0,0)])] (Gk k zs) (aO ts) hout∧(fun ts hout=>hout=Gk k zs∧GIr k ts) ts hout:=by
 refine fl (n:=15) (rs:=[.tmp 4]) Tryz.func173 MT MG rfl rfl (by simp) ?_
 repeat' (conv=>whnf
          first
  |(refine az (fun h=>?_) (fun h=>?_))
  |(refine aB (fun h=>?_) (fun h=>?_))
  |(refine And.intro auG ?_)
  |(refine nG [0,1,2] rfl (bk2 rfl rfl rfl hR rfl rfl rfl rfl) rfl (EF rfl rfl rfl hR rfl rfl) (anK k zs hz hk F7 (j:Int) (by omega) (by omega)) ?_;rintro _ ⟨b,rfl⟩)
  |exact⟨_,_,_,rfl,rfl,oX rfl rfl rfl hR,rfl,_,rfl,by omega,by omega⟩
  |(apply gS [1,6,7] [] [7] (RF k zs) (k) [iV .i64 0];(conv=>whnf);exact⟨rfl,rfl,rfl,rfl⟩;exact rfl;exact rfl;exact⟨0,_,by omega,rfl,rfl,aL.aF (xs:=zs) rfl _,rfl⟩;rintro _ _ _ ⟨j,rows,hj,rfl,rfl,hR,rfl⟩)
  |(refine aq [1,6,7] [] ?_;(conv=>whnf);exact⟨rfl,_,[_],⟨j+1,_,by omega,rfl,by rw[bO (by omega) (by omega)];rfl,hR.aF _,rfl⟩,rfl,rfl,by omega⟩))
 all_goals (conv=>whnf)
theorem OQ (k:Nat) (zs:Lz) (hz:cq zs) (hk:k≤zs.length) (F7:zs.length≤1000000): ∃ts hout,Fn Tryz.prog 173 [oI k, .one (.jc 171 [(2,1,0,0),(0,1,0,0)])] (Gk k zs) (aO ts) hout∧(fun ts hout=>hout=Gk k zs∧GIr k ts) ts hout:=by
 refine fl (n:=15) (rs:=[.tmp 4]) Tryz.func173 MT MG rfl rfl (by simp) ?_
 repeat' (conv=>whnf
          first
  |(refine az (fun h=>?_) (fun h=>?_))
  |(refine aB (fun h=>?_) (fun h=>?_))
  |(refine And.intro auF ?_)
  |(refine nG [0,1,2] rfl (bk2 rfl rfl rfl hR rfl rfl rfl rfl) rfl (EF rfl rfl rfl hR rfl rfl) (anJ k zs hz hk F7 (j:Int) (by omega) (by omega)) ?_;rintro _ ⟨b,rfl⟩)
  |exact⟨_,_,_,rfl,rfl,oX rfl rfl rfl hR,rfl,_,rfl,by omega,by omega⟩
  |(apply gS [1,6,7] [] [7] (RF k zs) (k) [iV .i64 0];(conv=>whnf);exact⟨rfl,rfl,rfl,rfl⟩;exact rfl;exact rfl;exact⟨0,_,by omega,rfl,rfl,aL.aF (xs:=zs) rfl _,rfl⟩;rintro _ _ _ ⟨j,rows,hj,rfl,rfl,hR,rfl⟩)
  |(refine aq [1,6,7] [] ?_;(conv=>whnf);exact⟨rfl,_,[_],⟨j+1,_,by omega,rfl,by rw[bO (by omega) (by omega)];rfl,hR.aF _,rfl⟩,rfl,rfl,by omega⟩))
 all_goals (conv=>whnf)
end Go.aU.Cd
end
section
namespace Go.aU.Cd
open Go Go.Proofs
set_option maxRecDepth 100000
set_option maxHeartbeats 1000000
def aaS:Rc:=Sq (Rg [Mn 2,Mk 3 0]) (Sq (Rg [Mv 16 0,p 17 (.call 167 [t 16]),Mv 15 17,Et 18 15 0,Et 19 15 1,Mv 4 18,Mv 5 19]) (Sq (Sq (Rg [Mv 20 5,Bi 21 .neq 20 0]) (Cn 21 (Sq (Rg [Mv 22 5,Mn 2,Mv 3 22]) Rt) Sk)) (Sq (Rg [Mv 23 4,Le 24 23,p 25 (.make [zi,zi] 16 (t 24) (t 24)),p 6 (.alloc [zn]),So 1 6 25]) (Sq (Rg [Ld 26 6,Mv 27 4,p 28 (.raw (.call ⟨.builtin .copy,#[(.tmp 26),(.tmp 27)],#[97,97]⟩) 3)]) (Sq (Rg [p 29 (.jc 168 [t 6]),p 7 (.alloc [.t (.val (.nilFunc))]),So 1 7 29]) (Sq (Rg [p 30 (.jc 169 [t 7]),Mv 8 30]) (Sq (Rg [p 31 (.jc 171 [t 7,t 6]),Mv 9 31]) (Sq (Rg [Mn 10]) (Sq (Bk 0 (Lp (Sq (Sq (Rg [Ld 32 6,Le 33 32,Bi 34 .gtr 33 3]) (Cn 34 Sk (Ex 0))) (Bk 1 (Sq (Rg [Ld 35 6,Le 36 35,Mv 37 8,p 38 (.call 173 [t 36,t 37]),Mv 11 38]) (Sq (Sq (Rg [Mv 39 11,Bi 40 .lss 39 0]) (Cn 40 (Sq (Rg [Ld 41 6,Le 42 41,Mv 43 9,p 44 (.call 173 [t 42,t 43]),Mv 11 44]) (Sq (Sq (Rg [Mv 45 11,Bi 46 .lss 45 0]) (Cn 46 (Sq (Rg [Mn 2,Mk 3 11]) Rt) Sk)) (Sq (Rg [Ld 48 7,Mv 49 11,p 50 (.fp (t 48) [t 49]),Mv 47 50,Et 51 47 0,Et 52 47 1,Et 53 47 2,p 12 (.alloc [zi,zi]),p 13 (.alloc [zi,zi]),p 14 (.alloc [zi,zi]),So 2 12 51,So 2 13 52,So 2 14 53]) (Rg [Mv 54 10,Lo 2 55 12,Lo 2 56 13,Lo 2 57 14,p 58 (.raw (.buildSlice 97 3 #[(0,(.tmp 55)),(1,(.tmp 56)),(2,(.tmp 57))]) 97),p 59 (.aT [zn] 1 [(0,t 58)]),p 60 (.append 1 24 (t 54) (t 59)),Mv 10 60])))) Sk)) (Sq (Dr [Ld 61 6,Mv 62 11,p 63 (.slice 2 (t 61) (some (t 62)) none),Ld 64 6,Mv 65 11,Bi 66 .add 65 1,p 67 (.slice 2 (t 64) (some (t 66)) none),p 68 (.raw (.call ⟨.builtin .copy,#[(.tmp 63),(.tmp 67)],#[97,97]⟩) 3)] [[],[],[0,1],[],[],[4],[3,5],[2,6]]) (Rg [Ld 69 6,Ld 70 6,Le 71 70,Bi 72 .sub 71 1,p 73 (.slice 2 (t 69) none (some (t 72))),So 1 6 73])))))))) (Sq (Rg [Mv 74 10,Ld 75 6,p 76 (.aT [zn] 1 [(0,t 75)]),p 77 (.append 1 24 (t 74) (t 76)),Mv 2 77,Mk 3 0]) Rt))))))))))
theorem Yq:ae Tryz.prog (Tryz.f119.body.getD .skip)=some aaS:=by kernel_rfl
theorem afZ:Tryz.f119.body=some (Tryz.f119.body.getD .skip):=rfl
def agU (e:List T):Prop:= ∃JZ,e=[.ao 2 JZ]∧cq JZ∧JZ.length≤1000000
abbrev Eo (rs:Lz):Prop:= ∀e,e∈rs→agU e
theorem Eo.snoc {rs:Lz} (h:Eo rs) {JZ:Lz} (ht:cq JZ) (hl:JZ.length≤1000000):Eo (rs++[[.ao 2 JZ]]):=by
 intro e he
 simp only[List.mem_append,List.mem_singleton]at he
 rcases he with he|rfl
 · exact h e he
 · exact⟨JZ,rfl,ht,hl⟩
theorem HO {id sz i len l h:Nat} {K:C→Prop} (h1:l≤h) (h2:h≤len) (hk:h≠l→K (.own id sz (i+l) (h - l))) (F8:h=l→l≠0→K (.t (.ao sz []))) (h0:h=l→l=0→False):(l≤h∧h≤len)∧uH (.own id sz i len) l h K:=by
 refine⟨⟨h1,h2⟩,?_⟩
 by_cases e:h=l
 · by_cases e0:l=0
   · exact(h0 e e0).elim
   · simp only[uH,yQ,if_pos (⟨e,e0⟩:h=l∧l≠0)]
     exact F8 e e0
 · have e':¬ (h=l∧l≠0):=fun q=>e q.1
   simp only[uH,yQ,if_neg e',if_pos (⟨h1,h2⟩:l≤h∧h≤len)]
   exact hk e
theorem zSz:cD Tryz.prog 64=some 2:=zSp
theorem cq.aQ {xs ys:Lz} (h:cq xs) (g:cq ys) (i:Nat):cq (aQ xs i ys):=by
 intro e he
 rcases Bj he with he|he
 · exact h e he
 · exact g e he
def Js (m:Nat) (vs:List V) (hq:HS):Prop:= ∃ (k:Nat) (zs rs:Lz) (rl rr:List (List C)),m=k∧(k≤zs.length∧zs.length≤40)∧cq zs∧rs.length+k≤40∧Eo rs∧aL rr rs∧aL rl zs∧vs=[bK 12 1 rs.length]∧
 hq=[(4, .row 1 [[.own 16 2 0 k]]),(8, .row 1 [[.jc 168 [(4,1,0,0)]]]),(12, .row 1 rr),(16, .row 2 rl)]
theorem Js.next {k q:Nat} {zs rs:Lz} {rl rr:List (List C)} (h4:(k:Int) > 3) (hk:k≤zs.length∧zs.length≤40) (hz:cq zs) (hn:rs.length+(k - 1)≤40) (ht:Eo rs) (h1:aL rr rs) (h2:aL rl zs) (hq:q=rs.length):
 Js (k - 1) [bK 12 1 q] [(4, .row 1 [[.own 16 2 0 ((IntKind.i64.wrap ((k:Int) - 1)).toNat - 0)]]),(8, .row 1 [[.jc 168 [(4,1,0,0)]]]),(12, .row 1 rr),(16, .row 2 rl)]:=by
 have e:(IntKind.i64.wrap ((k:Int) - 1)).toNat - 0=k - 1:=by rw[bO (by omega) (by omega)];omega
 rw[e,hq]
 exact⟨k - 1,zs,rs,rl,rr,rfl,by omega,hz,hn,ht,h1,h2,rfl,rfl⟩
theorem Mx {form:Lz} (h:form.length≤40):(aQ (List.replicate ((form.length:Nat):Int).toNat [tI 0,tI 0]) 0 (form.take ((form.length:Nat):Int).toNat)).length=form.length:=by
 have e:((form.length:Nat):Int).toNat=form.length:=by omega
 rw[e,sZ (by simp)]
 simp
theorem Cw {zs ys:Lz} {i k n:Nat} (hk:k≤zs.length∧zs.length≤40) (hi:i+n≤k):k≤(aQ zs i (ys.take n)).length∧(aQ zs i (ys.take n)).length≤40:=by
 rw[sZ]
 · exact hk
 · simp only[List.length_take]
   omega
theorem lB (xs:Lz) (hx:cq xs) (hl:xs.length≤1000000):Tg 119 [oL 2 xs] (JM 1 (fun rs=>Eo rs∧rs.length≤41)):=by
 refine aG ?_
 refine ah (n:=78) (rs:=[.tmp 2, .tmp 3]) Tryz.func119 afZ Yq rfl rfl (by simp) ?_
 repeat' (conv=>whnf
          first
  |(refine az (fun h=>?_) (fun h=>?_))
  |(refine cv (fun h=>?_) (fun h=>?_))
  |(refine And.intro ⟨by omega,by omega,by have:=(hF (by omega)).2;omega,by have:=(hF (by omega)).2;omega⟩ ?_)
  |(refine And.intro OW ?_)
  |(refine And.intro ⟨h1.len.symm,by rw[h1.len];simp[bR];omega,by rw[h1.len];simp[maxLen];omega⟩ ?_)
  |(refine And.intro (show(0:Int)≤IntKind.i64.wrap (r+1) by rw[bO (by omega) (by omega)];omega) ?_)
  |(refine And.intro (show(0:Int)≤IntKind.i64.wrap ((k:Int) - 1) by rw[bO (by omega) (by omega)];omega) ?_)
  |(refine And.intro (show(0:Int)≤r by omega) ?_)
  |(refine nH (l:=r.toNat) (by omega) (Nat.le_refl _) (.inl (by omega)) ?_)
  |(refine nH (l:=0) (Nat.zero_le _) (by rw[bO (by omega) (by omega)];omega) (.inr rfl) ?_)
  |(refine HO (by rw[bO (by omega) (by omega)];omega) (Nat.le_refl _) (fun hne=>?_) (fun heq Oj=>?_) (fun heq Oj=>by omega))
  |(refine And.intro (by kernel_rfl) ?_)
  |(refine ai rfl (tw xs hx hl) ?_;rintro _ ⟨form,e,rfl,hF⟩)
  |(refine ET (ys:=form) rfl rfl rfl rfl uSl zSz rfl (aL.replicate _ [tI 0,tI 0]) (by simp) ?_)
  |(refine nG [4,16,8] rfl (bk2 rfl rfl rfl h2 rfl rfl rfl rfl) rfl (EF rfl rfl rfl h2 rfl rfl) (OR k zs hz hk.1 (by omega)) ?_;rintro _ ⟨r,rfl,tR,qT⟩)
  |(refine nG [4,16,8] rfl (bk2 rfl rfl rfl h2 rfl rfl rfl rfl) rfl (EF rfl rfl rfl h2 rfl rfl) (OQ k zs hz hk.1 (by omega)) ?_;rintro _ ⟨r,rfl,tR,qT⟩)
  |(refine nG [4,16] rfl (bk1 rfl rfl h2 rfl rfl) rfl (Ot rfl rfl h2 rfl) (Nq k zs hz hk.1 (by omega) r (by omega) (by omega)) ?_;rintro _ ⟨a,b,c,d,e,f,rfl⟩)
  |(refine EU rfl rfl rfl ?_)
  |(refine Cj rfl rfl rfl (Ei rfl h2 (by rw[bO (by omega) (by omega)];omega)) uSl zSz rfl h2 (by omega) (fun n=>?_) (fun n=>?_))
  |(refine Cj (ys:=[]) rfl rfl rfl rfl uSl zSz rfl h2 (by omega) (fun n=>?_) (fun n=>?_))
  |exact iy rfl (dR 1 rfl) (dw rfl) ⟨_,_,rfl,fun h0=>absurd h0 (by omega)⟩
  |exact iy rfl (ND rfl rfl (rs:=rs) (zs:=zs) (by rw[show rr=tr rs from h1];rfl) (by rw[h1.len];rfl) rfl h2 hk.1 rfl) (dw rfl) ⟨_,_,rfl,fun _=>⟨ht.snoc (hz.take _) (by simp;omega),by simp;omega⟩⟩
  |(apply zl [6,7,8,9,10] [(6,0)] [10] (Js) (form.length) [bK 12 1 0] (iA.jh 10 1 rfl);(conv=>whnf);exact⟨rfl,rfl,rfl,rfl⟩;exact rfl;exact rfl;exact⟨((form.length:Nat):Int).toNat,_,[],_,_,by omega,⟨by rw[Mx (hF (by omega)).2];omega,by rw[Mx (hF (by omega)).2];exact(hF (by omega)).2⟩,(cq.Fl _).aQ ((hF (by omega)).1.take _) _,by have:=(hF (by omega)).2;simp;omega,fun e he=>by simp at he,aL.aF aL.nil _,aL.aF (xs:=aQ (List.replicate _ [tI 0,tI 0]) 0 _) rfl _,rfl,rfl⟩;rintro _ _ _ ⟨k,zs,rs,rl,rr,hmk,hk,hz,hn,ht,h1,h2,rfl,rfl⟩)
  |(refine aq [6,7,8,9,10] [(6,0)] ?_;(conv=>whnf);first|exact⟨rfl,_,[_],Js.next (by omega) hk hz (by omega) ht (h1.aF _) (h2.aF _) rfl,rfl,rfl,by omega⟩|exact⟨rfl,_,[_],Js.next (by omega) hk hz (by simp;omega) (ht.snoc (HX _ _ _ _ _ _) (by simp)) ((aL.snoc h1 [.ao 2 [[tI _,tI _],[tI _,tI _],[tI _,tI _]]]).aF _) (h2.aF _) (by have:=h1.len;simp;omega),rfl,rfl,by omega⟩|exact⟨rfl,_,[_],Js.next (by omega) (Cw hk (by omega)) (hz.aQ (cq.take (cI hz _ _) _) _) (by omega) ht (h1.aF _) (aL.aF (xs:=aQ zs _ _) rfl _) rfl,rfl,rfl,by omega⟩|exact⟨rfl,_,[_],Js.next (by omega) (Cw hk (by omega)) (hz.aQ (cq.take (cI hz _ _) _) _) (by simp;omega) (ht.snoc (HX _ _ _ _ _ _) (by simp)) ((aL.snoc h1 [.ao 2 [[tI _,tI _],[tI _,tI _],[tI _,tI _]]]).aF _) (aL.aF (xs:=aQ zs _ _) rfl _) (by have:=h1.len;simp;omega),rfl,rfl,by omega⟩|exact⟨rfl,_,[_],Js.next (by omega) (Cw hk (by omega)) (hz.aQ (fun e he=>by simp at he) _) (by omega) ht (h1.aF _) (aL.aF (xs:=aQ zs _ _) rfl _) rfl,rfl,rfl,by omega⟩|exact⟨rfl,_,[_],Js.next (by omega) (Cw hk (by omega)) (hz.aQ (fun e he=>by simp at he) _) (by simp;omega) (ht.snoc (HX _ _ _ _ _ _) (by simp)) ((aL.snoc h1 [.ao 2 [[tI _,tI _],[tI _,tI _],[tI _,tI _]]]).aF _) (aL.aF (xs:=aQ zs _ _) rfl _) (by have:=h1.len;simp;omega),rfl,rfl,by omega⟩))
 all_goals (conv=>whnf)
end Go.aU.Cd
end
section
namespace Go.aU.Cd
open Go Go.Proofs
set_option maxRecDepth 100000
set_option maxHeartbeats 1000000
def ZR:Rc:=Sq (Rg [Mk 4 0,Mk 5 0]) (Sq (Rg [Mv 15 0,p 16 (.call 119 [t 15]),Mv 14 16,Et 17 14 0,Et 18 14 1,Mv 6 17,Mv 7 18]) (Sq (Sq (Rg [Mv 19 7,Bi 20 .neq 19 0]) (Cn 20 (Sq (Rg [Mv 21 7,Mk 4 0,Mv 5 21]) Rt) Sk)) (Sq (Rg [Mv 23 1,p 24 (.call 119 [t 23]),Mv 22 24,Et 25 22 0,Et 26 22 1,Mv 8 25,Mv 7 26]) (Sq (Sq (Rg [Mv 27 7,Bi 28 .neq 27 0]) (Cn 28 (Sq (Rg [Mv 29 7,Mk 4 0,Mv 5 29]) Rt) Sk)) (Sq (Rg [p 9 (.hY (k (-1)))]) (Sq (Sq (Rg [Mv 30 6,Le 31 30,Mk 32 0]) (Bk 0 (Lp (Sq (Rg [Bt 33 .lss 32 31]) (Sq (Cn 33 Sk (Ex 0)) (Sq (Bk 1 (Sq (Rg [Ia 34 1 30 32,Ld 35 34,Mv 11 35]) (Sq (Rg [Mv 36 8,Le 37 36,Mk 38 0]) (Bk 2 (Lp (Sq (Rg [Bt 39 .lss 38 37]) (Sq (Cn 39 Sk (Ex 2)) (Sq (Bk 3 (Sq (Rg [Ia 40 1 36 38,Ld 41 40,Mv 13 41]) (Rg [Mv 42 9,Mv 43 11,Mv 44 13,p 45 (.call 121 [t 43,t 44]),p 46 (.qd (t 42) (t 45)),Mv 9 46]))) (Rg [Bi 47 .add 38 1,Mv 38 47]))))))))) (Rg [Bi 48 .add 32 1,Mv 32 48]))))))) (Sq (Rg [Mv 49 9,Mv 4 49,Mk 5 0]) Rt)))))))
theorem XL:ae Tryz.prog (Tryz.f202.body.getD .skip)=some ZR:=by kernel_rfl
theorem aeN:Tryz.f202.body=some (Tryz.f202.body.getD .skip):=rfl
def aaF:Rc:=Sq (Rg [Mb 4 false,Mk 5 0]) (Sq (Rg [Mv 9 0,Mv 10 1,p 11 (.call 202 [t 9,t 10]),Mv 8 11,Et 12 8 0,Et 13 8 1,Mv 6 12,Mv 7 13]) (Sq (Rg [Mv 14 7,Bi 15 .eql 14 0,Mv 16 15,Gb 16 (Mv 17 6),Gb 16 (Bi 18 .eql 17 1),Pf 19 16 18,Mv 20 7,Mv 4 19,Mv 5 20]) Rt))
theorem Yc:ae Tryz.prog (Tryz.f152.body.getD .skip)=some aaF:=by kernel_rfl
theorem afL:Tryz.f152.body=some (Tryz.f152.body.getD .skip):=rfl
def c48:Rc:=Sq (Rg [Bx 3 1,Mn 4,Mk 5 0]) (Sq (Sq (Rg [Fa 10 0 3,Ld 11 10,Bi 12 .lss 11 0,Mv 13 12,Ga 13 (Fa 14 0 3),Ga 13 (Ld 15 14),Ga 13 (Mv 16 0),Ga 13 (Le 17 16),Ga 13 (Bt 18 .geq 15 17),Pt 19 13 18,Mv 20 19,Ga 20 (Fa 21 3 3),Ga 20 (Lo 2 22 21),Ga 20 (p 23 (.call 71 [t 22])),Pt 24 20 23]) (Cn 24 (Sq (Rg [Mn 4,Mk 5 3]) Rt) Sk)) (Sq (Rg [Mv 25 0,Fa 26 0 3,Ld 27 26,Ia 28 5 25 27,Fa 29 0 28,Ld 30 29,Mv 6 30]) (Sq (Sq (Rg [Mv 31 6,p 32 (.call 72 [t 31]),Mv 7 32]) (Sq (Rg [Mv 33 7,Bi 34 .neq 33 0]) (Cn 34 (Sq (Rg [Mv 35 7,Mn 4,Mv 5 35]) Rt) Sk))) (Sq (Dr [Fa 36 1 3,Lo 2 37 36,Mv 38 6,p 39 (.call 74 [t 37,t 38]),Fa 40 3 3,Lo 2 41 40,p 42 (.call 73 [t 39,t 41]),Mv 8 42] [[],[0],[],[1,2],[],[4],[3,5,3],[6,6,0,1,2,3,4,5,6]]) (Sq (Sq (Rg [Mv 43 8,p 44 (.call 72 [t 43]),Mv 9 44]) (Sq (Rg [Mv 45 9,Bi 46 .neq 45 0]) (Cn 46 (Sq (Rg [Mv 47 9,Mn 4,Mv 5 47]) Rt) Sk))) (Sq (Rg [Mv 48 8,Mv 4 48,Mk 5 0]) Rt))))))
theorem avG:ae Tryz.prog (Tryz.f48.body.getD .skip)=some c48:=by kernel_rfl
theorem axM:Tryz.f48.body=some (Tryz.f48.body.getD .skip):=rfl
def awV:Rc:=Sq (Rg [Bx 3 0,Bx 4 1,Bx 5 2,Mb 6 false]) (Sq (Sq (Rg [Lo 2 8 4,p 9 (.call 71 [t 8])]) (Cn 9 (Sq (Rg [Mb 6 false]) Rt) Sk)) (Sq (Rg [Fa 10 1 5,Lo 2 11 10,Lo 2 12 4,p 13 (.call 111 [t 11,t 12]),p 7 (.alloc [zi,zi]),So 2 7 13]) (Sq (Rg [Fa 14 0 7,Ld 15 14,Fa 16 3 5,Fa 17 0 16,Ld 18 17,Bt 19 .add 15 18,Fa 20 1 7,Ld 21 20,Fa 22 3 5,Fa 23 1 22,Ld 24 23,Bt 25 .add 21 24,p 26 (.build [zi,zi] [(0,1,t 19),(1,1,t 25)]),So 2 7 26]) (Sq (Rg [Lo 2 27 7,p 28 (.call 71 [t 27]),Nt 29 28,Mv 30 29,Gb 30 (Lo 2 31 3),Gb 30 (Lo 2 32 7),Gb 30 (p 33 (.build [zi,zi] [])),Gb 30 (p 34 (.call 201 [t 31,t 32,t 33])),Pf 35 30 34,Mv 6 35]) Rt))))
theorem Yd:ae Tryz.prog (Tryz.f151.body.getD .skip)=some awV:=by kernel_rfl
theorem afM:Tryz.f151.body=some (Tryz.f151.body.getD .skip):=rfl
def aaZ:Rc:=Sq (Rg [Bx 4 0,Bx 7 3,Mk 8 0]) (Sq (Sq (Rg [Fa 19 0 4,Ld 20 19,Bi 21 .lss 20 1,Mv 22 21,Ga 22 (Fa 23 0 4),Ga 22 (Ld 24 23),Ga 22 (Bi 25 .gtr 24 1048576),Pt 26 22 25,Mv 27 26,Ga 27 (Fa 28 1 4),Ga 27 (Ld 29 28),Ga 27 (Bi 30 .lss 29 1),Pt 31 27 30,Mv 32 31,Ga 32 (Fa 33 1 4),Ga 32 (Ld 34 33),Ga 32 (Bi 35 .gtr 34 1048576),Pt 36 32 35]) (Cn 36 (Sq (Rg [Mk 8 3]) Rt) Sk)) (Sq (Rg [Mv 38 1,Lo 5 39 7,p 40 (.call 48 [t 38,t 39]),Mv 37 40,Et 41 37 0,Et 42 37 1,Mv 9 41,Mv 10 42]) (Sq (Sq (Rg [Mv 43 10,Bi 44 .neq 43 0]) (Cn 44 (Sq (Rg [Mv 45 10,Mv 8 45]) Rt) Sk)) (Sq (Rg [Mv 46 1,Fa 47 0 7,Ld 48 47,Ia 49 5 46 48,Lo 5 50 49,p 11 (.alloc [zn,zi,zb,zi,zi]),So 5 11 50]) (Sq (Sq (Rg [Fa 51 1 11,Ld 52 51,Fa 53 1 7,Lo 2 54 53,p 55 (.call 150 [t 52,(kb false),t 54]),Nt 56 55]) (Cn 56 (Sq (Rg [Mk 8 12]) Rt) Sk)) (Sq (Sq (Rg [Mv 57 9,Le 58 57,Mk 59 0]) (Bk 0 (Lp (Sq (Rg [Bt 60 .lss 59 58]) (Sq (Cn 60 Sk (Ex 0)) (Sq (Bk 1 (Sq (Rg [Ia 61 2 57 59,Lo 2 62 61,p 13 (.alloc [zi,zi]),So 2 13 62]) (Sq (Rg [Fa 63 0 13,Ld 64 63,Bi 65 .lss 64 0,Mv 66 65,Ga 66 (Fa 67 0 13),Ga 66 (Ld 68 67),Ga 66 (Fa 69 0 4),Ga 66 (Ld 70 69),Ga 66 (Bt 71 .gtr 68 70),Pt 72 66 71,Mv 73 72,Ga 73 (Fa 74 1 13),Ga 73 (Ld 75 74),Ga 73 (Bi 76 .lss 75 0),Pt 77 73 76,Mv 78 77,Ga 78 (Fa 79 1 13),Ga 78 (Ld 80 79),Ga 78 (Fa 81 1 4),Ga 78 (Ld 82 81),Ga 78 (Bt 83 .gtr 80 82),Pt 84 78 83]) (Cn 84 (Sq (Rg [Mk 8 13]) Rt) Sk)))) (Rg [Bi 85 .add 59 1,Mv 59 85]))))))) (Sq (Sq (Rg [Fa 86 2 11,Ld 87 86,Mv 88 87,Gb 88 (Fa 89 2 4),Gb 88 (Lo 2 90 89),Gb 88 (Fa 91 3 11),Gb 88 (Lo 2 92 91),Gb 88 (Lo 5 93 7),Gb 88 (p 94 (.call 151 [t 90,t 92,t 93])),Gb 88 (Nt 95 94),Pf 96 88 95]) (Cn 96 (Sq (Rg [Mk 8 15]) Rt) Sk)) (Sq (Sq (Rg [Mv 97 2,Le 98 97,Mk 99 0]) (Bk 2 (Lp (Sq (Rg [Bt 100 .lss 99 98]) (Sq (Cn 100 Sk (Ex 2)) (Sq (Bk 3 (Sq (Rg [Ia 101 5 97 99,Lo 5 102 101,p 15 (.alloc [zi,zb,zi,zi,zi]),So 5 15 102]) (Sq (Rg [Mv 104 1,Lo 5 105 15,p 106 (.call 48 [t 104,t 105]),Mv 103 106,Et 107 103 0,Et 108 103 1,Mv 16 107,Mv 17 108]) (Sq (Sq (Rg [Mv 109 17,Bi 110 .neq 109 0]) (Cn 110 (Sq (Rg [Mv 111 17,Mv 8 111]) Rt) Sk)) (Sq (Rg [Mv 113 16,Mv 114 9,p 115 (.call 152 [t 113,t 114]),Mv 112 115,Et 116 112 0,Et 117 112 1,Mv 18 116,Mv 17 117]) (Sq (Sq (Rg [Mv 118 17,Bi 119 .neq 118 0]) (Cn 119 (Sq (Rg [Mv 120 17,Mv 8 120]) Rt) Sk)) (Sq (Rg [Mv 121 18]) (Cn 121 (Sq (Rg [Mk 8 14]) Rt) Sk)))))))) (Rg [Bi 122 .add 99 1,Mv 99 122]))))))) (Sq (Rg [Mk 8 0]) Rt)))))))))
theorem Yw:ae Tryz.prog (Tryz.f106.body.getD .skip)=some aaZ:=by kernel_rfl
theorem agF:Tryz.f106.body=some (Tryz.f106.body.getD .skip):=rfl
def c70:Rc:=Sq (Rg [Bx 3 0,Mk 6 0]) (Sq (Sq (Rg [Mv 10 2,Le 11 10,Bi 12 .gtr 11 60]) (Cn 12 (Sq (Rg [Mk 6 5]) Rt) Sk)) (Sq (Sq (Rg [Mv 13 2,Le 14 13,Mk 15 0]) (Bk 0 (Lp (Sq (Rg [Bt 16 .lss 15 14]) (Sq (Cn 16 Sk (Ex 0)) (Sq (Bk 1 (Sq (Rg [Mv 17 15,Ia 18 5 13 15,Lo 5 19 18,p 8 (.alloc [zi,zb,zi,zi,zi]),Mv 7 17,So 5 8 19]) (Sq (Dr [Lo 4 20 3,Mv 21 1,Mv 22 2,Mv 23 7,p 24 (.slice 5 (t 22) none (some (t 23))),Lo 5 25 8,p 26 (.call 106 [t 20,t 21,t 24,t 25]),Mv 9 26] [[],[],[],[],[2,3],[],[0,1,4,5],[6,6,0,1,2,3,4,5,6]]) (Sq (Rg [Mv 27 9,Bi 28 .neq 27 0]) (Cn 28 (Sq (Rg [Mv 29 9,Mv 6 29]) Rt) Sk))))) (Rg [Bi 30 .add 15 1,Mv 15 30]))))))) (Sq (Rg [Mk 6 0]) Rt)))
theorem auZ:ae Tryz.prog (Tryz.f70.body.getD .skip)=some c70:=by kernel_rfl
theorem axF:Tryz.f70.body=some (Tryz.f70.body.getD .skip):=rfl
def QL (N:Nat) (m:Nat) (vs:List V):Prop:= ∃ (i:Nat) (n:Int),i≤N∧m=N - i∧vs=[iV .i64 n,iV .i64 (i:Int)]
theorem QL.next {N i:Nat} {n:Int} (h:(i:Int) < (N:Int)) (hN:N≤1000000):QL N (N - (i+1)) [iV .i64 n,iV .i64 (IntKind.i64.wrap ((i:Int)+1))]:=⟨i+1,n,by omega,rfl,by rw[bO (by omega) (by omega)];rfl⟩
def GII (ts:List W):Prop:= ∃n e,ts=[oI n,oI e]
theorem qk (xs ys:Lz) (hx:cq xs) (hy:cq ys) (hl:xs.length≤1000000) (hm:ys.length≤1000000):Tg 202 [oL 2 xs,oL 2 ys] GII:=by
 refine aG ?_
 refine ah (n:=50) (rs:=[.tmp 4, .tmp 5]) Tryz.func202 aeN XL rfl rfl (by simp) ?_
 repeat' (conv=>whnf
          first
  |(refine az (fun h=>?_) (fun h=>?_))
  |(refine cv (fun h=>?_) (fun h=>?_))
  |(refine ap (xs:=ts) (hT (by omega)).1 (by omega) (by omega) ?_;rintro _ ⟨t1,rfl,ht1,P9⟩ hs)
  |(refine ap (xs:=us) (hU (by omega)).1 (by omega) (by omega) ?_;rintro _ ⟨t2,rfl,ht2,pO⟩ hs)
  |(refine ai rfl (lB xs hx hl) ?_;rintro _ ⟨ts,e,rfl,hT⟩)
  |(refine ai rfl (lB ys hy hm) ?_;rintro _ ⟨us,e2,rfl,hU⟩)
  |(refine ai rfl (rI t1 t2 ht1 ht2 P9 pO) ?_;rintro _ ⟨c,rfl⟩)
  |exact iy rfl (dw rfl) (dw rfl) ⟨_,_,rfl⟩
  |(apply aK [8,9,11,30,31,32,36,37,38] [] [9,38] (QL us.length) (us.length) [iV .i64 n,iV .i64 0];(conv=>whnf);exact⟨rfl,rfl,rfl,rfl⟩;exact rfl;exact rfl;exact⟨0,n,by omega,rfl,rfl⟩;rintro _ _ ⟨j,n2,hj,rfl,rfl⟩)
  |(refine aq [8,9,11,30,31,32,36,37,38] [] ?_;(conv=>whnf);exact⟨rfl,_,[_,_],QL.next (by omega) (by have:=(hU (by omega)).2;omega),rfl,rfl,rfl,by omega⟩)
  |(apply aK [8,9,30,31,32] [] [9,32] (QL ts.length) (ts.length) [iV .i64 (-1),iV .i64 0];(conv=>whnf);exact⟨rfl,rfl,rfl,rfl⟩;exact rfl;exact rfl;exact⟨0, -1,by omega,rfl,rfl⟩;rintro _ _ ⟨i,n,hi,rfl,rfl⟩)
  |(refine aq [8,9,30,31,32] [] ?_;(conv=>whnf);exact⟨rfl,_,[_,_],QL.next (by omega) (by have:=(hT (by omega)).2;omega),rfl,rfl,rfl,by omega⟩))
 all_goals (conv=>whnf)
def GBI (ts:List W):Prop:= ∃b e,ts=[oB b,oI e]
theorem rJ (xs ys:Lz) (hx:cq xs) (hy:cq ys) (hl:xs.length≤1000000) (hm:ys.length≤1000000):Tg 152 [oL 2 xs,oL 2 ys] GBI:=by
 refine aG ?_
 refine ah (n:=21) (rs:=[.tmp 4, .tmp 5]) Tryz.func152 afL Yc rfl rfl (by simp) ?_
 repeat' (conv=>whnf
          first
  |(refine az (fun h=>?_) (fun h=>?_))
  |(refine ai rfl (qk xs ys hx hy hl hm) ?_;rintro _ ⟨n,e,rfl⟩)
  |exact iy rfl (dw rfl) (dw rfl) ⟨_,_,rfl⟩)
 all_goals (conv=>whnf)
def ayI (e:List T):Prop:= ∃poly g m x y,e=[.ao 2 poly,tI g,tB m,tI x,tI y]∧cq poly∧poly.length≤1000000
def ayK (e:List T):Prop:= ∃sh f q x y,e=[tI sh,tB f,tI q,tI x,tI y]
abbrev NQ (sh:Int) (f:Bool) (q x y:Int):W:= .agg [.t (tI sh), .t (tB f), .t (tI q), .t (tI x), .t (tI y)]
abbrev Hj (xs:Lz):Prop:= ∀e,e∈xs→ayI e
abbrev Pts (xs:Lz):Prop:= ∀e,e∈xs→ayK e
theorem tx (fx:Lz) (hs:Hj fx) (sh:Int) (f:Bool) (q x y:Int):Tg 48 [oL 5 fx,NQ sh f q x y] (JM 2 (fun ps=>(cq ps∧ps.length≤1000000)∧0≤sh∧sh < (fx.length:Int))):=by
 refine aG ?_
 refine ah (n:=49) (rs:=[.tmp 4, .tmp 5]) Tryz.func48 axM avG rfl rfl (by simp) ?_
 repeat' (conv=>whnf
          first
  |(refine az (fun h=>?_) (fun h=>?_))
  |(refine cv (fun h=>?_) (fun h=>?_))
  |(refine aB (fun h=>?_) (fun h=>?_))
  |(refine ap (xs:=fx) hs (by omega) (by omega) ?_;rintro _ ⟨poly,g,m,px,py,rfl,hp,mN⟩ mD)
  |(refine And.intro (by kernel_rfl) ?_)
  |(refine ai rfl (oJ (_,_)) ?_;rintro _ ⟨b,rfl,_⟩)
  |(refine ai rfl (eE poly hp mN) ?_;rintro _ ⟨d,rfl,_⟩)
  |(refine au rfl (wq _ _ poly hp mN) ?_;rintro _ ⟨ys,rfl,vl,hys⟩)
  |(refine au rfl (xZ ys (_,_) hys (by omega)) ?_;rintro _ ⟨zs,rfl,sG,hzs⟩)
  |(refine ai rfl (eE zs hzs (by omega)) ?_;rintro _ ⟨d2,rfl,_⟩)
  |exact iy rfl (dR 2 rfl) (dw rfl) ⟨_,_,rfl,fun h0=>absurd h0 (by omega)⟩
  |exact iy rfl (dw rfl) (dw rfl) ⟨zs,_,rfl,fun _=>⟨⟨hzs,by omega⟩,by omega,by omega⟩⟩)
 all_goals (conv=>whnf)
theorem vJ (r a:Sp) (sh:Int) (f:Bool) (q x y:Int):Tg 151 [gD r,gD a,NQ sh f q x y] GB:=by
 refine ah (n:=36) (rs:=[.tmp 6]) Tryz.func151 afM Yd rfl rfl (by simp) ?_
 repeat' (conv=>whnf
          first
  |(refine aB (fun h=>?_) (fun h=>?_))
  |(refine ai rfl (oJ (_,_)) ?_;rintro _ ⟨b,rfl,_⟩)
  |(refine ai rfl (nQ _ _ (_,_)) ?_;rintro _ ⟨u,v,rfl,_⟩)
  |(refine ai rfl (zz (_,_) (_,_) (_,_)) ?_;rintro _ ⟨b,rfl⟩)
  |exact gB rfl rfl)
 all_goals (conv=>whnf)
abbrev RS (l w rx ry:Int):W:= .agg [.t (tI l), .t (tI w), .t (tI rx), .t (tI ry)]
theorem Bv (bl bw brx bry:Int) (fx ji:Lz) (hs:Hj fx) (hp:Pts ji) (mN:ji.length≤maxLen) (sh:Int) (f:Bool) (q x y:Int):Tg 106 [RS bl bw brx bry,oL 5 fx,oL 5 ji,NQ sh f q x y] GI:=by
 refine ah (n:=123) (rs:=[.tmp 8]) Tryz.func106 agF Yw rfl rfl (by simp) ?_
 repeat' (conv=>whnf
          first
  |(refine az (fun h=>?_) (fun h=>?_))
  |(refine cv (fun h=>?_) (fun h=>?_))
  |(refine aB (fun h=>?_) (fun h=>?_))
  |(refine ap (xs:=fx) hs (hP (by omega)).2.1 (hP (by omega)).2.2 ?_;rintro _ ⟨poly,g,m,px,py,rfl,_,_⟩ mD)
  |(refine ap (xs:=ps) (hP (by omega)).1.1 (by omega) (by omega) ?_;rintro _ ⟨a,b,rfl⟩ lj)
  |(refine ap (xs:=ji) hp (by omega) (by omega) ?_;rintro _ ⟨sh2,f2,q2,x2,y2,rfl⟩ EC)
  |(refine ai rfl (tx fx hs sh f q x y) ?_;rintro _ ⟨ps,e,rfl,hP⟩)
  |(refine ai rfl (xF _ _ _ _) ?_;rintro _ ⟨b,rfl⟩)
  |(refine ai rfl (vJ (_,_) (_,_) _ _ _ _ _) ?_;rintro _ ⟨b,rfl⟩)
  |(refine ai rfl (tx fx hs sh2 f2 q2 x2 y2) ?_;rintro _ ⟨PZ,e2,rfl,hP2⟩)
  |(refine ai rfl (rJ PZ ps (hP2 (by omega)).1.1 (hP (by omega)).1.1 (hP2 (by omega)).1.2 (hP (by omega)).1.2) ?_;rintro _ ⟨b,e3,rfl⟩)
  |exact gI rfl rfl
  |(apply aK [1,9,97,98,99] [] [99] (RI ji.length) (ji.length) [iV .i64 0];(conv=>whnf);exact⟨rfl,rfl,rfl,rfl⟩;exact rfl;exact rfl;exact RI.zero;rintro _ _ ⟨i,hi,rfl,rfl⟩)
  |(refine aq [1,9,97,98,99] [] ?_;(conv=>whnf);exact⟨rfl,_,[_],RI.succ (N:=ji.length) (i:=i) (by omega) mN,rfl,rfl,rfl,by omega⟩)
  |(apply aK [1,2,4,7,9,11,57,58,59] [] [59] (RI ps.length) (ps.length) [iV .i64 0];(conv=>whnf);exact⟨rfl,rfl,rfl,rfl⟩;exact rfl;exact rfl;exact RI.zero;rintro _ _ ⟨i,hi,rfl,rfl⟩)
  |(refine aq [1,2,4,7,9,11,57,58,59] [] ?_;(conv=>whnf);exact⟨rfl,_,[_],RI.succ (N:=ps.length) (i:=i) (by omega) (by have:=(hP (by omega)).1.2;simp only[maxLen];omega),rfl,rfl,rfl,by omega⟩))
 all_goals (conv=>whnf)
theorem zM (bl bw brx bry:Int) (fx ji:Lz) (hs:Hj fx) (hp:Pts ji) (mN:ji.length≤maxLen):Tg 70 [RS bl bw brx bry,oL 5 fx,oL 5 ji] GI:=by
 refine ah (n:=31) (rs:=[.tmp 6]) Tryz.func70 axF auZ rfl rfl (by simp) ?_
 repeat' (conv=>whnf
          first
  |(refine az (fun h=>?_) (fun h=>?_))
  |(refine cv (fun h=>?_) (fun h=>?_))
  |(refine fz (Nat.zero_le _) (by omega) ?_)
  |(refine ap (xs:=ji) hp (by omega) (by omega) ?_;rintro _ ⟨sh,f,q,x,y,rfl⟩ EC)
  |(refine And.intro (by kernel_rfl) ?_)
  |(refine And.intro (by omega) ?_)
  |(refine au rfl (Bv bl bw brx bry fx _ hs (cI hp _ _) (gU mN _ _) sh f q x y) ?_;rintro _ ⟨n,rfl⟩)
  |exact gI rfl rfl
  |(apply aK [1,2,3,13,14,15] [] [15] (RI ji.length) (ji.length) [iV .i64 0];(conv=>whnf);exact⟨rfl,rfl,rfl,rfl⟩;exact rfl;exact rfl;exact RI.zero;rintro _ _ ⟨i,hi,rfl,rfl⟩)
  |(refine aq [1,2,3,13,14,15] [] ?_;(conv=>whnf);exact⟨rfl,_,[_],RI.succ (N:=ji.length) (i:=i) (by omega) mN,rfl,rfl,rfl,by omega⟩))
 all_goals (conv=>whnf)
end Go.aU.Cd
end
section
namespace Go.aU.Cd
open Go Go.Proofs
set_option maxRecDepth 100000
set_option maxHeartbeats 1000000
def c68:Rc:=Sq (Rg [Bx 1 0,p 2 (.alloc [zi,zi,zi])]) (Sq (Rg [Fa 3 0 1,Ld 4 3,Fa 5 1 1,Ld 6 5,Fa 7 2 1,Ld 8 7,p 9 (.build [zi,zi,zi] [(0,1,t 4),(1,1,t 6),(2,1,t 8)]),So 3 2 9]) Rt)
theorem avB:ae Tryz.prog (Tryz.f68.body.getD .skip)=some c68:=by kernel_rfl
theorem axH:Tryz.f68.body=some (Tryz.f68.body.getD .skip):=rfl
def abB:Rc:=Sq (Rg [Bx 3 0,Bx 5 2,p 6 (.alloc [zn,zi,zb,zi,zi]),Mk 7 0]) (Sq (Rg [Lo 7 14 3,Mv 15 1,Fa 16 1 5,Ld 17 16,p 18 (.call 148 [t 14,t 15,t 17]),Mv 13 18,Et 19 13 0,Et 20 13 1,Mv 8 19,Mv 9 20]) (Sq (Sq (Rg [Mv 21 9,Bi 22 .neq 21 0]) (Cn 22 (Sq (Rg [p 23 (.build [zn,zi,zb,zi,zi] []),Mv 24 9,So 5 6 23,Mv 7 24]) Rt) Sk)) (Sq (Rg [Lo 7 26 3,Mv 27 1,Fa 28 1 5,Ld 29 28,p 30 (.call 149 [t 26,t 27,t 29]),Mv 25 30,Et 31 25 0,Et 32 25 1,p 10 (.alloc [zi,zi]),So 2 10 31,Mv 9 32]) (Sq (Sq (Rg [Mv 33 9,Bi 34 .neq 33 0]) (Cn 34 (Sq (Rg [p 35 (.build [zn,zi,zb,zi,zi] []),Mv 36 9,So 5 6 35,Mv 7 36]) Rt) Sk)) (Sq (Sq (Rg [Fa 37 3 5,Fa 38 0 37,Ld 39 38]) (Cn 39 (Sq (Rg [p 40 (.build [zb,zi] [(0,1,(kb true))]),p 11 (.alloc [zb,zi]),So 2 11 40]) (Dr [Lo 2 41 11,Mv 42 8,p 43 (.call 74 [t 41,t 42]),Lo 2 44 11,Lo 2 45 10,p 46 (.call 111 [t 44,t 45]),Mv 8 43,So 2 10 46] [[],[],[0,1],[],[],[3,4,2],[2,5,0,1,2],[5,6,0,1,2,3,4,5,6]])) Sk)) (Sq (Dr [Fa 47 3 3,Ld 48 47,Fa 49 4 3,Ld 50 49,Fa 51 1 5,Ld 52 51,Ia 53 3 50 52,Fa 54 0 53,Ld 55 54,Ia 56 7 48 55,Lo 7 57 56,p 12 (.alloc [.t (.val (.string ⟨#[]⟩)),zn,zi,zn,zn,zn,zb]),So 7 12 57] [[],[0],[],[2],[],[4],[3,5],[6],[7],[1,8],[9],[],[11,10,0,1,2,3,4,5,6,7,8,9,10,11]]) (Sq (Rg [Mv 58 8,Fa 59 2 12,Ld 60 59,Fa 61 6 12,Ld 62 61,Lo 2 63 10,p 64 (.build [zn,zi,zb,zi,zi] [(0,1,t 58),(1,1,t 60),(2,1,t 62),(3,2,t 63)]),So 5 6 64,Mk 7 0]) Rt)))))))
theorem Yy:ae Tryz.prog (Tryz.f104.body.getD .skip)=some abB:=by kernel_rfl
theorem agH:Tryz.f104.body=some (Tryz.f104.body.getD .skip):=rfl
def c67:Rc:=Sq (Rg [Bx 2 0,Mn 4,Mn 5,Mk 6 0]) (Sq (Sq (Rg [Lo 7 19 2,p 20 (.call 55 [t 19]),Mv 7 20]) (Sq (Rg [Mv 21 7,Bi 22 .neq 21 0]) (Cn 22 (Sq (Rg [Mv 23 7,Mn 4,Mn 5,Mv 6 23]) Rt) Sk))) (Sq (Sq (Rg [Mv 24 1,Le 25 24,Bi 26 .lss 25 1,Mv 27 26,Ga 27 (Mv 28 1),Ga 27 (Le 29 28),Ga 27 (Bi 30 .gtr 29 6),Pt 31 27 30]) (Cn 31 (Sq (Rg [Mn 4,Mn 5,Mk 6 3]) Rt) Sk)) (Sq (Sq (Rg [Mv 32 1,Le 33 32,Mk 34 0]) (Bk 0 (Lp (Sq (Rg [Bt 35 .lss 34 33]) (Sq (Cn 35 Sk (Ex 0)) (Sq (Bk 1 (Sq (Rg [Ia 36 1 32 34,Ld 37 36,Mv 9 37]) (Sq (Rg [Mv 38 9,Bi 39 .lss 38 0,Mv 40 39,Ga 40 (Mv 41 9),Ga 40 (Fa 42 1 2),Ga 40 (Ld 43 42),Ga 40 (Le 44 43),Ga 40 (Bt 45 .geq 41 44),Pt 46 40 45]) (Cn 46 (Sq (Rg [Mn 4,Mn 5,Mk 6 3]) Rt) Sk)))) (Rg [Bi 47 .add 34 1,Mv 34 47]))))))) (Sq (Rg [Lo 7 48 2,p 49 (.call 103 [t 48]),Mv 10 49]) (Sq (Sq (Rg [Mv 50 10,Le 51 50,Mv 52 1,Le 53 52,Bt 54 .mul 51 53,Bi 55 .gtr 54 60]) (Cn 55 (Sq (Rg [Mn 4,Mn 5,Mk 6 5]) Rt) Sk)) (Sq (Rg [Mn 11]) (Sq (Rg [Mn 12]) (Sq (Sq (Rg [Mv 56 1,Le 57 56,Mk 58 0]) (Bk 2 (Lp (Sq (Rg [Bt 59 .lss 58 57]) (Sq (Cn 59 Sk (Ex 2)) (Sq (Bk 3 (Sq (Rg [Mv 60 58,Ia 61 1 56 58,Ld 62 61,Mv 13 60,Mv 14 62]) (Sq (Rg [Mv 63 10,Le 64 63,Mk 65 0]) (Bk 4 (Lp (Sq (Rg [Bt 66 .lss 65 64]) (Sq (Cn 66 Sk (Ex 4)) (Sq (Bk 5 (Sq (Rg [Ia 67 7 63 65,Lo 7 68 67,p 16 (.alloc [zi,zi,zi,zb,zi,zi,zi]),So 7 16 68]) (Sq (Rg [Lo 7 70 2,Mv 71 14,Lo 7 72 16,p 73 (.call 104 [t 70,t 71,t 72]),Mv 69 73,Et 74 69 0,Et 75 69 1,p 17 (.alloc [zn,zi,zb,zi,zi]),So 5 17 74,Mv 18 75]) (Sq (Sq (Rg [Mv 76 18,Bi 77 .neq 76 0]) (Cn 77 (Sq (Rg [Mv 78 18,Mn 4,Mn 5,Mv 6 78]) Rt) Sk)) (Sq (Rg [Mv 79 13,Fa 80 0 16,So 1 80 79]) (Sq (Rg [Mv 81 11,Lo 5 82 17,p 83 (.aT [zn,zi,zb,zi,zi] 1 [(0,t 82)]),p 84 (.append 5 56 (t 81) (t 83)),Mv 11 84]) (Rg [Mv 85 12,Lo 7 86 16,p 87 (.aT [zi,zi,zi,zb,zi,zi,zi] 1 [(0,t 86)]),p 88 (.append 7 56 (t 85) (t 87)),Mv 12 88]))))))) (Rg [Bi 89 .add 65 1,Mv 65 89]))))))))) (Rg [Bi 90 .add 58 1,Mv 58 90]))))))) (Sq (Rg [Mv 91 11,Mv 92 12,Mv 4 91,Mv 5 92,Mk 6 0]) Rt)))))))))
theorem avC:ae Tryz.prog (Tryz.f67.body.getD .skip)=some c67:=by kernel_rfl
theorem axI:Tryz.f67.body=some (Tryz.f67.body.getD .skip):=rfl
theorem aSh:iN Tryz.prog 159=some true:=by kernel_rfl
theorem zSh:cD Tryz.prog 159=some 5:=by kernel_rfl
theorem aKy:iN Tryz.prog 154=some true:=by kernel_rfl
theorem zKy:cD Tryz.prog 154=some 3:=by kernel_rfl
abbrev oPl (g u k:Int) (f:Bool) (q x y:Int):W:= .agg [.t (tI g), .t (tI u), .t (tI k), .t (tB f), .t (tI q), .t (tI x), .t (tI y)]
theorem By (g u k:Int) (f:Bool) (q x y:Int): ∃ts,Fn Tryz.prog 68 [oPl g u k f q x y] [] (aO ts) []∧(aO ts).bJ=true∧(fun ts=>ts=[.agg [.t (tI g), .t (tI u), .t (tI k)]]) ts:=by
 refine aG ?_
 refine ah (n:=10) (rs:=[.cell 2 154]) Tryz.func68 axH avB rfl rfl (by simp) ?_
 repeat' (conv=>whnf
          first
  |exact mF rfl (bE aKy zKy rfl rfl (Nat.le_refl _) rfl (cG.refl _)) rfl)
 all_goals (conv=>whnf)
abbrev aoE (poly:Lz) (g:Int) (m:Bool) (x y:Int):W:= .agg [.t (.ao 2 poly), .t (tI g), .t (tB m), .t (tI x), .t (tI y)]
def ayV (ts:List W):Prop:= ∃poly g m x y e,ts=[aoE poly g m x y,oI e]∧(e=0→cq poly∧poly.length≤1000000)
theorem xw.E8 {xs:Lz} (h:xw xs):cq xs∧xs.length≤40:=⟨fun e he=>by obtain⟨a,b,r,_⟩:=h.1.2.2 e he;exact⟨a,b,r⟩,h.1.2.1⟩
theorem tG (sn:ByteArray) (bM ms ps us ss os:Lz) (hS:jE sn bM ms ps us ss os) (size:Int) (g u k:Int) (f:Bool) (q x y:Int):Tg 104 [g8 sn bM ms ps us ss os,oI size,oPl g u k f q x y] ayV:=by
 refine aG ?_
 refine ah (n:=65) (rs:=[.cell 6 159, .tmp 7]) Tryz.func104 agH Yy rfl rfl (by simp) ?_
 repeat' (conv=>whnf
          first
  |(refine cv (fun h=>?_) (fun h=>?_))
  |(refine aB (fun h=>?_) (fun h=>?_))
  |(refine ap (xs:=us) (hC (by assumption)).2.2 (hC (by assumption)).2.1.1 (hC (by assumption)).2.1.2 ?_;rintro _ ⟨a,b,c,rfl,⟨ha,HE⟩,hb⟩ hs)
  |(refine ap (xs:=ps) hS.hps ha HE ?_;rintro _ ⟨nm,es,gr,ns,cs,ws,mt,rfl,hnm,⟨he,hm⟩,⟨hn,_⟩,⟨hc,ee⟩,hw,ze⟩ lj)
  |(refine And.intro (by kernel_rfl) ?_)
  |(refine ai rfl (Dx sn bM ms ps us ss os hS size u) ?_;rintro _ ⟨poly,e,rfl,hC⟩)
  |(refine ai rfl (xM sn bM ms ps us ss os hS size u) ?_;rintro _ ⟨⟨ax,ay⟩,e2,rfl⟩)
  |(refine au rfl (wq _ _ poly (hC (by assumption)).1.E8.1 (by have:=(hC (by assumption)).1.E8.2;omega)) ?_;rintro _ ⟨ys,rfl,vl,hys⟩)
  |(refine au rfl (nQ _ _ (_,_)) ?_;rintro _ ⟨bx,b_y,rfl,_⟩)
  |exact iy rfl (bE aSh zSh rfl rfl (Nat.le_refl _) rfl (.cons (.nil 2) (cG.refl _))) (dw rfl) ⟨_,_,_,_,_,_,rfl,fun h0=>absurd h0 (by assumption)⟩
  |exact iy rfl (bE aSh zSh rfl rfl (Nat.le_refl _) rfl (cG.refl _)) (dw rfl) ⟨poly,_,_,_,_,_,rfl,fun _=>⟨(hC (by assumption)).1.E8.1,by have:=(hC (by assumption)).1.E8.2;omega⟩⟩
  |exact iy rfl (bE aSh zSh rfl rfl (Nat.le_refl _) rfl (cG.refl _)) (dw rfl) ⟨ys,_,_,_,_,_,rfl,fun _=>⟨hys,by have:=(hC (by assumption)).1.E8.2;omega⟩⟩)
 all_goals (conv=>whnf)
abbrev nR (sn:ByteArray) (bM ms ps us ss os:Lz):List T:=[.val (.string sn), .ao 1 bM, .ao 1 ms, .ao 7 ps, .ao 3 us, .ao 6 ss, .ao 5 os]
theorem Hj.snoc {xs:Lz} (h:Hj xs) {poly:Lz} (hp:cq poly) (hl:poly.length≤1000000) (g:Int) (m:Bool) (x y:Int):Hj (xs++[[.ao 2 poly,tI g,tB m,tI x,tI y]]):=by
 intro e he
 simp only[List.mem_append,List.mem_singleton]at he
 rcases he with he|rfl
 · exact h e he
 · exact⟨poly,g,m,x,y,rfl,hp,hl⟩
def Jv (row:List T) (U N:Nat) (m:Nat) (ws:List V) (xss:List (Lz)):Prop:= ∃ (i:Nat) (fx lu:Lz),i≤N∧m=N - i∧ws=[bK 8 5 fx.length,bK 12 7 lu.length,iV .i64 (i:Int)]∧xss=[[row],fx,lu]∧lu.length=fx.length∧fx.length≤48 * i∧Hj fx∧Ev U lu
theorem Jv.next {row:List T} {U N i:Nat} {fx lu:Lz} (h:(i:Int) < (N:Int)) (hN:N≤6) (hl:lu.length=fx.length) (hb:fx.length≤48 * (i+1)) (h1:Hj fx) (h2:Ev U lu):Jv row U N (N - (i+1)) [bK 8 5 fx.length,bK 12 7 lu.length,iV .i64 (IntKind.i64.wrap ((i:Int)+1))] [[row],fx,lu]:=
 ⟨i+1,fx,lu,by omega,rfl,by rw[bO (by omega) (by omega)];rfl,rfl,hl,hb,h1,h2⟩
def Ju (row:List T) (U b L:Nat) (m:Nat) (ws:List V) (xss:List (Lz)):Prop:= ∃ (j:Nat) (fx lu:Lz),j≤L∧m=L - j∧ws=[bK 8 5 fx.length,bK 12 7 lu.length,iV .i64 (j:Int)]∧xss=[[row],fx,lu]∧lu.length=fx.length∧fx.length≤b+j∧Hj fx∧Ev U lu
theorem Ju.next {row:List T} {U b L j k1 k2:Nat} {fx lu poly:Lz} {g x y gg u k qq xx yy:Int} {m f:Bool} (h:(j:Int) < (L:Int)) (hL:L≤48) (hl:lu.length=fx.length) (hb:fx.length≤b+j) (h1:Hj fx) (h2:Ev U lu) (hp:cq poly∧poly.length≤1000000) (hu:0≤u∧u < (U:Int)) (e1:k1=fx.length+1) (e2:k2=lu.length+1):
 Ju row U b L (L - (j+1)) [bK 8 5 k1,bK 12 7 k2,iV .i64 (IntKind.i64.wrap ((j:Int)+1))] [[row],fx++[[.ao 2 poly,tI g,tB m,tI x,tI y]],lu++[[tI gg,tI u,tI k,tB f,tI qq,tI xx,tI yy]]]:=
 ⟨j+1,_,_,by omega,rfl,by rw[bO (by omega) (by omega),e1,e2];simp,rfl,by simp[hl],by simp;omega,h1.snoc hp.1 hp.2 g m x y,h2.snoc gg u k qq xx yy f hu.1 hu.2⟩
def ayU (U:Nat) (ts:List W):Prop:= ∃fx lu e,ts=[oL 5 fx,oL 7 lu,oI e]∧(e=0→Hj fx∧Ev U lu∧lu.length=fx.length∧fx.length≤336)
theorem vO (sn:ByteArray) (bM ms ps us ss os:Lz) (hS:jE sn bM ms ps us ss os) (sizes:Lz) (hz:Is sizes) (sG:sizes.length≤maxLen):Tg 67 [g8 sn bM ms ps us ss os,oL 1 sizes] (ayU us.length):=by
 refine aG ?_
 refine ah (n:=93) (rs:=[.tmp 4, .tmp 5, .tmp 6]) Tryz.func67 axI avC rfl rfl (by simp) ?_
 repeat' (conv=>whnf
          first
  |(refine az (fun h=>?_) (fun h=>?_))
  |(refine cv (fun h=>?_) (fun h=>?_))
  |(refine ap (xs:=sizes) hz (by omega) (by omega) ?_;rintro _ ⟨a,rfl⟩ hs)
  |(refine ap (xs:=cs) hcs (by omega) (by omega) ?_;rintro _ ⟨g,u,k,f,q,x,y,rfl,kI,oo⟩ hs)
  |(refine And.intro ⟨by simp[tr],by simp[tr,bR];omega,by simp[tr,maxLen];omega⟩ ?_)
  |(refine ai rfl (jn sn bM ms ps us ss os hS) ?_;rintro _ ⟨e,rfl,hC⟩)
  |(refine ai rfl (xL sn bM ms ps us ss os hS) ?_;rintro _ ⟨cs,rfl,hcs,ee⟩)
  |(refine ai rfl (tG sn bM ms ps us ss os hS _ _ _ _ _ _ _ _) ?_;rintro _ ⟨poly,pg,pm,px,py,e3,rfl,hp⟩)
  |exact EH rfl (dR 5 rfl) (dR 7 rfl) (dw rfl) ⟨_,_,_,rfl,fun h0=>absurd h0 (by omega)⟩
  |exact EH rfl (fg rfl rfl (xs:=fx) rfl (by omega)) (fg rfl rfl (xs:=lu) rfl (by omega)) (dw rfl) ⟨_,_,_,rfl,fun _=>by rw[iS rfl,iS rfl];exact⟨mD,D7,P9,by omega⟩⟩
  |(apply bc [2,10,11,12,13,14,56,57,58,63,64,65] [] [11,12,65] [(4,7),(8,5),(12,7)] (Ju (nR sn bM ms ps us ss os) us.length (48 * i) cs.length) (cs.length) [bK 8 5 fx.length,bK 12 7 lu.length,iV .i64 0];(conv=>whnf);exact⟨rfl,rfl,rfl,rfl⟩;exact rfl;exact rfl;exact .cons (aL.aF (xs:=[nR sn bM ms ps us ss os]) rfl _) (.cons (aL.aF (xs:=fx) rfl _) (.cons (aL.aF (xs:=lu) rfl _) .nil));exact⟨0,fx,lu,by omega,rfl,rfl,rfl,P9,by omega,mD,D7⟩;rintro _ _ _ ⟨j,Rh,Wa,hj,rfl,rfl,rfl,pO,pP,lj,Gh⟩)
  |(refine aq [2,10,11,12,13,14,56,57,58,63,64,65] [] ?_;(conv=>whnf);exact⟨rfl,_,[_,_,_],_, .cons (aL.aF (xs:=[nR sn bM ms ps us ss os]) rfl _) (.cons (aL.aF (aL.snoc (xs:=Rh) rfl [.ao 2 _,tI _,tB _,tI _,tI _]) _) (.cons (aL.aF (aL.snoc (xs:=Wa) rfl [tI _,tI _,tI _,tB _,tI _,tI _,tI _]) _) .nil)),Ju.next (by omega) ee pO pP lj Gh (hp (by omega)) ⟨kI,oo⟩ (by simp[tr]) (by simp[tr]),rfl,rfl,by omega⟩)
  |(apply eN [2,10,11,12,56,57,58] [] [11,12,58] [(4,7),(8,5),(12,7)] (Jv (nR sn bM ms ps us ss os) us.length sizes.length) (sizes.length) [bK 8 5 0,bK 12 7 0,iV .i64 0] (iA.trans (iA.jh 11 5 rfl) (iA.jh 12 7 rfl));(conv=>whnf);exact⟨rfl,rfl,rfl,rfl⟩;exact rfl;exact rfl;exact .cons (aL.aF (xs:=[nR sn bM ms ps us ss os]) rfl _) (.cons (aL.aF aL.nil _) (.cons (aL.aF aL.nil _) .nil));exact⟨0,[],[],by omega,rfl,rfl,rfl,rfl,by simp,fun e he=>by simp at he,fun e he=>by simp at he⟩;rintro _ _ _ ⟨i,fx,lu,hi,rfl,rfl,rfl,P9,vT,mD,D7⟩)
  |(refine aq [2,10,11,12,56,57,58] [] ?_;(conv=>whnf);exact⟨rfl,_,[_,_,_],_, .cons (aL.aF (xs:=[nR sn bM ms ps us ss os]) rfl _) (.cons (aL.aF (xs:=Rh) rfl _) (.cons (aL.aF (xs:=Wa) rfl _) .nil)),Jv.next (by omega) (by omega) pO (by omega) lj Gh,rfl,rfl,by omega⟩)
  |(apply aK [1,2,32,33,34] [] [34] (RI sizes.length) (sizes.length) [iV .i64 0];(conv=>whnf);exact⟨rfl,rfl,rfl,rfl⟩;exact rfl;exact rfl;exact RI.zero;rintro _ _ ⟨i,hi,rfl,rfl⟩)
  |(refine aq [1,2,32,33,34] [] ?_;(conv=>whnf);exact⟨rfl,_,[_],RI.succ (N:=sizes.length) (i:=i) (by omega) sG,rfl,rfl,rfl,by omega⟩))
 all_goals (conv=>whnf)
end Go.aU.Cd
end
section
namespace Go.aU.Cd
open Go Go.Proofs
set_option maxRecDepth 100000
set_option maxHeartbeats 1000000
def abA:Rc:=Sq (Rg [Mk 4 0]) (Sq (Sq (Rg [Mv 6 0,Le 7 6,Mk 8 0]) (Bk 0 (Lp (Sq (Rg [Bt 9 .lss 8 7]) (Sq (Cn 9 Sk (Ex 0)) (Sq (Bk 1 (Sq (Rg [Mv 10 8,Mv 5 10]) (Sq (Rg [Mv 11 1,Mv 12 0,Mv 13 5,Ia 14 1 12 13,Ld 15 14,p 16 (.sk .eql (t 11) (t 15))]) (Cn 16 (Sq (Rg [Mv 17 5,Mv 4 17]) Rt) Sk)))) (Rg [Bi 18 .add 8 1,Mv 8 18]))))))) (Sq (Rg [p 4 (.hY (k (-1)))]) Rt))
theorem Yx:ae Tryz.prog (Tryz.f105.body.getD .skip)=some abA:=by kernel_rfl
theorem agG:Tryz.f105.body=some (Tryz.f105.body.getD .skip):=rfl
def c69:Rc:=Sq (Rg [Mb 4 false]) (Sq (Rg [Mv 5 0,Mv 6 1,p 7 (.call 105 [t 5,t 6]),Bi 8 .geq 7 0,Mv 4 8]) Rt)
theorem avA:ae Tryz.prog (Tryz.f69.body.getD .skip)=some c69:=by kernel_rfl
theorem axG:Tryz.f69.body=some (Tryz.f69.body.getD .skip):=rfl
def c47:Rc:=Sq (Rg [Bx 2 0,Bx 3 1,Mn 4,Mn 5,Mk 6 0]) (Sq (Rg [Lo 7 24 2,Fa 25 4 3,Ld 26 25,p 27 (.call 67 [t 24,t 26]),Mv 23 27,Et 28 23 0,Et 29 23 1,Et 30 23 2,Mv 7 28,Mv 8 29,Mv 9 30]) (Sq (Sq (Rg [Mv 31 9,Bi 32 .neq 31 0]) (Cn 32 (Sq (Rg [Mv 33 9,Mn 4,Mn 5,Mv 6 33]) Rt) Sk)) (Sq (Rg [p 34 (.raw (.makeMap 152 none) 152),Mv 10 34]) (Sq (Sq (Rg [Mv 35 8,Le 36 35,Mk 37 0]) (Bk 0 (Lp (Sq (Rg [Bt 38 .lss 37 36]) (Sq (Cn 38 Sk (Ex 0)) (Sq (Bk 1 (Sq (Rg [Mv 39 37,Ia 40 7 35 37,Lo 7 41 40,p 12 (.alloc [zi,zi,zi,zb,zi,zi,zi]),Mv 11 39,So 7 12 41]) (Rg [Mv 42 10,Lo 7 43 12,p 44 (.call 68 [t 43]),Mv 45 11,q (.raw (.mapUpdate 152 (.tmp 42) (.tmp 44) (.tmp 45)) 0)]))) (Rg [Bi 46 .add 37 1,Mv 37 46]))))))) (Sq (Rg [Mv 47 8,Le 48 47,p 49 (.make [zb] 1 (t 48) (t 48)),Mv 13 49]) (Sq (Rg [Mn 14]) (Sq (Sq (Rg [Fa 50 5 3,Ld 51 50,Le 52 51,Mk 53 0]) (Bk 2 (Lp (Sq (Rg [Bt 54 .lss 53 52]) (Sq (Cn 54 Sk (Ex 2)) (Sq (Bk 3 (Sq (Rg [Ia 55 7 51 53,Lo 7 56 55,p 16 (.alloc [zi,zi,zi,zb,zi,zi,zi]),So 7 16 56]) (Sq (Rg [Mv 58 10,Lo 7 59 16,p 60 (.call 68 [t 59]),p 61 (.raw (.lookup 152 (.tmp 58) (.tmp 60) true) 148),Mv 57 61,Et 62 57 0,Et 63 57 1,Mv 17 62,Mv 18 63]) (Sq (Sq (Rg [Mv 64 18,Nt 65 64]) (Cn 65 (Sq (Rg [Mn 4,Mn 5,Mk 6 3]) Rt) Sk)) (Sq (Sq (Rg [Mv 66 13,Mv 67 17,Ia 68 1 66 67,Ld 69 68]) (Cn 69 (Sq (Rg [Mn 4,Mn 5,Mk 6 7]) Rt) Sk)) (Sq (Rg [Mv 70 13,Mv 71 17,Ia 72 1 70 71,q (.store 1 (t 72) (kb true))]) (Rg [Mv 73 14,Mv 74 17,Fa 75 3 16,Fa 76 1 75,Ld 77 76,p 78 (.build [zb,zi] [(1,1,t 77)]),Fa 79 5 16,Lo 2 80 79,p 81 (.build [zi,zb,zi,zi,zi] [(0,1,t 74),(1,2,t 78),(3,2,t 80)]),p 82 (.aT [zi,zb,zi,zi,zi] 1 [(0,t 81)]),p 83 (.append 5 40 (t 73) (t 82)),Mv 14 83]))))))) (Rg [Bi 84 .add 53 1,Mv 53 84]))))))) (Sq (Sq (Rg [Mv 85 13,p 86 (.call 69 [t 85,(kb false)])]) (Cn 86 (Sq (Rg [Mn 4,Mn 5,Mk 6 20]) Rt) Sk)) (Sq (Sq (Rg [Fa 87 5 3,Ld 88 87,Le 89 88,Mk 90 0]) (Bk 4 (Lp (Sq (Rg [Bt 91 .lss 90 89]) (Sq (Cn 91 Sk (Ex 4)) (Sq (Bk 5 (Sq (Rg [Mv 92 90,Ia 93 7 88 90,Lo 7 94 93,p 20 (.alloc [zi,zi,zi,zb,zi,zi,zi]),Mv 19 92,So 7 20 94]) (Sq (Dr [Fa 95 3 20,Fa 96 0 95,Ld 97 96,Mv 98 8,Mv 99 14,Mv 100 19,Ia 101 5 99 100,Fa 102 0 101,Ld 103 102,Ia 104 7 98 103,Fa 105 3 104,Fa 106 0 105,Ld 107 106,p 108 (.sk .neq (t 97) (t 107))] [[],[0],[1],[],[],[],[4,5],[6],[7],[3,8],[9],[10],[11],[2,12]]) (Cn 108 (Sq (Rg [Mn 4,Mn 5,Mk 6 12]) Rt) Sk)))) (Rg [Bi 109 .add 90 1,Mv 90 109]))))))) (Sq (Rg [Fa 110 0 3,Ld 111 110,Fa 112 1 3,Ld 113 112,Fa 114 2 3,Lo 2 115 114,p 116 (.build [zi,zi,zi,zi] [(0,1,t 111),(1,1,t 113),(2,2,t 115)]),p 21 (.alloc [zi,zi,zi,zi]),So 4 21 116]) (Sq (Sq (Rg [Lo 4 117 21,Mv 118 7,Mv 119 14,p 120 (.call 70 [t 117,t 118,t 119]),Mv 22 120]) (Sq (Rg [Mv 121 22,Bi 122 .neq 121 0]) (Cn 122 (Sq (Rg [Mv 123 22,Mn 4,Mn 5,Mv 6 123]) Rt) Sk))) (Sq (Rg [Mv 124 7,Mv 125 14,Mv 4 124,Mv 5 125,Mk 6 0]) Rt))))))))))))
theorem avH:ae Tryz.prog (Tryz.f47.body.getD .skip)=some c47:=by kernel_rfl
theorem axN:Tryz.f47.body=some (Tryz.f47.body.getD .skip):=rfl
def c40:Rc:=Sq (Rg [Bx 2 0,Bx 3 1,Mk 4 0]) (Sq (Rg [Lo 7 9 2,Lo 6 10 3,p 11 (.call 47 [t 9,t 10]),Mv 8 11,Et 12 8 0,Et 13 8 1,Et 14 8 2,Mv 5 12,Mv 6 13,Mv 7 14]) (Sq (Rg [Mv 15 7,Mv 4 15]) Rt))
theorem avJ:ae Tryz.prog (Tryz.f40.body.getD .skip)=some c40:=by kernel_rfl
theorem axP:Tryz.f40.body=some (Tryz.f40.body.getD .skip):=rfl
theorem R9 {hp:HS} {id sz len:Nat} {rows:List (List C)} {xs:Lz} {x:T} (hf:find hp id=some (.row sz rows)) (hR:aL rows xs) (hl:len=xs.length):bB (bH hp) [.one (.own id sz 0 len), .one (.t x)]=some [.one (.t (.ao sz xs)), .one (.t x)]:=by
 have:=kK (hp:=hp) (i:=0) hf hR (by omega:0+len≤xs.length)
 have hx:bH hp (.one (.t x))=some (.one (.t x)):=rfl
 simp only[bB,this,hx]
 simp[hl]
def IsB (e:List T):Prop:= ∃b,e=[tB b]
abbrev Bs (xs:Lz):Prop:= ∀e,e∈xs→IsB e
theorem nS (xs:Lz) (b:Bool) (hx:Bs xs) (hl:xs.length≤maxLen):Tg 105 [oL 1 xs,oB b] GI:=by
 refine ah (n:=19) (rs:=[.tmp 4]) Tryz.func105 agG Yx rfl rfl (by simp) ?_
 repeat' (conv=>whnf
          first
  |(refine az (fun h=>?_) (fun h=>?_))
  |(refine ap hx (by first|omega|exact cj (by first|omega|(simp (disch:=omega) only[aa];omega))|(simp (disch:=omega) only[aa];omega)) (by first|omega|exact bW (by omega)|(simp (disch:=omega) only[aa];omega)) ?_;rintro _ ⟨c,rfl⟩ hs)
  |exact gI rfl rfl
  |(apply aK [0,1,7,8] [] [8] (RI xs.length) (xs.length) [iV .i64 0];(conv=>whnf);exact⟨rfl,rfl,rfl,rfl⟩;exact rfl;exact rfl;exact RI.zero;rintro _ _ ⟨i,hi,rfl,rfl⟩)
  |(refine aq [0,1,7,8] [] ?_;(conv=>whnf);exact⟨rfl,_,[_],RI.succ (N:=xs.length) (i:=i) (by omega) hl,rfl,rfl,rfl,by omega⟩))
 all_goals (conv=>whnf)
theorem kZ (xs:Lz) (b:Bool) (hx:Bs xs) (hl:xs.length≤maxLen):Tg 69 [oL 1 xs,oB b] GB:=by
 refine ah (n:=9) (rs:=[.tmp 4]) Tryz.func69 axG avA rfl rfl (by simp) ?_
 repeat' (conv=>whnf
          first
  |(refine ai rfl (nS xs _ hx hl) ?_;rintro _ ⟨n,rfl⟩)
  |exact gB rfl rfl)
 all_goals (conv=>whnf)
def JG (v:Value):Prop:= ∃a b c,v= .agg #[.int .i64 a, .int .i64 b, .int .i64 c]
theorem sb3 (k:Nat) (a b c:Int):Instr.sameBits (k+1) (.agg #[.int .i64 a, .int .i64 b, .int .i64 c]) (.agg #[.int .i64 a, .int .i64 b, .int .i64 c])=true:=by
 simp[Instr.sameBits]
theorem Ir: ∃d,Tryz.prog.underlying 154=some (.struct d):=by
 have h:(match Tryz.prog.underlying 154 with|some (.struct _)=>true|_=>false)=true:=by kernel_rfl
 split at h
 · rename_i d hd;exact⟨d,hd⟩
 · simp at h
theorem kKy:fP Tryz.prog 154 JG:=by
 obtain⟨d,hd⟩:=Ir
 refine DW hd ?_ ?_ ?_ ?_
 · rintro e _ ⟨a,b,c,rfl⟩
   exact⟨(),by cases e<;>kernel_rfl⟩
 · rintro _ _ ⟨a,b,c,rfl⟩ ⟨a',b',c',rfl⟩
   rfl
 · rintro _ _ ⟨a,b,c,rfl⟩ ⟨a',b',c',rfl⟩
   have h:=(lK (P:=Tryz.prog) (t:=154) (ks:=[0,0,0]) (cs:=[.t (tI a), .t (tI b), .t (tI c)]) (ds:=[.t (tI a'), .t (tI b'), .t (tI c')]) (vs:=[.int .i64 a, .int .i64 b, .int .i64 c]) (us:=[.int .i64 a', .int .i64 b', .int .i64 c']) (b:=(a==a')&& ((b==b')&& ((c==c')&&true))) (by kernel_rfl) rfl rfl rfl).1
   refine⟨_,h,?_⟩
   simp only[Bool.and_true,Bool.and_eq_true,beq_iff_eq,Value.agg.injEq]
   constructor
   · rintro⟨rfl,rfl,rfl⟩;rfl
   · intro h
     simp at h
     exact⟨h.1.symm,h.2.1.symm,h.2.2.symm⟩
 · rintro _ ⟨a,b,c,rfl⟩
   exact sb3 9999 a b c
theorem uMk:Tryz.prog.underlying 152=some (.map 154 3):=by kernel_rfl
theorem zIt:jS Tryz.prog 3=some (.int .i64 0):=by kernel_rfl
def wi (n:Nat) (c:C):Prop:= ∃m:Int,c= .t (tI m)∧0≤m∧m < (n:Int)
theorem wi.aF {n:Nat} {c:C} (h:wi n c) (f:Nat→Option Nat):wi n (c.aF f):=by
 obtain⟨m,rfl,h⟩:=h
 exact⟨m,rfl,h⟩
theorem HN {n ctr N:Nat} {t ty kt et:TypeId} {m k:Operand} {tm:TS} {hp:HS} {id clock:Nat} {es:cf} {kv:Value} {Kd:Value→Prop} {K:V→HS→Prop} (hm:Gt n tm m= .w (.one (.map id))) (hf:find hp id=some (.mp es clock)) (hk:(Gt n tm k).val? =some kv) (hu:Tryz.prog.underlying t=some (.map kt et))
 (hz:jS Tryz.prog et=some (.int .i64 0)) (hK:fP Tryz.prog kt Kd) (hkv:Kd kv) (iF:jm Kd (wi N) es) (h: ∀ (i:Int) (b:Bool),(b=true→0≤i∧i < (N:Int))→K (.dn [.one (.t (tI i)), .one (.t (.val (.bool b)))]) hp):
 ∃v hp',gQ Tryz.prog n (.lookup t m k true) ty tm hp ctr v hp'∧K v hp':=by
 refine EQ hm hf hk hu hz hK hkv iF ?_
 intro c b h1 h2
 cases b with
 |true=>obtain⟨i,rfl,hi⟩:=h1 rfl;exact h i true (fun _=>hi)
 |false=>rw[h2 rfl];exact h 0 false (fun h=>by simp at h)
abbrev oMk (ln wd rx ry:Int) (sizes places:Lz):W:= .agg [.t (tI ln), .t (tI wd), .t (tI rx), .t (tI ry), .t (.ao 1 sizes), .t (.ao 7 places)]
abbrev R0 (ln wd rx ry:Int) (sizes places:Lz):List T:=[tI ln,tI wd,tI rx,tI ry, .ao 1 sizes, .ao 7 places]
def ayQ (e:List T):Prop:= ∃g u k f q x y,e=[tI g,tI u,tI k,tB f,tI q,tI x,tI y]
abbrev QO (xs:Lz):Prop:= ∀e,e∈xs→ayQ e
def RA0 (row:List T) (C0 N:Nat) (m:Nat) (vs:List V) (hq:HS):Prop:= ∃ (i:Nat) (es:cf) (c:Nat),i≤N∧jm JG (wi C0) es∧m=N - i∧vs=[iV .i64 (i:Int)]∧hq=[(4, .row 6 [row.map .t]),(8, .mp es c)]
def PtS (n:Nat) (e:List T):Prop:= ∃sh f q x y,e=[tI sh,tB f,tI q,tI x,tI y]∧0≤sh∧sh < (n:Int)
abbrev B9 (n:Nat) (xs:Lz):Prop:= ∀e,e∈xs→PtS n e
theorem B9.snoc {n:Nat} {xs:Lz} (h:B9 n xs) (sh:Int) (f:Bool) (q x y:Int) (h0:0≤sh∧sh < (n:Int)):B9 n (xs++[[tI sh,tB f,tI q,tI x,tI y]]):=by
 intro e he
 simp only[List.mem_append,List.mem_singleton]at he
 rcases he with he|rfl
 · exact h e he
 · exact⟨sh,f,q,x,y,rfl,h0⟩
theorem B9.pts {n:Nat} {xs:Lz} (h:B9 n xs):Pts xs:=fun e he=>by
 obtain⟨sh,f,q,x,y,r,_⟩:=h e he
 exact⟨sh,f,q,x,y,r⟩
theorem Bs.set {xs:Lz} (h:Bs xs) (j:Nat) (b:Bool):Bs (xs.set j [tB b]):=by
 intro e he
 rcases List.mem_or_eq_of_mem_set he with he|rfl
 · exact h e he
 · exact⟨b,rfl⟩
theorem Bs.Fl (n:Nat) (b:Bool):Bs (List.replicate n [tB b]):=by
 intro e he
 obtain⟨_,rfl⟩:=List.mem_replicate.1 he
 exact⟨b,rfl⟩
def RA1 (row:List T) (C0 N:Nat) (m:Nat) (vs:List V) (hq:HS):Prop:= ∃ (i:Nat) (es:cf) (c:Nat) (sn ps:Lz) (rs rp:List (List C)),i≤N∧jm JG (wi C0) es∧m=N - i∧vs=[bK 16 5 ps.length,iV .i64 (i:Int)]∧aL rs sn∧aL rp ps∧(sn.length=C0∧Bs sn)∧(ps.length=i∧B9 C0 ps)∧
 hq=[(4, .row 6 [row.map .t]),(8, .mp es c),(12, .row 1 rs),(16, .row 5 rp)]
theorem RA1.next {row:List T} {C0 N i k j:Nat} {es:cf} {c:Nat} {sn ps:Lz} {rs rp:List (List C)} {sh q x y:Int} {f b:Bool} (h:(i:Int) < (N:Int)) (hN:N≤maxLen) (hM:jm JG (wi C0) es) (h1:aL rs (sn.set j [tB b])) (h2:aL rp (ps++[[tI sh,tB f,tI q,tI x,tI y]])) (hs:sn.length=C0∧Bs sn) (hp:ps.length=i∧B9 C0 ps) (hsh:0≤sh∧sh < (C0:Int)) (hk:k=ps.length+1):
 RA1 row C0 N (N - (i+1)) [bK 16 5 k,iV .i64 (IntKind.i64.wrap ((i:Int)+1))] [(4, .row 6 [row.map .t]),(8, .mp es c),(12, .row 1 rs),(16, .row 5 rp)]:=
 ⟨i+1,es,c,_,_,rs,rp,by omega,hM,rfl,by simp only[maxLen]at hN;rw[bO (by omega) (by omega),hk];simp,h1,h2,⟨by simp[hs.1],hs.2.set j b⟩,⟨by simp[hp.1],hp.2.snoc sh f q x y hsh⟩,rfl⟩
def RA2 (row:List T) (N:Nat) (m:Nat) (vs:List V) (xss:List (Lz)):Prop:= ∃i:Nat,i≤N∧m=N - i∧vs=[iV .i64 (i:Int)]∧xss=[[row]]
theorem RA2.next {row:List T} {N i:Nat} (h:(i:Int) < (N:Int)) (hN:N≤maxLen):RA2 row N (N - (i+1)) [iV .i64 (IntKind.i64.wrap ((i:Int)+1))] [[row]]:=
 ⟨i+1,by omega,rfl,by simp only[maxLen]at hN;rw[bO (by omega) (by omega)];rfl,rfl⟩
def GAr (ts:List W):Prop:= ∃fx ji e,ts=[oL 5 fx,oL 5 ji,oI e]
theorem rQ (sn:ByteArray) (bM ms ps us ss os:Lz) (hS:jE sn bM ms ps us ss os) (ln wd rx ry:Int) (sizes places:Lz) (hz:Is sizes) (sG:sizes.length≤maxLen) (mN:QO places) (ED:places.length≤1000000):Tg 47 [g8 sn bM ms ps us ss os,oMk ln wd rx ry sizes places] GAr:=by
 refine aG ?_
 refine ah (n:=126) (rs:=[.tmp 4, .tmp 5, .tmp 6]) Tryz.func47 axN avH rfl rfl (by simp) ?_
 repeat' (conv=>whnf
          first
  |(refine az (fun h=>?_) (fun h=>?_))
  |(refine cv (fun h=>?_) (fun h=>?_))
  |(refine aB (fun h=>?_) (fun h=>?_))
  |(have rT:=hmm (by simpa using h);clear hmm)
  |(refine ap (xs:=lu) (hA (by omega)).2.1 (n:=(i:Int)) (by omega) (by omega) ?_;rintro _ ⟨g,u,k,f,qq,x,y,rfl,kI,oo⟩ hs)
  |(refine ap (xs:=places) mN (by omega) (by omega) ?_;rintro _ ⟨g,u,k,f,qq,x,y,rfl⟩ hs)
  |(refine ap (xs:=ji.take ji.length) (fun e he=>N9.2 e (List.mem_of_mem_take he)) (by omega) (by have:=N9.1;simp;omega) ?_;rintro _ ⟨sh2,f2,q2,x2,y2,rfl,apK,apJ⟩ lj)
  |(refine ap (xs:=lu) (hA (by omega)).2.1 apK apJ ?_;rintro _ ⟨g3,u3,k3,f3,q3,x3,y3,rfl,_,_⟩ hs)
  |(refine And.intro ⟨by omega,by omega,by have:=hA (by omega);omega,by have:=hA (by omega);omega⟩ ?_)
  |(refine And.intro ⟨rT.1,by have:=FV.1;omega⟩ ?_)
  |(refine And.intro ⟨P5.len.symm,by rw[P5.len];have:=N9.1;simp[bR];omega,by rw[P5.len];have:=N9.1;simp[maxLen];omega⟩ ?_)
  |(refine And.intro (by kernel_rfl) ?_)
  |(refine ai rfl (vO sn bM ms ps us ss os hS sizes hz sG) ?_;rintro _ ⟨fx,lu,e,rfl,hA⟩)
  |(refine jT ?_)
  |(refine Bd rfl rfl rfl rfl uMk kKy ⟨_,_,_,rfl⟩ hM ⟨_,rfl,by omega,by omega⟩ ?_;rintro es3 c3 HF)
  |(refine HN rfl rfl rfl uMk zIt kKy ⟨_,_,_,rfl⟩ hMM ?_;intro mi mb hmm)
  |(refine cg (xs:=seen) dV FV.2 (by have:=FV.1;have:=rT;omega) ?_;rintro _ ⟨b2,rfl⟩ hs5)
  |(refine ai rfl (By _ _ _ _ _ _ _) ?_;rintro _ rfl)
  |(refine sM (R9 (xs:=seen) rfl dV (by have:=FV.1;omega)) (kZ seen _ FV.2 (by have:=FV.1;have:=hA (by omega);simp only[maxLen];omega)) ?_ ?_;(rintro _ ⟨b3,rfl⟩;rfl);rintro _ ⟨b3,rfl⟩)
  |(refine ai rfl (zM _ _ _ _ fx _ (hA (by omega)).1 (fun e he=>N9.2.pts e (List.mem_of_mem_take he)) (by have:=N9.1;simp[maxLen];omega)) ?_;rintro _ ⟨n,rfl⟩)
  |exact EH rfl (dR 5 rfl) (dR 5 rfl) (dw rfl) ⟨_,_,_,rfl⟩
  |exact EH rfl (dw rfl) (dw rfl) (dw rfl) ⟨_,_,_,rfl⟩
  |(apply eN [3,7,8,14,88,89,90] [] [90] [(4,6)] (RA2 (R0 ln wd rx ry sizes places) places.length) (places.length) [iV .i64 0] (iA.OH (xs:=ji) [14] 16 (aoH rfl) rfl P5 (Nat.le_refl _));(conv=>whnf);exact⟨rfl,rfl,rfl,rfl⟩;exact rfl;exact rfl;exact .cons (aL.aF (xs:=[R0 ln wd rx ry sizes places]) rfl _) .nil;exact⟨0,by omega,rfl,rfl,rfl⟩;rintro _ _ _ ⟨q,hq,rfl,rfl,rfl⟩)
  |(refine aq [3,7,8,14,88,89,90] [] ?_;(conv=>whnf);exact⟨rfl,_,[_],_, .cons (aL.aF (xs:=[R0 ln wd rx ry sizes places]) rfl _) .nil,RA2.next (by omega) (by simp only[maxLen];omega),rfl,rfl,by omega⟩)
  |(apply zl [3,7,8,10,13,14,51,52,53] [] [14,53] (RA1 (R0 ln wd rx ry sizes places) lu.length places.length) (places.length) [bK 16 5 0,iV .i64 0] (iA.jh 14 5 rfl);(conv=>whnf);exact⟨rfl,rfl,rfl,rfl⟩;exact rfl;exact rfl;exact⟨0,_,_,_,[],_,_,by omega,hM.aF (fun c hc=>wi.aF hc _),rfl,rfl,aL.aF (aL.replicate _ [tB false]) _,aL.aF aL.nil _,⟨by simp,Bs.Fl _ _⟩,⟨rfl,fun e he=>by simp at he⟩,rfl⟩;rintro _ _ _ ⟨i2,QE,c2,seen,ji,rs,rp,EF,hMM,rfl,rfl,dV,P5,FV,N9,rfl⟩)
  |(refine aq [3,7,8,10,13,14,51,52,53] [] ?_;(conv=>whnf);exact⟨rfl,_,[_,_],RA1.next (by omega) (by simp only[maxLen];omega) (hMM.aF (fun c hc=>wi.aF hc _)) ((aL.set dV _ [tB _]).aF _) ((aL.snoc P5 [tI _,tB _,tI _,tI _,tI _]).aF _) FV N9 rT (by have:=P5.len;simp;omega),rfl,rfl,by omega⟩)
  |(apply gS [3,7,8,10,35,36,37] [] [37] (RA0 (R0 ln wd rx ry sizes places) lu.length lu.length) (lu.length) [iV .i64 0];(conv=>whnf);exact⟨rfl,rfl,rfl,rfl⟩;exact rfl;exact rfl;exact⟨0,_,_,by omega,jm.nil,rfl,rfl,rfl⟩;rintro _ _ _ ⟨i,es,c,hi,hM,rfl,rfl,rfl⟩)
  |(refine aq [3,7,8,10,35,36,37] [] ?_;(conv=>whnf);exact⟨rfl,_,[_],⟨i+1,_,_,by omega,HF.aF (fun c hc=>wi.aF hc _),rfl,by have:=hA (by omega);rw[bO (by omega) (by omega)];rfl,rfl⟩,rfl,rfl,by omega⟩))
 all_goals (conv=>whnf)
theorem yl (sn:ByteArray) (bM ms ps us ss os:Lz) (hS:jE sn bM ms ps us ss os) (ln wd rx ry:Int) (sizes places:Lz) (hz:Is sizes) (sG:sizes.length≤maxLen) (mN:QO places) (ED:places.length≤1000000):Tg 40 [g8 sn bM ms ps us ss os,oMk ln wd rx ry sizes places] GI:=by
 refine ah (n:=16) (rs:=[.tmp 4]) Tryz.func40 axP avJ rfl rfl (by simp) ?_
 repeat' (conv=>whnf
          first
  |(refine ai rfl (rQ sn bM ms ps us ss os hS ln wd rx ry sizes places hz sG mN ED) ?_;rintro _ ⟨fx,ji,e,rfl⟩)
  |exact gI rfl rfl)
 all_goals (conv=>whnf)
end Go.aU.Cd
end
section
namespace Go.aU.Cd
open Go Go.Proofs
set_option maxRecDepth 100000
set_option maxHeartbeats 1000000
def aaJ:Rc:=Sq (Rg [Mb 2 false]) (Sq (Rg [p 6 (.raw (.makeMap 216 none) 216),Mv 3 6]) (Sq (Sq (Rg [Mv 7 0,Le 8 7,Mk 9 0]) (Bk 0 (Lp (Sq (Rg [Bt 10 .lss 9 8]) (Sq (Cn 10 Sk (Ex 0)) (Sq (Bk 1 (Sq (Rg [Ia 11 1 7 9,Ld 12 11,Mv 5 12]) (Sq (Sq (Rg [Mv 13 3,Mv 14 5,p 15 (.raw (.lookup 216 (.tmp 13) (.tmp 14) false) 4)]) (Cn 15 (Sq (Rg [Mb 2 true]) Rt) Sk)) (Rg [Mv 16 3,Mv 17 5,q (.raw (.mapUpdate 216 (.tmp 16) (.tmp 17) (.const (.bool true))) 0)])))) (Rg [Bi 18 .add 9 1,Mv 9 18]))))))) (Sq (Rg [Mb 2 false]) Rt)))
theorem Yh:ae Tryz.prog (Tryz.f129.body.getD .skip)=some aaJ:=by kernel_rfl
theorem afQ:Tryz.f129.body=some (Tryz.f129.body.getD .skip):=rfl
def c90:Rc:=Sq (Rg [Mk 6 0]) (Sq (Rg [Mv 10 0,Mv 11 1,Ia 12 5 10 11,Lo 5 13 12,p 7 (.alloc [.t (.val (.string ⟨#[]⟩)),zi,zi,zn,zn]),So 5 7 13]) (Sq (Sq (Rg [Fa 14 0 7,Ld 15 14,p 16 (.call 127 [t 15]),Nt 17 16]) (Cn 17 (Sq (Rg [Mk 6 1]) Rt) Sk)) (Sq (Sq (Rg [Mv 18 0,Mv 19 1,p 20 (.slice 5 (t 18) none (some (t 19))),Le 21 20,Mk 22 0]) (Bk 0 (Lp (Sq (Rg [Bt 23 .lss 22 21]) (Sq (Cn 23 Sk (Ex 0)) (Sq (Bk 1 (Sq (Rg [Ia 24 5 20 22,Lo 5 25 24,p 9 (.alloc [.t (.val (.string ⟨#[]⟩)),zi,zi,zn,zn]),So 5 9 25]) (Sq (Rg [Fa 26 0 9,Ld 27 26,Fa 28 0 7,Ld 29 28,Bt 30 .eql 27 29]) (Cn 30 (Sq (Rg [Mk 6 7]) Rt) Sk)))) (Rg [Bi 31 .add 22 1,Mv 22 31]))))))) (Sq (Sq (Rg [Fa 32 1 7,Ld 33 32,Bi 34 .lss 33 0,Mv 35 34,Ga 35 (Fa 36 1 7),Ga 35 (Ld 37 36),Ga 35 (Bi 38 .geq 37 8),Pt 39 35 38,Mv 40 39,Ga 40 (Fa 41 2 7),Ga 40 (Ld 42 41),Ga 40 (Bi 43 .lss 42 1),Pt 44 40 43,Mv 45 44,Ga 45 (Fa 46 2 7),Ga 45 (Ld 47 46),Ga 45 (Bi 48 .gtr 47 10000),Pt 49 45 48]) (Cn 49 (Sq (Rg [Mk 6 3]) Rt) Sk)) (Sq (Sq (Rg [Fa 50 3 7,Ld 51 50,Mv 52 0,Le 53 52,p 54 (.call 128 [t 51,t 53]),Nt 55 54,Mv 56 55,Ga 56 (Mv 57 2),Ga 56 (Bi 58 .geq 57 0),Ga 56 (Mv 59 58),Gb 59 (Fa 60 4 7),Gb 59 (Ld 61 60),Gb 59 (Mv 62 2),Gb 59 (p 63 (.call 128 [t 61,t 62])),Gb 59 (Nt 64 63),Ga 56 (Pf 65 59 64),Pt 66 56 65]) (Cn 66 (Sq (Rg [Mk 6 3]) Rt) Sk)) (Sq (Sq (Rg [Fa 67 3 7,Ld 68 67,p 69 (.call 129 [t 68]),Mv 70 69,Ga 70 (Mv 71 2),Ga 70 (Bi 72 .geq 71 0),Ga 70 (Mv 73 72),Gb 73 (Fa 74 4 7),Gb 73 (Ld 75 74),Gb 73 (p 76 (.call 129 [t 75])),Ga 70 (Pf 77 73 76),Pt 78 70 77]) (Cn 78 (Sq (Rg [Mk 6 7]) Rt) Sk)) (Sq (Rg [Mk 6 0]) Rt)))))))
theorem auS:ae Tryz.prog (Tryz.f90.body.getD .skip)=some c90:=by kernel_rfl
theorem awY:Tryz.f90.body=some (Tryz.f90.body.getD .skip):=rfl
theorem Q8:Tryz.prog.underlying 216=some (.map 3 4):=by kernel_rfl
theorem Kb:fP Tryz.prog 3 mW:=DV uIn
def RRp (N:Nat) (m:Nat) (vs:List V) (hq:HS):Prop:= ∃ (i:Nat) (es:cf) (c:Nat),i≤N∧jm mW uZ es∧m=N - i∧vs=[iV .i64 (i:Int)]∧hq=[(4, .mp es c)]
theorem js (xs:Lz) (hx:Is xs) (hl:xs.length≤maxLen):Tg 129 [oL 1 xs] GB:=by
 refine ah (n:=19) (rs:=[.tmp 2]) Tryz.func129 afQ Yh rfl rfl (by simp) ?_
 repeat' (conv=>whnf
          first
  |(refine az (fun h=>?_) (fun h=>?_))
  |(refine aB (fun h=>?_) (fun h=>?_))
  |(refine ap (xs:=xs) hx (by omega) (by omega) ?_;rintro _ ⟨a,rfl⟩ hs)
  |(refine jT ?_)
  |(refine Cg rfl rfl rfl Q8 zBo Kb ⟨_,rfl⟩ hM ⟨false,rfl⟩ ?_;rintro _ ⟨b,rfl⟩)
  |(refine Bd rfl rfl rfl rfl Q8 Kb ⟨_,rfl⟩ hM ⟨true,rfl⟩ ?_;rintro QE c2 HF)
  |exact gB rfl rfl
  |(apply gS [3,7,8,9] [] [9] (RRp xs.length) (xs.length) [iV .i64 0];(conv=>whnf);exact⟨rfl,rfl,rfl,rfl⟩;exact rfl;exact rfl;exact⟨0,_,_,by omega,jm.nil,rfl,rfl,rfl⟩;rintro _ _ _ ⟨i,es,c,hi,hM,rfl,rfl,rfl⟩)
  |(refine aq [3,7,8,9] [] ?_;(conv=>whnf);exact⟨rfl,_,[_],⟨i+1,_,_,by omega,HF.aF (fun c hc=>uZ.aF hc _),rfl,by simp only[maxLen]at hl;rw[bO (by omega) (by omega)];rfl,rfl⟩,rfl,rfl,by omega⟩))
 all_goals (conv=>whnf)
def InI (n:Int) (e:List T):Prop:= ∃a,e=[tI a]∧0≤a∧a < n
def JD (xs:Lz) (n:Int) (i:Nat):Prop:= ∀j e,j < i→xs[j]? =some e→InI n e
theorem JD.all {xs:Lz} {n:Int} {i:Nat} (h:JD xs n i) (hi:xs.length≤i): ∀e,e∈xs→InI n e:=by
 intro e he
 obtain⟨j,hj,rfl⟩:=List.getElem_of_mem he
 exact h j _ (by omega) (by simp[hj])
def RIx (xs:Lz) (n:Int) (m:Nat) (vs:List V):Prop:= ∃i:Nat,i≤xs.length∧JD xs n i∧m=xs.length - i∧vs=[iV .i64 (i:Int)]
theorem RIx.next {xs:Lz} {n a:Int} {i:Nat} (hi:(i:Int) < (xs.length:Int)) (hl:xs.length≤maxLen) (h:JD xs n i) (hs:xs[((i:Int)).toNat]? =some [tI a]) (h0:0≤a) (h1:a < n):RIx xs n (xs.length - (i+1)) [iV .i64 (IntKind.i64.wrap ((i:Int)+1))]:=by
 refine⟨i+1,by omega,fun j e hj he=>?_,rfl,by simp only[maxLen]at hl;rw[bO (by omega) (by omega)];rfl⟩
 by_cases fk:j=i
 · subst fk
   have hs':xs[j]? =some [tI a]:=by simpa using hs
   rw[hs']at he
   exact⟨a,(Option.some.inj he).symm,h0,h1⟩
 · exact h j e (by omega) he
theorem ru (xs:Lz) (n:Int) (hx:Is xs) (hl:xs.length≤maxLen):Tg 128 [oL 1 xs,oI n] (GBt (∀e,e∈xs→InI n e)):=by
 refine ah (n:=21) (rs:=[.tmp 4]) Tryz.func128 afR Yi rfl rfl (by simp) ?_
 repeat' (conv=>whnf
          first
  |(refine az (fun h=>?_) (fun h=>?_))
  |(refine ap (xs:=xs) hx (by omega) (by omega) ?_;rintro _ ⟨a,rfl⟩ hs)
  |(refine gBt rfl rfl ?_;first|(intro _;exact hp.all (by omega))|(intro hf;simp at hf))
  |(apply aK [1,7,8,9] [] [9] (RIx xs n) (xs.length) [iV .i64 0];(conv=>whnf);exact⟨rfl,rfl,rfl,rfl⟩;exact rfl;exact rfl;exact⟨0,by omega,fun j e hj=>by omega,rfl,rfl⟩;rintro _ _ ⟨i,hi,hp,rfl,rfl⟩)
  |(refine aq [1,7,8,9] [] ?_;(conv=>whnf);exact⟨rfl,_,[_],RIx.next (by omega) hl hp hs (by omega) (by omega),rfl,rfl,rfl,by omega⟩))
 all_goals (conv=>whnf)
def Jr (n:Int) (e:List T):Prop:= ∃nm m t af us,e=[.val (.string nm),tI m,tI t, .ao 1 af, .ao 1 us]∧us.length≤maxLen∧ ∀q,q∈us→InI n q
theorem nX (l:Lz) (i vv:Int) (hop: ∀e,e∈l→Cb e) (hl:l.length≤maxLen) (IN:0≤i) (hi:i < (l.length:Int)):Tg 90 [oL 5 l,oI i,oI vv] (nF (fun n=>n=0→0≤vv→ ∀e,l[i.toNat]? =some e→Jr vv e)):=by
 refine ah (n:=79) (rs:=[.tmp 6]) Tryz.func90 awY auS rfl rfl (by simp) ?_
 repeat' (conv=>whnf
          first
  |(refine az (fun h=>?_) (fun h=>?_))
  |(refine aB (fun h=>?_) (fun h=>?_))
  |(refine ap (xs:=l) (n:=i) hop IN hi ?_;rintro _ ⟨nm,m,t,af,us,rfl,hnm,⟨Qx,IW⟩,eU,Iz⟩ hs)
  |(refine And.intro IN ?_)
  |(refine fz (Nat.zero_le _) (by omega) ?_)
  |(refine ap (xs:=(l.drop 0).take (i.toNat - 0)) (cI hop _ _) (by omega) (by omega) ?_;rintro _ ⟨nm2,m2,t2,af2,lq,rfl,aqD,_⟩ lj)
  |(refine ai rfl (qm nm hnm) ?_;rintro _ ⟨b,rfl⟩)
  |(refine ai rfl (ru af _ Qx IW) ?_;rintro _ ⟨b1,rfl,_⟩)
  |(refine ai rfl (ru us _ eU Iz) ?_;rintro _ ⟨b2,rfl,pP⟩)
  |(refine ai rfl (js af Qx IW) ?_;rintro _ ⟨b3,rfl⟩)
  |(refine ai rfl (js us eU Iz) ?_;rintro _ ⟨b4,rfl⟩)
  |(refine pQ rfl rfl (fun h0=>?_);first|(exfalso;omega)|(intro hu e he;rw[hs]at he;cases he;exact⟨_,_,_,_,_,rfl,Iz,pP (by simp_all)⟩)|(intro hu;exfalso;omega))
  |(apply aK [0,2,7,20,21,22] [] [22] (RI ((l.drop 0).take (i.toNat - 0)).length) (((l.drop 0).take (i.toNat - 0)).length) [iV .i64 0];(conv=>whnf);exact⟨rfl,rfl,rfl,rfl⟩;exact rfl;exact rfl;exact RI.zero;rintro _ _ ⟨j,hj,rfl,rfl⟩)
  |(refine aq [0,2,7,20,21,22] [] ?_;(conv=>whnf);exact⟨rfl,_,[_],RI.succ (N:=((l.drop 0).take (i.toNat - 0)).length) (i:=j) (by omega) (gU hl _ _),rfl,rfl,rfl,by omega⟩))
 all_goals (conv=>whnf)
end Go.aU.Cd
end
