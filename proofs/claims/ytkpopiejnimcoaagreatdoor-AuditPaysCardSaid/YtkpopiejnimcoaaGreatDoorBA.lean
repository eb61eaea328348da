import GoSem.Claim
import Derived.Orders
import Derived.Below
import Derived.KernelRfl
import Derived.Laws.AppendOwn
import Derived.Laws.CopyRow
import Derived.MapKept
import Derived.Laws.BytesArg
import Derived.Laws.StructEq
set_option linter.all false
set_option maxRecDepth 100000
set_option maxHeartbeats 4000000
section
abbrev ii:=@Option.some.injEq
abbrev jl:=@List.getElem?_eq_some_iff
abbrev jU:=@Option.map_eq_some_iff
abbrev oo:=@List.mem_of_getElem?
abbrev uu:=@Prod.mk.injEq
abbrev vv:=@List.mem_singleton
abbrev wv:=@Option.map_some
abbrev ww:=@Nat.le_refl
abbrev yl:=@List.mem_append
abbrev yq:=@List.getElem?_cons_zero
abbrev yt:=@List.all_eq_true
abbrev yu:=@List.getElem?_map
abbrev LD:=@Bool.and_eq_true
abbrev Tf:=@Option.bind_some
abbrev XV:=@List.length_append
abbrev YH:=@Nat.mul_le_mul_right
abbrev YI:=@List.getElem?_eq_getElem
abbrev YJ:=@Option.getD_some
abbrev aaa:=@List.length_cons
abbrev aab:=@List.length_take
abbrev aac:=@List.take_of_length_le
abbrev aad:=@List.mem_map
abbrev aae:=@Array.getD_eq_getD_getElem?
abbrev aaf:=@List.getElem?_append_left
abbrev aag:=@Bool.false_eq_true
abbrev aah:=@List.mem_of_mem_take
abbrev aai:=@List.getElem?_append_right
abbrev aaj:=@List.getElem?_set_self
abbrev aak:=@List.mem_cons
abbrev aal:=@Nat.le_trans
abbrev aam:=@List.getElem?_set_ne
abbrev aan:=@Array.toArray_toList
abbrev aao:=@List.mem_or_eq_of_mem_set
abbrev aap:=@List.mem_range
abbrev aaq:=@List.map_cons
abbrev aar:=@Nat.lt_of_lt_of_le
abbrev aas:=@Nat.zero_add
abbrev aat:=@Array.getElem?_eq_some_iff
abbrev aau:=@List.mem_filterMap
abbrev aav:=@Array.getElem?_eq_none
abbrev aaw:=@Nat.add_mul
abbrev aax:=@List.length_drop
abbrev aay:=@Option.isSome_iff_exists
abbrev aaz:=@List.cons.injEq
abbrev aaC:=@List.getElem_mem
abbrev aaN:=@Array.getElem?_toList
abbrev aaQ:=@List.append_assoc
abbrev aa0:=@Int.toNat_natCast
abbrev aa1:=@List.mem_cons_self
abbrev aa2:=@List.mem_cons_of_mem
abbrev aa3:=@List.getElem_of_mem
abbrev aa4:=@List.getElem?_take
abbrev aa5:=@Option.some.inj
abbrev aa6:=@List.not_mem_nil
abbrev aa7:=@Nat.zero_le
abbrev aa8:=@Nat.lt_or_ge
abbrev aa9:=@List.append_nil
abbrev aba:=@List.getD_eq_getElem?_getD
abbrev abb:=@Array.getElem?_setIfInBounds_ne
abbrev abc:=@List.mem_of_mem_drop
abbrev abd:=@List.length_eq_zero_iff
abbrev abe:=@List.getElem?_eq_none
abbrev abf:=@List.range_succ
abbrev abg:=@List.mem_flatMap
abbrev abh:=@List.map_nil
abbrev abi:=@Nat.pow_le_pow_right
abbrev abj:=@List.size_toArray
abbrev abk:=@Nat.mul_le_mul_left
abbrev abl:=@Nat.mul_comm
abbrev abm:=@List.ext_getElem?
abbrev abn:=@List.length_set
abbrev abo:=@List.length_map
abbrev abp:=@Nat.le_of_ble_eq_true
abbrev abq:=@List.mem_iff_getElem?
abbrev abr:=@List.map_congr_left
abbrev abt:=@List.drop_eq_getElem_cons
abbrev abu:=@List.mem_take_iff_getElem
abbrev abv:=@Nat.ble_eq
abbrev abw:=@List.take_add_one
abbrev abx:=@Nat.mul_lt_mul_of_pos_right
abbrev aby:=@List.mem_append_right
abbrev abz:=@Array.getElem?_append_left
abbrev abH:=@Int.tdiv_eq_ediv_of_nonneg
abbrev abZ:=@Array.length_toList
abbrev ab0:=@Nat.mul_assoc
abbrev ab1:=@Array.mapM_eq_mapM_toList
abbrev ab2:=@Array.mem_toList_iff
abbrev ab3:=@Nat.add_assoc
abbrev ab4:=@Int.natCast_nonneg
abbrev ab5:=@Array.getElem?_modify
abbrev ab6:=@Bool.or_eq_true
abbrev ab7:=@Array.mem_of_getElem?
abbrev ab8:=@List.cons_append
abbrev ab9:=@List.mem_iff_getElem
abbrev acd:=@List.mem_append_left
abbrev ace:=@Nat.add_zero
abbrev acf:=@List.length_eq_one_iff
abbrev acg:=@List.drop_zero
abbrev ach:=@List.take_append_of_le_length
abbrev aci:=@List.getElem?_toArray
abbrev acj:=@Nat.div_lt_iff_lt_mul
abbrev ack:=@List.eq_of_mem_replicate
abbrev acm:=@List.map_map
abbrev acn:=@List.flatMap_cons
abbrev aco:=@List.length_singleton
abbrev acp:=@List.length_filterMap_le
abbrev acr:=@List.getElem?_drop
abbrev acs:=@Option.bind_eq_some_iff
abbrev acu:=@List.mem_filter
abbrev acv:=@List.mem_replicate
abbrev acw:=@List.pairwise_cons
abbrev acy:=@Int.ofNat_eq_natCast
abbrev acz:=@Nat.le_of_lt
abbrev acT:=@Nat.pow_pos
abbrev acX:=@List.mem_of_find?_eq_some
abbrev acY:=@Array.size_push
abbrev ac0:=@List.length_nil
abbrev ac1:=@List.nil_append
abbrev ac2:=@List.eq_nil_iff_forall_not_mem
abbrev ac3:=@Int.mul_le_mul_of_nonneg_right
abbrev ac4:=@Int.tmod_lt_of_pos
abbrev ac5:=@List.eq_nil_of_length_eq_zero
abbrev ac6:=@Int.mul_le_mul_of_nonneg_left
abbrev ac7:=@Nat.mul_add
abbrev ac8:=@List.getElem?_replicate
abbrev ac9:=@List.getElem?_cons_succ
abbrev ada:=@Nat.pow_succ
abbrev adb:=@Array.getElem?_push
abbrev ade:=@Nat.pow_add
abbrev adf:=@List.drop_eq_nil_of_le
abbrev adg:=@Nat.lt_of_mul_lt_mul_right
abbrev adh:=@Option.getD_none
abbrev adi:=@Nat.shiftLeft_eq
abbrev adj:=@Nat.lt_or_gt_of_ne
abbrev adk:=@List.length_replicate
abbrev adl:=@List.take_append_drop
abbrev adm:=@Nat.one_mul
abbrev adn:=@List.pairwise_iff_getElem
abbrev ado:=@List.pairwise_append
abbrev adp:=@List.foldl_cons
abbrev adq:=@Bool.eq_iff_iff
abbrev adr:=@Nat.beq_eq
abbrev ads:=@Int.tmod_nonneg
abbrev adt:=@List.map_append
abbrev adu:=@List.set_eq_of_length_le
abbrev adv:=@Nat.mul_one
abbrev adw:=@List.all_cons
abbrev adx:=@List.getElem_inj
abbrev ady:=@Nat.blt_eq
abbrev adz:=@Option.or_eq_some_iff
abbrev adB:=@Int.natCast_mul
abbrev adE:=@List.length_filter_le
abbrev adG:=@List.getElem?_set
abbrev adM:=@List.nodup_append
abbrev adO:=@Int.fdiv_eq_ediv_of_nonneg
abbrev adR:=@List.getElem?_eq_none_iff
abbrev adS:=@Nat.mul_le_mul
abbrev adT:=@Nat.mod_eq_of_lt
abbrev adV:=@Array.toList_map
abbrev ad0:=@List.take_length
abbrev ad1:=@Int.toNat_of_nonneg
abbrev ad2:=@Array.toList_append
abbrev ad3:=@List.flatMap_append
abbrev ad4:=@Nat.sub_zero
abbrev ad5:=@List.getElem?_take_of_lt
abbrev ad6:=@Classical.em
abbrev ad7:=@Option.isSome_some
abbrev ad8:=@List.flatMap_eq_nil_iff
abbrev ad9:=@BitVec.toNat_ofInt
abbrev aea:=@BitVec.toNat_or
abbrev aeb:=@Nat.lt_of_le_of_lt
abbrev aec:=@List.findIdx?_eq_some_iff_getElem
abbrev aed:=@List.filter_append
abbrev aee:=@List.set_cons_zero
abbrev aef:=@List.set_cons_succ
abbrev aeg:=@List.filter_eq_nil_iff
abbrev aeh:=@List.drop_of_length_le
abbrev aei:=@Nat.lt_trichotomy
abbrev aej:=@List.length_range
abbrev aek:=@Nat.add_comm
abbrev ael:=@Array.eq_empty_of_size_eq_zero
abbrev aem:=@List.find?_eq_some_iff_getElem
abbrev aen:=@List.range_eq_range'
abbrev aeo:=@Nat.div_lt_of_lt_mul
abbrev aep:=@Int.lt_ediv_add_one_mul_self
abbrev aeq:=@List.nodup_cons
abbrev aer:=@Int.ediv_nonneg
abbrev aes:=@Nat.div_add_mod
abbrev aet:=@List.find?_some
abbrev aeu:=@Array.getElem?_eq_none_iff
abbrev aev:=@Nat.eq_zero_or_pos
abbrev aew:=@Option.isSome_none
abbrev aex:=@Nat.pow_zero
abbrev aey:=@List.mapM_cons
abbrev aez:=@List.getLast?_eq_getElem?
abbrev aeE:=@Nat.lt_of_mul_lt_mul_left
abbrev aeL:=@Int.mul_nonneg
abbrev ae0:=@Nat.mod_lt
abbrev ae1:=@Array.isEmpty_iff
abbrev ae2:=@Bool.not_eq_true'
abbrev ae3:=@Int.emod_eq_of_lt
abbrev ae4:=@Array.getElem?_eraseIdx
abbrev ae5:=@List.range'_succ
abbrev ae6:=@Nat.le_of_not_lt
abbrev ae7:=@Nat.zero_lt_succ
abbrev ae8:=@Nat.lt_log2_self
abbrev ae9:=@List.any_eq_true
abbrev afa:=@List.flatMap_nil
abbrev afb:=@List.getElem?_eraseIdx
abbrev afc:=@List.append_eq_nil_iff
abbrev afd:=@Nat.zero_mul
abbrev afe:=@List.map_set
abbrev aff:=@Int.lt_or_le
abbrev afg:=@Nat.lt_trans
abbrev afh:=@List.filterMap_append
abbrev afi:=@List.take_zero
abbrev afj:=@Int.mul_le_mul
abbrev afk:=@Nat.mul_pos
abbrev afl:=@Bool.not_true
abbrev afm:=@Bool.true_and
abbrev afn:=@Bool.and_true
abbrev afo:=@Nat.mul_zero
def aa{p:Prop}(h:p:=by omega):p:=h
def ae{p:Prop}(h:p:=by first|exact rfl|((conv=>whnf);exact⟨rfl,rfl,rfl,rfl⟩)):p:=h
def ag{p:Prop}(h:p:=by kernel_rfl):p:=h
def ah{p:Prop}(h:p:=by first|omega|(simp (disch:=omega) only[aB];omega)):p:=h
def ai{p:Prop}(h:p:=by assumption):p:=h
def aj{p:Prop}(h:p:=by first|omega|exact dB (by first|omega|(simp (disch:=omega) only[aB];omega))|(simp (disch:=omega) only[aB];omega)):p:=h
def ak{p:Prop}(h:p:=by simp):p:=h
def aq{p:Prop}(h:p:=by first|omega|exact di (by omega)|(simp (disch:=omega) only[aB];omega)):p:=h
def au{p:Prop}(h:p:=by have:=iy F tb D (by omega);first|omega|(simp (disch:=omega) only[aB];omega)):p:=h
def av{p:Prop}(h:p:=by decide):p:=h
def az{p:Prop}(h:p:=by rw[oT (by omega) (by assumption) (by omega) (bF (by omega) (by omega))];show _++(_++_)=_;rw[<-aaQ,Z,x]):p:=h
def aA{p:Prop}(h:p:=by simpa using S):p:=h
def bc{p:Prop}(h:p:=by simpa using h):p:=h
def bq{p:Prop}(h:p:=by simp only[maxLen];omega):p:=h
def bw{p:Prop}(h:p:=by rw[oT (by omega) (by assumption) (by omega) (bF (by omega) (by omega))]):p:=h
def ej{p:Prop}(h:p:=by simp[Op.operands]):p:=h
def eC{p:Prop}(h:p:=by symm;first|(simp[oW,tr,Z,d,g,l,s];done)|(simp[oW,tr,Z,d,g,l,s];omega)):p:=h
def eN{p:Prop}(h:p:=by simp (disch:=omega) only[aB];omega):p:=h
def e6{p:Prop}(h:p:=by have:=(yx (K (by omega))).1;omega):p:=h
def gg{p:Prop}(h:p:=by first|(simp[oW,tr,Z,d,g,l,s];done)|(simp[oW,tr,Z,d,g,l,s];omega)):p:=h
def gZ{p:Prop}(h:p:=by simp;omega):p:=h
def hD{p:Prop}(h:p:=by rw[bF (by omega) (by omega)];omega):p:=h
def iC{p:Prop}(h:p:=by simp[tr]):p:=h
def iL{p:Prop}(h:p:=by simpa using N):p:=h
def jh{p:Prop}(h:p:=by rw[<-aan (xs:=args),hargs]):p:=h
def jN{p:Prop}(h:p:=by have:=Iz (vV (by omega)).1 (LL (dM (by assumption)));omega):p:=h
def jO{p:Prop}(h:p:=by have:=D ((Ou hI1 hI2).2.2 (ajM (ph (K (by omega))).2.2.1 (by omega) (ph (K (by omega))).2.1 l O));omega):p:=h
def jP{p:Prop}(h:p:=by rw[l (b:=false) (by simp[aF])];rfl):p:=h
def jQ{p:Prop}(h:p:=by simp[ov]at h):p:=h
def kE{p:Prop}(h:p:=by simp[cA]at R):p:=h
def lg{p:Prop}(h:p:=by rw[Array.eraseIdxIfInBounds,dif_pos Q,Array.size_eraseIdx,List.length_eraseIdx,if_pos (by omega),q4]):p:=h
def lA{p:Prop}(h:p:=by rw[l (b:=true) (by simp[aF])];rfl):p:=h
def l5{p:Prop}(h:p:=by have:=J.get k;rw[mN]at this;exact this):p:=h
def nD{p:Prop}(h:p:=by rw[aB (n:=2 * b) (by omega) (by omega)];omega):p:=h
def nO{p:Prop}(h:p:=by rw[Co H o (by omega) (by omega) (by simp only[aaa];omega)];first|(simp;done)|(simp;omega)):p:=h
def oa{p:Prop}(h:p:=by have:=J.pJ;simp only[maxLen];omega):p:=h
def oh{p:Prop}(h:p:=by have:=R.1;have:=R.2.1;simp (disch:=omega) only[aB];omega):p:=h
def p0{p:Prop}(h:p:=by have:=IJ r os bs (iH os ws bs xs xs.length) q;have:=tP os ws bs xs xs.length;omega):p:=h
def rW{p:Prop}(h:p:=by simpa using O):p:=h
def r0{p:Prop}(h:p:=by decide+kernel):p:=h
def sq{p:Prop}(h:p:=by first|omega|(have:=(yx (K (by omega))).1;rw[bF (by omega) (by omega)];omega)):p:=h
def sP{p:Prop}(h:p:=by simp[aL,oW,tr,Z,d,g,l,s]):p:=h
def ua{p:Prop}(h:p:=by simp only[aab];omega):p:=h
def ug{p:Prop}(h:p:=by rw[Co H o (by omega) (by omega) (by simp only[aaa];omega)];simp[aL,tr]):p:=h
def ul{p:Prop}(h:p:=by have:=lQ (L.take i);simp only[aab]at this;simp only[cJ]at K⊢;omega):p:=h
def xT{p:Prop}(h:p:=by simpa using Y):p:=h
def yy{p:Prop}(h:p:=by rw[cg (by omega)];simp only[abj];rw[cg (by omega)];simpa using q5):p:=h
def zh{p:Prop}(h:p:=by simpa using I):p:=h
def zq{p:Prop}(h:p:=by simpa using G):p:=h
def C0{p:Prop}(h:p:=by simpa using H):p:=h
def C1{p:Prop}(h:p:=by simpa using k5):p:=h
def D2{p:Prop}(h:p:=by have:=(yx (K (by omega))).1;rw[bF (by omega) (by omega)];omega):p:=h
def Es{p:Prop}(h:p:=by simp only[aax];omega):p:=h
def Ey{p:Prop}(h:p:=by simp only[pid,lit];omega):p:=h
def Fc{p:Prop}(h:p:=by simp[Q]):p:=h
def Fs{p:Prop}(h:p:=by simpa[Op.operands,Call.operands]using G):p:=h
def FG{p:Prop}(h:p:=by have:=J.get x;rw[mN]at this;exact this):p:=h
def Gx{p:Prop}(h:p:=by simp only[rX];omega):p:=h
def HI{p:Prop}(h:p:=by have B:g.length<=1000:=x _ (oo S);simp only[maxLen];omega):p:=h
def Iw{p:Prop}(h:p:=by simp[aF]):p:=h
def Ko{p:Prop}(h:p:=by have:=Y.1;have:=Y.2.1;rw[bF (by omega) (by omega)];omega):p:=h
def Kz{p:Prop}(h:p:=by simp only[abj];rw[cg (by omega)];simp):p:=h
def K1{p:Prop}(h:p:=by rw[show(2:Nat) ^ 53=9007199254740992 by decide];exact s):p:=h
def K2{p:Prop}(h:p:=by rw[QF K (by assumption)];exact QI (akR (by assumption))):p:=h
def LR{p:Prop}(h:p:=by rw[<-aan (xs:=argTypes),mm]):p:=h
def M1{p:Prop}(h:p:=by simp[gO]at h):p:=h
def Nb{p:Prop}(h:p:=by have:=h.o.pJ;simp only[maxLen];omega):p:=h
def NJ{p:Prop}(h:p:=by have:=h.o.ni;simp only[maxLen];omega):p:=h
def Og{p:Prop}(h:p:=by have:=(ph (K (by omega))).2.1;omega):p:=h
def PL{p:Prop}(h:p:=by simp[St.get,hx]):p:=h
def PO{p:Prop}(h:p:=by simpa using Z):p:=h
def R9{p:Prop}(h:p:=by have:=(J (by omega)).1.1.1.2;simp only[maxLen];omega):p:=h
def Sj{p:Prop}(h:p:=by have:=lQ (L.take (i+1));simp only[aab]at this;omega):p:=h
def Sk{p:Prop}(h:p:=by simp[binOp,Op.shift,g,aU]):p:=h
def Sv{p:Prop}(h:p:=by have:=a.len;have:=hS'.len;simp only[abn]at *;omega):p:=h
def Ts{p:Prop}(h:p:=by simp only[pid];omega):p:=h
def Tt{p:Prop}(h:p:=by rw[QE K (by omega) (by assumption) (by omega)];rfl):p:=h
def Vn{p:Prop}(h:p:=by simp_all):p:=h
def VZ{p:Prop}(h:p:=by have:=(J (by omega)).1.2.2;omega):p:=h
def V1{p:Prop}(h:p:=by simp[aae,abz ht,ht]):p:=h
def V2{p:Prop}(h:p:=by simp only[bJ];omega):p:=h
def V9{p:Prop}(h:p:=by simp only[cJ];omega):p:=h
def WY{p:Prop}(h:p:=by simp only[bJ]at Q;omega):p:=h
def W0{p:Prop}(h:p:=by simp[IntKind.wrap,IntKind.bits,IntKind.signed]):p:=h
def W1{p:Prop}(h:p:=by rw[Fv O S A z];exact CW):p:=h
def W2{p:Prop}(h:p:=by rw[QE K (by omega) (by assumption) (by omega)]):p:=h
def W3{p:Prop}(h:p:=by simp only[find,if_true]):p:=h
def X0{p:Prop}(h:p:=by rw[P];exact v):p:=h
def YL{p:Prop}(h:p:=by simp[Op.operands];exact⟨p.1,by simpa using F⟩):p:=h
def YM{p:Prop}(h:p:=by rw[aB (n:=0 - a) (by omega) (by omega)];omega):p:=h
def YR{p:Prop}(h:p:=by simp[Ro.lG]):p:=h
def YT{p:Prop}(h:p:=by simpa using hxs.1):p:=h
def Y0{p:Prop}(h:p:=by simp[execOp]):p:=h
def Y1{p:Prop}(h:p:=by simp[St.get,r]):p:=h
def ZH{p:Prop}(h:p:=by simp[Op.equalIn,aY,bi L,aU]):p:=h
def acq{p:Prop}(h:p:=by simp at Z⊢;omega):p:=h
def afp{p:Prop}(h:p:=by simpa[Op.operands,Call.operands]using A):p:=h
def afq{p:Prop}(h:p:=by rw[aac (by omega)];exact O):p:=h
def afr{p:Prop}(h:p:=by simp only[bQ,aad];exact⟨q,aap.2 hq,rfl⟩):p:=h
def afs{p:Prop}(h:p:=by simp[a]):p:=h
def aft{p:Prop}(h:p:=by have:=(U (by assumption)).1.Ma.2;omega):p:=h
def afu{p:Prop}(h:p:=by have:=(K (by omega)).1.2.1;simp;omega):p:=h
def afv{p:Prop}(h:p:=by have:=(hAr (by assumption)).2.1;omega):p:=h
def afw{p:Prop}(h:p:=by simp[binOp,eO,heq]):p:=h
def afx{p:Prop}(h:p:=by simp[I]):p:=h
def afy{p:Prop}(h:p:=by simp[execOp,O]):p:=h
def afz{p:Prop}(h:p:=by simp[St.get,h]):p:=h
def af0{p:Prop}(h:p:=by simp[sizeOf,typeInfo,I]):p:=h
def af1{p:Prop}(h:p:=by simp[V.ids,W.ids,C.ids]):p:=h
def af2{p:Prop}(h:p:=by have:=O.len;simp;omega):p:=h
def af3{p:Prop}(h:p:=by simpa using D):p:=h
def af4{p:Prop}(h:p:=by simpa using L):p:=h
def af5{p:Prop}(h:p:=by simpa using Q):p:=h
def af6{p:Prop}(h:p:=by simpa[aK]using H):p:=h
def af7{p:Prop}(h:p:=by simpa[aK]using h):p:=h
def af8{p:Prop}(h:p:=by simp[Pn.dec]at h):p:=h
def af9{p:Prop}(h:p:=by rw[<-B];exact CW):p:=h
def aga{p:Prop}(h:p:=by simp[G]):p:=h
def agb{p:Prop}(h:p:=by simp at h):p:=h
def agc{p:Prop}(h:p:=by simp[l]):p:=h
def agd{p:Prop}(h:p:=by rw[<-aan (xs:=lB),mm]):p:=h
def age{p:Prop}(h:p:=by simpa using U 0):p:=h
def agf{p:Prop}(h:p:=by simp only[acy];omega):p:=h
def agh{p:Prop}(h:p:=by simp[W.aM,C.aM,bI,A]):p:=h
def agi{p:Prop}(h:p:=by rw[hargs];simp):p:=h
def agj{p:Prop}(h:p:=by simp[lc,hu]):p:=h
def agk{p:Prop}(h:p:=by simpa using mR J U):p:=h
def agl{p:Prop}(h:p:=by rw[hnl,hsize]):p:=h
def agm{p:Prop}(h:p:=by simpa using z):p:=h
def agn{p:Prop}(h:p:=by simp[find]):p:=h
def ago{p:Prop}(h:p:=by simp[Z]):p:=h
def agp{p:Prop}(h:p:=by simp[S9]at F):p:=h
def agq{p:Prop}(h:p:=by simp[q4]):p:=h
def agr{p:Prop}(h:p:=by simp[b]):p:=h
def ags{p:Prop}(h:p:=by exact⟨rfl,rfl⟩):p:=h
abbrev agt:=Nat->Prop
namespace Go.aW
open Go
def GH:List (Nat×List Value):=[(0,[.int .i64 100000,.int .i64 1073741824]),(1,(List.range 20).map λk=> .int .u64 ((10 ^ k:Nat):Int))]
def uC:List (Nat×List Value)->Nat->Option (List Value)
 | [],_=>none
 |(k,v)::r,t=>if k=t then some v else uC r t
def aBp(t:TypeId)(len:Nat):Bool:=Nat.beq t 110&&Nat.beq len 3
def aBo(t x h:Nat):Bool:=(Nat.beq t 110||Nat.beq t 40||Nat.beq t 45)&&Nat.beq x 17&&Nat.beq h 19
def aIE:Nat:=341
def aBX:List Nat:=[0,1,275]++(List.range 23).map (· +317)
end Go.aW
end
namespace Go.aW
open Go
inductive T where
 |val (v:Value)
 |aO (sz:Nat) (xs:List (List T))
 deriving Inhabited
abbrev Lz:=List (List T)
abbrev Lt:=List T
inductive Loc where
 |dQ
 |gD (b:Nat)
abbrev cz:Value->Bool:=Value.oneCell'
inductive RT(w:World)(A:agt):T->Value->Prop
 |val {v:Value} (h:cz v=true):RT w A (.val v) v
 |nil {sz:Nat} {a:Option Addr} {cap:Nat}:RT w A (.aO sz []) (.slice a 0 cap)
 |aO {sz:Nat} {xs:Lz} {b off len cap:Nat} (f:Nat->Nat->Value) (hl:len=xs.length) (hcap:len<=cap)
   (hb:b < w.heap.size) (hA:¬A b) (hsz:∀e,e∈xs->e.length=sz)
   (hc:∀ (i:Nat) (e:Lt) (j:Nat) (c:T),xs[i]? =some e->e[j]? =some c->w.cell? ⟨b,off+i * sz+j,none⟩=some (f i j))
   (hr:∀ (i:Nat) (e:Lt) (j:Nat) (c:T),xs[i]? =some e->e[j]? =some c->RT w A c (f i j)):RT w A (.aO sz xs) (.slice (some ⟨b,off,none⟩) len cap)
variable{w w':World}{A l M F F':agt}{x:Value}{a:Act}
def RT.cell{t:T}(h:RT w A t x):cz x=true:=by
 cases h with
 |val h=>exact h
 |nil=>rfl|aO=>rfl
structure dA(O:agt)(w w':World):Prop where
 os:w'.os=w.os
 tape:w'.tape=w.tape
 output:w'.output=w.output
 size:w.heap.size<=w'.heap.size
 block:∀k,k < w.heap.size->¬O k->w'.heap[k]? =w.heap[k]?
 shape:∀k,k < w.heap.size->w'.shape? k=w.shape? k
def dA.refl(O:agt)(w:World):dA O w w:=⟨rfl,rfl,rfl,ww _,λ_ _ _=>rfl,λ_ _=>rfl⟩
def dA.trans{O:agt}{a b c:World}(h:dA O a b)(k:dA O b c):dA O a c:=
 ⟨k.os.trans h.os,k.tape.trans h.tape,k.output.trans h.output,aal h.size k.size,
  λi I d=>(k.block i (aar I h.size) d).trans (h.block i I d),
  λi I=>(k.shape i (aar I h.size)).trans (h.shape i I)⟩
def dA.weaken{O c:agt}{a b:World}(h:dA O a b)(x:∀i,i < a.heap.size->O i->c i):dA c a b:=
 ⟨h.os,h.tape,h.output,h.size,λi I d=>h.block i I (λN=>d (x i I N)),h.shape⟩
def dA.alloc(O:agt)(w:World)(o:Obj):dA O w (w.alloc o):=
 ⟨rfl,rfl,rfl,ak,λk Z _=>RowKit.Below.heap_alloc w o k Z,λk Z=>by
   have:=RowKit.Below.heap_alloc w o k Z;simp only[World.shape?,this]⟩
def dA.drew(O:agt)(w:World):dA O w {w with drawn:=w.drawn+1}:=
 ⟨rfl,rfl,rfl,ww _,λ_ _ _=>rfl,λ_ _=>rfl⟩
def dS(A l:agt)(w w':World):Prop:=
 w.heap.size<=w'.heap.size/\ ∀b,b < w.heap.size->¬A b->(w'.heap[b]? =w.heap[b]? /\¬l b)
def lY{a:Addr}(h:w'.heap[a.block]? =w.heap[a.block]?):w'.cell? a=w.cell? a:=by simp[World.cell?,h]
def RT.keeps(Z:dS A l w w'){t:T}(h:RT w A t x):RT w' l t x:=by
 induction h with
 |val h=>exact .val h
 |nil=>exact .nil
 |aO f U v G a L D J M=>
  obtain⟨O,Y⟩:=Z.2 _ G a;refine .aO f U v (aar G Z.1) Y L (λi e j c H Q=>?_) M;rw[lY (w:=w) O];exact D i e j c H Q
inductive C where
 |t (x:T)
 |own (id sz i len:Nat)
 |ptr (id sz i j:Nat)
 |yz (e:Lt) (j:Nat)
 |oO (f:FuncId) (eE:List (Nat×Nat×Nat×Nat))
 |map (id:Nat)
 |it (id:Nat)
 |Ix (f:FuncId) (g:Bool) (ts:Lt)
 |pk (ts:Lt)
 |any
 deriving Inhabited
abbrev Lc:=List C
abbrev Lq:=List (List C)
abbrev Env:=Nat->Option Loc
def RP(ρ:Env)(id sz i j:Nat)(x:Value):Prop:=
 ∃b,ρ id=some (.gD b)/\x= .pointer (some ⟨b,i * sz+j,none⟩)
def RF(w:World)(A:agt)(g:Bool)(ts:Lt)(x:Value):Prop:=
 match g with
 |true=> ∃o:Array Value,x= .agg o/\ts.length=o.size/\ ∀ (k:Nat) (t:T) (y:Value),ts[k]? =some t->o[k]? =some y->RT w A t y/\cz y=true|false=> ∃t,ts=[t]/\RT w A t x/\cz x=true
def RF.keeps{A l:agt}{w w':World}(Z:dS A l w w'){g:Bool}{ts:Lt}{x:Value}(h:RF w A g ts x):RF w' l g ts x:=by
 cases g with
 |true=>
  obtain⟨o,O,Y,B⟩:=h;exact⟨o,O,Y,λk t y Q G=>⟨(B k t y Q G).1.keeps Z,(B k t y Q G).2⟩⟩
 |false=>
  obtain⟨t,O,Y,B⟩:=h;exact⟨t,O,Y.keeps Z,B⟩
def RC(w:World)(A:agt)(ρ:Env):C->Value->Prop
 | .t x,v=>RT w A x v
 | .own id N i len,v=>
    (∃b M n e,ρ id=some (.gD b)/\v= .slice (some ⟨b,i * N,none⟩) len M/\len<=M/\
      w.shape? b=some (e,n)/\i * N+M * N<=n)\/
    (ρ id=some .dQ/\i=0/\len=0/\v= .slice none 0 0)
 | .ptr id N i j,v=>RP ρ id N i j v
 | .yz e j,v=> ∃b o, ∃f:Nat->Value,v= .pointer (some ⟨b,o+j,none⟩)/\b < w.heap.size/\¬A b/\
    (∀ (k:Nat) (c:T),e[k]? =some c->w.cell? ⟨b,o+k,none⟩=some (f k)/\RT w A c (f k))
 | .oO f U,v=> ∃Q:Array Value,v= .func (.func f) #[] Q/\U.length=Q.size/\
    ∀ (k id N i j:Nat) (x:Value),U[k]? =some (id,N,i,j)->Q[k]? =some x->RP ρ id N i j x
 | .map id,v=> ∃b,ρ id=some (.gD b)/\v= .map (some b)| .it id,v=> ∃b r F d,ρ id=some (.gD b)/\v= .pointer (some ⟨r,0,none⟩)/\r < w.heap.size/\¬A r/\w.heap[r]? =some (.mapIter (some b) F #[] d)| .Ix f g Z,v=> ∃x,v= .func (.func f) #[x] #[]/\RF w A g Z x| .pk Z,v=>RF w A true Z v| .any,_=>True
def dD(ρ ρ':Env):Prop:= ∀id l,ρ id=some l->ρ' id=some l
variable{ρ ρ':Env}
def RP.ext(h:dD ρ ρ'){id sz i j:Nat}(hp:RP ρ id sz i j x):RP ρ' id sz i j x:=by
 obtain⟨b,O,Y⟩:=hp;exact⟨b,h _ _ O,Y⟩
def RC.keeps{A l:agt}{ρ ρ':Env}{w w':World}(Z:dS A l w w')(S:∀k,k < w.heap.size->w'.shape? k=w.shape? k)
 (H:dD ρ ρ') {c:C} {x:Value} (h:RC w A ρ c x):RC w' l ρ' c x:=by
 cases c with
 |t y=>exact RT.keeps Z h
 |own id N i len=>
  rcases h with⟨b,M,n,e,O,Y,B,s,U⟩|⟨O,Y⟩
  . refine .inl ⟨b,M,n,e,H _ _ O,Y,B,?_,U⟩;rw[S b ?_,s];rcases aa8 b w.heap.size with R|J
    . exact R
    . simp[World.shape?,aav J]at s
  . exact .inr ⟨H _ _ O,Y⟩
 |ptr id N i j=>exact RP.ext H h
 |yz e j=>
  obtain⟨b,o,f,O,Y,B,s⟩:=h;obtain⟨P,v⟩:=Z.2 _ Y B;refine⟨b,o,f,O,aar Y Z.1,v,λk c D=>?_⟩;obtain⟨U,a⟩:=s k c D;exact⟨by rw[lY (w:=w) P];exact U,RT.keeps Z a⟩
 |oO f K=>
  obtain⟨Q,O,Y,B⟩:=h;exact⟨Q,O,Y,λk id N i j x D z=>RP.ext H (B k id N i j x D z)⟩
 |map id=>
  obtain⟨b,O,Y⟩:=h;exact⟨b,H _ _ O,Y⟩
 |it id=>
  obtain⟨b,r,F,d,O,Y,B,s,U⟩:=h;obtain⟨P,v⟩:=Z.2 _ B s;exact⟨b,r,F,d,H _ _ O,Y,aar B Z.1,v,by rw[P];exact U⟩
 |Ix f g L=>
  obtain⟨x,O,Y⟩:=h;exact⟨x,O,Y.keeps Z⟩
 |pk L=>exact RF.keeps (g:=true) (ts:=L) (x:=x) Z h
 |any=>trivial
inductive W where
 |one (c:C)
 |agg (cs:Lc)
 deriving Inhabited
abbrev Lw:=List W
inductive V where
 |w (x:W)
 |fB (ws:Lw)
 |undef
 deriving Inhabited
def DL(w:World)(A:agt)(ρ:Env)(cs:Lc)(vs:Array Value):Prop:=
 cs.length=vs.size/\ ∀ (k:Nat) (c:C) (x:Value),cs[k]? =some c->vs[k]? =some x->RC w A ρ c x/\cz x=true
def RW(w:World)(A:agt)(ρ:Env):W->Value->Prop
 | .one c,v=>RC w A ρ c v/\cz v=true| .agg R,v=> ∃o,v= .agg o/\DL w A ρ R o
def RV(w:World)(A:agt)(ρ:Env):V->Value->Prop
 | .w x,v=>RW w A ρ x v| .fB F,v=> ∃o:Array Value,v= .tuple o/\F.length=o.size/\ ∀ (k:Nat) (u:W) (x:Value),F[k]? =some u->o[k]? =some x->RW w A ρ u x| .undef,_=>True
def DL.keeps{A l:agt}{ρ ρ':Env}{w w':World}(Z:dS A l w w')(S:∀k,k < w.heap.size->w'.shape? k=w.shape? k)
 (H:dD ρ ρ') {cs:Lc} {vs:Array Value} (h:DL w A ρ cs vs):DL w' l ρ' cs vs:=
 ⟨h.1,λk c x D N=>⟨(h.2 k c x D N).1.keeps Z S H,(h.2 k c x D N).2⟩⟩
def RW.keeps{A l:agt}{ρ ρ':Env}{w w':World}(Z:dS A l w w')(S:∀k,k < w.heap.size->w'.shape? k=w.shape? k)
 (H:dD ρ ρ') {u:W} {x:Value} (h:RW w A ρ u x):RW w' l ρ' u x:=by
 cases u with
 |one c=>exact⟨h.1.keeps Z S H,h.2⟩
 |agg R=>obtain⟨o,O,Y⟩:=h;exact⟨o,O,Y.keeps Z S H⟩
def RV.keeps{A l:agt}{ρ ρ':Env}{w w':World}(Z:dS A l w w')(S:∀k,k < w.heap.size->w'.shape? k=w.shape? k)
 (H:dD ρ ρ') {u:V} {x:Value} (h:RV w A ρ u x):RV w' l ρ' u x:=by
 cases u with
 |w y=>exact RW.keeps Z S H h
 |fB F=>obtain⟨o,O,Y,B⟩:=h;exact⟨o,O,Y,λk u x L N=>(B k u x L N).keeps Z S H⟩
 |undef=>trivial
def C.Kb:C->Bool
 | .pk _=>true|_=>false
def DW(c:C)(v:Value):Prop:=cz v=true\/c.Kb=true
def cw:C->W
 | .pk Z=> .agg (Z.map .t)|c=> .one c
def asO{c:C}(h:c.Kb=false):cw c= .one c:=by cases c<;>simp[C.Kb]at h<;>rfl
def DW.rw{w:World}{A:agt}{ρ:Env}{c:C}{v:Value}(d:DW c v)(h:RC w A ρ c v):RW w A ρ (cw c) v:=by
 cases hp:c.Kb with
 |false=>
  rw[asO hp];exact⟨h,d.elim id (λe=>by rw[hp]at e;simp at e)⟩
 |true=>
  cases c<;>simp[C.Kb]at hp
  obtain⟨o,O,Y,B⟩:=h;refine⟨o,O,xT,λk c x D N=>?_⟩;simp only[yu,jU]at D;obtain⟨t,Q,rfl⟩:=D;exact B k t x Q N
def DW.pk{w:World}{A:agt}{ρ:Env}{ts:Lt}{v:Value}(h:RW w A ρ (.agg (ts.map .t)) v):RC w A ρ (.pk ts) v/\DW (.pk ts) v:=by
 obtain⟨o,O,Y⟩:=h;exact⟨⟨o,O,by simpa using Y.1,λk t y Q G=>Y.2 k (.t t) y Fc G⟩,.inr rfl⟩
inductive bE where
 |row (sz:Nat) (xs:Lq)
 |mp (es:List (Value×C×Nat)) (clock:Nat)
 deriving Inhabited
def HB(w:World)(M A:agt)(ρ:Env)(id:Nat):bE->Prop
 | .row N o=>
   (∀e,e∈o->e.length=N)/\
   ((∃b c e,ρ id=some (.gD b)/\M b/\A b/\w.heap[b]? =some (.cells c e (0,0))/\o.length * N<=c.size/\
     ∀ (i:Nat) (r:Lc) (j:Nat) (k:C),o[i]? =some r->r[j]? =some k-> ∃x,c[i * N+j]? =some x/\RC w A ρ k x/\cz x=true)\/
   (ρ id=some .dQ/\o=[]))
 | .mp B Y=> ∃ (b:Nat) (d:Array MapEntry),ρ id=some (.gD b)/\M b/\A b/\w.heap[b]? =some (.map d Y)/\d.size=B.length/\
    ∀ (i:Nat) (k:Value) (c:C) (n:Nat),B[i]? =some (k,c,n)-> ∃e,d[i]? =some e/\e.key=k/\e.born=n/\RC w A ρ c e.val/\DW c e.val
def find{α:Type}:List (Nat×α)->Nat->Option α
 | [],_=>none
 |(k,v)::r,t=>if k=t then some v else find r t
structure St where
 n:Nat
 tmps:List (Nat×V)
 heap:List (Nat×bE)
 deriving Inhabited
def St.put(st:St)(dst:Option Tmp)(v:V):St:=
 match dst with
 |some d=>{st with tmps:=(d,v)::st.tmps}
 |none=>st
def uw(M A:agt)(w:World):Prop:=
 ∀g o,uC GH g=some o->g < w.heap.size/\¬M g/\¬A g/\(∃t s,w.heap[g]? =some (.cells o.toArray t s))/\ ∀ (k:Nat) (v:Value),o[k]? =some v->w.cell? ⟨g,k,none⟩=some v/\cz v=true
def uw.sub{n:agt}(h:uw M A w)(j:∀b,b < w.heap.size->n b->M b)(a:∀b,l b->A b):uw n l w:=λg o D=>
 ⟨(h g o D).1,λk=>(h g o D).2.1 (j _ (h g o D).1 k),λk=>(h g o D).2.2.1 (a _ k),(h g o D).2.2.2⟩
structure Rel(M A:agt)(ρ:Env)(F:agt)(st:St)(a:Act)(w:World):Prop where
 size:a.tmps.size=st.n
 defers:a.defers=[]
 tmps:∀t v,find st.tmps t=some v->RV w A ρ v (a.tmps.getD t undef)
 heap:∀id blk,find st.heap id=some blk->HB w M A ρ id blk
 inj:∀id id' blk gU b,find st.heap id=some blk->find st.heap id'=some gU->ρ id=some (.gD b)->ρ id'=some (.gD b)->id=id'
 fresh:∀id,F id->ρ id=none
 bound:∀b,A b->b < w.heap.size
 may:∀b,w.heap.size<=b->M b
 dR:uw M A w
def bY(A l:agt)(w:World):Prop:=(∀b,A b->l b)/\ ∀b,b < w.heap.size->l b->A b
def uw.LN(h:uw M A w)(H:dA M w w')(a:∀b,b < w.heap.size->l b->A b):uw M l w':=λg o D=>by
 obtain⟨O,Y,B,G,s⟩:=h g o D;refine⟨aar O H.size,Y,λk=>B (a g O k),by rw[H.block g O Y];exact G,λk v Z=>?_⟩;obtain⟨U,R⟩:=s k v Z;exact⟨by rw[lY (w:=w) (H.block g O Y)];exact U,R⟩
def bY.refl(A:agt)(w:World):bY A A w:=⟨λ_ h=>h,λ_ _ h=>h⟩
def bY.new(A:agt)(w:World):bY A (λb=>A b\/b=w.heap.size) w:=
 ⟨λ_ h=> .inl h,λb G h=>h.elim id (λe=>by omega)⟩
def bY.trans{c:agt}(h:bY A l w)(k:bY l c w')(a:w.heap.size<=w'.heap.size):bY A c w:=
 ⟨λb G=>k.1 b (h.1 b G),λb G N=>h.2 b G (k.2 b (aar G a) N)⟩
def Sub(F:agt)(nid:Nat):Nat->Prop:=λid=>F id/\¬ (nid<=id/\id < nid+4)
def uq(M A:agt)(ρ:Env)(F:agt)(a:Act)(w:World)(r:Result Next)(st':St)(v:V):Prop:=
 ∃x j l s,(r= .ok (.value x) j\/(r= .ok .skip j/\x=undef))/\Rel M l s F st' a j/\RV j l s v x/\dA M w j/\dD ρ s/\bY A l w
variable{st:St}
def Rel.sub(h:Rel M A ρ F st a w)(o:∀id,F' id->F id):Rel M A ρ F' st a w:=
 ⟨h.size,h.defers,h.tmps,h.heap,h.inj,λid I=>h.fresh id (o id I),h.bound,h.may,h.dR⟩
def dD.refl(ρ:Env):dD ρ ρ:=λ_ _ h=>h
def dD.trans{a b c:Env}(h:dD a b)(k:dD b c):dD a c:=λi l I=>k i l (h i l I)
def uq.same{r:Result Next}{v:V}
 (J:Rel M A ρ F st a w) (o:∀id,F' id->F id) (h:r= .ok (.value x) w) (z:RV w A ρ v x):uq M A ρ F' a w r st v:=
 ⟨x,w,A,ρ,.inl h,J.sub o,z,dA.refl _ _,dD.refl _,bY.refl A w⟩
def aF{α:Type}(k:Nat)(v:α)(r:List (Nat×α))(t:Nat):find ((k,v)::r) t=if k=t then some v else find r t:=rfl
def Rel.put{M A:agt}{ρ:Env}{F:agt}{st:St}{a:Act}{w:World}(h:Rel M A ρ F st a w){dst:Option Tmp}{v:V}{x:Value}
 (z:RV w A ρ v x) (S:∀d,dst=some d->d < st.n):Rel M A ρ F (st.put dst v) (a.put dst x) w:=by
 cases dst with
 |none=>exact h
 |some d=>
  refine⟨by simp[Act.put,St.put,h.size],h.defers,λt u L=>?_,h.heap,h.inj,h.fresh,h.bound,h.may,h.dR⟩;simp only[St.put,aF]at L;simp only[Act.put];split at L
  . rename_i b;subst b;simp only[ii]at L;subst L;have:=S d rfl;rw[<-h.size]at this;simpa[aae,Array.getElem?_setIfInBounds_self,this]using z
  . rename_i b;have:=h.tmps t u L;simpa[aae,abb b]using this
def Rel.drew(h:Rel M A ρ F st a w):
 Rel M A ρ F st a {w with drawn:=w.drawn+1}:=by
 have Z:dS A A w {w with drawn:=w.drawn+1}:=⟨ww _,λb _ K=>⟨rfl,K⟩⟩;refine⟨h.size,h.defers,λt v z=>(h.tmps t v z).keeps Z (λ_ _=>rfl) (dD.refl _),λid l G=>?_,h.inj,h.fresh,h.bound,h.may,h.dR⟩;have:=h.heap id l G
 cases l with
 |row P o=>
  obtain⟨O,Y⟩:=this;refine⟨O,?_⟩;rcases Y with⟨b,c,e,s,L,H,S,R,k6⟩|Y
  . refine .inl ⟨b,c,e,s,L,H,S,R,λi r j k I Q=>?_⟩;obtain⟨x,N,D,hcell⟩:=k6 i r j k I Q;exact⟨x,N,D.keeps Z (λ_ _=>rfl) (dD.refl _),hcell⟩
  . exact .inr Y
 |mp J y=>
  obtain⟨b,d,s,L,H,S,R,k6⟩:=this;refine⟨b,d,s,L,H,S,R,λi k c n I=>?_⟩;obtain⟨e,O,Y,B,g,U⟩:=k6 i k c n I;exact⟨e,O,Y,B,g.keeps Z (λ_ _=>rfl) (dD.refl _),U⟩
def HB.keeps{M A l:agt}{ρ ρ':Env}{w w':World}{id:Nat}{blk:bE}(Z:dS A l w w')(S:∀k,k < w.heap.size->w'.shape? k=w.shape? k)
 (H:dD ρ ρ') (a:∀b,A b->l b) (K:∀b,ρ id=some (.gD b)->w'.heap[b]? =w.heap[b]?) (h:HB w M A ρ id blk):HB w' M l ρ' id blk:=by
 cases blk with
 |row L o=>
  obtain⟨O,Y⟩:=h;refine⟨O,?_⟩;rcases Y with⟨b,c,e,s,v,z,R,P,F⟩|⟨Y,B⟩
  . refine .inl ⟨b,c,e,H _ _ s,v,a _ z,by rw[K b s];exact R,P,λi r j k I Q=>?_⟩;obtain⟨x,N,D,G⟩:=F i r j k I Q;exact⟨x,N,D.keeps Z S H,G⟩
  . exact .inr ⟨H _ _ Y,B⟩
 |mp J y=>
  obtain⟨b,d,s,v,z,R,P,F⟩:=h;refine⟨b,d,H _ _ s,v,a _ z,by rw[K b s];exact R,P,λi k c n I=>?_⟩;obtain⟨e,O,Y,B,g,U⟩:=F i k c n I;exact⟨e,O,Y,B,g.keeps Z S H,U⟩
def jm(ρ ρ':Env):Prop:= ∀id l,id < 4->ρ id=some l->ρ' id=some l
def dD.T6(h:dD ρ ρ'):jm ρ ρ':=λid l _ U=>h id l U
def jm.refl(ρ:Env):jm ρ ρ:=λ_ _ _ h=>h
def jm.trans{a b c:Env}(h:jm a b)(k:jm b c):jm a c:=λi l I U=>k i l I (h i l I U)
def V.ofValue(v:Value):V:=
 match v with
 | .agg R=>if R.toList.all cz then .w (.agg (R.toList.map λc=> .t (.val c)))else .undef
 | .tuple _=> .undef|v=> .w (.one (.t (.val v)))
def RV.ofValue(w:World)(A:agt)(ρ:Env)(v:Value):RV w A ρ (V.ofValue v) v:=by
 cases v
 case agg R=>
  simp only[V.ofValue];split
  . rename_i h;refine⟨R,rfl,ak,λk c x D N=>?_⟩;simp only[yu,aaN,N,wv,ii]at D;subst D
    have r:x∈R.toList:=by
     have:=oo (l:=R.toList) (i:=k) (a:=x) iL;exact this
    have:=yt.1 h x r;exact⟨.val this,this⟩
  . trivial
 case tuple=>trivial
 all_goals exact⟨.val rfl,rfl⟩
def Wg(g:Nat):V:=
 match uC GH g with
 |some o=> .w (.one (.yz (o.map .val) 0))|none=>V.ofValue (.pointer (some ⟨g,0,none⟩))
def St.get(st:St):Operand->V
 | .tmp t=>(find st.tmps t).getD .undef| .const v=>V.ofValue v| .global g=>Wg g| .func f=>V.ofValue (.func (.func f) #[] #[])
def Rel.get{M A:agt}{ρ:Env}{F:agt}{st:St}{a:Act}{w:World}(h:Rel M A ρ F st a w)(x:Operand):RV w A ρ (st.get x) (a.eval x):=by
 cases x with
 |tmp t=>
  simp only[St.get,Act.eval]
  cases ht:find st.tmps t with
  |none=>trivial
  |some v=>exact h.tmps t v ht
 |const v=>exact RV.ofValue w A ρ v
 |global g=>
  simp only[St.get,Act.eval,Wg]
  cases hg:uC GH g with
  |none=>exact RV.ofValue w A ρ (.pointer (some ⟨g,0,none⟩))
  |some o=>
   obtain⟨O,Y,B,_,s⟩:=h.dR g o hg;refine⟨⟨g,0,λk=>(o[k]?).getD undef,rfl,O,B,λk c D=>?_⟩,rfl⟩;simp only[yu,jU]at D;obtain⟨v,z,rfl⟩:=D;obtain⟨U,R⟩:=s k v z;simp only[z,YJ,aas];exact⟨U,.val R⟩
 |func f=>exact RV.ofValue w A ρ (.func (.func f) #[] #[])
def C.val?:C->Option Value
 | .t (.val v)=>some v|_=>none
def kg:Lc->Option (List Value)
 | []=>some []
 |c::R=>match c.val?,kg R with
  |some v,some o=>some (v::o)|_,_=>none
def W.val?:W->Option Value
 | .one c=>c.val?| .agg R=>(kg R).map λo=> .agg o.toArray
def vl:Lw->Option (List Value)
 | []=>some []
 |c::R=>match c.val?,vl R with
  |some v,some o=>some (v::o)|_,_=>none
def V.val?:V->Option Value
 | .w u=>u.val?| .fB F=>(vl F).map λo=> .tuple o.toArray| .undef=>none
def C.bR{c:C}{v:Value}(h:c.val? =some v)(J:RC w A ρ c x):x=v:=by
 cases c with
 |t y=>
  cases y with
  |val u=>simp only[C.val?,ii]at h;subst h;cases J;rfl
  |aO N o=>simp[C.val?]at h
 |_=>simp[C.val?]at h
def wD:∀ {cs:Lc} {vs:List Value},kg cs=some vs->vs.length=cs.length
 | [],vs,h=>by simp[kg]at h;subst h;rfl
 |c::cs,vs,h=>by
  simp only[kg]at h;split at h
  . rename_i v A _ L;simp only[ii]at h;subst h;simp[wD L]
  . simp at h
def E0:∀ {cs:Lc} {vs:List Value},kg cs=some vs-> ∀ (k:Nat) (c:C),cs[k]? =some c-> ∃v,vs[k]? =some v/\c.val? =some v
 | [],vs,h,k,c,D=>by simp at D
 |c::cs,vs,h,k,d,D=>by
  simp only[kg]at h;split at h
  . rename_i v A z L;simp only[ii]at h;subst h
    cases k with
    |zero=>simp only[yq,ii]at D;subst D;exact⟨v,rfl,z⟩
    |succ k=>simpa using E0 L k d af3
  . simp at h
def DL.aGV{cs:Lc}{vs:List Value}{xs:Array Value}(h:kg cs=some vs)(J:DL w A ρ cs xs):xs=vs.toArray:=by
 apply Array.ext';apply abm;intro k;have U:=wD h
 by_cases Z:k < cs.length
 . obtain⟨v,z,b⟩:=E0 h k cs[k] ago;have a:k < xs.size:=J.1▸Z;have N:xs[k]? =some xs[k]:=afs
   have:=C.bR b (J.2 k cs[k] xs[k] ago N).1;simp[z,N,this]
 . have O:xs.toList.length<=k:=by have:=J.1;simp;omega
   have Y:vs.length<=k:=aa
   simp[abe Y];have:=J.1;omega
def W.bR{w:World}{A:agt}{ρ:Env}{u:W}{v x:Value}(h:u.val? =some v)(J:RW w A ρ u x):x=v:=by
 cases u with
 |one c=>exact C.bR h J.1
 |agg R=>
  simp only[W.val?,jU]at h;obtain⟨Q,O,rfl⟩:=h;obtain⟨o,rfl,Y⟩:=J;rw[Y.aGV O]
def ux:∀ {cs:Lw} {vs:List Value},vl cs=some vs->vs.length=cs.length
 | [],vs,h=>by simp[vl]at h;subst h;rfl
 |c::cs,vs,h=>by
  simp only[vl]at h;split at h
  . rename_i v A _ L;simp only[ii]at h;subst h;simp[ux L]
  . simp at h
def BT:∀ {cs:Lw} {vs:List Value},vl cs=some vs-> ∀ (k:Nat) (c:W),cs[k]? =some c-> ∃v,vs[k]? =some v/\c.val? =some v
 | [],vs,h,k,c,D=>by simp at D
 |c::cs,vs,h,k,d,D=>by
  simp only[vl]at h;split at h
  . rename_i v A z L;simp only[ii]at h;subst h
    cases k with
    |zero=>simp only[yq,ii]at D;subst D;exact⟨v,rfl,z⟩
    |succ k=>simpa using BT L k d af3
  . simp at h
def V.bR{w:World}{A:agt}{ρ:Env}{u:V}{v x:Value}(h:u.val? =some v)(J:RV w A ρ u x):x=v:=by
 cases u with
 |w y=>exact W.bR h J
 |fB F=>
  simp only[V.val?,jU]at h;obtain⟨Q,O,rfl⟩:=h;obtain⟨o,rfl,Y,B⟩:=J;congr 1;apply Array.ext';apply abm;intro k;have U:=ux O
  by_cases Z:k < F.length
  . obtain⟨v,z,b⟩:=BT O k F[k] ago;have a:k < o.size:=Y▸Z;have N:o[k]? =some o[k]:=afs
    have:=W.bR b (B k F[k] o[k] ago N);simp[z,N,this]
  . have j:Q.length<=k:=aa
    simp[abe j];omega
 |undef=>simp[V.val?]at h
def aX(P:Program){α:Type}:Sem α->Option α
 | .pure a=>some a| .program k=>aX P (k P)| .mark _ k=>aX P k|_=>none
def sD{P:Program}{α:Type}{s:Sem α}{a:α}(h:aX P s=some a)(w:World):s.run P w= .ok a w:=by
 induction s with
 |pure b=>simp only[aX,ii]at h;subst h;rfl
 |program k c=>simp only[aX]at h;simp only[Sem.run];exact c _ h
 |mark m k c=>simp only[aX]at h;simp only[Sem.run];exact c h
 |_=>simp[aX]at h
def jL:Op->Bool
 | .select .. =>false|_=>true
def bS(P:Program)(get:Operand->V)(o:Oper):Option V:=
 if jL o.op&&o.op.operands.toList.all λx=>(get x).val?.isSome then
  match aX P (execOp (λx=>((get x).val?).getD undef) o)with
  |some (.value v)=>some (V.ofValue v)|_=>none
 else none
def kQ{P:Program}{o:Oper}{v:V}
 (h:bS P st.get o=some v) (J:Rel M A ρ F st a w) (g:∀id,F' id->F id):uq M A ρ F' a w ((execOp a.eval o).run P w) st v:=by
 unfold bS at h;split at h
 . rename_i n;simp only[LD,yt,ab2]at n;split at h
   . rename_i x N;simp only[ii]at h;subst h
     have H:execOp a.eval o=execOp (λx=>((st.get x).val?).getD undef) o:=by
      apply execOp_congr
      . intro R b S;have:=n.1;simp[S,jL]at this
      . intro y G;have:=n.2 y G
        cases hv:(st.get y).val? with
        |none=>simp[hv]at this
        |some u=>simpa using V.bR hv (J.get y)
     rw[H];exact uq.same J g (sD N w) (RV.ofValue w A ρ x)
   . simp at h
 . simp at h
end Go.aW
namespace Go.aW
open Go
def dr(ρ:Env)(id:Nat)(l:Loc):Env:=λk=>if k=id then some l else ρ k
def dD.jB{ρ:Env}{id:Nat}{l:Loc}(h:ρ id=none):dD ρ (dr ρ id l):=by
 intro k m Z;simp only[dr];split
 . rename_i e;subst e;simp[h]at Z
 . exact Z
variable{P:Program}{M A:agt}{ρ:Env}{F:agt}{st:St}{a:Act}{w:World}
def HB.lt{id:Nat}{blk:bE}{b:Nat}(h:HB w M A ρ id blk)(H:ρ id=some (.gD b)):b < w.heap.size/\M b/\A b:=by
 cases blk with
 |row N o=>
  rcases h.2 with⟨K,c,e,s,v,z,S,P,F⟩|⟨Y,_⟩
  . rw[H]at s;simp only[ii,Loc.gD.injEq]at s;subst s;refine⟨?_,v,z⟩;rcases aa8 b w.heap.size with U|D
    . exact U
    . simp[aav D]at S
  . simp[H]at Y
 |mp B I=>
  obtain⟨K,d,s,v,z,S,P,F⟩:=h;rw[H]at s;simp only[ii,Loc.gD.injEq]at s;subst s;refine⟨?_,v,z⟩;rcases aa8 b w.heap.size with U|D
  . exact U
  . simp[aav D]at S
def sO(o:Obj):dS A (λb=>A b\/b=w.heap.size) w (w.alloc o):=
 ⟨ak,λb l K=>⟨RowKit.Below.heap_alloc w o b l,λh=>h.elim K (λe=>by omega)⟩⟩
def ow(o:Obj)(k:Nat)(Z:k < w.heap.size):(w.alloc o).shape? k=w.shape? k:=(dA.alloc (λ_=>False) w o).shape k Z
def Rel.alloc(h:Rel M A ρ F st a w){nid:Nat}(K:F nid){sz:Nat}{xs:Lq}{c:Array Value}{e:TypeId}
 (L:∀r,r∈xs->r.length=sz) (n:xs.length * sz<=c.size)
 (D:∀ (i:Nat) (r:Lc) (j:Nat) (k:C),xs[i]? =some r->r[j]? =some k-> ∃x,c[i * sz+j]? =some x/\RC w A ρ k x/\cz x=true):
 Rel M (λb=>A b\/b=w.heap.size) (dr ρ nid (.gD w.heap.size)) (Sub F nid) {st with heap:=(nid,.row sz xs)::st.heap} a (w.alloc (.cells c e))/\
  dD ρ (dr ρ nid (.gD w.heap.size)):=by
 have d:=h.fresh nid K;have R:dD ρ (dr ρ nid (.gD w.heap.size)):=dD.jB d;have Z:=sO (A:=A) (w:=w) (.cells c e);have S:=ow (w:=w) (.cells c e);have s:(w.alloc (.cells c e)).heap[w.heap.size]? =some (.cells c e (0,0)):=heap_alloc_new w _;refine⟨⟨h.size,h.defers,λt v z=>(h.tmps t v z).keeps Z S R,?_,?_,?_,?_,?_,h.dR.LN (dA.alloc _ _ _) (λb G h=>h.elim id (λe=>by omega))⟩,R⟩
 . intro id blk hf;simp only[aF]at hf;split at hf
   . rename_i y;subst y;simp only[ii]at hf;subst hf;refine⟨L,.inl ⟨w.heap.size,c,e,by simp[dr],h.may _ (ww _),.inr rfl,s,by simpa using n,λi r j k I Q=>?_⟩⟩;obtain⟨x,N,J,O⟩:=D i r j k I Q;exact⟨x,iL,J.keeps Z S R,O⟩
   . have G:=h.heap id blk hf;exact G.keeps Z S R (λb G=> .inl G) (λb g=>RowKit.Below.heap_alloc w _ b (G.lt g).1)
 . intro id id' blk gU b hf qj J cU;simp only[aF]at hf qj;simp only[dr]at J cU
   by_cases H:nid=id<;>by_cases o:nid=id'
   . omega
   . simp only[o,if_false]at qj;have:¬id'=nid:=λe=>o e.symm;simp only[this,if_false]at cU;simp only[H.symm,if_true,ii,Loc.gD.injEq]at J;have:=((h.heap id' gU qj).lt cU).1;omega
   . simp only[H,if_false]at hf;have:¬id=nid:=λe=>H e.symm;simp only[this,if_false]at J;simp only[o.symm,if_true,ii,Loc.gD.injEq]at cU;have:=((h.heap id blk hf).lt J).1;omega
   . simp only[H,o,if_false]at hf qj;have U:¬id=nid:=λe=>H e.symm;have l:¬id'=nid:=λe=>o e.symm;simp only[U,l,if_false]at J cU;exact h.inj id id' blk gU b hf qj J cU
 . intro id I;have:¬id=nid:=λe=>I.2 ⟨aa,aa⟩;simp only[dr,this,if_false];exact h.fresh id I.1
 . intro b G;simp only[World.alloc,acY];rcases G with G|G
   . have:=h.bound b G;omega
   . omega
 . intro b G;refine h.may b ?_;simp only[World.alloc,acY]at G;omega
def cellsOf:W->Lc
 | .one c=>[c]| .agg R=>R
def RW.cells{u:W}{x:Value}(h:RW w A ρ u x):DL w A ρ (cellsOf u) x.cells:=by
 cases u with
 |one c=>
  have N:x.cells= #[x]:=by
   have:=h.2;cases x<;>simp[Value.oneCell']at this<;>rfl
  rw[N];refine⟨rfl,λk d y S G=>?_⟩
  cases k with
  |zero=>
   simp only[cellsOf,yq,ii]at S;simp at G;subst S;subst G;exact h
  |succ k=>simp[cellsOf]at S
 |agg R=>
  obtain⟨o,rfl,Y⟩:=h;exact Y
def deref(heap:List (Nat×bE)):C->Option (Lc×Nat)
 | .ptr id N i j=>
   match find heap id with
   |some (.row D o)=>if D=N then(o[i]?).map λe=>(e,j)else none
   |_=>none
 | .yz e j=>some (e.map .t,j)|_=>none
variable{cs:Lc}
def Au(h:Rel M A ρ F st a w){c:C}{x:Value}{j:Nat}(S:deref st.heap c=some (cs,j))(J:RC w A ρ c x):
 ∃b o,x= .pointer (some ⟨b,o+j,none⟩)/\ ∀ (k:Nat) (d:C),cs[k]? =some d-> ∃y,w.cell? ⟨b,o+k,none⟩=some y/\RC w A ρ d y/\cz y=true:=by
 cases c with
 |ptr id P i j'=>
  simp only[deref]at S;split at S
  . rename_i D N R;split at S
    . rename_i n;subst n;simp only[jU,uu]at S;obtain⟨e,H,rfl,rfl⟩:=S;obtain⟨b,I,rfl⟩:=J;obtain⟨_,G⟩:=h.heap id _ R;rcases G with⟨K,c,t,s,v,z,l,r,k6⟩|⟨Y,_⟩
      . rw[I]at s;simp only[ii,Loc.gD.injEq]at s;subst s;refine⟨b,i * D,rfl,λk d Z=>?_⟩;obtain⟨y,L,J,O⟩:=k6 i e k d H Z;exact⟨y,by simp[World.cell?,l,L],J,O⟩
      . simp[I]at Y
    . simp at S
  . simp at S
 |yz e j'=>
  simp only[deref,ii,uu]at S;obtain⟨rfl,rfl⟩:=S;obtain⟨b,o,f,rfl,O,Y,B⟩:=J;refine⟨b,o,rfl,λk d Z=>?_⟩;simp only[yu,jU]at Z;obtain⟨t,Q,rfl⟩:=Z;obtain⟨g,U⟩:=B k t Q;exact⟨f k,g,U,U.cell⟩
 |_=>simp[deref]at S
def lc(P:Program)(t:TypeId):Option Bool:=
 match P.underlying t with
 |some (.struct _)|some (.array _ _)=>some true|some _=>some false|none=>none
def tN{t:TypeId}{b:Bool}(h:lc P t=some b):(isAgg t).run P w= .ok b w:=by
 unfold lc at h
 cases hu:P.underlying t with
 |none=>simp[hu]at h
 |some d=>
  cases d<;>simp[hu]at h<;>subst h<;>simp[isAgg,run_underlying hu]
def dc(P:Program)(t:TypeId):Option Nat:=(P.info? t).map (·.size)
def run_sizeOf{t:TypeId}{n:Nat}(h:dc P t=some n):(sizeOf t).run P w= .ok n w:=by
 simp only[dc,jU]at h;obtain⟨i,I,rfl⟩:=h;simp[sizeOf,typeInfo,I]
def nN(P:Program)(t:TypeId)(cs:Lc)(j:Nat):Option W:=
 match lc P t with
 |some true=>
  match dc P t with
  |some n=>if j+n<=cs.length then some (.agg ((cs.drop j).take n))else none
  |none=>none
 |some false=>(cs[j]?).map .one|none=>none
def gA(P:Program)(t:TypeId)(v:V)(heap:List (Nat×bE)):Option V:=
 match v with
 | .w (.one c)=>
   match deref heap c with
   |some (R,j)=>(nN P t R j).map .w|none=>none
 |_=>none
def Ep{t:TypeId}{b o j:Nat}{u:W}(hp:nN P t cs j=some u)
 (D:∀ (k:Nat) (d:C),cs[k]? =some d-> ∃y,w.cell? ⟨b,o+k,none⟩=some y/\RC w A ρ d y/\cz y=true):
 ∃x,(loadVar t ⟨b,o+j,none⟩).run P w= .ok x w/\RW w A ρ u x:=by
 unfold nN at hp;split at hp
 . rename_i l;split at hp
   . rename_i n K;split at hp
     . rename_i I;simp only[ii]at hp;subst hp
       have h:∀k,k < n-> ∃y,w.cell? ⟨b,o+j+k,none⟩=some y:=λk Z=>by
        obtain⟨y,G,_⟩:=D (j+k) cs[j+k] (by simp[show j+k < cs.length by omega]);exact⟨y,by rw[ab3];exact G⟩
       have e:∀k,k < n->w.cell? ((⟨b,o+j,none⟩:Addr).add k)=some ((w.cell? ⟨b,o+j+k,none⟩).getD undef):=λk Z=>by
        obtain⟨y,G⟩:=h k Z;rw[Addr.add_lit,G];rfl
       have U:=run_loadCells (P:=P) w ⟨b,o+j,none⟩ n _ e;refine⟨.agg ((List.range n).map λk=>(w.cell? ⟨b,o+j+k,none⟩).getD undef).toArray,by simp[loadVar,tN l,run_sizeOf K,U],_,rfl,by simp;omega,λk c x Z N=>?_⟩
       have g:k < n:=by
        have:=(jl.1 Z).1;simp at this;omega
       simp[g]at N
       have a:cs[j+k]? =some c:=by
        simpa[aa4,g]using Z
       obtain⟨y,G,J,O⟩:=D (j+k) c a;rw[<-ab3]at G;rw[G]at N;simp at N;subst N;exact⟨J,O⟩
     . simp at hp
   . simp at hp
 . rename_i l;simp only[jU]at hp;obtain⟨d,S,rfl⟩:=hp;obtain⟨y,G,J,O⟩:=D j d S;exact⟨y,by simp[loadVar,tN l,G],J,O⟩
 . simp at hp
def tj{t:TypeId}{x:Value}{v u:V}(h:Rel M A ρ F st a w)(H:gA P t v st.heap=some u)(z:RV w A ρ v x):
 ∃y,(Instr.loadAt t x).run P w= .ok y w/\RV w A ρ u y:=by
 unfold gA at H;split at H
 . rename_i c;split at H
   . rename_i U j S;simp only[jU]at H;obtain⟨g,R,rfl⟩:=H;obtain⟨b,o,rfl,D⟩:=Au h S z.1;obtain⟨y,G,J⟩:=Ep (P:=P) R D;exact⟨y,by simp[Instr.loadAt,Instr.sureAddr,G],J⟩
   . simp at H
 . simp at H
end Go.aW
namespace Go.aW
open Go
def jB{α:Type}:List (Nat×α)->Nat->α->List (Nat×α)
 | [],_,_=>[]
 |(k,v)::r,t,x=>if k=t then(k,x)::r else(k,v)::jB r t x
def del{α:Type}:List (Nat×α)->Nat->List (Nat×α)
 | [],_=>[]
 |(k,v)::r,t=>if k=t then del r t else(k,v)::del r t
def bO{α:Type}(l:List (Nat×α))(t:Nat)(x:α)(k:Nat):find (jB l t x) k=if k=t then(find l t).map (λ_=>x)else find l k:=by
 induction l with
 |nil=>simp[jB,find]
 |cons p r c=>
  obtain⟨q,v⟩:=p;simp only[jB]
  by_cases d:q=t
  . subst d;simp only[if_true,aF]
    by_cases Z:k=q
    . subst Z;simp
    . have:¬q=k:=λe=>Z e.symm;simp[Z,this]
  . simp only[d,if_false,aF,c]
    by_cases Z:k=t
    . subst Z;simp[d]
    . simp[Z]
def dG{α:Type}(l:List (Nat×α))(t k:Nat):find (del l t) k=if k=t then none else find l k:=by
 induction l with
 |nil=>simp[del,find]
 |cons p r c=>
  obtain⟨q,v⟩:=p;simp only[del]
  by_cases d:q=t
  . subst d;simp only[if_true,aF,c]
    by_cases Z:k=q
    . simp[Z]
    . have:¬q=k:=λe=>Z e.symm;simp[Z,this]
  . simp only[d,if_false,aF,c]
    by_cases Z:k=t
    . subst Z;simp[d]
    . simp[Z]
variable{P:Program}{M A:agt}{ρ:Env}{F:agt}{st:St}{a:Act}{w:World}
def Rel.forget(h:Rel M A ρ F st a w){st':St}(K:st'.n=st.n)(Q:∀t v,find st'.tmps t=some v->find st.tmps t=some v)
 (d:∀id b,find st'.heap id=some b->find st.heap id=some b):Rel M A ρ F st' a w:=
 ⟨h.size.trans K.symm,h.defers,λt v z=>h.tmps t v (Q t v z),λid b G=>h.heap id b (d id b G),
  λid S L o b O Y=>h.inj id S L o b (d _ _ O) (d _ _ Y),h.fresh,h.bound,h.may,h.dR⟩
def Rel.drop(h:Rel M A ρ F st a w)(id:Nat):Rel M A ρ F {st with heap:=del st.heap id} a w:=
 h.forget rfl (λ_ _ h=>h) (λk b Z=>by
  simp only[dG]at Z;split at Z
  . simp at Z
  . exact Z)
def qK{w:World}{b:Nat}{c c':Array Value}{e:TypeId}(D:w.heap[b]? =some (.cells c e (0,0)))(G:c'.size=c.size)(k:Nat):(w.setRow b c').shape? k=w.shape? k:=by
 by_cases Z:k=b
 . subst Z;simp[World.shape?,setRow_heap w k c c' e _ D,D,G]
 . simp[World.shape?,setRow_other w b k c' Z]
def dA.setRow{w:World}{b:Nat}{c c':Array Value}{e:TypeId}(D:w.heap[b]? =some (.cells c e (0,0)))(G:c'.size=c.size)(j:M b):dA M w (w.setRow b c'):=
 ⟨rfl,rfl,rfl,ak,λk _ K=>setRow_other w b k c' (λe=>K (e▸j)),λk _=>qK D G k⟩
variable{id:Nat}
def Rel.write(h:Rel M A ρ F st a w){sz:Nat}{xs xs':Lq}{b:Nat}{c c':Array Value}{e:TypeId}
 (R:find st.heap id=some (.row sz xs)) (H:ρ id=some (.gD b)) (D:w.heap[b]? =some (.cells c e (0,0))) (hsize:c'.size=c.size)
 (o:∀r,r∈xs'->r.length=sz) (n:xs'.length * sz<=c'.size)
 (hcell:∀ (i:Nat) (r:Lc) (j:Nat) (k:C),xs'[i]? =some r->r[j]? =some k-> ∃x,c'[i * sz+j]? =some x/\RC w A ρ k x/\cz x=true):
 Rel M A ρ F {st with heap:=jB st.heap id (.row sz xs')} a (w.setRow b c')/\dA M w (w.setRow b c'):=by
 obtain⟨G,U,L⟩:=(h.heap id _ R).lt H;have Z:dS A A w (w.setRow b c'):=⟨ak,λk _ K=>⟨setRow_other w b k c' (λe=>K (e▸L)),K⟩⟩;have S:∀k,k < w.heap.size->(w.setRow b c').shape? k=w.shape? k:=λk _=>qK D hsize k;refine⟨⟨h.size,h.defers,λt v z=>(h.tmps t v z).keeps Z S (dD.refl _),?_,?_,h.fresh,?_,?_,h.dR.LN (dA.setRow D hsize U) (λ_ _ h=>h)⟩,dA.setRow D hsize U⟩
 . intro k l Kv;simp only[bO]at Kv;split at Kv
   . rename_i ek;subst ek;simp only[R,wv,ii]at Kv;subst Kv;refine⟨o,.inl ⟨b,c',e,H,U,L,setRow_heap w b c c' e _ D,n,λi r j q I Q=>?_⟩⟩;obtain⟨x,N,J,O⟩:=hcell i r j q I Q;exact⟨x,N,J.keeps Z S (dD.refl _),O⟩
   . rename_i ek;refine(h.heap k l Kv).keeps Z S (dD.refl _) (λ_ h=>h) (λs hb'=>setRow_other w b s c' (λe=>ek ?_));subst e;exact h.inj k id l _ s Kv R hb' H
 . intro k P l gU s O Y y B
   have g:∀q bl,find (jB st.heap id (.row sz xs')) q=some bl-> ∃AB,find st.heap q=some AB:=by
    intro q bl d;simp only[bO]at d;split at d
    . rename_i e;subst e;exact⟨_,R⟩
    . exact⟨_,d⟩
   obtain⟨bl1,g1⟩:=g k l O;obtain⟨bl2,g2⟩:=g P gU Y;exact h.inj k P bl1 bl2 s g1 g2 y B
 . intro q d;simpa using h.bound q d
 . intro q d;exact h.may q (by simpa using d)
def Rel.rename(h:Rel M A ρ F st a w){nid:Nat}{blk:bE}(R:find st.heap id=some blk)(K:F nid):
 ∃l,ρ id=some l/\Rel M A (dr ρ nid l) (Sub F nid) {st with heap:=(nid,blk)::del st.heap id} a w/\dD ρ (dr ρ nid l):=by
 have G:=h.heap id blk R
 have U: ∃l,ρ id=some l:=by
  cases blk with
  |row D o=>rcases G.2 with⟨b,c,e,s,_⟩|⟨s,_⟩<;>exact⟨_,s⟩
  |mp P clock=>obtain⟨b,en,s,_⟩:=G;exact⟨_,s⟩
 obtain⟨l,U⟩:=U;have hnone:=h.fresh nid K;have cI:dD ρ (dr ρ nid l):=dD.jB hnone;have Z:dS A A w w:=⟨ww _,λb _ K=>⟨rfl,K⟩⟩;refine⟨l,U,⟨h.size,h.defers,λt v z=>(h.tmps t v z).keeps Z (λ_ _=>rfl) cI,?_,?_,?_,h.bound,h.may,h.dR⟩,cI⟩
 . intro k bl hk';simp only[aF]at hk';split at hk'
   . rename_i ek;subst ek;simp only[ii]at hk';subst hk'
     cases blk with
     |row D o=>
      refine⟨G.1,?_⟩;rcases G.2 with⟨b,c,e,s,L,k3,k4,k5,k6⟩|⟨s,L⟩
      . rw[U]at s;refine .inl ⟨b,c,e,by simp[dr,s],L,k3,k4,k5,λi el j q I Q=>?_⟩;obtain⟨x,N,J,O⟩:=k6 i el j q I Q;exact⟨x,N,J.keeps Z (λ_ _=>rfl) cI,O⟩
      . rw[U]at s;exact .inr ⟨by simp[dr,s],L⟩
     |mp P clock=>
      obtain⟨b,en,s,L,k3,k4,k5,k6⟩:=G;rw[U]at s;refine⟨b,en,by simp[dr,s],L,k3,k4,k5,λi k c n I=>?_⟩;obtain⟨e,O,Y,B,g,d⟩:=k6 i k c n I;exact⟨e,O,Y,B,g.keeps Z (λ_ _=>rfl) cI,d⟩
   . simp only[dG]at hk';split at hk'
     . simp at hk'
     . exact(h.heap k bl hk').keeps Z (λ_ _=>rfl) cI (λ_ h=>h) (λ_ _=>rfl)
 . intro k k' bl AB b O Y r S;simp only[aF,dG]at O Y;simp only[dr]at r S
   by_cases H:nid=k<;>by_cases y:nid=k'
   . omega
   . exfalso;simp only[y,if_false]at Y;have n2:¬k'=nid:=λe=>y e.symm;simp only[n2,if_false]at S;simp only[H.symm,if_true,ii]at r
     by_cases e3:k'=id
     . simp[e3]at Y
     . simp only[e3,if_false]at Y;exact e3 (h.inj k' id AB blk b Y R S (r▸U))
   . exfalso;simp only[H,if_false]at O;have n1:¬k=nid:=λe=>H e.symm;simp only[n1,if_false]at r;simp only[y.symm,if_true,ii]at S
     by_cases e3:k=id
     . simp[e3]at O
     . simp only[e3,if_false]at O;exact e3 (h.inj k id bl blk b O R r (S▸U))
   . simp only[H,y,if_false]at O Y;have n1:¬k=nid:=λe=>H e.symm;have n2:¬k'=nid:=λe=>y e.symm;simp only[n1,n2,if_false]at r S
     by_cases e3:k=id<;>by_cases e4:k'=id<;>simp only[e3,e4,if_true,if_false]at O Y<;>try (simp at O;done)
     . simp at Y
     . exact h.inj k k' bl AB b O Y r S
 . intro k hk';have:¬k=nid:=λe=>hk'.2 ⟨aa,aa⟩;simp only[dr,this,if_false];exact h.fresh k hk'.1
def bt{α:Type}(xs:List α)(j:Nat)(ys:List α):List α:=xs.take j++ys++xs.drop (j+ys.length)
def cg{α:Type}{xs:List α}{j:Nat}{ys:List α}(h:j+ys.length<=xs.length):(bt xs j ys).length=xs.length:=by
 simp[bt];omega
def eY{α:Type}{xs:List α}{j:Nat}{ys:List α}(h:j+ys.length<=xs.length)(k:Nat):
 (bt xs j ys)[k]? =if j<=k/\k < j+ys.length then ys[k - j]? else xs[k]? :=by
 unfold bt;have Q:(xs.take j).length=j:=by simp;omega
 by_cases O:k < j
 . have U:¬ (j<=k/\k < j+ys.length):=aa
   rw[if_neg U,aaQ,aaf aa,aa4,if_pos O]
 . by_cases Y:k < j+ys.length
   . rw[if_pos ⟨aa,Y⟩,aaQ,aai aa,Q,aaf aa]
   . have U:¬ (j<=k/\k < j+ys.length):=aa
     rw[if_neg U,aai gZ,acr];congr 1;simp;omega
def nu(P:Program)(t:TypeId)(p v:V)(heap:List (Nat×bE)):Option (List (Nat×bE)):=
 match p,v with
 | .w (.one (.ptr id N i j)),.w u=>
   match find heap id,dc P t with
   |some (.row D o),some n=>
    match o[i]? with
    |some r=>if D=N/\(cellsOf u).length=n/\j+n<=r.length then some (jB heap id (.row N (o.set i (bt r j (cellsOf u)))))else none
    |none=>none
   |_,_=>none
 |_,_=>none
def Be{t:TypeId}{p v:V}{x y:Value}{heap':List (Nat×bE)}(h:Rel M A ρ F st a w)(H:nu P t p v st.heap=some heap')
 (hp:RV w A ρ p x) (l:RV w A ρ v y): ∃w',(Instr.storeAt t x y).run P w= .ok () w'/\Rel M A ρ F {st with heap:=heap'} a w'/\dA M w w':=by
 unfold nu at H;split at H
 . rename_i id sz i j u;split at H
   . rename_i sz' o n R K;split at H
     . rename_i el hel;split at H
       . rename_i D;obtain⟨rfl,L,hjn⟩:=D;simp only[ii]at H;subst H;obtain⟨b,hρ,rfl⟩:=hp.1;obtain⟨hsz,G⟩:=h.heap id _ R;rcases G with⟨Q,c,e,s,S,k3,k4,k5,k6⟩|⟨Y,_⟩
         . rw[hρ]at s;simp only[ii,Loc.gD.injEq]at s;subst s;have hcs:=RW.cells l;have hlen:el.length=sz':=hsz el (oo hel);have I:i < o.length:=(jl.1 hel).1
           have hfit:i * sz'+j+y.cells.toList.length<=c.size:=by
            have O:y.cells.toList.length=n:=by simp[<-hcs.1,L]
            have Y:(i+1) * sz'<=o.length * sz':=YH _ I;rw[aaw]at Y;omega
           have hone:∀q∈y.cells.toList,q.oneCell'=true:=by
            intro q d;obtain⟨k,Z,rfl⟩:=aa3 d;have hk':k < (cellsOf u).length:=by simp at Z;rw[hcs.1];exact Z
            have hkc:k < y.cells.size:=PO
            exact(hcs.2 k (cellsOf u)[k] y.cells[k] (by simp[hk']) (by simp[hkc])).2
           have hrun:=run_storeCells_at P b (i * sz'+j) e y.cells.toList 0 c w k4 (by simpa using hfit) hone;simp only[ace]at hrun;have dW:c.toList.length=c.size:=ak
           obtain⟨r,U⟩:=h.write (c':=(bt c.toList (i * sz'+j) y.cells.toList).toArray) (xs':=o.set i (bt el j (cellsOf u))) R hρ k4
            Kz
            (λLO Ky=>by
              rcases aao Ky with O|O
              . exact hsz LO O
              . rw[O,cg aa];exact hlen)
            (by simp only[abn,abj];rw[cg aa];simpa using k5)
            (λi' LO j' q hi' hj'=>by
              simp only[aci];rw[eY aa];have iI:y.cells.toList.length=(cellsOf u).length:=by simp[hcs.1]
              by_cases Si:i'=i
              . subst Si;rw[aaj I]at hi';simp only[ii]at hi';subst hi';rw[eY aa]at hj';split at hj'
                . rename_i hin;have hk':j' - j < y.cells.size:=by rw[<-hcs.1];omega
                  refine⟨y.cells[j' - j],?_,hcs.2 (j' - j) q _ hj' (by simp[hk'])⟩;rw[if_pos aa];rw[show i' * sz'+j' - (i' * sz'+j)=j' - j by omega];simp[hk']
                . rename_i hin;rw[if_neg aa];obtain⟨z,N,J,O⟩:=k6 i' el j' q hel hj';exact⟨z,iL,J,O⟩
              . rw[aam (λe=>Si e.symm)]at hi';have hl':LO.length=sz':=hsz LO (oo hi');have hj2:j' < sz':=by rw[<-hl'];exact(jl.1 hj').1
                have B:¬ (i * sz'+j<=i' * sz'+j'/\i' * sz'+j' < i * sz'+j+y.cells.toList.length):=by
                 intro g;rcases adj Si with hlt|hgt
                 . have:(i'+1) * sz'<=i * sz':=YH _ hlt;rw[aaw]at this;omega
                 . have:(i+1) * sz'<=i' * sz':=YH _ hgt;rw[aaw]at this;omega
                rw[if_neg B];obtain⟨z,N,J,O⟩:=k6 i' LO j' q hi' hj';exact⟨z,iL,J,O⟩)
           refine⟨_,?_,r,U⟩;have HM:y.cells.size=n:=by rw[<-hcs.1,L]
           simp only[Instr.storeAt,Instr.sureAddr,storeVar,Sem.run_bind,Sem.run_pure,Result.andThen_ok,run_sizeOf K,HM,ne_eq,not_true_eq_false,if_false];simpa[bt]using hrun
         . simp[hρ]at Y
       . simp at H
     . simp at H
   . simp at H
 . simp at H
end Go.aW
namespace Go.aW
open Go
variable{P:Program}{M A:agt}{ρ:Env}{F:agt}{st:St}{a:Act}{w:World}
def C.shift:C->Nat->Option C
 | .ptr id N i j,n=>some (.ptr id N i (j+n))| .yz e j,n=>some (.yz e (j+n))|_,_=>none
variable{c d:C}{n size:Nat}{x:Value}
def C.zX(h:c.shift n=some d)(J:RC w A ρ c x):
 ∃b o,x= .pointer (some ⟨b,o,none⟩)/\RC w A ρ d (.pointer (some ⟨b,o+n,none⟩)):=by
 cases c with
 |ptr id N i j=>
  simp only[C.shift,ii]at h;subst h;obtain⟨b,O,rfl⟩:=J;exact⟨b,_,rfl,b,O,by rw[ab3]⟩
 |yz e j=>
  simp only[C.shift,ii]at h;subst h;obtain⟨b,o,f,rfl,O,Y,B⟩:=J;exact⟨b,_,rfl,b,o,f,by rw[ab3],O,Y,B⟩
 |_=>simp[C.shift]at h
def jS(P:Program)(s:TypeId)(v:V)(f:Nat):Option V:=
 match v with
 | .w (.one c)=>
   match P.underlying s with
   |some (.struct Q)=>
    match Q[f]? with
    |some a=>
     match dc P a.type with
     |some (_+1)=>(c.shift a.offset).map λd=> .w (.one d)|_=>none
    |none=>none
   |_=>none
 |_=>none
def um{s:TypeId}{v u:V}{f:Nat}(H:jS P s v f=some u)(z:RV w A ρ v x):
 ∃y,(Instr.fieldAt s x f).run P w= .ok y w/\RV w A ρ u y:=by
 unfold jS at H;split at H
 . split at H
   . rename_i Q L;split at H
     . rename_i a c;split at H
       . rename_i n K;simp only[jU]at H;obtain⟨d,S,rfl⟩:=H;obtain⟨b,o,rfl,J⟩:=C.zX S z.1;refine⟨_,?_,J,rfl⟩;simp[Instr.fieldAt,run_underlying L,c,Instr.sureAddr,fieldPlace,run_sizeOf K,Addr.add_lit]
       . simp at H
     . simp at H
   . simp at H
 . simp at H
def V.jv:V->Option (IntKind×Int)
 | .w (.one (.t (.val (.int k n))))=>some (k,n)|_=>none
def V.lK{v:V}{k:IntKind}{n:Int}(h:v.jv =some (k,n))(J:RV w A ρ v x):x= .int k n:=by
 unfold V.jv at h;split at h
 . simp only[ii,uu]at h;obtain⟨rfl,rfl⟩:=h;cases J.1;rfl
 . simp at h
def elemAt(c:C)(n:Int)(size:Nat):Option C:=
 match c with
 | .own id N i len=>if N=size/\0<=n/\n < len then some (.ptr id N (i+n.toNat) 0)else none
 | .t (.aO N o)=>if N=size/\0<=n/\n < o.length then(o[n.toNat]?).map λe=> .yz e 0 else none
 |_=>none
def Ii{n:Int}(h:elemAt c n size=some d)(J:RC w A ρ c x):
 ∃b o len cap,x= .slice (some ⟨b,o,none⟩) len cap/\0<=n/\n < len/\RC w A ρ d (.pointer (some ⟨b,o+n.toNat * size,none⟩)):=by
 unfold elemAt at h;split at h
 . rename_i id N i len;split at h
   . rename_i D;obtain⟨rfl,z,O⟩:=D;simp only[ii]at h;subst h;rcases J with⟨b,cap,q,e,s,rfl,g,S,P⟩|⟨_,_,rfl,_⟩
     . exact⟨b,_,len,cap,rfl,z,O,b,s,by rw[aaw];simp⟩
     . omega
   . simp at h
 . rename_i N M;split at h
   . rename_i D;obtain⟨rfl,z,O⟩:=D;simp only[jU]at h;obtain⟨e,H,rfl⟩:=h
     cases J with
     |nil=>simp at H
     |aO f U v G a L y l=>
      rename_i b j len cap;refine⟨b,j,len,cap,rfl,z,by rw[U];exact O,b,j+n.toNat * N,f n.toNat,ak,G,a,λk c Z=>⟨?_,l _ e k c H Z⟩⟩;exact y _ e k c H Z
   . simp at h
 . simp at h
def iv(P:Program)(t:TypeId)(v i:V):Option V:=
 match v,i.jv with
 | .w (.one c),some (_,n)=>
   match P.underlying t with
   |some (.slice j)=>
    match dc P j with
    |some B=>(elemAt c n B).map λd=> .w (.one d)|none=>none
   |some (.array len j)=>
    match dc P j with
    |some B=>if 0<=n/\n < len then(c.shift (n.toNat * B)).map λd=> .w (.one d)else none
    |none=>none
   |_=>none
 |_,_=>none
def uk{t:TypeId}{v i u:V}{y:Value}(H:iv P t v i=some u)(l:RV w A ρ v x)(I:RV w A ρ i y):
 ∃z,(Instr.indexAt t x y).run P w= .ok z w/\RV w A ρ u z:=by
 unfold iv at H;split at H
 . rename_i c k n K;have G:=V.lK K I;subst G;split at H
   . rename_i j L;split at H
     . rename_i B S;simp only[jU]at H;obtain⟨d,F,rfl⟩:=H;obtain⟨b,o,len,M,rfl,s,O,J⟩:=Ii F l.1;refine⟨_,?_,J,rfl⟩;simp[Instr.indexAt,asIntOf,run_underlying L,run_sizeOf S,s,O,Addr.add_lit]
     . simp at H
   . rename_i len j L;split at H
     . rename_i B S;split at H
       . rename_i D;simp only[jU]at H;obtain⟨d,F,rfl⟩:=H;obtain⟨b,o,rfl,J⟩:=C.zX F l.1;refine⟨_,?_,J,rfl⟩;simp[Instr.indexAt,asIntOf,run_underlying L,run_sizeOf S,Instr.sureAddr,D.1,D.2,Addr.add_lit]
       . simp at H
     . simp at H
   . simp at H
 . simp at H
def tT(P:Program)(t:TypeId)(v:V)(f:Nat):Option V:=
 match v with
 | .w (.agg R)=>
   match P.underlying t with
   |some (.struct Q)=>
    match Q[f]? with
    |some a=>(nN P a.type R a.offset).map .w|none=>none
   |_=>none
 |_=>none
def ME{t:TypeId}{cs:Lc}{off:Nat}{u:W}{vs:Array Value}(hp:nN P t cs off=some u)(J:DL w A ρ cs vs):
 ∃x,(part t vs off).run P w= .ok x w/\RW w A ρ u x:=by
 unfold nN at hp;split at hp
 . rename_i l;split at hp
   . rename_i n K;split at hp
     . rename_i I;simp only[ii]at hp;subst hp;refine⟨.agg (vs.extract off (off+n)),by simp[part,tN l,run_sizeOf K],_,rfl,by simp;have:=J.1;omega,λk c x Z N=>?_⟩
       have g:k < n:=by
        have:=(jl.1 Z).1;simp at this;omega
       have a:cs[off+k]? =some c:=by simpa[aa4,g]using Z
       have b:vs[off+k]? =some x:=by
        have L:off+k < vs.size:=by have:=J.1;omega
        have:=Array.getElem?_extract (xs:=vs) (start:=off) (stop:=off+n) (i:=k);rw[this]at N;split at N
        . exact N
        . simp at N
       exact J.2 _ c x a b
     . simp at hp
   . simp at hp
 . rename_i l;simp only[jU]at hp;obtain⟨d,S,rfl⟩:=hp;have U:off < vs.size:=by rw[<-J.1];exact(jl.1 S).1
   have N:vs[off]? =some vs[off]:=by simp[U]
   have:=J.2 off d _ S N;exact⟨vs[off],by simp[part,tN l,U],this⟩
 . simp at hp
def Bg{t:TypeId}{v u:V}{f:Nat}(H:tT P t v f=some u)(z:RV w A ρ v x):
 ∃y,(Instr.field t x f).run P w= .ok y w/\RV w A ρ u y:=by
 unfold tT at H;split at H
 . split at H
   . rename_i Q L;split at H
     . rename_i a c;simp only[jU]at H;obtain⟨d,S,rfl⟩:=H;obtain⟨o,rfl,J⟩:=z;obtain⟨y,G,g⟩:=ME (P:=P) S J;exact⟨y,by simp[Instr.field,run_underlying L,c,asAgg,G],g⟩
     . simp at H
   . simp at H
 . simp at H
def Im(c:C)(l h:Nat):Option C:=
 match c with
 | .own id N i len=>if h=l/\l≠0 then some (.t (.aO N []))else if l<=h/\h<=len then some (.own id N (i+l) (h - l))else none
 | .t (.aO N o)=>if l<=h/\h<=o.length then some (.t (.aO N ((o.drop l).take (h - l))))else none
 |_=>none
def C.CN:C->Option Nat
 | .own _ _ _ len=>some len| .t (.aO _ o)=>some o.length| .t (.val (.slice none 0 0))=>some 0|_=>none
def C.sz?:C->Option Nat
 | .own _ N _ _=>some N| .t (.aO N _)=>some N|_=>none
def C.ze(h:c.CN =some n)(J:RC w A ρ c x): ∃b cap,x= .slice b n cap/\n<=cap:=by
 unfold C.CN at h;split at h
 . simp only[ii]at h;subst h;rcases J with⟨b,cap,q,e,s,rfl,z,S,P⟩|⟨_,_,rfl,rfl⟩
   . exact⟨_,_,rfl,z⟩
   . exact⟨_,_,rfl,ww _⟩
 . simp only[ii]at h;subst h
   cases J with
   |nil=>exact⟨_,_,rfl,ak⟩
   |aO f U v G a L D l=>exact⟨_,_,by rw[U],by rw[<-U];exact v⟩
 . simp only[ii]at h;subst h;cases J;exact⟨_,_,rfl,ww _⟩
 . simp at h
def jI(v:Option V)(d:Nat):Option Nat:=
 match v with
 |none=>some d
 |some v=>match v.jv with
  |some (_,n)=>if 0<=n then some n.toNat else none
  |none=>none
def tS(P:Program)(t:TypeId)(v:V)(lo I:Option V):Option V:=
 match v with
 | .w (.one c)=>
   match P.underlying t,c.CN with
   |some (.slice j),some len=>
    match jI lo 0,jI I len,dc P j with
    |some l,some h,some B=>if l<=h/\h<=len/\c.sz? =some B then(Im c l h).map λd=> .w (.one d)else none
    |_,_,_=>none
   |_,_=>none
 |_=>none
def NA{l h len cap:Nat}{b:Option Addr}(F:Im c l h=some d)(S:c.sz? =some size)(hlh:l<=h)(hhl:h<=len)(hcap:len<=cap)
 (J:RC w A ρ c (.slice b len cap)):RC w A ρ d (.slice (if cap=l then b else b.map (·.add (l * size))) (h - l) (cap - l)):=by
 unfold Im at F;split at F
 . rename_i id N i len';simp only[C.sz?,ii]at S;subst S;split at F
   . rename_i e;obtain⟨e,_⟩:=e;subst e;simp only[ii]at F;subst F;simp only[Nat.sub_self];exact .nil
   . rename_i P;split at F
     . rename_i D;simp only[ii]at F;subst F
       by_cases hl0:l=0
       . subst hl0;rcases J with⟨K,cap',q,e,s,v,g,R,r⟩|⟨z,Z,Y,B⟩
         . simp only[Value.slice.injEq]at v;obtain⟨rfl,rfl,rfl⟩:=v;refine .inl ⟨K,cap,q,e,s,?_,aa,R,by simpa using r⟩
           by_cases hc0:cap=0
           . simp[hc0]
           . simp[hc0,Addr.add_lit]
         . simp only[Value.slice.injEq]at B;obtain⟨rfl,rfl,rfl⟩:=B;refine .inr ⟨z,aa,aa,?_⟩;have:h=0:=aa
           subst this;simp
       rcases J with⟨K,cap',q,e,s,v,g,R,r⟩|⟨_,_,Y,B⟩
       . simp only[Value.slice.injEq]at v;obtain⟨rfl,rfl,rfl⟩:=v;have aqL:¬cap=l:=aa
         rw[if_neg aqL];refine .inl ⟨K,cap - l,q,e,s,?_,aa,R,?_⟩
         . simp[Addr.add_lit,aaw]
         . have:(cap - l) * N+l * N=cap * N:=by rw[<-aaw];congr 1;omega
           rw[aaw];omega
       . simp only[Value.slice.injEq]at B;omega
     . simp at F
 . rename_i N o;simp only[C.sz?,ii]at S;subst S;split at F
   . rename_i D;simp only[ii]at F;subst F
     by_cases M:h - l=0
     . rw[M];simp only[afi];exact .nil
     . cases J with
       |nil=>simp at D;omega
       |aO f U aNv G a L y hrr=>
        rename_i K n;have aqL:¬cap=l:=aa
        rw[if_neg aqL];simp only[wv,Addr.add_lit];refine .aO (λi j=>f (l+i) j) gZ aa G a (λe H=>L e (abc (aah H))) (λi e j c I Q=>?_) (λi e j c I Q=>?_)
        . have x:i < h - l:=by
           have:=(jl.1 I).1;simp at this;omega
          have O:o[l+i]? =some e:=by simpa[aa4,x]using I
          have:=y (l+i) e j c O Q;rw[aaw]at this;rw[show n+l * N+i * N+j=n+(l * N+i * N)+j by omega];exact this
        . have x:i < h - l:=by
           have:=(jl.1 I).1;simp at this;omega
          have O:o[l+i]? =some e:=by simpa[aa4,x]using I
          exact hrr (l+i) e j c O Q
   . simp at F
 . simp at F
def AA{v:Option V}{x:Option Value}{d:Nat}(h:jI v d=some n)(J:∀u,v=some u-> ∃y,x=some y/\RV w A ρ u y)(K:v=none->x=none):
 (x=none/\n=d)\/ ∃k,x=some (.int k n):=by
 unfold jI at h;split at h
 . simp only[ii]at h;exact .inl ⟨K rfl,h.symm⟩
 . rename_i u;split at h
   . rename_i k m r;split at h
     . rename_i z;simp only[ii]at h;obtain⟨y,rfl,G⟩:=J u rfl;have:=V.lK r G;subst this;refine .inr ⟨k,?_⟩;rw[<-h,ad1 z]
     . simp at h
   . simp at h
def Bf{t:TypeId}{v u:V}{lo I:Option V}{lo' hi':Option Value}(H:tS P t v lo I=some u)(Q:RV w A ρ v x)
 (Z:∀u,lo=some u-> ∃y,lo'=some y/\RV w A ρ u y) (aJP:lo=none->lo'=none)
 (hhi:∀u,I=some u-> ∃y,hi'=some y/\RV w A ρ u y) (aJ4:I=none->hi'=none):
 ∃z,(Instr.sliceAt t x lo' hi' none).run P w= .ok z w/\RV w A ρ u z:=by
 unfold tS at H;split at H
 . rename_i c;split at H
   . rename_i a len L U;split at H
     . rename_i l h B O Y S;split at H
       . rename_i D;obtain⟨g,G,N⟩:=D;simp only[jU]at H;obtain⟨d,F,rfl⟩:=H;obtain⟨b,M,rfl,n⟩:=C.ze U Q.1;have J:=NA F N g G n Q.1;refine⟨_,?_,J,rfl⟩;have R:=AA O Z aJP;have o:=AA Y hhi aJ4;have e:h<=M:=aal G n;have r:(l:Int)<=(h:Int):=aa
         have j:(h:Int)<=(M:Int):=aa
         rcases R with⟨rfl,rfl⟩|⟨s,rfl⟩<;>rcases o with⟨rfl,rfl⟩|⟨K,rfl⟩<;>
          simp[Instr.sliceAt,Instr.slice,run_underlying L,Instr.sliceBounds,Instr.sliceBound,asIntOf,run_sizeOf S,e,g]
       . simp at H
     . simp at H
   . simp at H
 . simp at H
end Go.aW
namespace Go.aW
open Go
variable{P:Program}{M A:agt}{ρ:Env}{F:agt}{st:St}{a:Act}{w:World}
def elems(heap:List (Nat×bE)):C->Option (Nat×Lq)
 | .own id N i len=>
   match find heap id with
   |some (.row D o)=>if D=N/\i+len<=o.length then some (N,(o.drop i).take len)else none
   |_=>none
 | .t (.aO N o)=>some (N,o.map λe=>e.map .t)|_=>none
variable{xs:Lq}{sz size nid:Nat}{c:C}{x:Value}
def s9{g:Nat->Option Value}(L:∀e,e∈xs->e.length=sz)
 (D:∀ (i:Nat) (r:Lc) (j:Nat) (k:C),xs[i]? =some r->r[j]? =some k-> ∃x,g (i * sz+j)=some x/\RC w A ρ k x/\cz x=true):
 ∃vs:List Value,vs.length=xs.length * sz/\(∀ (j:Nat) (v:Value),vs[j]? =some v->g j=some v)/\(∀v,v∈vs->v.oneCell'=true)/\
  ∀ (i:Nat) (r:Lc) (j:Nat) (k:C),xs[i]? =some r->r[j]? =some k-> ∃x,vs[i * sz+j]? =some x/\RC w A ρ k x/\cz x=true:=by
 have key:∀n,n < xs.length * sz-> ∃x,g n=some x/\cz x=true:=by
  intro n K
  have c:0 < sz:=by
   rcases aev sz with z|z
   . subst z;simp at K
   . exact z
  have I:n / sz < xs.length:=by rw[acj c];exact K
  have H:xs[n / sz]? =some xs[n / sz]:=afx
  have U:=L _ (aaC I);have Q:n % sz < xs[n / sz].length:=by rw[U];exact ae0 _ c
  obtain⟨x,N,_,O⟩:=D (n / sz) xs[n / sz] (n % sz) xs[n / sz][n % sz] H Fc;rw[Nat.div_add_mod']at N;exact⟨x,N,O⟩
 refine⟨(List.range (xs.length * sz)).map λn=>(g n).getD undef,ak,?_,?_,?_⟩
 . intro j v l
   have Q:j < xs.length * sz:=by
    have:=(jl.1 l).1;simpa using this
   obtain⟨x,N,_⟩:=key j Q;simp[Q,N]at l;rw[N,l]
 . intro v l;simp only[aad,aap]at l;obtain⟨n,K,rfl⟩:=l;obtain⟨x,N,O⟩:=key n K;simpa[N]using O
 . intro i r j k I Q;obtain⟨x,N,J,O⟩:=D i r j k I Q;have b:i < xs.length:=(jl.1 I).1;have a:j < sz:=by rw[<-L r (oo I)];exact(jl.1 Q).1
   have R:i * sz+j < xs.length * sz:=by
    have Y:(i+1) * sz<=xs.length * sz:=YH _ b;rw[aaw]at Y;omega
   refine⟨x,by simp[R,N],J,O⟩
def nx(h:Rel M A ρ F st a w)(H:elems st.heap c=some (sz,xs))(J:RC w A ρ c x):
 (∀e,e∈xs->e.length=sz)/\ ∃b cap,x= .slice b xs.length cap/\xs.length<=cap:=by
 unfold elems at H;split at H
 . rename_i id O i len;split at H
   . rename_i Q Y R;split at H
     . rename_i D;obtain⟨rfl,I⟩:=D;simp only[ii,uu]at H;obtain⟨rfl,rfl⟩:=H;refine⟨λe H=>(h.heap id _ R).1 e (abc (aah H)),?_⟩;have n:((Y.drop i).take len).length=len:=by simp;omega
       rw[n];rcases J with⟨b,cap,q,e,s,rfl,z,S,P⟩|⟨_,_,rfl,rfl⟩
       . exact⟨_,_,rfl,z⟩
       . exact⟨_,_,rfl,ww _⟩
     . simp at H
   . simp at H
 . rename_i O Y;simp only[ii,uu]at H;obtain⟨rfl,rfl⟩:=H
   cases J with
   |nil=>exact⟨ak,_,_,rfl,ak⟩
   |aO f U v G N L D l=>
    refine⟨λe H=>?_,_,_,by simp[U];exact⟨rfl,rfl⟩,by simp;omega⟩;simp only[aad]at H;obtain⟨y,d,rfl⟩:=H;simpa using L y d
 . simp at H
def mv(h:Rel M A ρ F st a w)(H:elems st.heap c=some (sz,xs))(J:RC w A ρ c x)(P:xs≠ []):
 ∃b o cap,x= .slice (some ⟨b,o,none⟩) xs.length cap/\
  ∀ (i:Nat) (r:Lc) (j:Nat) (k:C),xs[i]? =some r->r[j]? =some k-> ∃y,w.cell? ⟨b,o+(i * sz+j),none⟩=some y/\RC w A ρ k y/\cz y=true:=by
 unfold elems at H;split at H
 . rename_i id sz' i len;split at H
   . rename_i eV Y R;split at H
     . rename_i D;obtain⟨rfl,hle⟩:=D;simp only[ii,uu]at H;obtain⟨rfl,rfl⟩:=H;have n:((Y.drop i).take len).length=len:=by simp;omega
       rw[n];rcases J with⟨b,cap,q,e,s,rfl,z,S,k5⟩|⟨_,_,rfl,rfl⟩
       . refine⟨b,i * eV,cap,rfl,λi' r j k I Q=>?_⟩;have zj:i' < len:=by rw[<-n];exact(jl.1 I).1
         have l:Y[i+i']? =some r:=by simpa[aa4,zj]using I
         rcases(h.heap id _ R).2 with⟨K,L,Z,q1,q2,q3,q4,q5,q6⟩|⟨q1,_⟩
         . rw[s]at q1;simp only[ii,Loc.gD.injEq]at q1;subst q1;obtain⟨y,B,J,O⟩:=q6 (i+i') r j k l Q;rw[aaw]at B;exact⟨y,by simp[World.cell?,q4];rw[<-ab3];exact B,J,O⟩
         . simp[s]at q1
       . simp at P
     . simp at H
   . simp at H
 . rename_i sz' Y;simp only[ii,uu]at H;obtain⟨rfl,rfl⟩:=H
   cases J with
   |nil=>simp at P
   |aO f U hcap G N d D hrr=>
    rename_i b off len cap;refine⟨b,off,cap,by simp[U],λi r j k I Q=>?_⟩;simp only[yu,jU]at I;obtain⟨e,H,rfl⟩:=I;simp only[yu,jU]at Q;obtain⟨t,g,rfl⟩:=Q;have v:=hrr i e j t H g;exact⟨f i j,by rw[<-ab3];exact D i e j t H g,v,v.cell⟩
 . simp at H
def qy(P:Program)(e:TypeId):Option (Nat×Nat):=
 match P.info? e with
 |some i=>
  match i.zero with
  |some z=>if z.cells.size=i.size/\0 < i.size then some (i.size,i.bytes)else none
  |none=>none
 |none=>none
def bh:Nat:=140737488355328
def isNil:C->Bool
 | .t (.val (.slice none 0 0))=>true|_=>false
def gQ(P:Program)(t:TypeId)(s x:V)(heap:List (Nat×bE))(nid:Nat):Option (V×List (Nat×bE)):=
 match s,x with
 | .w (.one s),.w (.one x)=>
   match P.underlying t with
   |some (.slice e)=>
    match qy P e,(if isNil x then some (0,[])else elems heap x)with
    |some (B,J),some (N,Y)=>
     if Y.isEmpty then
      (if(C.CN s).isSome then some (.w (.one s),heap)else none)
     else if N=B then
      match s with
      | .own id D 0 len=>
        match find heap id with
        |some (.row Q o)=>
         if D=B/\Q=B/\len=o.length/\(o.length+Y.length) * J<=bh/\o.length+Y.length<=maxLen then
          some (.w (.one (.own nid B 0 (o.length+Y.length))),(nid,.row B (o++Y))::del heap id)
         else none
        |_=>none
      |s=>
       if isNil s/\Y.length * J<=bh/\Y.length<=maxLen then
        some (.w (.one (.own nid B 0 Y.length)),(nid,.row B Y)::heap)
       else none
     else none
    |_,_=>none
   |_=>none
 |_,_=>none
def qZ{e:TypeId}{J:Nat}(h:qy P e=some (size,J)): ∃i z,P.info? e=some i/\i.zero=some z/\i.size=size/\i.bytes=J/\z.cells.size=size/\0 < size:=by
 unfold qy at h;split at h
 . rename_i i I;split at h
   . rename_i z A;split at h
     . rename_i D;simp only[ii,uu]at h;obtain⟨rfl,rfl⟩:=h;exact⟨i,z,I,A,rfl,rfl,D.1,D.2⟩
     . simp at h
   . simp at h
 . simp at h
def vP(h:isNil c=true)(J:RC w A ρ c x):x= .slice none 0 0:=by
 unfold isNil at h;split at h
 . cases J;rfl
 . simp at h
def nV(h:Rel M A ρ F st a w)(K:F nid){zs:Lq}{vs:List Value}{z:Array Value}{e:TypeId}{cap:Nat}
 (d:z.size=size) (L:∀r,r∈zs->r.length=size) (U:vs.length=zs.length * size) (v:zs.length<=cap)
 (D:∀ (i:Nat) (r:Lc) (j:Nat) (k:C),zs[i]? =some r->r[j]? =some k-> ∃x,vs[i * size+j]? =some x/\RC w A ρ k x/\cz x=true):
 ∃l ρ',Rel M l ρ' (Sub F nid) {st with heap:=(nid,.row size zs)::st.heap} a (w.drew.alloc (.cells (vs.toArray++Builtin.zeroCells z (cap - zs.length)) e))/\
  RV (w.drew.alloc (.cells (vs.toArray++Builtin.zeroCells z (cap - zs.length)) e)) l ρ' (.w (.one (.own nid size 0 zs.length))) (.slice (some ⟨w.heap.size,0,none⟩) zs.length cap)/\
  dA M w (w.drew.alloc (.cells (vs.toArray++Builtin.zeroCells z (cap - zs.length)) e))/\dD ρ ρ'/\bY A l w:=by
 have S:=h.drew;have Z:dS A A w w.drew:=⟨ww _,λb _ K=>⟨rfl,K⟩⟩;have g:(Builtin.zeroCells z (cap - zs.length)).size=(cap - zs.length) * size:=by rw[size_zeroCells,d]
 obtain⟨y,B⟩:=Rel.alloc (w:=w.drew) S K (sz:=size) (xs:=zs) (c:=vs.toArray++Builtin.zeroCells z (cap - zs.length)) (e:=e) L (by simp[U]) (λi r j k I Q=>by
  obtain⟨x,N,J,O⟩:=D i r j k I Q;refine⟨x,?_,J.keeps Z (λ_ _=>rfl) (dD.refl _),O⟩;rw[abz (by simpa using(jl.1 N).1)];simpa using N)
 refine⟨_,_,y,⟨.inl ⟨w.heap.size,cap,cap * size,e,by show dr ρ nid (.gD w.heap.size) nid=_;simp[dr],ak,v,?_,?_⟩,rfl⟩,(dA.drew M w).trans (dA.alloc M _ _),B,bY.new A w⟩
 . have:=heap_alloc_new w.drew (.cells (vs.toArray++Builtin.zeroCells z (cap - zs.length)) e);simp only[World.shape?];have H:w.drew.heap.size=w.heap.size:=rfl;rw[H]at this;rw[this];simp only[Array.size_append,abj,U,g, <-aaw,ii,uu,true_and];congr 1;omega
 . simp
def zB{t ty:TypeId}{s x v:V}{sv xv:Value}{heap':List (Nat×bE)}(h:Rel M A ρ F st a w)(K:F nid)
 (H:gQ P t s x st.heap nid=some (v,heap')) (S:RV w A ρ s sv) (hx:RV w A ρ x xv):
 ∃y w' d ρ',(Builtin.append_ #[t,t] ty #[sv,xv]).run P w= .ok y w'/\Rel M d ρ' (Sub F nid) {st with heap:=heap'} a w'/\RV w' d ρ' v y/\dA M w w'/\dD ρ ρ'/\bY A d w:=by
 unfold gQ at H;split at H
 . rename_i s x;split at H
   . rename_i e L;split at H
     . rename_i size bytes sz ys hT hys;obtain⟨i,z,I,N,hsize,hby,hzs,hpos⟩:=qZ hT;split at H
       ·
        rename_i HT;split at H
        . rename_i hlen;simp only[ii,uu]at H;obtain⟨rfl,rfl⟩:=H;obtain⟨n,hn'⟩:=aay.1 hlen;obtain⟨b,cap,rfl,hcap⟩:=C.ze hn' S.1
          have hx0: ∃b' cap',xv= .slice b' 0 cap':=by
           split at hys
           . rename_i Ak;rw[vP Ak hx.1];exact⟨_,_,rfl⟩
           . obtain⟨_,b',cap',rfl,_⟩:=nx h hys hx.1;simp only[List.isEmpty_iff]at HT;subst HT;exact⟨_,_,rfl⟩
          obtain⟨b',cap',rfl⟩:=hx0;refine⟨_,w,A,ρ,?_,h.sub (λid hid=>hid.1),S,dA.refl _ _,dD.refl _,bY.refl A w⟩
          have hfc:(Builtin.firstCells i.size 0 (.slice b' 0 cap')).run P w= .ok #[] w:=by
           cases b'<;>simp[Builtin.firstCells,loadCells,loadCellsFrom]
          cases b<;>simp[Builtin.append_,run_underlying L,sizeOf,typeInfo,I,Builtin.lenOf,hcap,hfc,storeCells]
        . simp at H
       . rename_i HT
         have aIV:¬isNil x=true:=by
          intro Ak;rw[if_pos Ak]at hys;simp only[ii,uu]at hys;simp[<-hys.2]at HT
         rw[if_neg aIV]at hys;have hne:ys≠ []:=λe=>by simp[e]at HT
         have ajZ:0 < ys.length:=List.length_pos_iff.2 hne;obtain⟨adA,_⟩:=nx h hys hx.1;obtain⟨xb,xo,TJ,rfl,hxc⟩:=mv h hys hx.1 hne;split at H
         . rename_i aJe;subst aJe;obtain⟨news,hnl,hng,rV,hnr⟩:=s9 (g:=λn=>w.cell? ⟨xb,xo+n,none⟩) adA hxc;have hnews:∀ (j:Nat) (u:Value),news[j]? =some u->w.cell? ((⟨xb,xo,none⟩:Addr).add j)=some u:=λj u Q=>by rw[Addr.add_lit];exact hng j u Q
           split at H
           . rename_i id sz' len;split at H
             . rename_i eV o R;split at H
               . rename_i D;obtain⟨rfl,rfl,rfl,hroom,aqM⟩:=D;simp only[ii,uu]at H;obtain⟨rfl,rfl⟩:=H;obtain⟨aCj,hblk⟩:=h.heap id _ R;have h63:((o.length+ys.length:Nat):Int)<=9223372036854775807:=by simp only[maxLen]at aqM;omega
                 rcases S.1 with⟨b,cap,q,e',B,rfl,k3,k4,k5⟩|⟨B,_,k2,rfl⟩
                 . rcases hblk with⟨b',c,Y,q1,q2,q3,q4,q5,q6⟩|⟨q1,_⟩
                   . rw[B]at q1;simp only[ii,Loc.gD.injEq]at q1;subst q1;have hcs:c.size=q:=by simp only[World.shape?,q4,ii,uu]at k4;exact k4.2
                     obtain⟨olds,PF,hog,CW,hor⟩:=s9 (g:=λn=>c[n]?) aCj q6
                     have holds:∀ (j:Nat) (u:Value),olds[j]? =some u->w.cell? ((⟨b,0,none⟩:Addr).add j)=some u:=λj u Q=>by
                      rw[Addr.add_lit];simp[World.cell?,q4,hog j u Q]
                     have akK:∀ (i':Nat) (el:Lc) (j:Nat) (k:C),(o++ys)[i']? =some el->el[j]? =some k-> ∃y,(olds++news)[i' * eV+j]? =some y/\RC w A ρ k y/\cz y=true:=by
                      intro i' el j k hi' Q
                      by_cases hlt:i' < o.length
                      . rw[aaf hlt]at hi';obtain⟨y,G,J,O⟩:=hor i' el j k hi' Q;exact⟨y,by rw[aaf (jl.1 G).1];exact G,J,O⟩
                      . rw[aai aa]at hi';obtain⟨y,G,J,O⟩:=hnr (i' - o.length) el j k hi' Q;refine⟨y,?_,J,O⟩;have e1:(i' - o.length) * eV+o.length * eV=i' * eV:=by rw[<-aaw];congr 1;omega
                        rw[aai aa,PF];rw[show i' * eV+j - o.length * eV=(i' - o.length) * eV+j by omega];exact G
                     have aCq:∀el,el∈o++ys->el.length=eV:=λel hel=>(yl.1 hel).elim (aCj el) (adA el)
                     by_cases hfit:o.length+ys.length<=cap
                     ·
                      have Kw:o.length * i.size+news.length<=c.size:=by
                       rw[hsize,hnl,hcs, <-aaw];have:(o.length+ys.length) * eV<=cap * eV:=YH _ hfit;simp only[afd,aas]at k5;omega
                      have q4':=q4;have hst:=run_storeCells_at P b (o.length * i.size) Y news 0 c w q4 (by simpa using Kw) rV;simp only[ace]at hst;have qj:=run_firstCells_some (P:=P) w i.size ys.length ⟨xb,xo,none⟩ ys.length TJ news agl hnews
                      have hrun:(Builtin.append_ #[t,t] ty #[.slice (some ⟨b,0 * eV,none⟩) o.length cap,.slice (some ⟨xb,xo,none⟩) ys.length TJ]).run P w=
                       .ok (.slice (some ⟨b,0,none⟩) (o.length+ys.length) cap) (w.setRow b (c.toList.take (o.length * i.size)++news++c.toList.drop (o.length * i.size+news.length)).toArray):=by
                       simp[Builtin.append_,run_underlying L,sizeOf,typeInfo,I,Builtin.lenOf,hfit,qj,Addr.add_lit,hst]
                      have aJi:c.toList.take (o.length * i.size)++news++c.toList.drop (o.length * i.size+news.length)=bt c.toList (o.length * eV) news:=by rw[hsize];rfl
                      rw[aJi]at hrun;have hb0:o.length * eV+news.length<=c.toList.length:=by rw[hsize]at Kw;simpa using Kw
                      obtain⟨r1,r2⟩:=h.write (c':=(bt c.toList (o.length * eV) news).toArray) (xs':=o++ys) R B q4
                       (by simp only[abj];rw[cg hb0];simp) aCq
                       (by simp only[abj];rw[cg hb0];simp only[XV,aaw,abZ];rw[hnl]at hb0;simpa using hb0)
                       (λi' el j k hi' Q=>by
                         obtain⟨y,G,J,O⟩:=akK i' el j k hi' Q;refine⟨y,?_,J,O⟩;simp only[aci];rw[eY hb0]
                         by_cases hlt:i' * eV+j < olds.length
                         . rw[aaf hlt]at G;rw[if_neg aa];simpa using hog _ _ G
                         . rw[aai aa]at G;have:=(jl.1 G).1;rw[if_pos aa, <-PF];exact G)
                      obtain⟨l,U,r3,r4⟩:=r1.rename (id:=id) (nid:=nid) (blk:= .row eV (o++ys)) (by simp[bO,R]) K
                      have aKg:del (jB st.heap id (.row eV (o++ys))) id=del st.heap id:=by
                       clear r1 r2 r3 r4 U R h
                       induction st.heap with
                       |nil=>rfl
                       |cons p r ih=>
                        obtain⟨k,u⟩:=p;simp only[jB,del]
                        by_cases Z:k=id
                        . simp[Z,del]
                        . simp[Z,del,ih]
                      simp only[aKg]at r3;rw[B]at U;simp only[ii]at U;subst U;refine⟨_,_,A,_,hrun,r3,⟨.inl ⟨b,cap,q,e',by simp[dr],ak,hfit,?_,?_⟩,rfl⟩,r2,r4,bY.refl A w⟩
                      . rw[qK q4 (by simp only[abj];rw[cg hb0];simp)];exact k4
                      . exact k5
                     ·
                      have vU:Builtin.nextslicecap (o.length+ys.length) cap * i.bytes<=281474976710656:=by
                       rw[hby];exact growslice_fits aa (by simp only[bh]at hroom;exact hroom)
                      have hrun:=run_append_grow (P:=P) w t ty e i z L I N ⟨b,0,none⟩ o.length cap olds (by rw[PF,hsize]) holds ⟨xb,xo,none⟩ ys.length TJ news agl hnews aa h63 vU;have hge:=grownCap_ge w (o.length+ys.length) cap e;obtain⟨d,ρ',r1,r2,r3,r4,r5⟩:=nV (e:=e) (z:=z.cells) (cap:=grownCap w (o.length+ys.length) cap e) h K hzs aCq (vs:=olds++news) (by simp[PF,hnl,aaw]) (by simpa using hge) akK;have r1':=r1.drop id
                      have aqK:¬nid=id:=by
                       intro e;have:=h.fresh nid K;rw[e,B]at this;simp at this
                      simp only[del,aqK,if_false]at r1';have e0:(⟨b,0 * eV,none⟩:Addr)=⟨b,0,none⟩:=ak
                      rw[e0];simp only[XV]at r1' r2 r3;have e1:(olds++news).toArray=olds.toArray++news.toArray:=ak
                      rw[e1]at r1' r2 r3;exact⟨_,_,d,ρ',hrun,r1',r2,r3,r4,r5⟩
                   . simp[B]at q1
                 ·
                  have hx0:o=[]:=ac5 k2;subst hx0;simp only[ac0,aas,ac1]at *
                  have hrun:=run_append_nil (P:=P) w t ty e i z L I N ⟨xb,xo,none⟩ ys.length TJ news agl hnews ajZ h63 (by rw[hby];simp only[bh]at hroom;omega);have hge:=grownCap_ge w ys.length 0 e;obtain⟨d,ρ',r1,r2,r3,r4,r5⟩:=nV (e:=e) (z:=z.cells) (cap:=grownCap w ys.length 0 e) h K hzs adA (vs:=news) hnl hge hnr;have r1':=r1.drop id
                  have aqK:¬nid=id:=by
                   intro e;have:=h.fresh nid K;rw[e,B]at this;simp at this
                  simp only[del,aqK,if_false]at r1';exact⟨_,_,d,ρ',hrun,r1',r2,r3,r4,r5⟩
               . simp at H
             . simp at H
           . split at H
             . rename_i D;obtain⟨Ak,hroom,aqM⟩:=D;simp only[ii,uu]at H;obtain⟨rfl,rfl⟩:=H;have hsv:=vP Ak S.1;subst hsv;have h63:((ys.length:Nat):Int)<=9223372036854775807:=by simp only[maxLen]at aqM;omega
               have hrun:=run_append_nil (P:=P) w t ty e i z L I N ⟨xb,xo,none⟩ ys.length TJ news agl hnews ajZ h63 (by rw[hby];simp only[bh]at hroom;omega);have hge:=grownCap_ge w ys.length 0 e;obtain⟨d,ρ',r1,r2,r3,r4,r5⟩:=nV (e:=e) (z:=z.cells) (cap:=grownCap w ys.length 0 e) h K hzs adA (vs:=news) hnl hge hnr;exact⟨_,_,d,ρ',hrun,r1,r2,r3,r4,r5⟩
             . simp at H
         . simp at H
     . simp at H
   . simp at H
 . simp at H
end Go.aW
namespace Go.aW
open Go
variable{P:Program}{M A:agt}{ρ:Env}{F:agt}{st:St}{a:Act}{w:World}
def xH(off:Nat):∀ (l:List Value) (s:Nat) (cs:Array Value),off+s+l.length<=cs.size->
 (l.zipIdx s).foldl (λ(cs:Array Value) (p:Value×Nat)=>cs.setIfInBounds (off+p.2) p.1) cs=(bt cs.toList (off+s) l).toArray
 | [],s,cs,_=>by simp[bt]
 |v::l,s,cs,h=>by
  simp only[aaa]at h;simp only[List.zipIdx_cons,adp];rw[xH off l (s+1) _ gZ];congr 1;have e:=list_seg_step cs.toList (off+s) v l gZ;simpa[bt,Array.toList_setIfInBounds,ab3,aek,Nat.add_left_comm]using e
variable{size nid:Nat}{cs:Lc}{v:V}
def FN(a:Nat->Option (Nat×Nat))(b:Array Value)(i:Nat)(v:Value)(z:List (Nat×Value)){off:Nat}
 (hp:a i=some (off,size)) (S:v.cells.size=size) (U:off+size<=b.size):
 Instr.fill a b ((i,v)::z)=Instr.fill a (bt b.toList off v.cells.toList).toArray z:=by
 have:=xH off v.cells.toList 0 b gZ;simp only[Instr.fill,hp];have K:¬ (v.cells.size≠size||off+v.cells.size > b.size)=true:=by simp[S];omega
 rw[if_neg K];congr 1;rw[<-Array.foldl_toList,Array.toList_zipIdx];simpa using this
def Ap(a:Nat->Option (Nat×Nat))(b:Lc):List (Nat×W)->Option Lc
 | []=>some b
 |(i,u)::z=>
  match a i with
  |none=>none
  |some (S,B)=>if(cellsOf u).length=B/\S+B<=b.length then Ap a (bt b S (cellsOf u)) z else none
def S9(w:World)(A:agt)(ρ:Env):List (Nat×W)->List (Nat×Value)->Prop
 | [],[]=>True|(i,u)::r,(c,v)::U=>i=c/\RW w A ρ u v/\S9 w A ρ r U|_,_=>False
def DL.bt{cs:Lc}{vs:Array Value}{off:Nat}{u:W}{v:Value}(h:DL w A ρ cs vs)(L:RW w A ρ u v)(U:off+(cellsOf u).length<=cs.length):
 DL w A ρ (aW.bt cs off (cellsOf u)) (aW.bt vs.toList off v.cells.toList).toArray:=by
 have D:=L.cells;have H:v.cells.toList.length=(cellsOf u).length:=by simp[D.1]
 have s:off+v.cells.toList.length<=vs.toList.length:=by rw[H];simpa[<-h.1]using U
 refine⟨by rw[cg U];simp only[abj];rw[cg s];simpa using h.1,λk c x Z N=>?_⟩;rw[eY U]at Z;simp only[aci]at N;rw[eY s]at N;split at Z
 . rename_i z;rw[if_pos aa]at N;exact D.2 _ c x Z iL
 . rename_i z;rw[if_neg aa]at N;exact h.2 k c x Z iL
def th{a:Nat->Option (Nat×Nat)}:∀ {ps:List (Nat×W)} {qs:List (Nat×Value)} {cs d:Lc} {vs:Array Value},Ap a cs ps=some d->
 DL w A ρ cs vs->S9 w A ρ ps qs-> ∃e,Instr.fill a vs qs=some e/\DL w A ρ d e
 | [],[],cs,d,vs,h,J,_=>by
   simp only[Ap,ii]at h;subst h;exact⟨vs,rfl,J⟩
 | [],_::_,_,_,_,_,_,F=>agp
 |_::_,[],_,_,_,_,_,F=>agp
 |(i,u)::r,(c,v)::U,cs,d,vs,h,J,F=>by
  obtain⟨rfl,L,b⟩:=F;simp only[Ap]at h;split at h
  . simp at h
  . rename_i S B R;split at h
    . rename_i D;have g:=L.cells;rw[FN a vs i v U R (by rw[<-g.1,D.1]) (by rw[<-J.1];exact D.2)];exact th h (J.bt L (by rw[D.1];exact D.2)) b
    . simp at h
def j9(P:Program)(t:TypeId):Option Lc:=
 match P.info? t with
 |some i=>
  match i.zero with
  |some z=>if z.cells.size=i.size/\z.cells.toList.all cz=true then some (z.cells.toList.map λc=> .t (.val c))else none
  |none=>none
 |none=>none
def gJ{t:TypeId}(h:j9 P t=some cs)(w:World)(A:agt)(ρ:Env):
 ∃i z,P.info? t=some i/\i.zero=some z/\z.cells.size=i.size/\i.size=cs.length/\DL w A ρ cs z.cells:=by
 unfold j9 at h;split at h
 . rename_i i I;split at h
   . rename_i z M;split at h
     . rename_i D;simp only[ii]at h;subst h;refine⟨i,z,I,M,D.1,by simp[D.1],ak,λk c x Z N=>?_⟩;simp only[yu,aaN,N,wv,ii]at Z;subst Z;have r:x∈z.cells.toList:=oo (i:=k) iL;have:=yt.1 D.2 x r;exact⟨.val this,this⟩
     . simp at h
   . simp at h
 . simp at h
def fM{t:TypeId}{i:TypeInfo}{z:Value}(I:P.info? t=some i)(A:i.zero=some z)(w:World):(zeroValue t).run P w= .ok z w:=by
 simp[zeroValue,typeInfo,I,A]
def qx(P:Program)(e:TypeId)(nid:Nat):Option (V×(Nat×bE)):=
 match j9 P e with
 |some R=>some (.w (.one (.ptr nid R.length 0 0)),(nid,.row R.length [R]))|none=>none
def yb(h:Rel M A ρ F st a w)(K:F nid){vs:Array Value}(J:DL w A ρ cs vs)(e:TypeId):
 ∃l ρ',Rel M l ρ' (Sub F nid) {st with heap:=(nid,.row cs.length [cs])::st.heap} a (w.alloc (.cells vs e))/\
  RV (w.alloc (.cells vs e)) l ρ' (.w (.one (.ptr nid cs.length 0 0))) (.pointer (some ⟨w.heap.size,0,none⟩))/\dD ρ ρ'/\bY A l w:=by
 obtain⟨O,Y⟩:=h.alloc K (sz:=cs.length) (xs:=[cs]) (c:=vs) (e:=e) ak (by simp[J.1]) (λi r j k I Q=>by
  cases i with
  |zero=>
   simp only[yq,ii]at I;subst I;have b:j < cs.length:=(jl.1 Q).1;have G:j < vs.size:=J.1▸b;have N:vs[j]? =some vs[j]:=aga
   obtain⟨y,B⟩:=J.2 j k _ Q N;exact⟨_,by simp[N],y,B⟩
  |succ i=>simp at I)
 exact⟨_,_,O,⟨⟨w.heap.size,by simp[dr],ak⟩,rfl⟩,Y,bY.new A w⟩
def Bk{e:TypeId}{p:Nat×bE}(h:Rel M A ρ F st a w)(K:F nid)(H:qx P e nid=some (v,p)):
 ∃y w' l ρ',(Instr.alloc e true (.tuple #[])).run P w= .ok y w'/\Rel M l ρ' (Sub F nid) {st with heap:=p::st.heap} a w'/\RV w' l ρ' v y/\dA M w w'/\dD ρ ρ'/\bY A l w:=by
 unfold qx at H;split at H
 . rename_i R N;simp only[ii,uu]at H;obtain⟨rfl,rfl⟩:=H;obtain⟨i,z,I,r,D,_,J⟩:=gJ N w A ρ;obtain⟨l,ρ',O,Y,B,g⟩:=yb h K J e;exact⟨_,_,l,ρ',by simp[Instr.alloc,fM I r,newVar,newRow],O,Y,dA.alloc M w _,B,g⟩
 . simp at H
def xM(v:V)(nid:Nat):Option (V×(Nat×bE)):=
 match v with
 | .w u=>some (.w (.one (.ptr nid (cellsOf u).length 0 0)),(nid,.row (cellsOf u).length [cellsOf u]))|_=>none
def EH{e:TypeId}{u:V}{x:Value}{p:Nat×bE}(h:Rel M A ρ F st a w)(K:F nid)(H:xM v nid=some (u,p))(z:RV w A ρ v x):
 ∃y w' l ρ',(Instr.box e x).run P w= .ok y w'/\Rel M l ρ' (Sub F nid) {st with heap:=p::st.heap} a w'/\RV w' l ρ' u y/\dA M w w'/\dD ρ ρ'/\bY A l w:=by
 unfold xM at H;split at H
 . rename_i q;simp only[ii,uu]at H;obtain⟨rfl,rfl⟩:=H;obtain⟨l,ρ',O,Y,B,g⟩:=yb h K (RW.cells z) e;exact⟨_,_,l,ρ',by simp[Instr.box,newVar,newRow],O,Y,dA.alloc M w _,B,g⟩
 . simp at H
def placesOf(P:Program):List Field->Option (List (Nat×Nat))
 | []=>some []
 |f::r=>match dc P f.type,placesOf P r with
  |some n,some l=>some ((f.offset,n)::l)|_,_=>none
def run_places:∀ {fs:List Field} {l:List (Nat×Nat)},placesOf P fs=some l-> ∀w,(fs.mapM λ(f:Field)=>do pure (f.offset, <-sizeOf f.type)).run P w= .ok l w
 | [],l,h,w=>by simp only[placesOf,ii]at h;subst h;simp
 |f::r,l,h,w=>by
  simp only[placesOf]at h;split at h
  . rename_i n A K U;simp only[ii]at h;subst h;have:=run_places U w;simp only[bind_pure_comp]at this;simp[aey,run_sizeOf K,this]
  . simp at h
def qw(P:Program)(t:TypeId)(ps:List (Nat×W)):Option V:=
 match j9 P t,P.underlying t with
 |some z,some (.struct Q)=>
  match placesOf P Q.toList with
  |some l=>(Ap (λi=>l[i]?) z ps).map λR=> .w (.agg R)|none=>none
 |some z,some (.array _ e)=>
  match dc P e with
  |some B=>(Ap (λi=>some (i * B,B)) z ps).map λR=> .w (.agg R)|none=>none
 |_,_=>none
def Bj{t:TypeId}{ps:List (Nat×W)}{qs:Array (Nat×Value)}(H:qw P t ps=some v)(hp:S9 w A ρ ps qs.toList):
 ∃y,(Instr.build t qs).run P w= .ok y w/\RV w A ρ v y:=by
 unfold qw at H;split at H
 . rename_i z Q M L;split at H
   . rename_i l U;simp only[jU]at H;obtain⟨R,K,rfl⟩:=H;obtain⟨i,j,I,r,D,_,J⟩:=gJ M w A ρ;obtain⟨o,x,g⟩:=th K J hp;have c:=run_places U w
     have a:(Q.mapM λ(f:Field)=>do pure (f.offset, <-sizeOf f.type)).run P w= .ok l.toArray w:=by
      rw[ab1];simp only[Sem.run_map,c,Result.andThen_ok]
     refine⟨.agg o,?_,o,rfl,g⟩;have d:(λ(i:Nat)=>l.toArray[i]?)=λ(i:Nat)=>l[i]? :=by funext i;simp
     simp only[Instr.build,Sem.run_bind,fM I r,Result.andThen_ok,run_underlying L,a,d,x,Sem.run_pure]
   . simp at H
 . rename_i z n e M L;split at H
   . rename_i B S;simp only[jU]at H;obtain⟨R,K,rfl⟩:=H;obtain⟨i,j,I,r,D,_,J⟩:=gJ M w A ρ;obtain⟨o,x,g⟩:=th K J hp;refine⟨.agg o,?_,o,rfl,g⟩;simp only[Instr.build,Sem.run_bind,fM I r,Result.andThen_ok,run_underlying L,run_sizeOf S,x,Sem.run_pure]
   . simp at H
 . simp at H
def RE(w:World)(A:agt)(ρ:Env)(size:Nat)(xs:Lq)(vs:Array Value):Prop:=
 (∀e,e∈xs->e.length=size)/\vs.size=xs.length * size/\
   ∀ (i:Nat) (r:Lc) (j:Nat) (k:C),xs[i]? =some r->r[j]? =some k-> ∃x,vs[i * size+j]? =some x/\RC w A ρ k x/\cz x=true
def uX(size:Nat)(xs:Lq):List (Nat×W)->Option Lq
 | []=>some xs
 |(i,u)::z=>if(cellsOf u).length=size/\i < xs.length then uX size (xs.set i (cellsOf u)) z else none
def RE.set{size:Nat}{xs:Lq}{vs:Array Value}{i:Nat}{u:W}{v:Value}(h:RE w A ρ size xs vs)(L:RW w A ρ u v)(U:(cellsOf u).length=size)(I:i < xs.length):
 RE w A ρ size (xs.set i (cellsOf u)) (bt vs.toList (i * size) v.cells.toList).toArray:=by
 have D:=L.cells;obtain⟨O,Y,B⟩:=h;have l:v.cells.toList.length=size:=by rw[<-U];simp[D.1]
 have K:(i+1) * size<=xs.length * size:=YH _ I;rw[aaw]at K;have s:i * size+v.cells.toList.length<=vs.toList.length:=by rw[l];simp only[abZ,Y];omega
 refine⟨λe H=>?_,by simp only[abj];rw[cg s];simpa using Y,λc r j k n Q=>?_⟩
 . rcases aao H with q|q
   . exact O e q
   . rw[q,U]
 . simp only[aci];rw[eY s]
   by_cases F:c=i
   . subst F;rw[aaj I]at n;simp only[ii]at n;subst n;have a:j < size:=by rw[<-U];exact(jl.1 Q).1
     rw[if_pos aa,show c * size+j - c * size=j by omega];have G:j < v.cells.size:=by rw[<-D.1,U];exact a
     have N:v.cells[j]? =some v.cells[j]:=aga
     obtain⟨y,S⟩:=D.2 j k _ Q N;exact⟨_,by simp[G],y,S⟩
   . rw[aam (λe=>F e.symm)]at n;have x:j < size:=by rw[<-O r (oo n)];exact(jl.1 Q).1
     have o:¬ (i * size<=c * size+j/\c * size+j < i * size+v.cells.toList.length):=by
      rw[l];intro d;rcases adj F with R|b
      . have:(c+1) * size<=i * size:=YH _ R;rw[aaw]at this;omega
      . have:(i+1) * size<=c * size:=YH _ b;rw[aaw]at this;omega
     rw[if_neg o];obtain⟨z,M,J,g⟩:=B c r j k n Q;exact⟨z,by simpa using M,J,g⟩
def tg{size:Nat}:∀ {ps:List (Nat×W)} {qs:List (Nat×Value)} {xs xs':Lq} {vs:Array Value},uX size xs ps=some xs'->
 RE w A ρ size xs vs->S9 w A ρ ps qs-> ∃e,Instr.fill (λi=>some (i * size,size)) vs qs=some e/\RE w A ρ size xs' e
 | [],[],xs,xs',vs,h,J,_=>by
   simp only[uX,ii]at h;subst h;exact⟨vs,rfl,J⟩
 | [],_::_,_,_,_,_,_,F=>agp
 |_::_,[],_,_,_,_,_,F=>agp
 |(i,u)::r,(c,v)::U,xs,xs',vs,h,J,F=>by
  obtain⟨rfl,L,b⟩:=F;simp only[uX]at h;split at h
  . rename_i D;have g:=L.cells;have K:(i+1) * size<=xs.length * size:=YH _ D.2;rw[aaw]at K;rw[FN (λi=>some (i * size,size)) vs i v U (off:=i * size) (size:=size) rfl (by rw[<-g.1,D.1]) (by rw[J.2.1];omega)];exact tg h (J.set L D.1 D.2) b
  . simp at h
def pL{z:Array Value}(J:DL w A ρ cs z)(n:Nat):
 RE w A ρ cs.length (List.replicate n cs) ((Array.range (n * cs.length)).map λk=>z[k % z.size]!):=by
 refine⟨λe H=>by rw[ack H],ak,λi r j k I Q=>?_⟩;have b:i < n:=by have:=(jl.1 I).1;simpa using this
 simp only[ac8,b,if_true,ii]at I;subst I;have a:j < cs.length:=(jl.1 Q).1;have K:(i+1) * cs.length<=n * cs.length:=YH _ b;rw[aaw]at K;have l:i * cs.length+j < n * cs.length:=aa
 have c:j < z.size:=J.1▸a;have o:(i * cs.length+j) % z.size=j:=by rw[<-J.1,aek,Nat.add_mul_mod_self_right,adT a]
 have N:z[j]? =some z[j]:=by simp[c]
 obtain⟨y,B⟩:=J.2 j k _ Q N;refine⟨z[j],?_,y,B⟩;simp[l,o,getElem!_pos z j c]
def Ct:Array.range 0= #[]:=ael ak
def fc(P:Program)(t:TypeId)(len:Nat)(ps:List (Nat×W))(nid:Nat):Option (V×(Nat×bE)):=
 match P.underlying t with
 |some (.slice e)=>
  match j9 P e with
  |some z=>
   if len * z.length<=16777216/\0 < z.length then
    (uX z.length (List.replicate len z) ps).map λo=>(.w (.one (.own nid z.length 0 len)),(nid,.row z.length o))
   else none
  |none=>none
 |_=>none
def zy{size:Nat}:∀ {ps:List (Nat×W)} {xs xs':Lq},uX size xs ps=some xs'->xs'.length=xs.length
 | [],xs,xs',h=>by simp only[uX,ii]at h;rw[h]
 |(i,u)::r,xs,xs',h=>by
  simp only[uX]at h;split at h
  . have:=zy h;simpa using this
  . simp at h
def Fe(h:Rel M A ρ F st a w)(K:F nid){xs:Lq}{vs:Array Value}{len cap:Nat}(e:TypeId)
 (L:∀r,r∈xs->r.length=size) (U:xs.length=len) (v:len<=cap) (z:vs.size=cap * size)
 (D:∀ (i:Nat) (r:Lc) (j:Nat) (k:C),xs[i]? =some r->r[j]? =some k-> ∃x,vs[i * size+j]? =some x/\RC w A ρ k x/\cz x=true):
 ∃l ρ',Rel M l ρ' (Sub F nid) {st with heap:=(nid,.row size xs)::st.heap} a (w.alloc (.cells vs e))/\
  RV (w.alloc (.cells vs e)) l ρ' (.w (.one (.own nid size 0 len))) (.slice (some ⟨w.heap.size,0,none⟩) len cap)/\dD ρ ρ'/\bY A l w:=by
 have I:xs.length * size<=vs.size:=by rw[z,U];exact YH _ v
 obtain⟨O,Y⟩:=h.alloc K (sz:=size) (xs:=xs) (c:=vs) (e:=e) L I D;refine⟨_,_,O,⟨.inl ⟨w.heap.size,cap,cap * size,e,by simp[dr],ak,v,?_,ak⟩,rfl⟩,Y,bY.new A w⟩;simp only[World.shape?];rw[heap_alloc_new w (.cells vs e)];simp[z]
def tq{t:TypeId}{len:Nat}{ps:List (Nat×W)}{qs:Array (Nat×Value)}{p:Nat×bE}(h:Rel M A ρ F st a w)(K:F nid)
 (H:fc P t len ps nid=some (v,p)) (hp:S9 w A ρ ps qs.toList):
 ∃y w' l ρ',(Instr.buildSlice t len qs).run P w= .ok y w'/\Rel M l ρ' (Sub F nid) {st with heap:=p::st.heap} a w'/\RV w' l ρ' v y/\dA M w w'/\dD ρ ρ'/\bY A l w:=by
 unfold fc at H;split at H
 . rename_i e L;split at H
   . rename_i z N;split at H
     . rename_i D;simp only[jU,uu]at H;obtain⟨o,R,rfl,rfl⟩:=H;obtain⟨i,j,I,r,b,c,J⟩:=gJ N w A ρ;obtain⟨Q,x,hE⟩:=tg R (pL J len) hp;have n:=zy R;simp only[adk]at n;obtain⟨l,ρ',O,Y,B,g⟩:=Fe h K (cap:=len) e hE.1 n (ww _) (by rw[hE.2.1,n]) hE.2.2;refine⟨_,_,l,ρ',?_,O,Y,dA.alloc M w _,B,g⟩;have d:¬ (len * i.size > 2 ^ 24):=by rw[c];have:=D.1;omega
       have G:(sizeOf e).run P w= .ok i.size w:=af0
       rw[<-c]at x;simp only[Instr.buildSlice,Sem.run_bind,run_underlying L,Result.andThen_ok,G,d,if_false]
       by_cases s:len * i.size=0
       . rw[s,Ct,Array.map_empty]at x;simp[s,Ct,x,newRow]
       . simp[s,fM I r,x,newRow]
     . simp at H
   . simp at H
 . simp at H
def jR(P:Program)(t:TypeId)(l c:V)(nid:Nat):Option (V×(Nat×bE)):=
 match P.underlying t,l.jv,c.jv with
 |some (.slice e),some (_,l),some (_,c)=>
  match j9 P e,qy P e with
  |some z,some (_,J)=>
   if 0<=l/\l<=c/\c<=4611686018427387904/\c * J<=281474976710656 then
    some (.w (.one (.own nid z.length 0 l.toNat)),(nid,.row z.length (List.replicate l.toNat z)))
   else none
  |_,_=>none
 |_,_,_=>none
def wrap_i64{n:Int}(z:0<=n)(O:n<=4611686018427387904):IntKind.i64.wrap n=n:=by
 simp[IntKind.wrap,IntKind.bits,IntKind.signed];omega
def uj{t:TypeId}{l c:V}{x y:Value}{p:Nat×bE}(h:Rel M A ρ F st a w)(K:F nid)
 (H:jR P t l c nid=some (v,p)) (U:RV w A ρ l x) (D:RV w A ρ c y):
 ∃z w' R ρ',(Instr.makeSlice t x y).run P w= .ok z w'/\Rel M R ρ' (Sub F nid) {st with heap:=p::st.heap} a w'/\RV w' R ρ' v z/\dA M w w'/\dD ρ ρ'/\bY A R w:=by
 unfold jR at H;split at H
 . rename_i e S ln g cn L O Y;split at H
   . rename_i z size bytes d hT;split at H
     . rename_i FI;obtain⟨c1,b,c3,c4⟩:=FI;simp only[ii,uu]at H;obtain⟨rfl,rfl⟩:=H;have N:=V.lK O U;have B:=V.lK Y D;subst N;subst B;obtain⟨i,zv,I,MN,hzs,Sb,J⟩:=gJ d w A ρ;obtain⟨i',zv',hi',_,aQo,hby,_,hpos⟩:=qZ hT;rw[I]at hi';simp only[ii]at hi';subst hi';have hE:=pL J cn.toNat;have hle:ln.toNat<=cn.toNat:=aa
       obtain⟨R,ρ',r,Z,r3,r4⟩:=Fe h K (size:=z.length) (xs:=List.replicate ln.toNat z) (len:=ln.toNat) (cap:=cn.toNat) e
        (λo hel=>by rw[ack hel]) ak hle (by rw[hE.2.1];simp) (λi o j k I Q=>by
          refine hE.2.2 i o j k ?_ Q;have zj:i < ln.toNat:=by have:=(jl.1 I).1;simpa using this
          simp only[ac8,zj,if_true]at I;simp only[ac8,show i < cn.toNat by omega,if_true];exact I)
       refine⟨_,_,R,ρ',?_,r,Z,dA.alloc M w _,r3,r4⟩;have w1:=wrap_i64 c1 aa;have w2:=wrap_i64 (n:=cn) aa c3;have n1:¬cn < 0:=aa
       have n2:¬ ((i.bytes:Int) * cn > 281474976710656):=by rw[hby,Int.mul_comm];omega
       have n3:¬ln < 0:=aa
       have n4:¬ln > cn:=aa
       have hsize:(sizeOf e).run P w= .ok i.size w:=af0
       have hti:(typeInfo e).run P w= .ok i w:=by simp[typeInfo,I]
       have G:(decide (cn < 0)||decide ((i.bytes:Int) * cn > 2 ^ 48))=false:=by simp;omega
       simp only[Instr.makeSlice,Sem.run_bind,run_underlying L,Result.andThen_ok,asInt,asIntOf,hti,w1,w2,Sem.run_pure];have hif:(decide (cn < 0)||decide ((i.bytes:Int) * cn > 2 ^ 48)||decide (ln < 0)||decide (ln > cn))=false:=by rw[G];simp;omega
       simp only[hif,aag,if_false,run_askRoom,Result.andThen_ok,Sem.run_bind,hsize,Sem.run_pure];rw[<-Sb]at *
       by_cases s:cn.toNat * i.size=0
       . simp[s,Ct,newRow]
       . simp[s,fM I MN,newRow]
     . simp at H
   . simp at H
 . simp at H
end Go.aW
namespace Go.aW
open Go
variable{P:Program}{M A:agt}{ρ:Env}{F:agt}{st:St}{a:Act}{w:World}
def iq(P:Program)(t:TypeId)(d s:V)(heap:List (Nat×bE)):Option (V×List (Nat×bE)):=
 match d,s with
 | .w (.one (.own id N i len)),.w (.one x)=>
   match P.underlying t with
   |some (.slice e)=>
    match dc P e,(if isNil x then some (N,[])else elems heap x)with
    |some B,some (Q,Y)=>
     if(Y.take len).length=0 then some (.w (.one (.t (.val (goInt 0)))),heap)
     else match find heap id with
      |some (.row D o)=>if N=B/\D=B/\Q=B/\i+len<=o.length then some (.w (.one (.t (.val (goInt ((Y.take len).length:Int))))),jB heap id (.row B (bt o i (Y.take len))))else none
      |_=>none
    |_,_=>none
   |_=>none
 |_,_=>none
def Dj{t t' ty:TypeId}{d s v:V}{x y:Value}{heap':List (Nat×bE)}(h:Rel M A ρ F st a w)(H:iq P t d s st.heap=some (v,heap'))
 (Z:RV w A ρ d x) (S:RV w A ρ s y): ∃r w',(Builtin.copy_ #[t,t'] ty #[x,y]).run P w= .ok r w'/\Rel M A ρ F {st with heap:=heap'} a w'/\dA M w w'/\RV w' A ρ v r:=by
 unfold iq at H;split at H
 . rename_i id sz i len xc;split at H
   . rename_i e L;split at H
     . rename_i size eV ys hsz hys
       have aC9: ∃inf,P.info? e=some inf/\inf.size=size:=by
        simp only[dc,jU]at hsz;exact hsz
       obtain⟨inf,aDa,akM⟩:=aC9
       have hsrc: ∃b cap,y= .slice b ys.length cap/\ys.length<=cap:=by
        split at hys
        . rename_i K;simp only[ii,uu]at hys;obtain⟨_,rfl⟩:=hys;exact⟨none,0,vP K S.1,ww _⟩
        . exact(nx h hys S.1).2
       obtain⟨sb,aPq,rfl,_⟩:=hsrc
       have C4: ∃db aD3,x= .slice db len aD3:=by
        rcases Z.1 with⟨b,cap,q,e',k1,k2,_⟩|⟨_,_,rfl,k2⟩
        . exact⟨_,_,k2⟩
        . exact⟨_,_,k2⟩
       obtain⟨db,aD3,rfl⟩:=C4;have hmin:Nat.min ys.length len=(ys.take len).length:=by simp[Nat.min_comm]
       split at H
       . rename_i PG;simp only[ii,uu]at H;obtain⟨rfl,rfl⟩:=H;refine⟨goInt 0,w,?_,h,dA.refl _ _,RV.ofValue w A ρ (goInt 0)⟩;have U:∀ (q:Addr),(loadCells q 0).run P w= .ok #[] w:=λq=>by simpa using run_loadCells_list (P:=P) w q [] ak
         rw[PG]at hmin;cases db<;>cases sb<;>simp[Builtin.copy_,run_underlying L,Builtin.lenOf,Builtin.firstCells,sizeOf,typeInfo,aDa,akM,hmin,storeCells,U]
       . rename_i PG;split at H
         . rename_i sz' o R;split at H
           . rename_i D;obtain⟨rfl,rfl,rfl,hle⟩:=D;simp only[ii,uu]at H;obtain⟨rfl,rfl⟩:=H;rcases Z.1 with⟨b,cap,q,e',k1,k2,k3,k4,k5⟩|⟨_,_,rfl,_⟩
             . simp only[Value.slice.injEq]at k2;obtain⟨rfl,_,rfl⟩:=k2;obtain⟨HL,G⟩:=h.heap id _ R;rcases G with⟨b',c,ce,q1,q2,q3,q4,q5,q6⟩|⟨Y,_⟩
               . rw[k1]at q1;simp only[ii,Loc.gD.injEq]at q1;subst q1
                 have hnn:isNil xc=false:=by
                  cases Ak:isNil xc with
                  |false=>rfl
                  |true=>
                   rw[Ak]at hys;simp only[if_true,ii,uu]at hys;rw[<-hys.2]at PG;simp at PG
                 rw[hnn]at hys;simp only[aag,if_false]at hys
                 have hne:ys≠ []:=by
                  intro l;subst l;simp at PG
                 obtain⟨HM,_⟩:=nx h hys S.1;obtain⟨b2,o2,aSs,e2,hcell⟩:=mv h hys S.1 hne;simp only[Value.slice.injEq]at e2;obtain⟨rfl,_,rfl⟩:=e2
                 let B:=ys.take len
                 have hzs:∀el,el∈B->el.length=eV:=λel hel=>HM el (aah hel)
                 obtain⟨vs,hvl,hvg,Eu,hvr⟩:=s9 (w:=w) (A:=A) (ρ:=ρ) (xs:=B) (sz:=eV) (g:=λn=>w.cell? ⟨b2,o2+n,none⟩) hzs (λi' el j k I Q=>by
                  have zj:i' < len:=by
                   have:=(jl.1 I).1;simp only[B,aab]at this;omega
                  exact hcell i' el j k (by simpa[B,aa4,zj]using I) Q)
                 have iF:B.length<=len:=by simp only[B,aab];omega
                 have hfit:i * eV+vs.length<=c.size:=by
                  rw[hvl];have O:(i+B.length) * eV<=o.length * eV:=YH _ aa;rw[aaw]at O;omega
                 have aCX:=run_loadCells_list (P:=P) w ⟨b2,o2,none⟩ vs (λj u Ev=>by
                  have aKu:(⟨b2,o2,none⟩:Addr).add j=⟨b2,o2+j,none⟩:=by unfold Addr.add;split<;>simp_all
                  rw[aKu];exact hvg j u Ev)
                 have hst:=run_storeCells_at P b (i * eV) ce vs 0 c w q4 (by simpa using hfit) Eu;simp only[ace]at hst;have dW:c.toList.length=c.size:=ak
                 obtain⟨r1,r2⟩:=h.write (c':=(bt c.toList (i * eV) vs).toArray) (xs':=bt o i B) R k1 q4
                  Kz
                  (λel hel=>by
                    simp only[bt,yl]at hel;rcases hel with(hel|hel)|hel
                    . exact HL el (aah hel)
                    . exact hzs el hel
                    . exact HL el (abc hel))
                  yy
                  (λi' el j k I Q=>by
                    simp only[aci];rw[eY aa];rw[eY aa]at I;split at I
                    . rename_i hin;have hel:el.length=eV:=hzs el (oo I);have hj2:j < eV:=by rw[<-hel];exact(jl.1 Q).1
                      have O:(i' - i) * eV+i * eV=i' * eV:=by rw[<-aaw];congr 1;omega
                      have Y:(i' - i+1) * eV<=B.length * eV:=YH _ aa;rw[aaw]at Y;rw[if_pos (by rw[hvl];omega),show i' * eV+j - i * eV=(i' - i) * eV+j by omega];exact hvr (i' - i) el j k I Q
                    . rename_i hin;have hel:el.length=eV:=HL el (oo I);have hj2:j < eV:=by rw[<-hel];exact(jl.1 Q).1
                      have hout:¬ (i * eV<=i' * eV+j/\i' * eV+j < i * eV+vs.length):=by
                       intro hh;rw[hvl]at hh;rcases aa8 i' i with hlt|hge
                       . have:(i'+1) * eV<=i * eV:=YH _ hlt;rw[aaw]at this;omega
                       . have:(i+B.length) * eV<=i' * eV:=YH _ aa;rw[aaw]at this;omega
                      rw[if_neg hout];obtain⟨z,N,J,O⟩:=q6 i' el j k I Q;exact⟨z,iL,J,O⟩)
                 refine⟨goInt ((ys.take len).length:Int),_,?_,r1,r2,RV.ofValue _ A ρ (goInt ((ys.take len).length:Int))⟩;have hnl:Nat.min ys.length len * eV=vs.length:=by rw[hmin,hvl]
                 simp only[Builtin.copy_,Sem.run_bind,aci,yq,ac9,run_underlying L,Result.andThen_ok,Builtin.lenOf,Builtin.firstCells,Sem.run_pure,sizeOf,typeInfo,run_program,aDa,akM];have aqJ:(ys.take len).length * eV=vs.length:=by rw[<-hmin];exact hnl
                 simp only[hmin,aqJ,aCX,Result.andThen_ok,hst,bt]
               . simp[k1]at Y
             . simp at PG
           . simp at H
         . simp at H
     . simp at H
   . simp at H
 . simp at H
end Go.aW
namespace Go.aW
open Go
variable{P:Program}{M A:agt}{ρ:Env}{F:agt}{st:St}{a:Act}{w:World}
variable{α:Type}{es:List (Value×C×Nat)}{clock id:Nat}{x:Value}{v:V}
def aY{P:Program}{β:Type}(x:Sem α)(f:α->Sem β):aX P (x >>= f)=(aX P x).bind λa=>aX P (f a):=by
 show aX P (x.bind f)=_
 induction x with
 |pure a=>simp[Sem.bind,aX]
 |program k c=>simp only[Sem.bind,aX];exact c _
 |mark m k c=>simp only[Sem.bind,aX];exact c
 |_=>simp[Sem.bind,aX]
def aU{P:Program}(a:α):aX P (pure a:Sem α)=some a:=rfl
def eO{P:Program}{β:Type}(x:Sem α)(f:α->β):aX P (f <$> x)=(aX P x).map f:=by
 have:(f <$> x)=x >>= λa=>pure (f a):=by simp[bind_pure_comp]
 rw[this,aY];cases aX P x<;>rfl
def bi{P:Program}{t:TypeId}{d:TypeDesc}(h:P.underlying t=some d):aX P (underlying t)=some d:=by
 simp[underlying,aY,program,aX,h,aU]
def dY(es:List (Value×C×Nat)):List MapEntry:=es.map λp=>⟨p.1,.bool false,0⟩
def iY(P:Program)(o:Bool)(kt:TypeId)(k:Value)(es:List (Value×C×Nat)):Option (Option Nat):=
 match aX P (Instr.checkKey o 10000 kt k)with
 |some _=>match aX P (Instr.findKey kt k (dY es))with
  |some (some (i,_))=>some (some i)|some none=>some none|none=>none
 |none=>none
def zN(K:List MapEntry)(i:Nat)(l I:Option (Nat×Value)):Prop:=
 l.map (·.1)=I.map (·.1)/\ ∀j v,I=some (j,v)->i<=j/\ ∃e,K[j - i]? =some e/\e.val=v
def zN.step{K:List MapEntry}{e:MapEntry}{i:Nat}{l I:Option (Nat×Value)}(h:zN K (i+1) l I):zN (e::K) i l I:=by
 refine⟨h.1,λj v Q=>?_⟩;obtain⟨O,J,Y,B⟩:=h.2 j v Q;refine⟨aa,J,?_,B⟩;rw[show j - i=(j - (i+1))+1 by omega];simpa using Y
def uV{d:TypeDesc}{k:Value}:∀ {z K:List MapEntry} {i:Nat},z.map (·.key)=K.map (·.key)->
 (Instr.findNow d k z i=none/\Instr.findNow d k K i=none)\/ ∃l I,Instr.findNow d k z i=some l/\Instr.findNow d k K i=some I/\zN K i l I
 | [],[],i,_=> .inr ⟨none,none,rfl,rfl,rfl,λj v h=>by simp at h⟩
 |H::z,o::K,i,h=>by
  simp only[aaq,aaz]at h;have c:=uV (d:=d) (k:=k) (i:=i+1) h.2;simp only[Instr.findNow,h.1];split
  . exact .inr ⟨_,_,rfl,rfl,rfl,λj v Q=>by
     simp only[ii,uu]at Q;obtain⟨rfl,rfl⟩:=Q;exact⟨ww _,o,ak,rfl⟩⟩
  . rcases c with c|⟨l,I,O,Y,B⟩
    . exact .inl c
    . exact .inr ⟨l,I,O,Y,B.step⟩
  . exact .inl ⟨rfl,rfl⟩
 | [],_::_,i,h=>agb
 |_::_,[],i,h=>agb
def qv{kt:TypeId}{k:Value}:∀ {z K:List MapEntry} {i:Nat} {l:Option (Nat×Value)},z.map (·.key)=K.map (·.key)->
 aX P (Instr.findAsking kt k z i)=some l-> ∃I,aX P (Instr.findAsking kt k K i)=some I/\zN K i l I
 | [],[],i,l,_,h=>by
   simp only[Instr.findAsking,aU,ii]at h;subst h;exact⟨none,rfl,rfl,λj v h=>by simp at h⟩
 |H::z,o::K,i,l,Z,h=>by
  simp only[aaq,aaz]at Z;simp only[Instr.findAsking,aY,Z.1,acs]at h;obtain⟨b,G,h⟩:=h;simp only[Instr.findAsking,aY,G,Tf]
  cases b with
  |true=>
   simp only[if_true,aU,ii]at h⊢;subst h;refine⟨_,rfl,rfl,λj v Q=>?_⟩;simp only[ii,uu]at Q;obtain⟨rfl,rfl⟩:=Q;exact⟨ww _,o,ak,rfl⟩
  |false=>
   simp only[aag,if_false]at h⊢;obtain⟨I,O,Y⟩:=qv Z.2 h;exact⟨I,O,Y.step⟩
 | [],_::_,i,l,Z,h=>by simp at Z
 |_::_,[],i,l,Z,h=>by simp at Z
def EC{kt:TypeId}{k:Value}{z K:List MapEntry}{l:Option (Nat×Value)}(Z:z.map (·.key)=K.map (·.key))
 (h:aX P (Instr.findKey kt k z)=some l): ∃I,aX P (Instr.findKey kt k K)=some I/\zN K 0 l I:=by
 simp only[Instr.findKey,aY,acs]at h;obtain⟨d,S,h⟩:=h;rcases uV (d:=d) (k:=k) (i:=0) Z with⟨O,Y⟩|⟨c,r,O,Y,B⟩
 . rw[O]at h;obtain⟨I,g,U⟩:=qv Z h;exact⟨I,by simp only[Instr.findKey,aY,S,Tf,Y,g],U⟩
 . rw[O]at h;simp only[aU,ii]at h;subst h;exact⟨r,by simp only[Instr.findKey,aY,S,Tf,Y,aU],B⟩
def dJ{o:Bool}{kt:TypeId}{k:Value}{d:Array MapEntry}{r:Option Nat}(h:iY P o kt k es=some r)
 (Z:(dY es).map (·.key)=d.toList.map (·.key)) (w:World):
 (Instr.checkKey o 10000 kt k).run P w= .ok () w/\ ∃I,(Instr.findKey kt k d.toList).run P w= .ok I w/\I.map (·.1)=r/\ ∀j v,I=some (j,v)-> ∃e,d[j]? =some e/\e.val=v:=by
 unfold iY at h;split at h
 . rename_i u L;refine⟨sD L w,?_⟩
   have n:∀ {l:Option (Nat×Value)},aX P (Instr.findKey kt k (dY es))=some l->l.map (·.1)=r-> ∃I,(Instr.findKey kt k d.toList).run P w= .ok I w/\I.map (·.1)=r/\ ∀j v,I=some (j,v)-> ∃e,d[j]? =some e/\e.val=v:=by
    intro l O Y;obtain⟨I,B,g⟩:=EC Z O;refine⟨I,sD B w,by rw[<-g.1];exact Y,λj v Q=>?_⟩;obtain⟨_,e,U,a⟩:=g.2 j v Q;exact⟨e,by simpa using U,a⟩
   split at h
   . rename_i i v R;simp only[ii]at h;subst h;exact n R rfl
   . rename_i R;simp only[ii]at h;subst h;exact n R rfl
   . simp at h
 . simp at h
def gi{id clock:Nat}{d:Array MapEntry}(S:d.size=es.length)
 (h:∀ (i:Nat) (k:Value) (c:C) (n:Nat),es[i]? =some (k,c,n)-> ∃e,d[i]? =some e/\e.key=k/\e.born=n/\RC w A ρ c e.val/\DW c e.val):
 (dY es).map (·.key)=d.toList.map (·.key):=by
 apply abm;intro i;simp only[dY,acm,yu,aaN]
 cases he:es[i]? with
 |none=>
  have:d[i]? =none:=by
   rw[aeu];have:=adR.1 he;omega
  rw[this];rfl
 |some p=>
  obtain⟨k,c,n⟩:=p;obtain⟨e,O,Y,_⟩:=h i k c n he;rw[O];simp[Y]
def pX{P:Program}{w:World}{r:Nat}{es:Array MapEntry}(G:w.heap[r]? =some (.map es clock)):(getObj r).run P w= .ok (.map es clock) w:=by
 simp[getObj,Sem.run,G]
def Ec{P:Program}{w:World}{r:Nat}{es:Array MapEntry}(o:Obj)(G:w.heap[r]? =some (.map es clock)):(setObj r o).run P w= .ok () {w with heap:=w.heap.setIfInBounds r o}:=by
 simp[setObj,Sem.run,G]
def ny(P:Program)(t:TypeId):Option Value:=
 match P.info? t with
 |some i=>match i.zero with
  |some z=>if cz z=true then some z else none
  |none=>none
 |none=>none
def yD{P:Program}{t:TypeId}{z:Value}(h:ny P t=some z)(w:World):(zeroValue t).run P w= .ok z w/\cz z=true:=by
 unfold ny at h;split at h
 . rename_i i I;split at h
   . rename_i a A;split at h
     . rename_i D;simp only[ii]at h;subst h;exact⟨fM I A w,D⟩
     . simp at h
   . simp at h
 . simp at h
def bT(b:Bool):W:= .one (.t (.val (.bool b)))
def RW.bT(b:Bool):RW w A ρ (bT b) (.bool b):=⟨.val rfl,rfl⟩
def Q3{u0:W}{b:Bool}(D:RW w A ρ u0 x):RV w A ρ (.fB [u0,Go.aW.bT b]) (.tuple #[x,.bool b]):=by
 refine⟨_,rfl,rfl,λk u y L G=>?_⟩
 match k with
 |0=>simp at L G;subst L;subst G;exact D
 |1=>simp at L G;subst L;subst G;exact RW.bT b
 |k+2=>simp at L
def iT{n:Nat}{L:List (Nat×V)}{hp:List (Nat×bE)}(J:Rel M A ρ F ⟨n,L,hp⟩ a w)(R:find hp id=some (.mp es clock))(hx:RV w A ρ (.w (.one (.map id))) x):
 ∃b d,ρ id=some (.gD b)/\x= .map (some b)/\w.heap[b]? =some (.map d clock)/\d.size=es.length/\
  ∀ (i:Nat) (k:Value) (c:C) (n:Nat),es[i]? =some (k,c,n)-> ∃e,d[i]? =some e/\e.key=k/\e.born=n/\RC w A ρ c e.val/\DW c e.val:=by
 obtain⟨b,O,Y⟩:=hx.1;obtain⟨K,d,s,v,z,S,P,G⟩:=J.heap id _ R;rw[O]at s;simp only[ii,Loc.gD.injEq]at s;subst s;exact⟨b,d,O,Y,S,P,G⟩
def fQ{d:Array MapEntry}(h:d.size=es.length):d.isEmpty=es.isEmpty:=by
 rw[adq,Array.isEmpty_iff_size_eq_zero,List.isEmpty_iff_length_eq_zero,h]
def fU(P:Program)(t:TypeId)(m k:V)(ok:Bool)(heap:List (Nat×bE)):Option V:=
 match m,k.val? with
 | .w (.one (.map id)),some U=>match P.underlying t,find heap id with
   |some (.map a S),some (.mp B _)=>match iY P B.isEmpty a U B with
    |some (some i)=>match B[i]? with
     |some (_,c,_)=>some (match ok with|true=> .fB [cw c,bT true]|false=> .w (cw c))
     |none=>none
    |some none=>match ny P S with
     |some z=>some (match ok with|true=> .fB [.one (.t (.val z)),bT false]|false=> .w (.one (.t (.val z))))
     |none=>none
    |none=>none
   |_,_=>none
 |_,_=>none
def zA{t:TypeId}{m k:V}{ok:Bool}{hp hp2:List (Nat×bE)}(h:∀id,m= .w (.one (.map id))->find hp2 id=find hp id):fU P t m k ok hp2=fU P t m k ok hp:=by
 unfold fU;split
 . rename_i id kv hk;rw[h id rfl]
 . rfl
def zz{t:TypeId}{m k:V}{ok:Bool}{xm xk:Value}(h:Rel M A ρ F st a w)(H:fU P t m k ok st.heap=some v)(r:RV w A ρ m xm)(Z:RV w A ρ k xk):
 ∃x,(Instr.lookup t xm xk ok).run P w= .ok x w/\RV w A ρ v x:=by
 unfold fU at H;split at H
 . rename_i id kv hkv;have vk:=V.bR hkv Z;split at H
   . rename_i kt S B Y g R;obtain⟨b,d,q1,q2,q3,q4,q5⟩:=iT (n:=st.n) (L:=st.tmps) (hp:=st.heap) h R r;split at H
     . rename_i i rH;split at H
       . rename_i e c born Ak;simp only[ii]at H;subst H;obtain⟨D,I,K,Q,c4⟩:=dJ rH (gi (id:=id) (clock:=Y) q4 q5) w
         cases I with
         |none=>simp at Q
         |some p=>
          obtain⟨j,v⟩:=p;simp only[wv,ii]at Q;subst Q;obtain⟨U,l,o,G,O,e5⟩:=q5 j e c born Ak;obtain⟨J,f1,y⟩:=c4 j v rfl;rw[l]at f1;simp only[ii]at f1;subst f1;subst y;refine⟨if ok then .tuple #[U.val,.bool true]else U.val,?_,?_⟩
          . simp only[Instr.lookup,Sem.run_bind,run_underlying g,Result.andThen_ok,q2,pX q3,Sem.run_pure,vk,fQ q4,D,K]
          . cases ok with
            |true=>exact Q3 (e5.rw O)
            |false=>exact e5.rw O
       . simp at H
     . rename_i rH;split at H
       . rename_i z N;simp only[ii]at H;subst H;obtain⟨D,I,K,Q,c4⟩:=dJ rH (gi (id:=id) (clock:=Y) q4 q5) w
         cases I with
         |some p=>simp at Q
         |none=>
          obtain⟨hzr,s⟩:=yD N w;refine⟨if ok then .tuple #[z,.bool false]else z,?_,?_⟩
          . simp only[Instr.lookup,Sem.run_bind,run_underlying g,Result.andThen_ok,q2,pX q3,Sem.run_pure,vk,fQ q4,D,K,hzr]
          . cases ok with
            |true=>exact Q3 (u0:= .one (.t (.val z))) ⟨RT.val s,s⟩
            |false=>exact⟨RT.val s,s⟩
       . simp at H
     . simp at H
   . simp at H
 . simp at H
def F9:Lq->Option (List Int)
 | []=>some []
 | [.t (.val (.int .u8 n))]::r=>(F9 r).map (n:: ·)
 |_::_=>none
def F8:∀ {ys:Lq} {j:List Int},F9 ys=some j->j.length=ys.length/\ ∀ (i:Nat) (n:Int),j[i]? =some n->ys[i]? =some [.t (.val (.int .u8 n))]
 | [],j,h=>by simp only[F9,ii]at h;subst h;simp
 |y::ys,j,h=>by
  unfold F9 at h;split at h
  . rename_i z;simp at z
  . rename_i n r z;simp only[aaz]at z;obtain⟨rfl,rfl⟩:=z;simp only[jU]at h;obtain⟨L,s,rfl⟩:=h;obtain⟨O,Y⟩:=F8 s;refine⟨by simp[O],λi m I=>?_⟩
    cases i with
    |zero=>simpa using I
    |succ i=>simpa using Y i m zh
  . simp at h
def kr(P:Program)(G dst:TypeId)(v:V)(heap:List (Nat×bE)):Option V:=
 match v with
 | .w (.one (.own id N i len))=>match P.underlying G,P.underlying dst with
   |some (.slice e),some .string=>match P.underlying e,elems heap (.own id N i len)with
    |some (.int .u8),some (1,y::Y)=>(F9 (y::Y)).map λj=> .w (.one (.t (.val (.string (strOfNums j)))))|_,_=>none
   |_,_=>none
 |_=>none
def Bh{G dst:TypeId}{u:V}(h:Rel M A ρ F st a w)(H:kr P G dst v st.heap=some u)(l:RV w A ρ v x):
 ∃y,(convert G dst x).run P w= .ok y w/\RV w A ρ u y:=by
 unfold kr at H;split at H
 . rename_i id sz i len;split at H
   . rename_i e S r;split at H
     . rename_i y Q L d;simp only[jU]at H;obtain⟨j,K,rfl⟩:=H;obtain⟨O,Y⟩:=F8 K;obtain⟨b,o,U,rfl,D⟩:=mv h d l.1 ak;refine⟨_,run_convert_bytes_arg w G e S L b o (y::Q).length U j O (λk Z=>?_) dst r,⟨.val rfl,rfl⟩⟩;have R:k < j.length:=aa
       have I:=Y k j[k] (by simp[R]);obtain⟨z,N,J,_⟩:=D k _ 0 _ I rfl;cases J;simp only[adv,ace]at N;rw[N];simp[List.getD,R]
     . simp at H
   . simp at H
 . simp at H
def GV{w:World}{b:Nat}{d en':Array MapEntry}{c c':Nat}(G:w.heap[b]? =some (.map d c))(k:Nat):({w with heap:=w.heap.setIfInBounds b (.map en' c')}:World).shape? k=w.shape? k:=by
 simp only[World.shape?]
 by_cases Z:b=k
 . subst Z
   have l:b < w.heap.size:=by
    rcases aa8 b w.heap.size with h|h
    . exact h
    . simp[aav h]at G
   have e:(w.heap.setIfInBounds b (.map en' c'))[b]? =some (.map en' c'):=agc
   rw[e,G]
 . rw[abb Z]
def Rel.sC(h:Rel M A ρ F st a w){clock':Nat}{es':List (Value×C×Nat)}{b:Nat}{Q en':Array MapEntry}
 (R:find st.heap id=some (.mp es clock)) (H:ρ id=some (.gD b)) (G:w.heap[b]? =some (.map Q clock)) (S:en'.size=es'.length)
 (D:∀ (i:Nat) (k:Value) (c:C) (n:Nat),es'[i]? =some (k,c,n)-> ∃e,en'[i]? =some e/\e.key=k/\e.born=n/\RC w A ρ c e.val/\DW c e.val):
 Rel M A ρ F {st with heap:=jB st.heap id (.mp es' clock')} a {w with heap:=w.heap.setIfInBounds b (.map en' clock')}/\dA M w {w with heap:=w.heap.setIfInBounds b (.map en' clock')}:=by
 obtain⟨J,o,N⟩:=(h.heap id _ R).lt H;have Kr:∀k,k≠b->(w.heap.setIfInBounds b (.map en' clock'))[k]? =w.heap[k]? :=λk Z=>abb (λe=>Z e.symm);have Z:dS A A w {w with heap:=w.heap.setIfInBounds b (.map en' clock')}:=⟨ak,λk _ K=>⟨Kr k (λe=>K (e▸N)),K⟩⟩;have hsh:∀k,k < w.heap.size->({w with heap:=w.heap.setIfInBounds b (.map en' clock')}:World).shape? k=w.shape? k:=λk _=>GV G k;have r:dA M w {w with heap:=w.heap.setIfInBounds b (.map en' clock')}:=⟨rfl,rfl,rfl,ak,λk _ l=>Kr k (λe=>l (e▸o)),hsh⟩;refine⟨⟨h.size,h.defers,λt v z=>(h.tmps t v z).keeps Z hsh (dD.refl _),?_,?_,h.fresh,?_,?_,h.dR.LN r (λ_ _ h=>h)⟩,r⟩
 . intro k L Kv;simp only[bO]at Kv;split at Kv
   . rename_i ek;subst ek;simp only[R,wv,ii]at Kv;subst Kv;refine⟨b,en',H,o,N,by simp[J],S,λi k c n I=>?_⟩;obtain⟨e,O,Y,B,s,U⟩:=D i k c n I;exact⟨e,O,Y,B,s.keeps Z hsh (dD.refl _),U⟩
   . rename_i ek;refine(h.heap k L Kv).keeps Z hsh (dD.refl _) (λ_ h=>h) (λx hb'=>Kr x (λe=>ek ?_));subst e;exact h.inj k id L _ x Kv R hb' H
 . intro k P L gU x O Y y j
   have g:∀q bl,find (jB st.heap id (.mp es' clock')) q=some bl-> ∃AB,find st.heap q=some AB:=by
    intro q bl d;simp only[bO]at d;split at d
    . rename_i e;subst e;exact⟨_,R⟩
    . exact⟨_,d⟩
   obtain⟨bl1,g1⟩:=g k L O;obtain⟨bl2,g2⟩:=g P gU Y;exact h.inj k P bl1 bl2 x g1 g2 y j
 . intro q d;simpa using h.bound q d
 . intro q d;exact h.may q (by simpa using d)
def lX(P:Program)(t:TypeId)(m k x:V)(heap:List (Nat×bE)):Option (Nat×bE):=
 match m,k.val?,x with
 | .w (.one (.map id)),some U,.w (.one c)=>match P.underlying t,find heap id with
   |some (.map a _),some (.mp B Y)=>match iY P false a U B with
    |some (some i)=>match B[i]? with
     |some (N,_,D)=>if Instr.sameBits 10000 N U=true then some (id,.mp (B.set i (U,c,D)) Y)else none
     |none=>none
    |some none=>some (id,.mp (B++[(U,c,Y)]) (Y+1))|none=>none
   |_,_=>none
 |_,_,_=>none
def EE{t:TypeId}{m k x:V}{hp hp2:List (Nat×bE)}(h:∀id,m= .w (.one (.map id))->find hp2 id=find hp id):lX P t m k x hp2=lX P t m k x hp:=by
 unfold lX;split
 . rename_i id kv c hk;rw[h id rfl]
 . rfl
def Nq{t:TypeId}{m k x:V}{hp:List (Nat×bE)}{b:bE}(h:lX P t m k x hp=some (id,b)):m= .w (.one (.map id)):=by
 unfold lX at h;split at h
 . split at h
   . split at h
     . split at h
       . split at h
         . simp only[ii,uu]at h;rw[h.1]
         . simp at h
       . simp at h
     . simp only[ii,uu]at h;rw[h.1]
     . simp at h
   . simp at h
 . simp at h
def ED{t:TypeId}{m k x:V}{blk:bE}{xm xk xx:Value}(h:Rel M A ρ F st a w)(H:lX P t m k x st.heap=some (id,blk))(r:RV w A ρ m xm)(Z:RV w A ρ k xk)(hx:RV w A ρ x xx):
 ∃w',(Instr.mapUpdate t xm xk xx).run P w= .ok () w'/\Rel M A ρ F {st with heap:=jB st.heap id blk} a w'/\dA M w w':=by
 unfold lX at H;split at H
 . rename_i S U c hkv;have vk:=V.bR hkv Z;split at H
   . rename_i kt et J Y L R;obtain⟨b,D,q1,q2,q3,q4,q5⟩:=iT h R r;split at H
     . rename_i i rH;obtain⟨g,n,K,Q,c4⟩:=dJ rH (gi (id:=S) (clock:=Y) q4 q5) w;split at H
       . rename_i old c0 born Ak;split at H
         . rename_i Tv;simp only[ii,uu]at H;obtain⟨rfl,rfl⟩:=H
           cases n with
           |none=>simp at Q
           |some p=>
            obtain⟨j,v⟩:=p;simp only[wv,ii]at Q;subst Q;obtain⟨e0,l,o,G,_⟩:=q5 j old c0 born Ak;have I:j < D.size:=(aat.1 l).1
            obtain⟨y,B⟩:=Rel.sC (clock':=Y) (es':=J.set j (U,c,born)) (en':=D.modify j λe=>{e with key:=U,val:=xx}) h R q1 q3 agq (λi s z n' O=>by
             by_cases hij:j=i
             . subst hij;rw[aaj (by rw[<-q4];exact I)]at O;simp only[ii,uu]at O;obtain⟨rfl,rfl,rfl⟩:=O;refine⟨{e0 with key:=U,val:=xx},by simp[ab5,l],rfl,G,hx.1,.inl hx.2⟩
             . rw[aam hij]at O;obtain⟨e,g1,g2,g3,g4,g5⟩:=q5 i s z n' O;exact⟨e,by simp[ab5,hij,g1],g2,g3,g4,g5⟩)
            refine⟨_,?_,y,B⟩
            have hks:(Instr.keyThatStays (((D[j]?).map (·.key)).getD U) U).run P w= .ok U w:=by
             simp[Instr.keyThatStays,l,o,Tv]
            simp only[Instr.mapUpdate,Sem.run_bind,run_underlying L,Result.andThen_ok,q2,pX q3,vk,g,K,hks,Ec _ q3,Sem.run_pure]
         . simp at H
       . simp at H
     . rename_i rH;obtain⟨g,n,K,Q,c4⟩:=dJ rH (gi (id:=S) (clock:=Y) q4 q5) w;simp only[ii,uu]at H;obtain⟨rfl,rfl⟩:=H
       cases n with
       |some p=>simp at Q
       |none=>
        obtain⟨y,B⟩:=Rel.sC (clock':=Y+1) (es':=J++[(U,c,Y)]) (en':=D.push {key:=U,val:=xx,born:=Y}) h R q1 q3 agq (λi s z n' O=>by
         by_cases d:i < J.length
         . rw[aaf d]at O;obtain⟨e,g1,g2,g3,g4,g5⟩:=q5 i s z n' O;exact⟨e,by rw[adb,if_neg aa];exact g1,g2,g3,g4,g5⟩
         . rw[aai aa]at O
           have N:i - J.length=0:=by
            have:=(jl.1 O).1;simp at this;omega
           rw[N]at O;simp only[yq,ii,uu]at O;obtain⟨rfl,rfl,rfl⟩:=O;exact⟨⟨U,xx,Y⟩,by rw[adb,if_pos aa],rfl,rfl,hx.1,.inl hx.2⟩)
        refine⟨_,?_,y,B⟩;simp only[Instr.mapUpdate,Sem.run_bind,run_underlying L,Result.andThen_ok,q2,pX q3,vk,g,K,Ec _ q3,Sem.run_pure]
     . simp at H
   . simp at H
 . simp at H
end Go.aW
namespace Go.aW
open Go
variable{P:Program}{M A:agt}{ρ:Env}{F:agt}{st:St}{a:Act}{w:World}
def jZ(get:Operand->V):List (Nat×Operand)->Option (List (Nat×W))
 | []=>some []
 |(i,x)::r=>match get x,jZ get r with
  | .w u,some l=>some ((i,u)::l)|_,_=>none
def V.jT:V->Option Bool
 | .w (.one (.t (.val (.bool b))))=>some b|_=>none
def Ed(get:Operand->V):List Operand->Option (List (Nat×Nat×Nat×Nat))
 | []=>some []
 |x::r=>match get x,Ed get r with
  | .w (.one (.ptr id N i j)),some l=>some ((id,N,i,j)::l)|_,_=>none
def apN(v:V):Option V:=
 match v with
 | .w (.one c)=>(C.CN c).map λ(n:Nat)=>V.w (.one (.t (.val (goInt (n:Int)))))|_=>none
def aK(P:Program)(get:Operand->V)(heap:List (Nat×bE))(nid:Nat)(o:Oper):Option (V×List (Nat×bE)):=
 let pure:=(bS P get o).map λv=>(v,heap)
 match o.op with
 | .move x| .assign x=>some (get x,heap)
 | .pick c x y=>
   match(get c).jT with
   |some b=>some (if b then get x else get y,heap)
   |none=>none
 | .alloc e=>(qx P e nid).map λp=>(p.1,p.2::heap)| .box _ x=>(xM (get x) nid).map λp=>(p.1,p.2::heap)
 | .build t g=>match jZ get g.toList with
   |some l=>(qw P t l).map λv=>(v,heap)|none=>none
 | .buildSlice t len g=>match jZ get g.toList with
   |some l=>(fc P t len l nid).map λp=>(p.1,p.2::heap)|none=>none
 | .load t x=>(gA P t (get x) heap).map λv=>(v,heap)| .store t x y=>(nu P t (get x) (get y) heap).map λh=>(.undef,h)| .fieldAddr s x f=>(jS P s (get x) f).map λv=>(v,heap)
 | .field t x f=>match tT P t (get x) f with
   |some v=>some (v,heap)|none=>pure
 | .indexAddr t x i=>(iv P t (get x) (get i)).map λv=>(v,heap)
 | .slice t x H I none=>match tS P t (get x) (H.map get) (I.map get)with
   |some v=>some (v,heap)|none=>pure
 | .makeSlice t l c=>(jR P t (get l) (get c) nid).map λp=>(p.1,p.2::heap)
 | .extract x k=>match get x with
   | .fB F=>(F[k]?).map λu=>(.w u,heap)|_=>none
 | .nilCheck x=>match get x with
   | .w (.one (.ptr id N i j))=>some (.w (.one (.ptr id N i j)),heap)| .w (.one (.oO f U))=>some (.w (.one (.oO f U)),heap)|_=>pure
 | .makeFunc (.func f) first Y=>
   if first.isEmpty&& !Y.isEmpty then
    match Ed get Y.toList with
    |some l=>some (.w (.one (.oO f l)),heap)|none=>none
   else pure
 | .call c=>
   match c.callee with
   | .builtin .len=>
     match c.args.toList,c.argTypes.toList with
     | [x],[t]=>
       match P.underlying t with
       |some (.slice _)=>(apN (get x)).map λv=>(v,heap)|_=>pure
     |_,_=>none
   | .builtin .append=>
     match c.args.toList,c.argTypes.toList with
     | [s,x],[t,t']=>if t=t' then gQ P t (get s) (get x) heap nid else none
     |_,_=>none
   | .builtin .copy=>
     match c.args.toList,c.argTypes.toList with
     | [d,s],[t,_]=>iq P t (get d) (get s) heap|_,_=>none
   | .builtin _=>pure|_=>none
 | .lookup t m k ok=>(fU P t (get m) (get k) ok heap).map λv=>(v,heap)| .mapUpdate t m k x=>(lX P t (get m) (get k) (get x) heap).map λp=>(.undef,jB heap p.1 p.2)
 | .convert G J x=>match kr P G J (get x) heap with
   |some v=>some (v,heap)|none=>pure
 | .binOp .. | .unOp .. | .index .. | .makeInterface .. =>pure|_=>none
def mR(h:Rel M A ρ F st a w):∀ {ps:List (Nat×Operand)} {l:List (Nat×W)},jZ st.get ps=some l->S9 w A ρ l (ps.map λp=>(p.1,a.eval p.2))
 | [],l,R=>by simp only[jZ,ii]at R;subst R;trivial
 |(i,x)::r,l,R=>by
  simp only[jZ]at R;split at R
  . rename_i u v L U;simp only[ii]at R;subst R;have:=h.get x;rw[L]at this;exact⟨rfl,this,mR h U⟩
  . simp at R
variable{v:V}
def V.lO{b:Bool}{x:Value}(h:v.jT =some b)(J:RV w A ρ v x):x= .bool b:=by
 unfold V.jT at h;split at h
 . simp only[ii]at h;subst h;cases J.1;rfl
 . simp at h
def Cu(h:Rel M A ρ F st a w):∀ {xs:List Operand} {l:List (Nat×Nat×Nat×Nat)},Ed st.get xs=some l->
 l.length=xs.length/\ ∀ (k id sz i j:Nat) (x:Value),l[k]? =some (id,sz,i,j)->(xs.map a.eval)[k]? =some x->RP ρ id sz i j x
 | [],l,R=>by simp only[Ed,ii]at R;subst R;simp
 |x::r,l,R=>by
  simp only[Ed]at R;split at R
  . rename_i id sz i j l' hu hl;simp only[ii]at R;subst R;obtain⟨O,Y⟩:=Cu h hl;refine⟨by simp[O],λk S D c d y Z G=>?_⟩
    cases k with
    |zero=>
     simp only[yq,ii,uu]at Z;obtain⟨rfl,rfl,rfl,rfl⟩:=Z;simp only[aaq,yq,ii]at G;subst G;have:=h.get x;rw[hu]at this;exact this.1
    |succ k=>exact Y k S D c d y PO zq
  . simp at R
def uq.of{F':agt}{s:Sem Value}{st':St}{y:Value}{w':World}{l:agt}{ρ':Env}{o:Oper}
 (hx:(execOp a.eval o).run P w=(s.run P w).andThen λv w'=> .ok (.value v) w')
 (c:s.run P w= .ok y w') (J:Rel M l ρ' F' st' a w') (z:RV w' l ρ' v y) (H:dA M w w') (R:dD ρ ρ') (N:bY A l w):
 uq M A ρ F' a w ((execOp a.eval o).run P w) st' v:=
 ⟨y,w',l,ρ',.inl (by rw[hx,c];rfl),J,z,H,R,N⟩
set_option maxHeartbeats 1000000 in
def qY{nid:Nat}{o:Oper}{v:V}{heap':List (Nat×bE)}(H:aK P st.get st.heap nid o=some (v,heap'))(J:Rel M A ρ F st a w)(K:F nid):
 uq M A ρ (Sub F nid) a w ((execOp a.eval o).run P w) {st with heap:=heap'} v:=by
 have hF:∀id,Sub F nid id->F id:=λid h=>h.1;have hst:({st with heap:=st.heap}:St)=st:=rfl
 have iQ:∀ {v:V} {heap':List (Nat×bE)},((bS P st.get o).map λv=>(v,st.heap))=some (v,heap')->
  uq M A ρ (Sub F nid) a w ((execOp a.eval o).run P w) {st with heap:=heap'} v:=by
  intro v heap' h;simp only[jU,uu]at h;obtain⟨u,L,rfl,rfl⟩:=h;exact kQ L J hF
 obtain⟨dst,op,ty,pos,after,guard⟩:=o
 cases op with
 |move x=>
  simp only[aK,ii,uu]at H;obtain⟨rfl,rfl⟩:=H;exact uq.same J hF Y0 (J.get x)
 |assign x=>
  simp only[aK,ii,uu]at H;obtain⟨rfl,rfl⟩:=H;exact uq.same J hF Y0 (J.get x)
 |pick c x y=>
  simp only[aK]at H;split at H
  . rename_i b G;simp only[ii,uu]at H;obtain⟨rfl,rfl⟩:=H;have D:=V.lO G (J.get c);refine uq.same (x:=if b then a.eval x else a.eval y) J hF (by simp[execOp,D,asBool]) ?_;cases b
    . exact J.get y
    . exact J.get x
  . simp at H
 |alloc e=>
  simp only[aK,jU,uu]at H;obtain⟨⟨u,p⟩,R,rfl,rfl⟩:=H;obtain⟨y,w',A',ρ',O,Y,B,g,h5,h6⟩:=Bk (P:=P) J K R;exact uq.of (s:=Instr.alloc e true (.tuple #[])) Y0 O Y B g h5 h6
 |box e x=>
  simp only[aK,jU,uu]at H;obtain⟨⟨u,p⟩,R,rfl,rfl⟩:=H;obtain⟨y,w',A',ρ',O,Y,B,g,h5,h6⟩:=EH (P:=P) (e:=e) J K R (J.get x);exact uq.of (s:=Instr.box e (a.eval x)) Y0 O Y B g h5 h6
 |build t ps=>
  simp only[aK]at H;split at H
  . rename_i l U;simp only[jU,uu]at H;obtain⟨u,L,rfl,rfl⟩:=H;obtain⟨y,O,Y⟩:=Bj (P:=P) (qs:=ps.map λp=>(p.1,a.eval p.2)) L agk
    exact uq.same J hF (by
     show(Bind.bind (Instr.build t (ps.map λp=>(p.1,a.eval p.2))) λv=>Pure.pure (Next.value v)).run P w=_;rw[Sem.run_bind,O];simp only[Result.andThen_ok,Sem.run_pure]) Y
  . simp at H
 |buildSlice t len ps=>
  simp only[aK]at H;split at H
  . rename_i l U;simp only[jU,uu]at H;obtain⟨⟨u,p⟩,R,rfl,rfl⟩:=H;obtain⟨y,w',A',ρ',O,Y,B,g,h5,h6⟩:=tq (P:=P) (qs:=ps.map λp=>(p.1,a.eval p.2)) J K R agk
    exact uq.of (s:=Instr.buildSlice t len (ps.map λp=>(p.1,a.eval p.2))) (by
     show(Bind.bind (Instr.buildSlice t len (ps.map λp=>(p.1,a.eval p.2))) λv=>Pure.pure (Next.value v)).run P w=_;rw[Sem.run_bind];simp only[Sem.run_pure]) O Y B g h5 h6
  . simp at H
 |load t x=>
  simp only[aK,jU,uu]at H;obtain⟨u,L,rfl,rfl⟩:=H;obtain⟨y,O,Y⟩:=tj J L (J.get x);exact uq.same J hF afy Y
 |store t x y=>
  simp only[aK,jU,uu]at H;obtain⟨h',hh,rfl,rfl⟩:=H;obtain⟨w',O,Y,B⟩:=Be J hh (J.get x) (J.get y);exact⟨undef,w',A,ρ,.inr ⟨by simp[execOp,O],rfl⟩,Y.sub hF,trivial,B,dD.refl _,bY.refl A w⟩
 |fieldAddr s x f=>
  simp only[aK,jU,uu]at H;obtain⟨u,L,rfl,rfl⟩:=H;obtain⟨y,O,Y⟩:=um L (J.get x);exact uq.same J hF afy Y
 |field t x f=>
  simp only[aK]at H;split at H
  . rename_i u L;simp only[ii,uu]at H;obtain⟨rfl,rfl⟩:=H;obtain⟨y,O,Y⟩:=Bg L (J.get x);exact uq.same J hF afy Y
  . exact iQ H
 |indexAddr t x i=>
  simp only[aK,jU,uu]at H;obtain⟨u,L,rfl,rfl⟩:=H;obtain⟨y,O,Y⟩:=uk L (J.get x) (J.get i);exact uq.same J hF afy Y
 |slice t x lo I mx=>
  cases mx with
  |some m=>simp[aK]at H
  |none=>
   simp only[aK]at H;split at H
   . rename_i u L;simp only[ii,uu]at H;obtain⟨rfl,rfl⟩:=H
     obtain⟨y,O,Y⟩:=Bf (lo':=lo.map a.eval) (hi':=I.map a.eval) L (J.get x)
      (λu L=>by cases lo with|none=>simp at L|some z=>simp only[wv,ii]at L;subst L;exact⟨_,rfl,J.get z⟩) (λh=>by cases lo<;>simp_all)
      (λu L=>by cases I with|none=>simp at L|some z=>simp only[wv,ii]at L;subst L;exact⟨_,rfl,J.get z⟩) (λh=>by cases I<;>simp_all)
     exact uq.same J hF afy Y
   . exact iQ H
 |makeSlice t l c=>
  simp only[aK,jU,uu]at H;obtain⟨⟨u,p⟩,R,rfl,rfl⟩:=H;obtain⟨y,w',A',ρ',O,Y,B,g,h5,h6⟩:=uj (P:=P) J K R (J.get l) (J.get c);exact uq.of (s:=Instr.makeSlice t (a.eval l) (a.eval c)) Y0 O Y B g h5 h6
 |extract x k=>
  simp only[aK]at H;split at H
  . rename_i ws R8;simp only[jU,uu]at H;obtain⟨u,L,rfl,rfl⟩:=H;have N:=J.get x;rw[R8]at N;obtain⟨vs,O,Y,B⟩:=N;have Z:k < vs.size:=by rw[<-Y];exact(jl.1 L).1
    have Q:vs[k]? =some vs[k]:=ago
    exact uq.same J hF (x:=vs[k]) (by simp[execOp,Instr.extract,O,Z]) (B k u _ L Q)
  . simp at H
 |nilCheck x=>
  simp only[aK]at H;split at H
  . rename_i id sz i j N;simp only[ii,uu]at H;obtain⟨rfl,rfl⟩:=H;have h:=J.get x;rw[N]at h;have h':=h;obtain⟨b,k1,k2⟩:=h.1;exact uq.same J hF (x:=a.eval x) (by simp only[execOp,k2,Sem.run_pure]) h'
  . rename_i f eE N;simp only[ii,uu]at H;obtain⟨rfl,rfl⟩:=H;have h:=J.get x;rw[N]at h;have h':=h;obtain⟨vs,k1,k2⟩:=h.1;exact uq.same J hF (x:=a.eval x) (by simp only[execOp,k1,Sem.run_pure]) h'
  . exact iQ H
 |makeFunc fn first captured=>
  cases fn with
  |func f=>
   simp only[aK]at H;split at H
   . rename_i D;split at H
     . rename_i l U;simp only[ii,uu]at H;obtain⟨rfl,rfl⟩:=H;simp only[LD,ae1]at D;obtain⟨rfl,_⟩:=D;obtain⟨k1,k2⟩:=Cu J U;refine uq.same J hF (x:= .func (.func f) #[] (captured.map a.eval)) (by simp[execOp,Instr.makeFunc]) ⟨⟨_,rfl,by simp[k1],λk id sz i j x Z N=>k2 k id sz i j x Z ?_⟩,rfl⟩;simpa using N
     . simp at H
   . exact iQ H
  |_=>simp[aK]at H
 |call c=>
  obtain⟨callee,args,argTypes⟩:=c;simp only[aK]at H;split at H
  . split at H
    . rename_i x t hargs mm;have ea:args= #[x]:=jh
      have et:argTypes= #[t]:=LR
      subst ea;subst et;split at H
      . rename_i e L;simp only[jU,uu]at H;obtain⟨u,Ev,rfl,rfl⟩:=H;unfold apN at Ev;split at Ev
        . rename_i c D;simp only[jU]at Ev;obtain⟨n,hn',rfl⟩:=Ev;have h:=J.get x;rw[D]at h;obtain⟨b,cap,S,_⟩:=C.ze hn' h.1;exact uq.same J hF (x:=goInt n) (by simp[execOp,resolve,invoke,builtin,Builtin.len_,run_underlying L,S]) ⟨.val rfl,rfl⟩
        . simp at Ev
      . exact iQ H
    . simp at H
  . split at H
    . rename_i s x t t' hargs mm;have ea:args= #[s,x]:=jh
      have et:argTypes= #[t,t']:=LR
      subst ea;subst et;split at H
      . rename_i e;subst e;obtain⟨y,w',A',ρ',O,Y,B,g,h5,h6⟩:=zB (P:=P) (ty:=ty) J K H (J.get s) (J.get x);exact uq.of (s:=Builtin.append_ #[t,t] ty #[a.eval s,a.eval x]) (by simp[execOp,resolve,invoke,builtin]) O Y B g h5 h6
      . simp at H
    . simp at H
  . split at H
    . rename_i d s t t' hargs mm;have ea:args= #[d,s]:=jh
      have et:argTypes= #[t,t']:=LR
      subst ea;subst et;obtain⟨r,w',O,Y,B,g⟩:=Dj (P:=P) (t':=t') (ty:=ty) J H (J.get d) (J.get s);exact uq.of (s:=Builtin.copy_ #[t,t'] ty #[a.eval d,a.eval s]) (by simp[execOp,resolve,invoke,builtin]) O (Y.sub hF) g B (dD.refl _) (bY.refl _ _)
    . simp at H
  . exact iQ H
  . simp at H
 |lookup t m k ok=>
  simp only[aK,jU,uu]at H;obtain⟨u,L,rfl,rfl⟩:=H;obtain⟨x,O,Y⟩:=zz J L (J.get m) (J.get k);exact uq.of (s:=Instr.lookup t (a.eval m) (a.eval k) ok) Y0 O (J.sub hF) Y (dA.refl _ _) (dD.refl _) (bY.refl _ _)
 |mapUpdate t m k x=>
  simp only[aK,jU,uu]at H;obtain⟨⟨id,blk⟩,hh,rfl,rfl⟩:=H;obtain⟨w',O,Y,B⟩:=ED J hh (J.get m) (J.get k) (J.get x);exact⟨undef,w',A,ρ,.inr ⟨by simp[execOp,O],rfl⟩,Y.sub hF,trivial,B,dD.refl _,bY.refl A w⟩
 |binOp=>exact iQ af6
 |unOp=>exact iQ af6
 |convert src dst' x=>
  simp only[aK]at H;split at H
  . rename_i u L;simp only[ii,uu]at H;obtain⟨rfl,rfl⟩:=H;obtain⟨y,O,Y⟩:=Bh J L (J.get x);exact uq.of (s:=convert src dst' (a.eval x)) Y0 O (J.sub hF) Y (dA.refl _ _) (dD.refl _) (bY.refl _ _)
  . exact iQ H
 |index=>exact iQ af6
 |makeInterface=>exact iQ af6
 |_=>simp[aK]at H
end Go.aW
namespace Go.aW
open Go
abbrev bJ(n:Nat):Nat->Prop:=λid=>n<=id
abbrev HR(M A:agt)(ρ:Env)(F:agt)(heap:List (Nat×bE))(w:World):Prop:=Rel M A ρ F ⟨0,[],heap⟩ ⟨#[],[]⟩ w
def DJ(w:World)(A:agt)(ρ:Env)(us:Lw)(xs:List Value):Prop:=
 us.length=xs.length/\ ∀ (k:Nat) (u:W) (x:Value),us[k]? =some u->xs[k]? =some x->RW w A ρ u x
def pK(ρ:Env)(heap:List (Nat×bE))(b:Nat):Prop:= ∃id L,find heap id=some L/\ρ id=some (.gD b)
def Fn(P:Program)(f:FuncId)(args:Lw)(z:List (Nat×bE))(a:V)(N:List (Nat×bE)):Prop:=
 ∀ (w:World) (A:agt) (ρ:Env) (o:Array Value),
  HR (λb=>pK ρ z b\/w.heap.size<=b) A ρ (bJ 4) z w->DJ w A ρ args o.toList->
  Calls P f o w λe j=> ∃x l s c,e= .returned x/\RV j l s a x/\HR (λb=>pK ρ z b\/w.heap.size<=b) l s c N j/\
   dA (λb=>pK ρ z b\/w.heap.size<=b) w j/\jm ρ s/\bY A l w
def C.up(n:Nat):C->C
 | .own id N i len=>if id < 4 then .own (id+n) N i len else .any
 | .ptr id N i j=>if id < 4 then .ptr (id+n) N i j else .any
 | .oO f U=>if U.all (λp=>p.1 < 4)then .oO f (U.map λp=>(p.1+n,p.2))else .any
 | .map id=>if id < 4 then .map (id+n)else .any
 | .it _=> .any|c=>c
def W.up(n:Nat):W->W
 | .one c=> .one (c.up n)| .agg R=> .agg (R.map (C.up n))
def V.up(n:Nat):V->V
 | .w u=> .w (u.up n)| .fB F=> .fB (F.map (W.up n))| .undef=> .undef
def bE.up(n:Nat):bE->bE
 | .row N o=> .row N (o.map λe=>e.map (C.up n))| .mp B Y=> .mp (B.map λp=>(p.1,p.2.1.up n,p.2.2)) Y
def gK(n:Nat):List (Nat×bE)->List (Nat×bE)
 | []=>[]
 |(id,b)::r=>if id < 4 then(id+n,b.up n)::gK n r else gK n r
variable{P:Program}{M A:agt}{ρ:Env}{F:agt}{st:St}{a:Act}{w:World}
def RC.up{ρ2:Env}{n:Nat}{c:C}{x:Value}(h:RC w A ρ c x)(H:∀id l,id < 4->ρ id=some l->ρ2 (id+n)=some l):RC w A ρ2 (c.up n) x:=by
 cases c with
 |t y=>exact h
 |own id N i len=>
  simp only[C.up];split
  . rename_i D;rcases h with⟨b,M,q,e,O,Y⟩|⟨O,Y⟩
    . exact .inl ⟨b,M,q,e,H _ _ D O,Y⟩
    . exact .inr ⟨H _ _ D O,Y⟩
  . trivial
 |ptr id N i j=>
  simp only[C.up];split
  . rename_i D;obtain⟨b,O,Y⟩:=h;exact⟨b,H _ _ D O,Y⟩
  . trivial
 |yz e j=>exact h
 |oO f U=>
  simp only[C.up];split
  . rename_i z;obtain⟨o,O,Y,B⟩:=h;refine⟨o,O,xT,λk id N i j y Z G=>?_⟩;simp only[yu,jU,uu]at Z;obtain⟨⟨S,r⟩,a,D,J⟩:=Z;simp only at D J;subst J
    have R:S < 4:=by
     have:=yt.1 z _ (oo a);simpa using this
    obtain⟨b,s,v⟩:=B k S N i j y a G;exact⟨b,D▸H _ _ R s,v⟩
  . trivial
 |map id=>
  simp only[C.up];split
  . rename_i D;obtain⟨b,O,Y⟩:=h;exact⟨b,H _ _ D O,Y⟩
  . trivial
 |it=>trivial
 |Ix f g L=>exact h
 |pk L=>exact h
 |any=>trivial
def C.apQ(n:Nat)(c:C):(c.up n).Kb=c.Kb:=by
 cases c<;>simp only[C.up]<;>(try split)<;>rfl
def DW.up{n:Nat}{c:C}{v:Value}(h:DW c v):DW (c.up n) v:=by
 unfold DW;rw[C.apQ];exact h
def DL.up{ρ2:Env}{n:Nat}{cs:Lc}{vs:Array Value}(h:DL w A ρ cs vs)(H:∀id l,id < 4->ρ id=some l->ρ2 (id+n)=some l):DL w A ρ2 (cs.map (C.up n)) vs:=by
 refine⟨by simpa using h.1,λk c x Z N=>?_⟩;simp only[yu,jU]at Z;obtain⟨d,S,rfl⟩:=Z;obtain⟨O,Y⟩:=h.2 k d x S N;exact⟨O.up H,Y⟩
def RW.up{ρ2:Env}{n:Nat}{u:W}{x:Value}(h:RW w A ρ u x)(H:∀id l,id < 4->ρ id=some l->ρ2 (id+n)=some l):RW w A ρ2 (u.up n) x:=by
 cases u with
 |one c=>exact⟨h.1.up H,h.2⟩
 |agg R=>obtain⟨o,O,Y⟩:=h;exact⟨o,O,Y.up H⟩
def RV.up{ρ2:Env}{n:Nat}{u:V}{x:Value}(h:RV w A ρ u x)(H:∀id l,id < 4->ρ id=some l->ρ2 (id+n)=some l):RV w A ρ2 (u.up n) x:=by
 cases u with
 |w y=>exact RW.up h H
 |fB F=>
  obtain⟨o,O,Y,B⟩:=h;refine⟨o,O,xT,λk u x Z N=>?_⟩;simp only[yu,jU]at Z;obtain⟨d,S,rfl⟩:=Z;exact(B k d x S N).up H
 |undef=>trivial
def An(n:Nat)(h:List (Nat×bE))(k:Nat)(b:bE)(R:find (gK n h) k=some b): ∃id K,id < 4/\k=id+n/\find h id=some K/\b=K.up n:=by
 induction h with
 |nil=>simp[gK,find]at R
 |cons p r c=>
  obtain⟨id,K⟩:=p;simp only[gK]at R;split at R
  . rename_i D;simp only[aF]at R;split at R
    . rename_i e;simp only[ii]at R;exact⟨id,K,D,e.symm,by simp[aF],R.symm⟩
    . rename_i e;obtain⟨a,Q,O,Y,B,g⟩:=c R;refine⟨a,Q,O,Y,?_,g⟩;have:¬id=a:=aa
      simp[aF,this,B]
  . rename_i D;obtain⟨a,Q,O,Y,B,g⟩:=c R;refine⟨a,Q,O,Y,?_,g⟩;have:¬id=a:=aa
    simp[aF,this,B]
def dO{α:Type}(l r:List (Nat×α))(k:Nat):find (l++r) k=(find l k).or (find r k):=by
 induction l with
 |nil=>simp[find]
 |cons p q c=>
  obtain⟨i,v⟩:=p;simp only[ab8,aF,c];split<;>simp
def C.flat:C->Bool
 | .t (.val _)| .own .. | .ptr .. | .oO .. | .map _| .any=>true|_=>false
def W.flat:W->Bool
 | .one c=>c.flat| .agg R=>R.all C.flat
def V.flat:V->Bool
 | .w u=>u.flat| .fB F=>F.all W.flat| .undef=>true
def bE.flat:bE->Bool
 | .row _ o=>o.all λe=>e.all C.flat| .mp B _=>B.all λp=>p.2.1.flat
def RC.flat{l:agt}{c:C}{x:Value}(h:RC w A ρ c x)(R:c.flat=true):RC w l ρ c x:=by
 cases c with
 |t y=>cases y with
  |val v=>cases h with|val h=>exact .val h
  |aO=>simp[C.flat]at R
 |yz=>simp[C.flat]at R
 |own=>exact h
 |ptr=>exact h
 |oO=>exact h
 |map=>exact h
 |Ix=>simp[C.flat]at R
 |pk=>simp[C.flat]at R
 |it=>simp[C.flat]at R
 |any=>trivial
def RW.flat{l:agt}{u:W}{x:Value}(h:RW w A ρ u x)(R:u.flat=true):RW w l ρ u x:=by
 cases u with
 |one c=>exact⟨h.1.flat R,h.2⟩
 |agg U=>
  obtain⟨o,O,Y⟩:=h;refine⟨o,O,Y.1,λk c x Z N=>⟨(Y.2 k c x Z N).1.flat ?_,(Y.2 k c x Z N).2⟩⟩;exact yt.1 R c (oo Z)
def RV.flat{l:agt}{u:V}{x:Value}(h:RV w A ρ u x)(R:u.flat=true):RV w l ρ u x:=by
 cases u with
 |w y=>exact RW.flat h R
 |fB F=>
  obtain⟨o,O,Y,B⟩:=h;exact⟨o,O,Y,λk u x Z N=>(B k u x Z N).flat (yt.1 R u (oo Z))⟩
 |undef=>trivial
variable{l:agt}{c:C}{x:Value}{nid:Nat}{args:Lw}
def RC.grow(h:RC w A ρ c x)(a:∀b,l b->A b):RC w l ρ c x:=
 h.keeps ⟨ww _,λb _ K=>⟨rfl,λh=>K (a b h)⟩⟩ (λ_ _=>rfl) (dD.refl _)
def RW.grow{c:W}(h:RW w A ρ c x)(a:∀b,l b->A b):RW w l ρ c x:=
 h.keeps ⟨ww _,λb _ K=>⟨rfl,λh=>K (a b h)⟩⟩ (λ_ _=>rfl) (dD.refl _)
def RV.grow{c:V}(h:RV w A ρ c x)(a:∀b,l b->A b):RV w l ρ c x:=
 h.keeps ⟨ww _,λb _ K=>⟨rfl,λh=>K (a b h)⟩⟩ (λ_ _=>rfl) (dD.refl _)
def Rel.import(h:Rel M A ρ F st a w)(K:∀k,nid<=k->k < nid+4->F k){A1:agt}{ρ1:Env}{F1:agt}{N:List (Nat×bE)}{w':World}{res:V}
 (eU:dA (λb=>w.heap.size<=b) w w') (J:HR (λb=>w.heap.size<=b) A1 ρ1 F1 N w') (hg:∀b,b < w.heap.size->A1 b->A b) (z:RV w' A1 ρ1 res x)
 (hfl:(∀b,A b->A1 b)\/(res.flat=true/\ ∀id blk,find N id=some blk->blk.flat=true)):
 ∃A2 ρ2,Rel M A2 ρ2 (Sub F nid) {st with heap:=gK nid N++st.heap} a w'/\RV w' A2 ρ2 (res.up nid) x/\dA M w w'/\dD ρ ρ2/\bY A A2 w:=by
 let ρ2:Env:=λk=>if nid<=k/\k < nid+4 then ρ1 (k - nid)else ρ k
 have hup:∀id l,id < 4->ρ1 id=some l->ρ2 (id+nid)=some l:=by
  intro id l hid U;simp only[ρ2];rw[if_pos ⟨aa,aa⟩,show id+nid - nid=id by omega];exact U
 have cI:dD ρ ρ2:=by
  intro id l U;simp only[ρ2];split
  . rename_i D;have:=h.fresh id (K id D.1 D.2);simp[this]at U
  . exact U
 have Kx:dA M w w':=eU.weaken (λi I ho=>by omega)
 let A2:Nat->Prop:=λb=>A b\/A1 b
 have hgrow:bY A A2 w:=⟨λb G=> .inl G,λb G h'=>h'.elim id (hg b G)⟩;have Z:dS A A2 w w':=⟨eU.size,λb G VW=>⟨eU.block b G aa,λh'=>h'.elim VW (λO=>VW (hg b G O))⟩⟩;have S:∀k,k < w.heap.size->w'.shape? k=w.shape? k:=eU.shape
 have hC:∀ {c:C} {y:Value},RC w' A1 ρ1 c y->((∀b,A b->A1 b)\/c.flat=true)->RC w' A2 ρ1 c y:=by
  intro c y D hh;rcases hh with hh|hh
  . exact D.grow (λb G=>G.elim (hh b) id)
  . exact D.flat hh
 have hV:RV w' A2 ρ1 res x:=by
  rcases hfl with hh|hh
  . exact z.grow (λb G=>G.elim (hh b) id)
  . exact z.flat hh.1
 refine⟨A2,ρ2,⟨h.size,h.defers,λt v z=>(h.tmps t v z).keeps Z S cI,?_,?_,?_,?_,?_,h.dR.LN Kx hgrow.2⟩,hV.up hup,Kx,cI,hgrow⟩
 . intro k blk R;simp only[dO,adz]at R;rcases R with R|⟨_,R⟩
   . obtain⟨id,b',hid,rfl,hb',rfl⟩:=An _ _ _ _ R;have G:=J.heap id b' hb'
     cases b' with
     |row sz o=>
      obtain⟨q1,q2⟩:=G;refine⟨λe H=>?_,?_⟩
      . simp only[aad]at H;obtain⟨e',he',rfl⟩:=H;simpa using q1 e' he'
      . rcases q2 with⟨b,c,e,s,k2,k3,k4,k5,k6⟩|⟨s,k2⟩
        . refine .inl ⟨b,c,e,hup _ _ hid s,h.may b k2,.inr k3,k4,C1,λi el j q I Q=>?_⟩;simp only[yu,jU]at I;obtain⟨LO,Ky,rfl⟩:=I;simp only[yu,jU]at Q;obtain⟨q',Kq,rfl⟩:=Q;obtain⟨y,L,cU,O⟩:=k6 i LO j q' Ky Kq;refine⟨y,L,(hC cU ?_).up hup,O⟩;rcases hfl with hh|hh
          . exact .inl hh
          . have:=hh.2 id _ hb';simp only[bE.flat,yt]at this;exact .inr (this LO (oo Ky) q' (oo Kq))
        . exact .inr ⟨hup _ _ hid s,by rw[k2];rfl⟩
     |mp es clock=>
      obtain⟨b,en,s,k2,k3,k4,k5,k6⟩:=G;refine⟨b,en,hup _ _ hid s,h.may b k2,.inr k3,k4,C1,λi k c n I=>?_⟩;simp only[yu,jU]at I;obtain⟨⟨k',c',n'⟩,hi',H⟩:=I;simp only[uu]at H;obtain⟨rfl,rfl,rfl⟩:=H;obtain⟨e,O,Y,B,g,P⟩:=k6 i k' c' n' hi';refine⟨e,O,Y,B,(hC g ?_).up hup,P.up⟩;rcases hfl with hh|hh
      . exact .inl hh
      . have:=hh.2 id _ hb';simp only[bE.flat,yt]at this;exact .inr (this _ (oo hi'))
   . have G:=h.heap k blk R;exact G.keeps Z S cI (λb G=> .inl G) (λb BK=>eU.block b (G.lt BK).1 (by have:=(G.lt BK).1;omega))
 . intro k k' blk gU b O Y r1 r2;simp only[dO,adz]at O Y
   have old:∀ {q:Nat} {bl:bE},find st.heap q=some bl-> ∀ {b:Nat},ρ2 q=some (.gD b)->ρ q=some (.gD b)/\b < w.heap.size:=by
    intro q bl d b G;have Y4:=h.heap q bl d
    have Kq: ∃l,ρ q=some l:=by
     cases bl with
     |row sz o=>rcases Y4.2 with⟨b,c,e,s,_⟩|⟨s,_⟩<;>exact⟨_,s⟩
     |mp es clock=>obtain⟨b,en,s,_⟩:=Y4;exact⟨_,s⟩
    obtain⟨l,U⟩:=Kq;have r:=cI q l U;rw[r]at G;rw[U,G];refine⟨rfl,(Y4.lt (by rw[U,G])).1⟩
   have new:∀ {q:Nat} {bl:bE},find (gK nid N) q=some bl-> ∀ {b:Nat},ρ2 q=some (.gD b)-> ∃id b',q=id+nid/\find N id=some b'/\ρ1 id=some (.gD b)/\w.heap.size<=b:=by
    intro q bl d b G;obtain⟨id,b',hid,rfl,hb',rfl⟩:=An _ _ _ _ d;have Y4:=J.heap id b' hb'
    have U: ∃l,ρ1 id=some l:=by
     cases b' with
     |row sz o=>rcases Y4.2 with⟨b,c,e,s,_⟩|⟨s,_⟩<;>exact⟨_,s⟩
     |mp es clock=>obtain⟨b,en,s,_⟩:=Y4;exact⟨_,s⟩
    obtain⟨l,U⟩:=U;have r:=hup id l hid U;rw[r]at G;have:ρ1 id=some (.gD b):=by rw[U,G]
    exact⟨id,b',rfl,hb',this,(Y4.lt this).2.1⟩
   rcases O with O|⟨_,O⟩<;>rcases Y with Y|⟨_,Y⟩
   . obtain⟨i1,b1,rfl,f1,g1,_⟩:=new O r1;obtain⟨i2,b2,rfl,f2,g2,_⟩:=new Y r2;rw[J.inj i1 i2 b1 b2 b f1 f2 g1 g2]
   . obtain⟨_,_,_,_,_,g1⟩:=new O r1;have:=(old Y r2).2;omega
   . obtain⟨_,_,_,_,_,g1⟩:=new Y r2;have:=(old O r1).2;omega
   . exact h.inj k k' blk gU b O Y (old O r1).1 (old Y r2).1
 . intro k hk';simp only[ρ2];rw[if_neg hk'.2];exact h.fresh k hk'.1
 . intro b G;rcases G with G|G
   . exact aar (h.bound b G) eU.size
   . exact J.bound b G
 . intro b G;exact h.may b (aal eU.size G)
def C.t?:C->Option T
 | .t x=>some x|_=>none
def L7:Lc->Option Lt
 | []=>some []
 |c::r=>match c.t?,L7 r with
  |some x,some l=>some (x::l)|_,_=>none
def B6:Lq->Option (Lz)
 | []=>some []
 |c::r=>match L7 c,B6 r with
  |some x,some l=>some (x::l)|_,_=>none
def Jk:∀ {cs:Lc} {ts:Lt},L7 cs=some ts->cs=ts.map .t
 | [],ts,h=>by simp only[L7,ii]at h;subst h;rfl
 |c::r,ts,h=>by
  simp only[L7]at h;split at h
  . rename_i x l N U;simp only[ii]at h;subst h;have:=Jk U;cases c<;>simp[C.t?]at N
    subst N;simp[this]
  . simp at h
def E4:∀ {cs:Lq} {ts:Lz},B6 cs=some ts->cs=ts.map λe=>e.map .t
 | [],ts,h=>by simp only[B6,ii]at h;subst h;rfl
 |c::r,ts,h=>by
  simp only[B6]at h;split at h
  . rename_i x l N U;simp only[ii]at h;subst h;simp[E4 U,Jk N]
  . simp at h
def sN(heap:List (Nat×bE))(c:C):Option C:=
 match c with
 | .t x=>some (.t x)
 | .own id N i len=>
   match elems heap (.own id N i len)with
   |some (N,o)=>(B6 o).map λZ=> .t (.aO N Z)|none=>none
 |_=>none
def Ag(h:Rel M A ρ F st a w){d:C}(U:sN st.heap c=some d)(J:RC w A ρ c x)(ρ':Env):RC w (λ_=>False) ρ' d x:=by
 unfold sN at U;split at U
 . simp only[ii]at U;subst U;exact RT.keeps (w:=w) ⟨ww _,λb _ _=>⟨rfl,λh=>h⟩⟩ J
 . rename_i id sz i len;split at U
   . rename_i sz' N H;simp only[jU]at U;obtain⟨Z,hts,rfl⟩:=U;have r:=E4 hts;obtain⟨O,b0,aK8,hx0,V3⟩:=nx h H J
     by_cases P:N=[]
     . have:Z=[]:=by rw[P]at r;cases Z<;>simp at r;rfl
       subst this;subst P;rw[hx0];exact .nil
     . obtain⟨b,o,cap,rfl,D⟩:=mv h H J P;simp only[Value.slice.injEq]at hx0;obtain⟨_,_,rfl⟩:=hx0;have n:N.length=Z.length:=by rw[r];simp
       have hcell:∀ (i:Nat) (e:Lt) (j:Nat) (t:T),Z[i]? =some e->e[j]? =some t-> ∃y,w.cell? ⟨b,o+(i * sz'+j),none⟩=some y/\RC w A ρ (.t t) y/\cz y=true:=by
        intro i e j t I Q;exact D i (e.map .t) j (.t t) (by rw[r];simp[I]) Fc
       have G:b < w.heap.size:=by
        rcases J with⟨K,cap',q,L,s,v,z,S,k5⟩|⟨_,_,Y,B⟩
        . simp only[Value.slice.injEq,ii,Addr.mk.injEq]at v;obtain⟨⟨rfl,_⟩,_⟩:=v;rcases aa8 b w.heap.size with l|hge
          . exact l
          . simp[World.shape?,aav hge]at S
        . simp at B
       have hE:RT w (λ_=>False) (.aO sz' Z) (.slice (some ⟨b,o,none⟩) N.length cap):=by
        refine .aO (λi j=>(w.cell? ⟨b,o+(i * sz'+j),none⟩).getD undef) n V3 G (λh=>h) (λe he'=>?_) (λi e j t I Q=>?_) (λi e j t I Q=>?_)
        . have:=O (e.map .t) (by rw[r];exact aad.2 ⟨e,he',rfl⟩);simpa using this
        . obtain⟨y,R,_⟩:=hcell i e j t I Q;rw[ab3,R];rfl
        . obtain⟨y,R,g,_⟩:=hcell i e j t I Q;rw[R];exact RT.keeps (w:=w) ⟨ww _,λb _ _=>⟨rfl,λh=>h⟩⟩ g
       exact hE
   . simp at U
 . simp at U
def pw(heap:List (Nat×bE)):Lc->Option Lc
 | []=>some []
 |c::r=>match sN heap c,pw heap r with
  |some d,some l=>some (d::l)|_,_=>none
def sM(heap:List (Nat×bE)):W->Option W
 | .one c=>(sN heap c).map .one| .agg R=>(pw heap R).map .agg
def iU(heap:List (Nat×bE)):Lw->Option Lw
 | []=>some []
 |c::r=>match sM heap c,iU heap r with
  |some d,some l=>some (d::l)|_,_=>none
def CM{heap:List (Nat×bE)}:∀ {cs ds:Lc},pw heap cs=some ds->ds.length=cs.length/\ ∀ (k:Nat) (d:C),ds[k]? =some d-> ∃c,cs[k]? =some c/\sN heap c=some d
 | [],ds,h=>by simp only[pw,ii]at h;subst h;simp
 |c::r,ds,h=>by
  simp only[pw]at h;split at h
  . rename_i d l S U;simp only[ii]at h;subst h;obtain⟨O,Y⟩:=CM U;refine⟨by simp[O],λk e Z=>?_⟩
    cases k with
    |zero=>simp only[yq,ii]at Z;subst Z;exact⟨c,rfl,S⟩
    |succ k=>simpa using Y k e PO
  . simp at h
def CL{heap:List (Nat×bE)}:∀ {cs ds:Lw},iU heap cs=some ds->ds.length=cs.length/\ ∀ (k:Nat) (d:W),ds[k]? =some d-> ∃c,cs[k]? =some c/\sM heap c=some d
 | [],ds,h=>by simp only[iU,ii]at h;subst h;simp
 |c::r,ds,h=>by
  simp only[iU]at h;split at h
  . rename_i d l S U;simp only[ii]at h;subst h;obtain⟨O,Y⟩:=CL U;refine⟨by simp[O],λk e Z=>?_⟩
    cases k with
    |zero=>simp only[yq,ii]at Z;subst Z;exact⟨c,rfl,S⟩
    |succ k=>simpa using Y k e PO
  . simp at h
def J3(h:Rel M A ρ F st a w){u d:W}(U:sM st.heap u=some d)(J:RW w A ρ u x)(ρ':Env):RW w (λ_=>False) ρ' d x:=by
 cases u with
 |one c=>
  simp only[sM,jU]at U;obtain⟨e,H,rfl⟩:=U;exact⟨Ag h H J.1 ρ',J.2⟩
 |agg R=>
  simp only[sM,jU]at U;obtain⟨e,H,rfl⟩:=U;obtain⟨o,rfl,Y⟩:=J;obtain⟨s,v⟩:=CM H;refine⟨o,rfl,s.trans Y.1,λk c x Z N=>?_⟩;obtain⟨L,P,I⟩:=v k c Z;obtain⟨y,B⟩:=Y.2 k L x P N;exact⟨Ag h I y ρ',B⟩
def C.cR:C->Bool
 | .t _=>true|_=>false
def W.cR:W->Bool
 | .one c=>c.cR| .agg R=>R.all C.cR
def RC.cR{ρ':Env}{c:C}{x:Value}(h:RC w A ρ c x)(D:c.cR=true):RC w A ρ' c x:=by
 cases c<;>simp[C.cR]at D
 exact h
def RW.cR{ρ':Env}{c:W}{x:Value}(h:RW w A ρ c x)(D:c.cR=true):RW w A ρ' c x:=by
 cases c with
 |one c=>exact⟨h.1.cR D,h.2⟩
 |agg R=>
  obtain⟨o,O,Y⟩:=h;refine⟨o,O,Y.1,λk c x Z N=>⟨(Y.2 k c x Z N).1.cR ?_,(Y.2 k c x Z N).2⟩⟩;exact yt.1 D c (oo Z)
def yw(P:Program)(f:FuncId)(args:Lw)(a:V)(N:List (Nat×bE)):Prop:=
 ∀ (w:World) (A:agt) (o:Array Value),
  HR (λb=>pK (λ_=>none) [] b\/w.heap.size<=b) A (λ_=>none) (bJ 4) [] w->DJ w A (λ_=>none) args o.toList->
  Calls P f o w λe j=> ∃x l s c,e= .returned x/\RV j l s a x/\HR (λb=>pK (λ_=>none) [] b\/w.heap.size<=b) l s c N j/\
   dA (λb=>pK (λ_=>none) [] b\/w.heap.size<=b) w j/\bY A l w
def Fn.toF{f:FuncId}{a:V}{D:List (Nat×bE)}(h:Fn P f args [] a D):yw P f args a D:=by
 intro w A o F N;refine(h w A (λ_=>none) o F N).mono ?_;rintro e j ⟨x,l,s,c,O,Y,B,g,_,U⟩;exact⟨x,l,s,c,O,Y,B,g,U⟩
def C.ids:C->List Nat
 | .own id .. =>[id]| .ptr id .. =>[id]
 | .oO _ U=>U.map (·.1)
 | .map id=>[id]| .it id=>[id]|_=>[]
def W.ids:W->List Nat
 | .one c=>c.ids| .agg R=>R.flatMap C.ids
def YF(P:Program)(heap:List (Nat×bE))(f:FuncId)(args:Lw)(v:V):Prop:=
 ∀r:List (Nat×bE),(∀id,id∈args.flatMap W.ids->find r id=find heap id)->
  ∀ (M A:agt) (ρ:Env) (F:agt) (a:Act) (w:World) (n:Nat) (L:List (Nat×V)) (o:Array Value),Rel M A ρ F ⟨n,L,r⟩ a w->DJ w A ρ args o.toList->
   Calls P f o w λe j=> ∃x l s,e= .returned x/\Rel M l s F ⟨n,L,r⟩ a j/\RV j l s v x/\dA M w j/\dD ρ s/\bY A l w
def gY(P:Program)(heap:List (Nat×bE))(nid:Nat)(f:FuncId)(args:Lw)(v:V)(n:List (Nat×bE)):Prop:=
 (∃a N b,yw P f b a N/\v=a.up nid/\n=gK nid N++heap/\
   ((b=args/\args.all W.cR=true)\/(iU heap args=some b/\a.flat=true/\ ∀id L,find N id=some L->L.flat=true)))\/
 (n=heap/\YF P heap f args v)
def gY.sound(h:Rel M A ρ F st a w)(K:∀k,nid<=k->k < nid+4->F k){f:FuncId}{v:V}{heap':List (Nat×bE)}{xs:Array Value}
 (D:gY P st.heap nid f args v heap') (hx:DJ w A ρ args xs.toList):
 Calls P f xs w λe w'=> ∃x l ρ',e= .returned x/\Rel M l ρ' (Sub F nid) {st with heap:=heap'} a w'/\RV w' l ρ' v x/\dA M w w'/\dD ρ ρ'/\bY A l w:=by
 rcases D with⟨res,N,targs,hfn,rfl,rfl,aCS⟩|⟨rfl,hrd⟩
 case inr=>
  obtain⟨n0,vB,oE⟩:=st;refine(hrd oE (λ_ _=>rfl) M A ρ F a w n0 vB xs h hx).mono ?_;rintro e w' ⟨x,l,ρ',rfl,y,B,Y,O,r5⟩;exact⟨x,l,ρ',rfl,y.sub λid h=>h.1,B,Y,O,r5⟩
 have j:∀ (ρ0:Env),(λb=>pK ρ0 [] b\/w.heap.size<=b)=λb=>w.heap.size<=b:=by
  intro ρ0;funext b;simp[pK,find]
 have empty:∀ (A0:agt),(∀b,A0 b->b < w.heap.size)->(∀b,A0 b->A b)->HR (λb=>pK (λ_=>none) [] b\/w.heap.size<=b) A0 (λ_=>none) (bJ 4) [] w:=by
  intro A0 hA0 hA1;exact⟨rfl,rfl,λt v z=>by simp[find]at z,λid b G=>by simp[find]at G,λid o b Z c G=>by simp[find]at G,λ_ _=>rfl,hA0,λb G=> .inr G,h.dR.sub (λb G r=>r.elim (λd=>by obtain⟨_,_,R,_⟩:=d;simp[find]at R) (λU=>by omega)) hA1⟩
 rcases aCS with⟨rfl,g⟩|⟨U,LL,xD⟩
 . have hx':DJ w A (λ_=>none) targs xs.toList:=⟨hx.1,λk u x L yA=>(hx.2 k u x L yA).cR (yt.1 g u (oo L))⟩;refine(hfn w A xs (empty A h.bound (λ_ h=>h)) hx').mono ?_;rintro e w' ⟨x,A1,ρ1,F1,rfl,z,J,H,I⟩;rw[j]at J H;obtain⟨A2,n,y,B,Y,O,r5⟩:=h.import K H J I.2 z (.inl I.1);exact⟨x,A2,n,rfl,y,B,Y,O,r5⟩
 . obtain⟨s,S⟩:=CL U
   have hx':DJ w (λ_=>False) (λ_=>none) targs xs.toList:=⟨s.trans hx.1,λk u x L yA=>by
    obtain⟨c,D,hlc⟩:=S k u L;exact J3 h hlc (hx.2 k c x D yA) _⟩
   refine(hfn w (λ_=>False) xs (empty _ (λ_ h=>h.elim) (λ_ h=>h.elim)) hx').mono ?_;rintro e w' ⟨x,A1,ρ1,F1,rfl,z,J,H,I⟩;rw[j]at J H;obtain⟨A2,n,y,B,Y,O,r5⟩:=h.import K H J (λb G Q=>(I.2 b G Q).elim) z (.inr ⟨LL,xD⟩);exact⟨x,A2,n,rfl,y,B,Y,O,r5⟩
end Go.aW
namespace Go.aW
open Go
def C.aM(f:Nat->Option Nat):C->C
 | .own id N i len=>match f id with
   |some k=> .own k N i len|none=> .any
 | .ptr id N i j=>match f id with
   |some k=> .ptr k N i j|none=> .any
 | .oO g U=>if U.all (λp=>(f p.1).isSome)then .oO g (U.map λp=>((f p.1).getD 0,p.2))else .any
 | .map id=>match f id with
   |some k=> .map k|none=> .any
 | .it _=> .any|c=>c
def W.aM(f:Nat->Option Nat):W->W
 | .one c=> .one (c.aM f)| .agg R=> .agg (R.map (C.aM f))
def V.aM(f:Nat->Option Nat):V->V
 | .w u=> .w (u.aM f)| .fB F=> .fB (F.map (W.aM f))| .undef=> .undef
def bE.aM(f:Nat->Option Nat):bE->bE
 | .row N o=> .row N (o.map λe=>e.map (C.aM f))| .mp B Y=> .mp (B.map λp=>(p.1,p.2.1.aM f,p.2.2)) Y
structure Ren where
 keys:List Nat
 ids:List (Nat×Nat)
 ctr:Nat
def Ren.all(S:Ren):List (Nat×Nat):=(0,0)::(1,1)::(2,2)::(3,3)::S.ids
def swp(l:List (Nat×Nat)):List (Nat×Nat):=l.map λp=>(p.2,p.1)
def Ren.f(S:Ren)(id:Nat):Option Nat:=find S.all id
def Ren.ok(S:Ren):Bool:=S.all.all λp=>find (swp S.all) p.2==some p.1&&find S.all p.1==some p.2&&decide (p.2 < S.ctr)
def Ren.tm(S:Ren)(tm:List (Nat×V)):List (Nat×V):=S.keys.filterMap λt=>(find tm t).map λv=>(t,v.aM S.f)
def Ren.hp(S:Ren)(hp:List (Nat×bE)):List (Nat×bE):=S.all.filterMap λp=>(find hp p.1).map λb=>(p.2,b.aM S.f)
variable{P:Program}{M A:agt}{ρ:Env}{F:agt}{st:St}{a:Act}{w:World}
def RC.aM{ρ2:Env}{f:Nat->Option Nat}{c:C}{x:Value}(h:RC w A ρ c x)(H:∀id k l,f id=some k->ρ id=some l->ρ2 k=some l):RC w A ρ2 (c.aM f) x:=by
 cases c with
 |t y=>exact h
 |own id N i len=>
  simp only[C.aM];split
  . rename_i k Z;rcases h with⟨b,M,q,e,O,Y⟩|⟨O,Y⟩
    . exact .inl ⟨b,M,q,e,H _ _ _ Z O,Y⟩
    . exact .inr ⟨H _ _ _ Z O,Y⟩
  . trivial
 |ptr id N i j=>
  simp only[C.aM];split
  . rename_i k Z;obtain⟨b,O,Y⟩:=h;exact⟨b,H _ _ _ Z O,Y⟩
  . trivial
 |yz e j=>exact h
 |oO g K=>
  simp only[C.aM];split
  . rename_i n;obtain⟨o,O,Y,B⟩:=h;refine⟨o,O,xT,λk id N i j y Z G=>?_⟩;simp only[yu,jU,uu]at Z;obtain⟨⟨U,r⟩,a,D,J⟩:=Z;simp only at D J;subst J
    have S:(f U).isSome=true:=by
     have:=yt.1 n _ (oo a);simpa using this
    obtain⟨q,d⟩:=aay.1 S;rw[d]at D;simp only[YJ]at D;subst D;obtain⟨b,s,v⟩:=B k U N i j y a G;exact⟨b,H _ _ _ d s,v⟩
  . trivial
 |map id=>
  simp only[C.aM];split
  . rename_i k Z;obtain⟨b,O,Y⟩:=h;exact⟨b,H _ _ _ Z O,Y⟩
  . trivial
 |it=>trivial
 |Ix f g L=>exact h
 |pk L=>exact h
 |any=>trivial
def C.acV(f:Nat->Option Nat)(c:C):(c.aM f).Kb=c.Kb:=by
 cases c<;>simp only[C.aM]<;>(try split)<;>rfl
def DW.aM{f:Nat->Option Nat}{c:C}{v:Value}(h:DW c v):DW (c.aM f) v:=by
 unfold DW;rw[C.acV];exact h
def DL.aM{ρ2:Env}{f:Nat->Option Nat}{cs:Lc}{vs:Array Value}(h:DL w A ρ cs vs)(H:∀id k l,f id=some k->ρ id=some l->ρ2 k=some l):DL w A ρ2 (cs.map (C.aM f)) vs:=by
 refine⟨by simpa using h.1,λk c x Z N=>?_⟩;simp only[yu,jU]at Z;obtain⟨d,S,rfl⟩:=Z;obtain⟨O,Y⟩:=h.2 k d x S N;exact⟨O.aM H,Y⟩
def RW.aM{ρ2:Env}{f:Nat->Option Nat}{u:W}{x:Value}(h:RW w A ρ u x)(H:∀id k l,f id=some k->ρ id=some l->ρ2 k=some l):RW w A ρ2 (u.aM f) x:=by
 cases u with
 |one c=>exact⟨h.1.aM H,h.2⟩
 |agg R=>obtain⟨o,O,Y⟩:=h;exact⟨o,O,Y.aM H⟩
def RV.aM{ρ2:Env}{f:Nat->Option Nat}{u:V}{x:Value}(h:RV w A ρ u x)(H:∀id k l,f id=some k->ρ id=some l->ρ2 k=some l):RV w A ρ2 (u.aM f) x:=by
 cases u with
 |w y=>exact RW.aM h H
 |fB F=>
  obtain⟨o,O,Y,B⟩:=h;refine⟨o,O,xT,λk u x Z N=>?_⟩;simp only[yu,jU]at Z;obtain⟨d,S,rfl⟩:=Z;exact(B k d x S N).aM H
 |undef=>trivial
def bX{α:Type}:∀ {l:List (Nat×α)} {k:Nat} {v:α},find l k=some v->(k,v)∈l
 | [],k,v,h=>by simp[find]at h
 |(q,u)::r,k,v,h=>by
  simp only[aF]at h;split at h
  . rename_i e;simp only[ii]at h;subst e;subst h;exact aa1
  . exact aa2 _ (bX h)
def Ren.fI{S:Ren}(h:S.ok=true){o n:Nat}(r:(o,n)∈S.all):find (swp S.all) n=some o/\find S.all o=some n/\n < S.ctr:=by
 have:=yt.1 h _ r;simp only[LD,beq_iff_eq,decide_eq_true_eq]at this;exact⟨this.1.1,this.1.2,this.2⟩
def Rel.aM(h:Rel M A ρ F st a w){S:Ren}(hok:S.ok=true): ∃ρ2,Rel M A ρ2 (bJ S.ctr) ⟨st.n,S.tm st.tmps,S.hp st.heap⟩ a w/\jm ρ ρ2:=by
 let ρ2:Env:=λk=>(find (swp S.all) k).bind ρ
 have hρ:∀id k l,S.f id=some k->ρ id=some l->ρ2 k=some l:=by
  intro id k l hf U;have:=(Ren.fI hok (bX hf)).1;simp only[ρ2,this,Tf,U]
 have hfind:∀ {k:Nat} {b:bE},find (S.hp st.heap) k=some b-> ∃o x,(o,k)∈S.all/\find st.heap o=some x/\b=x.aM S.f/\ρ2 k=ρ o:=by
  intro k b Z;have r:=bX Z;simp only[Ren.hp,aau,jU,uu]at r;obtain⟨⟨o,n⟩,AZ,x,hb',rfl,rfl⟩:=r;refine⟨o,x,AZ,hb',rfl,?_⟩;simp only[ρ2,(Ren.fI hok AZ).1,Tf]
 refine⟨ρ2,⟨h.size,h.defers,λt v z=>?_,λk b Z=>?_,λk k' b x q O Y P r2=>?_,λk Z=>?_,h.bound,h.may,h.dR⟩,λid l hid U=>?_⟩
 . have r:=bX z;simp only[Ren.tm,aau,jU,uu]at r;obtain⟨t',_,u,L,rfl,rfl⟩:=r;exact(h.tmps _ u L).aM hρ
 . obtain⟨o,x,AZ,hb',rfl,J⟩:=hfind Z;have G:=h.heap o x hb'
   cases x with
   |row sz d=>
    obtain⟨q1,q2⟩:=G;refine⟨λe H=>?_,?_⟩
    . simp only[aad]at H;obtain⟨e',he',rfl⟩:=H;simpa using q1 e' he'
    . rcases q2 with⟨b,c,e,s,k2,k3,k4,k5,k6⟩|⟨s,k2⟩
      . refine .inl ⟨b,c,e,by rw[J,s],k2,k3,k4,C1,λi el j q I Q=>?_⟩;simp only[yu,jU]at I;obtain⟨LO,Ky,rfl⟩:=I;simp only[yu,jU]at Q;obtain⟨q',Kq,rfl⟩:=Q;obtain⟨y,R,cU,O⟩:=k6 i LO j q' Ky Kq;exact⟨y,R,cU.aM hρ,O⟩
      . exact .inr ⟨by rw[J,s],by rw[k2];rfl⟩
   |mp es clock=>
    obtain⟨b,en,s,k2,k3,k4,k5,k6⟩:=G;refine⟨b,en,by rw[J,s],k2,k3,k4,C1,λi k c n I=>?_⟩;simp only[yu,jU]at I;obtain⟨⟨k',c',n'⟩,hi',H⟩:=I;simp only[uu]at H;obtain⟨rfl,rfl,rfl⟩:=H;obtain⟨e,O,Y,B,g,K⟩:=k6 i k' c' n' hi';exact⟨e,O,Y,B,g.aM hρ,K.aM⟩
 . obtain⟨o,b1,AZ,sX,_,D⟩:=hfind O;obtain⟨o',b2,aJD,nj,_,N⟩:=hfind Y;rw[D]at P;rw[N]at r2;have:=h.inj o o' b1 b2 q sX nj P r2;subst this;have g1:=(Ren.fI hok AZ).2.1;have g2:=(Ren.fI hok aJD).2.1;rw[g1]at g2;simpa using g2
 . simp only[ρ2]
   cases hf:find (swp S.all) k with
   |none=>rfl
   |some o=>
    exfalso;have r:=bX hf;simp only[swp,aad,uu]at r;obtain⟨⟨o',n⟩,AZ,rfl,rfl⟩:=r;have:=(Ren.fI hok AZ).2.2;simp only[bJ]at Z;omega
 . refine hρ id id l ?_ U;have:id=0\/id=1\/id=2\/id=3:=aa
   rcases this with rfl|rfl|rfl|rfl<;>rfl
end Go.aW
namespace Go.aW
open Go
variable{P:Program}{M A:agt}{ρ:Env}{F:agt}{st:St}{a:Act}{w:World}
def fZ(M A l:agt)(w:World):Prop:=(∀b,A b->¬M b->l b)/\ ∀b,b < w.heap.size->l b->A b
def bY.m{l:agt}(h:bY A l w):fZ M A l w:=⟨λb G _=>h.1 b G,h.2⟩
def fZ.refl(M A:agt)(w:World):fZ M A A w:=⟨λ_ h _=>h,λ_ _ h=>h⟩
def fZ.trans{y Z:agt}{v:World}(h:fZ M A y w)(k:fZ M y Z v)(S:w.heap.size<=v.heap.size):fZ M A Z w:=
 ⟨λb G r=>k.1 b (h.1 b G r) r,λb G Y=>h.2 b G (k.2 b (aar G S) Y)⟩
def Post(M A:agt)(ρ:Env)(w:World)(Q:St->Nat->Prop)(G:Act)(w':World):Prop:=
 ∃b U l s,Q b U/\Rel M l s (bJ U) b G w'/\dA M w w'/\jm ρ s/\fZ M A l w
def Post.trans{y:agt}{d:Env}{v w':World}{Q:St->Nat->Prop}{G:Act}(h:Post M y d v Q G w')(H:dA M w v)(R:jm ρ d)(hg:fZ M A y w):Post M A ρ w Q G w':=by
 obtain⟨b,F,l,s,O,Y,B,g,U⟩:=h;exact⟨b,F,l,s,O,Y,H.trans B,R.trans g,hg.trans U H.size⟩
variable{ctr:Nat}{o:Oper}{us:Lw}
def Post.here{Q:St->Nat->Prop}(h:Rel M A ρ (bJ ctr) st a w)(hq:Q st ctr):Post M A ρ w Q a w:=
 ⟨st,ctr,A,ρ,hq,h,dA.refl _ _,jm.refl _,fZ.refl _ _ _⟩
def bH(ops:Array Oper)(o:Oper)(tmps:List (Nat×V)):Option Bool:=
 match o.guard with
 |none=>some true
 |some (j,e)=>
  match(ops[j]?).bind (·.dst)with
  |none=>some false
  |some d=>
   match find tmps d with
   |some (.w (.one (.t (.val (.bool b)))))=>some (b==e)|some (.fB [])=>some false|_=>none
def eD{ops:Array Oper}{b:Bool}(h:Rel M A ρ F st a w)(hg:bH ops o st.tmps=some b):Region.wanted o (yielded ops a.tmps)=b:=by
 unfold bH at hg;unfold Region.wanted;split at hg
 . rename_i L;simp only[ii]at hg;simp[L, <-hg]
 . rename_i j e L;simp only[L];split at hg
   . rename_i S;simp only[ii]at hg;simp[yielded,S, <-hg]
   . rename_i d S;split at hg
     . rename_i c D;simp only[ii]at hg;have J:=h.tmps d _ D;have z:a.tmps.getD d undef= .bool c:=V.bR (u:= .w (.one (.t (.val (.bool c))))) rfl J
       have l:d < a.tmps.size:=by
        rcases aa8 d a.tmps.size with U|U
        . exact U
        . rw[aae,aav U]at z;simp[undef]at z
       have N:a.tmps[d]? =some (.bool c):=by
        rw[aae]at z;simp[l]at z⊢;exact z
       simp only[yielded,S,Tf,N];rw[<-hg];cases c<;>cases e<;>rfl
     . rename_i D;simp only[ii]at hg;have J:=h.tmps d _ D;obtain⟨Q,O,Y,_⟩:=J
       have P:∀q,a.tmps[d]? ≠some (.bool q):=by
        intro q s;simp[aae,s]at O
       have G:yielded ops a.tmps j=none:=by
        simp only[yielded,S,Tf]
       rw[G, <-hg];rfl
     . simp at hg
def jd(n:Nat)(dst:Option Tmp):Bool:=
 match dst with
 |some d=>decide (d < n)|none=>true
def nZ{n:Nat}{dst:Option Tmp}(h:jd n dst=true):∀d,dst=some d->d < n:=by
 intro d S;subst S;simpa[jd]using h
def vq(get:Operand->V):List Operand->Option Lw
 | []=>some []
 |x::r=>match get x,vq get r with
  | .w u,some l=>some (u::l)|_,_=>none
def qD(h:Rel M A ρ F st a w):∀ {xs:List Operand} {us:Lw},vq st.get xs=some us->DJ w A ρ us (xs.map a.eval)
 | [],us,L=>by simp only[vq,ii]at L;subst L;exact⟨rfl,ak⟩
 |x::r,us,L=>by
  simp only[vq]at L;split at L
  . rename_i u l N U;simp only[ii]at L;subst L;obtain⟨O,Y⟩:=qD h U;refine⟨by simp[O],λk v y z G=>?_⟩
    cases k with
    |zero=>
     simp only[yq,ii]at z;simp only[aaq,yq,ii]at G;subst z;subst G;have:=h.get x;rw[N]at this;exact this
    |succ k=>exact Y k v y agm zq
  . simp at L
def enters(P:Program)(f:FuncId):Bool:=
 match P.funcs[f]? with
 |some I=>I.body.isSome&&I.name != "runtime.NumGoroutine"|none=>false
def qM{f:FuncId}(h:enters P f=true)(xs:Array Value):(callFunc f xs).run P w= .ok (.enter f xs) w:=by
 unfold enters at h;split at h
 . rename_i I R;simp only[LD,bne_iff_ne,ne_eq]at h;obtain⟨O,Y⟩:=h;simp only[callFunc,Sem.run_bind,run_program,Result.andThen_ok,R];have B:I.body.isNone=false:=by cases hb:I.body<;>simp_all
   have g:(I.name== "runtime.NumGoroutine")=false:=xT
   simp only[B,g,aag,if_false,Sem.run_pure]
 . simp at h
def sF(b:Bool)(ts:Lt):Option W:=
 match b,ts with
 |true,ts=>some (.agg (ts.map .t))|false,[t]=>some (.one (.t t))|_,_=>none
def cK(get:Operand->V)(o:Oper):Option (FuncId×Lw):=
 match o.op with
 | .call ⟨.value f,j,_⟩=>
   match get f,vq get j.toList with
   | .w (.one (.t (.val (.func (.func g) first U)))),some A=>if first.isEmpty&&U.isEmpty then some (g,A)else none
   | .w (.one (.oO g U)),some A=>some (g,A++U.map λp=> .one (.ptr p.1 p.2.1 p.2.2.1 p.2.2.2))| .w (.one (.Ix g b Z)),some A=>(sF b Z).map λu=>(g,u::A)|_,_=>none
 |_=>none
def rj{g:FuncId}(h:Rel M A ρ F st a w)(D:cK st.get o=some (g,us))(H:enters P g=true):
 ∃xs:Array Value,(execOp a.eval o).run P w= .ok (.enter g xs) w/\DJ w A ρ us xs.toList:=by
 obtain⟨K,e,n,pos,after,guard⟩:=o;unfold cK at D;simp only at D;split at D
 . rename_i f Y lB;split at D
   . rename_i g' first eE jn R r
     split at D
     . rename_i FI;simp only[ii,uu]at D;obtain⟨rfl,rfl⟩:=D;simp only[LD,ae1]at FI;obtain⟨rfl,rfl⟩:=FI;have l:=V.bR (v:= .func (.func g') #[] #[]) (by rw[R];rfl) (h.get f);refine⟨Y.map a.eval,?_,by simpa using qD h r⟩;simp[execOp,resolve,l,Deferred.ofValue,invoke,qM H]
     . simp at D
   . rename_i g' eE jn R r;simp only[ii,uu]at D;obtain⟨rfl,rfl⟩:=D;have N:=h.get f;rw[R]at N;obtain⟨Q,l,U,J⟩:=N.1;obtain⟨s,S⟩:=qD h r;refine⟨Y.map a.eval++Q,by simp[execOp,resolve,l,Deferred.ofValue,invoke,qM H],by simp only[XV,abo,ad2,abZ,U,s,adV],λk u x L N=>?_⟩;simp only[ad2,adV]at N
     by_cases Z:k < jn.length
     . rw[aaf Z]at L;rw[aaf (by rw[<-s];exact Z)]at N;exact S k u x L N
     . rw[aai aa]at L;rw[aai (by rw[<-s];omega), <-s]at N;simp only[yu,jU]at L;obtain⟨⟨id,O,i,j⟩,d,rfl⟩:=L;have hpx:=J _ id O i j x d iL;refine⟨hpx,?_⟩;obtain⟨b,_,rfl⟩:=hpx;rfl
   . rename_i g' b I jn R r;simp only[jU,uu]at D;obtain⟨u0,qi,rfl,rfl⟩:=D;have N:=h.get f;rw[R]at N;obtain⟨x0,l,hrf⟩:=N.1;obtain⟨s,S⟩:=qD h r
     have z:RW w A ρ u0 x0:=by
      cases b with
      |true=>
       simp only[sF,ii]at qi;subst qi;obtain⟨Q,rfl,q1,q2⟩:=hrf;refine⟨Q,rfl,by simpa using q1,λk c y Z G=>?_⟩;simp only[yu,jU]at Z;obtain⟨t,B,rfl⟩:=Z;exact q2 k t y B G
      |false=>
       obtain⟨t,rfl,q1,q2⟩:=hrf;simp only[sF,ii]at qi;subst qi;exact⟨q1,q2⟩
     refine⟨#[x0]++Y.map a.eval,by simp[execOp,resolve,l,Deferred.ofValue,invoke,qM H],by simp only[aaa,ad2,XV,abZ,adV,abo,s];simp[aek],λk u x L N=>?_⟩;simp only[ad2,adV]at N
     cases k with
     |zero=>
      simp only[yq,ii]at L;subst L;have:x0=x:=iL
      subst this;exact z
     |succ k=>exact S k u x af4 iL
   . simp at D
 . simp at D
def kU(P:Program)(f:FuncId)(us:Lw)(hp:List (Nat×bE))(ctr:Nat)(v:V)(hp':List (Nat×bE))(U:Nat):Prop:=
 ∀ (M A:agt) (ρ:Env) (a:Act) (w:World) (n:Nat) (L:List (Nat×V)) (o:Array Value),Rel M A ρ (bJ ctr) ⟨n,L,hp⟩ a w->DJ w A ρ us o.toList->
  Calls P f o w λe j=> ∃x l s,e= .returned x/\Rel M l s (bJ U) ⟨n,L,hp'⟩ a j/\RV j l s v x/\dA M w j/\dD ρ s/\bY A l w
def dI(P:Program)(f:FuncId)(us:Lw)(hp:List (Nat×bE))(ctr:Nat)(v:V)(hp':List (Nat×bE))(U:Nat):Prop:=
 ∀ (M A:agt) (ρ:Env) (a:Act) (w:World) (n:Nat) (L:List (Nat×V)) (o:Array Value),Rel M A ρ (bJ ctr) ⟨n,L,hp⟩ a w->DJ w A ρ us o.toList->
  Calls P f o w λe j=> ∃x l s,e= .returned x/\Rel M l s (bJ U) ⟨n,L,hp'⟩ a j/\RV j l s v x/\dA M w j/\dD ρ s/\fZ M A l w
def kU.m{f:FuncId}{us:Lw}{hp hp':List (Nat×bE)}{ctr U:Nat}{v:V}(h:kU P f us hp ctr v hp' U):dI P f us hp ctr v hp' U:=by
 intro M A ρ a w n L o J N;refine(h M A ρ a w n L o J N).mono ?_;rintro e j ⟨x,l,s,O,y,B,Y,b,r⟩;exact⟨x,l,s,O,y,B,Y,b,r.m⟩
def yp(P:Program)(o:Oper)(n:Nat)(tm:List (Nat×V))(hp:List (Nat×bE))(ctr:Nat)(v:V)(hp':List (Nat×bE)):Prop:=
 ∀ (M A:agt) (ρ:Env) (a:Act) (w:World),Rel M A ρ (bJ ctr) ⟨n,tm,hp⟩ a w->uq M A ρ (bJ (ctr+4)) a w ((execOp a.eval o).run P w) ⟨n,tm,hp'⟩ v
def qA(P:Program)(ops:Array Oper)(i:Nat)(K:St->Nat->Prop)(st:St)(ctr:Nat):Prop:=
 match ops[i]? with
 |none=>K st ctr
 |some o=>
  jd st.n o.dst=true/\
  match bH ops o st.tmps with
  |none=>False|some false=>K (st.put o.dst (.fB [])) ctr
  |some true=>
   (∃g A,cK st.get o=some (g,A)/\enters P g=true/\ ∃v n F,dI P g A st.heap ctr v n F/\K (St.put {st with heap:=n} o.dst v) F)\/
   ∃v n,yp P o st.n st.tmps st.heap ctr v n/\K (St.put {st with heap:=n} o.dst v) (ctr+4)
def Gg(P:Program)(ops:Array Oper)(K:St->Nat->Prop):List Nat->St->Nat->Prop
 | [],st,e=>K st e|i::z,st,e=>qA P ops i (Gg P ops K z) st e
def yI:RV w A ρ (.fB []) undef:=⟨#[],rfl,rfl,ak⟩
def kD:∀id,bJ (ctr+4) id->Sub (bJ ctr) ctr id:=λid h=>⟨by simp only[bJ]at *;omega,by simp only[bJ]at *;omega⟩
def qA.sound{ops:Array Oper}{i:Nat}{K:St->Nat->Prop}{Q:Exit->Act->World->Prop}{b:Act->World->Prop}(h:qA P ops i K st ctr)(J:Rel M A ρ (bJ ctr) st a w)
 (Z:∀G w',Post M A ρ w K G w'->b G w'):wpOp P ops Q i b a w:=by
 unfold qA at h;unfold wpOp;split at h
 . rename_i I;simp only[I];exact Z _ _ (Post.here J h)
 . rename_i o I;simp only[I];obtain⟨S,h⟩:=h;have j:=nZ S;split at h
   . exact h.elim
   . rename_i U;have:=eD J U;simp only[this,aag,if_false];exact Z _ _ (Post.here (J.put yI j) h)
   . rename_i U;have:=eD J U;simp only[this,if_true];refine .inl ?_;rcases h with h|h
     . obtain⟨g,L,D,H,v,n,z,hct,F⟩:=h;obtain⟨d,N,R⟩:=rj (P:=P) J D H;simp only[Oper.wp,N,Oper.upon];refine(hct M A ρ a w st.n st.tmps d J R).mono ?_;rintro e w' ⟨x,l,s,rfl,y,B,Y,O,r⟩;exact Z _ _ ⟨_,z,l,s,F,y.put B j,Y,O.T6,r⟩
     . obtain⟨v,n,hrn,F⟩:=h;obtain⟨x,w',l,s,c,y,B,Y,O,r⟩:=hrn M A ρ a w J;rcases c with c|⟨c,rfl⟩
       . simp only[Oper.wp,c,Oper.upon];exact Z _ _ ⟨_,ctr+4,l,s,F,y.put B j,Y,O.T6,r.m⟩
       . simp only[Oper.wp,c,Oper.upon];exact Z _ _ ⟨_,ctr+4,l,s,F,y.put B j,Y,O.T6,r.m⟩
def jz{n:Nat}{tm:List (Nat×V)}{hp hp':List (Nat×bE)}{v:V}(h:aK P (St.get ⟨n,tm,hp⟩) hp ctr o=some (v,hp')):yp P o n tm hp ctr v hp':=by
 intro M A ρ a w J;obtain⟨x,j,l,s,c,y,B,Y,O,r⟩:=qY (st:=⟨n,tm,hp⟩) h J (ww ctr);exact⟨x,j,l,s,c,y.sub kD,B,Y,O,r⟩
def tx{f:FuncId}{hp hp':List (Nat×bE)}{v:V}(h:gY P hp ctr f us v hp'):kU P f us hp ctr v hp' (ctr+4):=by
 intro M A ρ a w n L o J N;refine(h.sound (st:=⟨n,L,hp⟩) J (λk O _=>O) N).mono ?_;rintro e j ⟨x,l,s,rfl,y,B,Y,b,r⟩;exact⟨x,l,s,rfl,y.sub kD,B,Y,b,r⟩
def j7{f:FuncId}{hp hp':List (Nat×bE)}{v:V}(h:gY P hp ctr f us v hp'):dI P f us hp ctr v hp' (ctr+4):=(tx h).m
def Gg.sound{ops:Array Oper}{K:St->Nat->Prop}{Q:Exit->Act->World->Prop}:∀ {l:List Nat} {M A:agt} {ρ:Env} {st:St} {a:Act} {w:World} {ctr:Nat},Gg P ops K l st ctr->Rel M A ρ (bJ ctr) st a w->
 (∀G w',Post M A ρ w K G w'->Q .normal G w')->wpOps P ops Q l a w
 | [],M,A,ρ,st,a,w,ctr,h,J,d=>d _ _ (Post.here J h)
 |i::z,M,A,ρ,st,a,w,ctr,h,J,d=>by
  rw[wpOps_cons];refine qA.sound h J (λG w' F=>?_);obtain⟨b,L,D,s,O,Y,B,g,U⟩:=F;exact Gg.sound O Y (λN S H=>d _ _ (H.trans B g U))
def Wp(P:Program)(c:Code)(Q:Exit->St->Nat->Prop)(st:St)(ctr:Nat):Prop:=
 ∀ (M A:agt) (ρ:Env) (a:Act) (w:World),Rel M A ρ (bJ ctr) st a w->c.wp P (λe G j=>Post M A ρ w (Q e) G j) a w
def Wp.mono{c:Code}{Q d:Exit->St->Nat->Prop}(h:Wp P c Q st ctr)(hq:∀e st' c',Q e st' c'->d e st' c'):Wp P c d st ctr:=
 λM A ρ a w J=>wp_mono (h M A ρ a w J) (λe G j ⟨st',c',l,s,O,Y⟩=>⟨st',c',l,s,hq _ _ _ O,Y⟩)
def Wp.skip{Q:Exit->St->Nat->Prop}{ctr:Nat}(h:Q .normal st ctr):Wp P .skip Q st ctr:=λM A ρ a w J=>wp_skip (Post.here J h)
def Wp.exit{Q:Exit->St->Nat->Prop}{ctr id:Nat}(h:Q (.exit id) st ctr):Wp P (.exit id) Q st ctr:=λM A ρ a w J=>wp_exit (Post.here J h)
def Wp.ret{Q:Exit->St->Nat->Prop}{ctr:Nat}(h:Q .ret st ctr):Wp P .ret Q st ctr:=λM A ρ a w J=>wp_ret (Post.here J h)
def Ue(K:St->Nat->Prop)(Q:Exit->St->Nat->Prop):Exit->St->Nat->Prop
 | .normal=>K|e=>Q e
def Wp.seq{x y:Code}{Q:Exit->St->Nat->Prop}{ctr:Nat}(h:Wp P x (Ue (Wp P y Q) Q) st ctr):Wp P (.seq x y) Q st ctr:=by
 intro M A ρ a w J;refine wp_seq (wp_mono (h M A ρ a w J) ?_);rintro e G j ⟨b,L,l,s,O,Y,B,g,U⟩
 cases e with
 |normal=>exact wp_mono (O M l s G j Y) (λe N S F=>F.trans B g U)
 |_=>exact⟨b,L,l,s,O,Y,B,g,U⟩
def Wp.region{id:Nat}{ops:Array Oper}{Q:Exit->St->Nat->Prop}{ctr:Nat}(h:Gg P ops (Q .normal) (List.range ops.size) st ctr):Wp P (.region id ops false) Q st ctr:=
 λ_ _ _ _ _ J=>wp_region (Gg.sound h J (λ_ _ F=>F))
def Wp.cond{c:Operand}{x y:Code}{b:Bool}{Q:Exit->St->Nat->Prop}{ctr:Nat}(D:(st.get c).jT =some b)(h:Wp P (if b then x else y) Q st ctr):Wp P (.cond c x y) Q st ctr:=
 λM A ρ a w J=>wp_cond (V.lO D (J.get c)) (h M A ρ a w J)
def tA(id:Nat)(Q:Exit->St->Nat->Prop):Exit->St->Nat->Prop
 | .exit S=>if S=id then Q .normal else Q (.exit S)
 |e=>Q e
def Wp.block{id:Nat}{c:Code}{Q:Exit->St->Nat->Prop}{ctr:Nat}(h:Wp P c (tA id Q) st ctr):Wp P (.block id c) Q st ctr:=by
 intro M A ρ a w J;refine wp_block (wp_mono (h M A ρ a w J) ?_);rintro e G j ⟨b,F,l,s,O,Y⟩
 cases e with
 |exit S=>
  simp only[Exit.inBlock];simp only[tA]at O;split
  . rename_i e;rw[if_pos e]at O;exact⟨b,F,l,s,O,Y⟩
  . rename_i e;rw[if_neg e]at O;exact⟨b,F,l,s,O,Y⟩
 |_=>exact⟨b,F,l,s,O,Y⟩
def Wp.loop{c:Code}{Q:Exit->St->Nat->Prop}(I:Nat->St->Nat->Prop)
 (round:∀n st ctr,I n st ctr->Wp P c (Ue (λst' c'=> ∃m,m < n/\I m st' c') Q) st ctr):
 ∀ (n:Nat) (st:St) (ctr:Nat),I n st ctr->Wp P (.loop c) Q st ctr:=by
 intro n st ctr z M A ρ a w J b k R
 have key:∀n st ctr A ρ a w,I n st ctr->Rel M A ρ (bJ ctr) st a w->
  ∃e G j,Post M A ρ w (Q e) G j/\Arrives P (lone (b.at a (.code c:: .inLoop c::k)) R w) b k R e G j:=by
  intro n
  induction n using Nat.strongRecOn with
  |_ n N=>
   intro st ctr A ρ a w y J;obtain⟨e,L,v,d,h⟩:=round n st ctr y M A ρ a w J b (.inLoop c::k) R;obtain⟨st',c',D,s,O,Y,B,g,U⟩:=d
   cases e with
   |normal=>
    obtain⟨m,r,K⟩:=O;obtain⟨o,Z,S,H,F⟩:=N m r st' c' D s L v K Y;exact⟨o,Z,S,H.trans B g U,.of_steps (Steps.trans h (.one step_inLoop)) F⟩
   |exit id=>exact⟨_,L,v,⟨st',c',D,s,O,Y,B,g,U⟩,.pass (x:= .inLoop c) rfl (λ_ _=> .inl ak) h⟩
   |goto l=>exact⟨_,L,v,⟨st',c',D,s,O,Y,B,g,U⟩,.pass (x:= .inLoop c) rfl (λ_ _=> .inl ak) h⟩
   |ret=>exact⟨_,L,v,⟨st',c',D,s,O,Y,B,g,U⟩,.pass (x:= .inLoop c) rfl (λ_ _=> .inl ak) h⟩
   |panic ch=>exact⟨_,L,v,⟨st',c',D,s,O,Y,B,g,U⟩,.pass (x:= .inLoop c) rfl (λ_ _=> .inl ak) h⟩
   |outgrown=>exact⟨_,L,v,⟨st',c',D,s,O,Y,B,g,U⟩,.pass (x:= .inLoop c) rfl (λ_ _=> .inl ak) h⟩
 obtain⟨e,G,j,d,h⟩:=key n st ctr A ρ a w z J;exact⟨e,G,j,d,.of_steps (.one step_loop) h⟩
def Wp.forget{c:Code}{Q:Exit->St->Nat->Prop}{ctr U:Nat}{st':St}(h:Wp P c Q st' U)(D:ctr<=U)(K:st'.n=st.n)
 (g:∀t v,find st'.tmps t=some v->find st.tmps t=some v) (d:∀id b,find st'.heap id=some b->find st.heap id=some b):Wp P c Q st ctr:=
 λM A ρ a w J=>h M A ρ a w ((J.forget K g d).sub (λid I=>aal D I))
def de(P:Program)(heap:List (Nat×bE))(tmps:List (Nat×V)):ResultVar->Option W
 | .tmp t=>match find tmps t with
   |some (.w u)=>some u|_=>none
 | .cell t w=>match find tmps t with
   |some v=>match gA P w v heap with
    |some (.w u)=>some u|_=>none
   |none=>none
def bg(P:Program)(heap:List (Nat×bE))(tmps:List (Nat×V)):List ResultVar->Option Lw
 | []=>some []
 |r::x=>match de P heap tmps r,bg P heap tmps x with
  |some u,some A=>some (u::A)|_,_=>none
def aR:Lw->V
 | [u]=> .w u|A=> .fB A
def eA(h:Rel M A ρ F st a w):∀ {rs:List ResultVar} {us:Lw},bg P st.heap st.tmps rs=some us->
 ∃vs:List Value,(rs.mapM λ(r:ResultVar)=>match r with
  | .tmp t=>pure (a.tmps.getD t undef)
  | .cell b t=>do loadVar t (<-asAddr (a.tmps.getD b undef))).run P w= .ok vs w/\DJ w A ρ us vs
 | [],us,L=>by
   simp only[bg,ii]at L;subst L;exact⟨[],ak,rfl,ak⟩
 |r::rs,us,L=>by
  simp only[bg]at L;split at L
  . rename_i u H J s;simp only[ii]at L;subst L;obtain⟨vs,O,Y,B⟩:=eA h s
    have one: ∃v,(match r with
     | .tmp t=>(pure (a.tmps.getD t undef):Sem Value)
     | .cell b t=>do loadVar t (<-asAddr (a.tmps.getD b undef))).run P w= .ok v w/\RW w A ρ u v:=by
     cases r with
     |tmp t=>
      simp only[de]at J;split at J
      . rename_i g R;simp only[ii]at J;subst J;exact⟨_,rfl,h.tmps t _ R⟩
      . simp at J
     |cell b t=>
      simp only[de]at J;split at J
      . rename_i v R;split at J
        . rename_i g U;simp only[ii]at J;subst J;have z:=h.tmps b v R;obtain⟨y,G,d⟩:=tj h U z;refine⟨y,?_,d⟩;unfold gA at U;split at U
          . rename_i c;split at U
            . rename_i Z j S;obtain⟨K,o,N,_⟩:=Au h S z.1;simp only[Instr.loadAt,Instr.sureAddr,N,Sem.run_bind,Sem.run_pure,Result.andThen_ok]at G;simp only[asAddr,N,Sem.run_bind,Sem.run_pure,Result.andThen_ok];exact G
            . simp at U
          . simp at U
        . simp at J
      . simp at J
    obtain⟨v,z,Q⟩:=one;refine⟨v::vs,?_,by simp[Y],λk u x L N=>?_⟩
    . rw[aey,Sem.run_bind,z,Result.andThen_ok,Sem.run_bind,O];rfl
    . cases k with
      |zero=>
       simp only[yq,ii]at L N;subst L;subst N;exact Q
      |succ k=>exact B k u x af4 iL
  . simp at L
def dz(n:Nat):Lw->List (Nat×V)
 | []=>[]|u::r=>(n,.w u)::dz (n+1) r
def eS:∀ (us:Lw) (n t:Nat) (v:V),find (dz n us) t=some v->n<=t/\ ∃u,us[t - n]? =some u/\v= .w u
 | [],n,t,v,h=>by simp[dz,find]at h
 |u::r,n,t,v,h=>by
  simp only[dz,aF]at h;split at h
  . rename_i e;subst e;simp only[ii]at h;exact⟨ww _,u,ak,h.symm⟩
  . rename_i e;obtain⟨O,g,Y,B⟩:=eS r (n+1) t v h;refine⟨aa,g,?_,B⟩;rw[show t - n=(t - (n+1))+1 by omega];simpa using Y
def zm{ρ:Env}{A l:agt}{w:World}(G:∀b,A b->b < w.heap.size)(h:fZ (λb=>pK ρ [] b\/w.heap.size<=b) A l w):bY A l w:=by
 refine⟨λb a=>h.1 b a ?_,h.2⟩;rintro(⟨id,L,R,_⟩|S)
 . simp[find]at R
 . have:=G b a;omega
end Go.aW
namespace Go.aW
open Go
variable{P:Program}
def yQ(d:Nat)(t:TypeId)(xs ys:Array Value){fs:Array Field}(Q:P.underlying t=some (.struct fs))(hp:P.stoodInHeld t=false):
 aX P (Op.equalIn (d+1) t (.agg xs) (.agg ys))=aX P (Op.eqFields d xs ys fs.toList):=by
 have e:aX P program=some P:=rfl;simp only[Op.equalIn,aY,bi Q,Tf,e,hp,aag,if_false];rw[<-Array.forIn_toList];generalize fs.toList=l;clear Q
 induction l with
 |nil=>simp[Op.eqFields,aU]
 |cons f l c=>
  simp only[List.forIn_cons,Op.eqFields,aY];split
  . simp only[aY]
    cases h1:aX P (part f.type xs f.offset)with
    |none=>simp
    |some a=>
     simp only[Tf]
     cases h2:aX P (part f.type ys f.offset)with
     |none=>simp
     |some b=>
      simp only[Tf]
      cases h3:aX P (Op.equalIn d f.type a b)with
      |none=>simp
      |some r=>
       cases r
       . simp[aU]
       . simp only[Tf,afl,aag,if_false,aU];rw[<-c]
  . simp only[aU,Tf];rw[<-c]
def Ai(P:Program)(t:TypeId):Option Nat:=
 match aX P (isAgg t)with
 |some false=>match P.underlying t with
  |some (.int _)=>some 0|some .bool=>some 1|some .string=>some 2|_=>none
 |_=>none
def pC(P:Program):Nat->List Field->Option (List Nat)
 |_,[]=>some []
 |off,f::r=>if f.name≠ "_" /\f.offset=off then
   match Ai P f.type,pC P (off+1) r with
   |some k,some w=>some (k::w)|_,_=>none
  else none
def xN:List Nat->Lc->Lc->Option Bool
 | [],[],[]=>some true
 |0::w,.t (.val (.int k a))::r,.t (.val (.int P b))::s=>if k=P then(xN w r s).map λe=>(a==b)&&e else none
 |1::w,.t (.val (.bool a))::r,.t (.val (.bool b))::s=>(xN w r s).map λe=>(a==b)&&e|2::w,.t (.val (.string a))::r,.t (.val (.string b))::s=>(xN w r s).map λe=>(a==b)&&e|_,_,_=>none
def Ft{t:TypeId}{k off:Nat}{xs:Array Value}{v:Value}(Z:Ai P t=some k)(z:xs[off]? =some v):aX P (part t xs off)=some v:=by
 unfold Ai at Z;split at Z
 . rename_i w;simp only[part,aY,w,Tf,aag,if_false,z];rfl
 . simp at Z
def Vv{t:TypeId}{k:Nat}(Z:Ai P t=some k):(k=0/\ ∃q,P.underlying t=some (.int q))\/(k=1/\P.underlying t=some .bool)\/(k=2/\P.underlying t=some .string):=by
 unfold Ai at Z;split at Z
 . split at Z
   . rename_i q d;simp only[ii]at Z;exact .inl ⟨Z.symm,q,d⟩
   . rename_i d;simp only[ii]at Z;exact .inr (.inl ⟨Z.symm,d⟩)
   . rename_i d;simp only[ii]at Z;exact .inr (.inr ⟨Z.symm,d⟩)
   . simp at Z
 . simp at Z
def uY{d:Nat}{xs ys:Array Value}:∀ {fs:List Field} {ks:List Nat} {off:Nat} {cs ds:Lc} {b:Bool},pC P off fs=some ks->xN ks cs ds=some b->
 (∀ (i:Nat) (c:C),cs[i]? =some c-> ∃v,c= .t (.val v)/\xs[off+i]? =some v)->(∀ (i:Nat) (c:C),ds[i]? =some c-> ∃v,c= .t (.val v)/\ys[off+i]? =some v)->
 aX P (Op.eqFields (d+1) xs ys fs)=some b
 | [],ks,off,cs,ds,b,R,H,N,G=>by
   simp only[pC,ii]at R;subst R;unfold xN at H;split at H<;>simp_all[Op.eqFields,aU]
 |f::fs,ks,off,cs,ds,b,R,H,N,G=>by
  simp only[pC]at R;split at R
  . rename_i D;split at R
    . rename_i k ks' Z w;simp only[ii]at R;subst R
      have J:∀ {v u:Value} {r s:Lc} {q e:Bool},cs= .t (.val v)::r->ds= .t (.val u)::s->aX P (Op.equalIn (d+1) f.type v u)=some q->xN ks' r s=some e->b=(q&&e)->
       aX P (Op.eqFields (d+1) xs ys (f::fs))=some b:=by
       intro v u r s q e O Y B g U;subst O;subst Y;obtain⟨S,y,l⟩:=N 0 _ rfl;obtain⟨j,o,L⟩:=G 0 _ rfl;cases y;cases o
       have A:=uY (d:=d) (xs:=xs) (ys:=ys) w g (λi c I=>by
        obtain⟨z,F,n⟩:=N (i+1) c zh;exact⟨z,F,by rw[show off+1+i=off+(i+1) by omega];exact n⟩) (λi c I=>by
        obtain⟨z,F,n⟩:=G (i+1) c zh;exact⟨z,F,by rw[show off+1+i=off+(i+1) by omega];exact n⟩)
       simp only[Op.eqFields,if_pos D.1,aY,D.2];rw[Ft Z (by simpa using l),Ft Z af4];simp only[Tf,B];cases q
       . simp[aU,U]
       . simp only[afl,aag,if_false,A,U,afm]
      rcases Vv Z with⟨rfl,q,L⟩|⟨rfl,L⟩|⟨rfl,L⟩
      . unfold xN at H;split at H
        . simp_all
        . rename_i Q h a r kk' K s M;simp only[aaz,true_and]at M;subst M;split at H
          . rename_i x;subst x;simp only[jU]at H;obtain⟨e,g,U⟩:=H;exact J rfl rfl ZH g U.symm
          . simp at H
        . simp_all
        . simp_all
        . simp at H
      . unfold xN at H;split at H
        . simp_all
        . simp_all
        . rename_i Q a r K s M;simp only[aaz,true_and]at M;subst M;simp only[jU]at H;obtain⟨e,g,U⟩:=H;exact J rfl rfl ZH g U.symm
        . simp_all
        . simp at H
      . unfold xN at H;split at H
        . simp_all
        . simp_all
        . simp_all
        . rename_i Q a r K s M;simp only[aaz,true_and]at M;subst M;simp only[jU]at H;obtain⟨e,g,U⟩:=H;exact J rfl rfl ZH g U.symm
        . simp at H
    . simp at R
  . simp at R
def wc(P:Program)(t:TypeId):Option (List Nat):=
 match P.underlying t with
 |some (.struct j)=>if P.stoodInHeld t=false/\P.eqGuardType P.depth t=false then pC P 0 j.toList else none
 |_=>none
def B0:∀ {cs:Lc} {vs:List Value},kg cs=some vs-> ∀ (i:Nat) (c:C),cs[i]? =some c-> ∃v,c= .t (.val v)/\vs[i]? =some v
 | [],vs,h,i,c,D=>by simp at D
 |x::cs,vs,h,i,c,D=>by
  simp only[kg]at h;split at h
  . rename_i v A z M;simp only[ii]at h;subst h
    cases i with
    |zero=>
     simp only[yq,ii]at D;subst D;refine⟨v,?_,rfl⟩;unfold C.val? at z;split at z
     . simp only[ii]at z;subst z;rfl
     . simp at z
    |succ i=>simpa using B0 M i c af3
  . simp at h
def tV:∀ {ks:List Nat} {cs ds:Lc} {b:Bool},xN ks cs ds=some b->(∃vs,kg cs=some vs)/\ ∃us,kg ds=some us
 |ks,cs,ds,b,h=>by
  unfold xN at h;split at h
  . exact⟨⟨[],rfl⟩,⟨[],rfl⟩⟩
  . split at h
    . simp only[jU]at h;obtain⟨e,H,_⟩:=h;obtain⟨⟨vs,O⟩,⟨us,Y⟩⟩:=tV H;exact⟨⟨_,by simp only[kg,C.val?,O];rfl⟩,⟨_,by simp only[kg,C.val?,Y];rfl⟩⟩
    . simp at h
  . simp only[jU]at h;obtain⟨e,H,_⟩:=h;obtain⟨⟨vs,O⟩,⟨us,Y⟩⟩:=tV H;exact⟨⟨_,by simp only[kg,C.val?,O];rfl⟩,⟨_,by simp only[kg,C.val?,Y];rfl⟩⟩
  . simp only[jU]at h;obtain⟨e,H,_⟩:=h;obtain⟨⟨vs,O⟩,⟨us,Y⟩⟩:=tV H;exact⟨⟨_,by simp only[kg,C.val?,O];rfl⟩,⟨_,by simp only[kg,C.val?,Y];rfl⟩⟩
  . simp at h
def nK{t:TypeId}{ks:List Nat}{cs ds:Lc}{vs us:List Value}{b:Bool}(I:wc P t=some ks)(H:xN ks cs ds=some b)(O:kg cs=some vs)(Y:kg ds=some us):
 aX P (Op.equal t (.agg vs.toArray) (.agg us.toArray))=some b/\P.eqGuardType P.depth t=false:=by
 unfold wc at I;split at I
 . rename_i j L;split at I
   . rename_i D;refine⟨?_,D.2⟩;show aX P (Op.equalIn (9998+1+1) t _ _)=_;rw[yQ _ t _ _ L D.1];exact uY I H (λi c D=>by simpa using B0 O i c D) (λi c D=>by simpa using B0 Y i c D)
   . simp at I
 . simp at I
end Go.aW
namespace Go.aW
open Go
inductive eI where
 |t (n:Nat)
 |c (v:V)
inductive Ro where
 |LI (x:eI)
 |pick (c x y:eI)
 |alloc (z:Lc)
 |box (x:eI)
 |build (z:Lc) (ps:List (Nat×Nat×eI))
 |zI (z:Lc) (len:Nat) (ps:List (Nat×eI))
 |load (n:Option Nat) (x:eI)
 |store (n:Nat) (x y:eI)
 |FV (off:Nat) (x:eI)
 |field (off:Nat) (n:Option Nat) (x:eI)
 |Kl (size:Nat) (x i:eI)
 |CS (len size:Nat) (x i:eI)
 |slice (size:Nat) (x:eI) (lo hi:Option eI)
 |make (z:Lc) (bytes:Nat) (l c:eI)
 |extract (x:eI) (k:Nat)
 |oO (f:FuncId) (eE:List eI)
 |len (x:eI)
 |append (size bytes:Nat) (s x:eI)
 |bin (op:BinOp) (x y:eI)
 |XF (op:BinOp) (x y:eI)
 |not (x:eI)
 |neg (x:eI)
 |conv (k:IntKind) (x:eI)
 |XD (x:eI)
 |eqA (neg:Bool) (ks:List Nat) (x y:eI)
 |Ra (x y:eI)
 |Rb (x y:eI)
 |Rf (x:eI)
 |Uq (x i:eI)
 |call (f:FuncId) (args:List eI)
 |oP (x:eI) (args:List eI)
 |raw (op:Op) (ty:TypeId)
structure oc where
 dst:Option Nat
 guard:Option (Nat×Bool)
 op:Ro
def eR:Operand->eI
 | .tmp t=> .t t| .const v=> .c (V.ofValue v)| .global g=> .c (Wg g)| .func f=> .c (V.ofValue (.func (.func f) #[] #[]))
def eI.get(tm:List (Nat×V)):eI->V
 | .t n=>(find tm n).getD .undef| .c v=>v
def bW(st:St)(x:Operand):(eR x).get st.tmps=st.get x:=by cases x<;>rfl
def L9(P:Program)(t:TypeId):Option (Option Nat):=
 match lc P t with
 |some true=>match dc P t with
  |some n=>some (some n)|none=>none
 |some false=>some none|none=>none
def sJ(a:Nat->Option (Nat×Nat)):List (Nat×Operand)->Option (List (Nat×Nat×eI))
 | []=>some []
 |(i,x)::r=>match a i,sJ a r with
  |some (S,B),some l=>some ((S,B,eR x)::l)|_,_=>none
def Mz(P:Program)(t:TypeId):Bool:=
 match P.underlying t with
 |some (.int _)|some .string=>true|_=>false
def aZ(P:Program)(o:Oper):Option Ro:=
 match o.op with
 | .move x| .assign x=>some (.LI (eR x))| .pick c x y=>some (.pick (eR c) (eR x) (eR y))| .alloc e=>(j9 P e).map .alloc| .box _ x=>some (.box (eR x))
 | .build t g=>
   match j9 P t,P.underlying t with
   |some z,some (.struct Q)=>
    match placesOf P Q.toList with
    |some l=>(sJ (λi=>l[i]?) g.toList).map (.build z)|none=>none
   |some z,some (.array _ e)=>
    match dc P e with
    |some B=>(sJ (λi=>some (i * B,B)) g.toList).map (.build z)|none=>none
   |_,_=>none
 | .buildSlice t len g=>
   match P.underlying t with
   |some (.slice e)=>
    match j9 P e with
    |some z=>if len * z.length<=16777216/\0 < z.length then some (.zI z len (g.toList.map λp=>(p.1,eR p.2)))else none
    |none=>none
   |_=>none
 | .load t x=>(L9 P t).map λn=> .load n (eR x)| .store t x y=>(dc P t).map λn=> .store n (eR x) (eR y)
 | .fieldAddr s x f=>
   match P.underlying s with
   |some (.struct Q)=>
    match Q[f]? with
    |some a=>
     match dc P a.type with
     |some (_+1)=>some (.FV a.offset (eR x))|_=>none
    |none=>none
   |_=>none
 | .field t x f=>
   match P.underlying t with
   |some (.struct Q)=>
    match Q[f]? with
    |some a=>(L9 P a.type).map λn=> .field a.offset n (eR x)|none=>none
   |_=>none
 | .indexAddr t x i=>
   match P.underlying t with
   |some (.slice j)=>(dc P j).map λB=> .Kl B (eR x) (eR i)|some (.array len j)=>(dc P j).map λB=> .CS len B (eR x) (eR i)|_=>none
 | .slice t x H I none=>
   match P.underlying t with
   |some (.slice j)=>(dc P j).map λB=> .slice B (eR x) (H.map eR) (I.map eR)|_=>none
 | .makeSlice t l c=>
   match P.underlying t with
   |some (.slice e)=>
    match j9 P e,qy P e with
    |some z,some (_,F)=>some (.make z F (eR l) (eR c))|_,_=>none
   |_=>none
 | .extract x k=>some (.extract (eR x) k)
 | .makeFunc (.func f) first Y=>if first.isEmpty&& !Y.isEmpty then some (.oO f (Y.toList.map eR))else none
 | .call c=>
   match c.callee with
   | .builtin .len=>
     match c.args.toList,c.argTypes.toList with
     | [x],[t]=>
       match P.underlying t with
       |some (.slice _)=>some (.len (eR x))|some .string=>some (.Rf (eR x))|_=>none
     |_,_=>none
   | .builtin .min=>
     match c.args.toList with
     | [x,y]=>some (.Ra (eR x) (eR y))|_=>none
   | .builtin .max=>
     match c.args.toList with
     | [x,y]=>some (.Rb (eR x) (eR y))|_=>none
   | .builtin .append=>
     match c.args.toList,c.argTypes.toList with
     | [s,x],[t,t']=>
       if t=t' then
        match P.underlying t with
        |some (.slice e)=>match qy P e with
         |some (B,F)=>some (.append B F (eR s) (eR x))|none=>none
        |_=>none
       else none
     |_,_=>none
   | .value (.func f)=>if enters P f then some (.call f (c.args.toList.map eR))else none
   |_=>none
 | .binOp Z t x y _=>
   if Mz P t then some (.bin Z (eR x) (eR y))else
   match P.underlying t with
   |some .bool=>some (.XF Z (eR x) (eR y))
   |some (.struct _)=>match Z,wc P t with
    | .eql,some w=>some (.eqA false w (eR x) (eR y))| .neq,some w=>some (.eqA true w (eR x) (eR y))|_,_=>none
   |_=>none
 | .index t x i=>
   match P.underlying t with
   |some .string=>some (.Uq (eR x) (eR i))|_=>none
 | .unOp .not _ x=>some (.not (eR x))| .unOp .neg _ x=>some (.neg (eR x))
 | .convert G J x=>
   match P.underlying G,P.underlying J with
   |some (.int _),some (.int k)=>some (.conv k (eR x))
   |some (.slice e),some .string=>match P.underlying e with
    |some (.int .u8)=>some (.XD (eR x))|_=>none
   |_,_=>none
 |_=>none
def JG(o:Oper):Ro:=
 match o.op with
 | .call ⟨.value (.tmp t),j,_⟩=> .oP (.t t) (j.toList.map eR)|op=> .raw op o.type
def acU(op:Op):Bool:=
 match op with
 | .buildSlice t len _=>aBp t len| .slice t (.tmp x) none (some (.tmp h)) none=>aBo t x h|_=>false
def qO(P:Program)(o:Oper):Option Ro:=
 match acU o.op with
 |true=>none|false=>aZ P o
def fC{P:Program}{o:Oper}{r:Ro}(h:qO P o=some r):aZ P o=some r:=by
 unfold qO at h;split at h
 . simp at h
 . exact h
def bL(P:Program)(o:Oper):Option Ro:=
 match qO P o with
 |some r=>some r|none=>some (JG o)
def pW(o:Oper):(∃t args l,o.op= .call ⟨.value (.tmp t),args,l⟩/\JG o= .oP (.t t) (args.toList.map eR))\/JG o= .raw o.op o.type:=by
 unfold JG;split
 . rename_i t args l h;exact .inl ⟨t,args,l,h,rfl⟩
 . exact .inr rfl
def asW(op:BinOp)(k:IntKind)(x y:Int):Option Value:=
 match op with
 | .add=>some (.int k (k.wrap (x+y)))| .sub=>some (.int k (k.wrap (x - y)))| .mul=>some (.int k (k.wrap (x * y)))| .eql=>some (.bool (x==y))| .neq=>some (.bool (x !=y))| .lss=>some (.bool (decide (x < y)))| .leq=>some (.bool (decide (x<=y)))| .gtr=>some (.bool (decide (x > y)))| .geq=>some (.bool (decide (x≥y)))|_=>none
abbrev iV(k:IntKind)(n:Int):V:= .w (.one (.t (.val (.int k n))))
abbrev bV(b:Bool):V:= .w (.one (.t (.val (.bool b))))
def Db{α:Sort _}(c:C)(k:C->α):α:=
 match c with
 | .t (.val (.int j n))=>k (.t (.val (.int j n)))| .t (.val (.bool b))=>k (.t (.val (.bool b)))| .t (.val (.string s))=>k (.t (.val (.string s)))| .t (.val v)=>k (.t (.val v))| .t (.aO N o)=>k (.t (.aO N o))| .own id N i len=>k (.own id N i len)| .ptr id N i j=>k (.ptr id N i j)| .yz e j=>k (.yz e j)| .oO f U=>k (.oO f U)| .map id=>k (.map id)| .it id=>k (.it id)| .Ix f g Z=>k (.Ix f g Z)| .pk Z=>k (.pk Z)| .any=>k .any
def mW{α:Sort _}(c:C)(k:C->α):Db c k=k c:=by
 unfold Db;split<;>rfl
def wy{α:Sort _}(v:V)(k:V->α):α:=
 match v with
 | .w (.one c)=>Db c λc=>k (.w (.one c))| .w (.agg R)=>k (.w (.agg R))| .fB F=>k (.fB F)| .undef=>k .undef
def dj{α:Sort _}(v:V)(k:V->α):wy v k=k v:=by
 unfold wy;split
 . rw[mW]
 all_goals rfl
abbrev TS:=List (Nat×V)
abbrev HS:=List (Nat×bE)
def eJ(tm:TS)(dst:Option Nat)(v:V):TS:=
 match dst with
 |some d=>(d,v)::tm|none=>tm
def BE(st:St)(dst:Option Tmp)(v:V)(hp:HS):St.put {st with heap:=hp} dst v=⟨st.n,eJ st.tmps dst v,hp⟩:=by cases dst<;>rfl
def iP(st:St)(dst:Option Tmp)(v:V):St.put st dst v=⟨st.n,eJ st.tmps dst v,st.heap⟩:=by cases dst<;>rfl
end Go.aW
namespace Go.aW
open Go
def jG{α:Type}{β:Sort _}:List α->(List α->β)->β
 | [],k=>k []|x::r,k=>jG r λr=>k (x::r)
def cM{α:Type}{β:Sort _}:∀ (l:List α) (k:List α->β),jG l k=k l
 | [],_=>rfl
 |x::r,k=>by simp only[jG];rw[cM r]
def br(b:Bool)(x y:Prop):Prop:=match b with|true=>x|false=>y
def aP{b:Bool}{x y:Prop}(hx:b=true->x)(hy:b=false->y):br b x y:=by
 cases b
 . exact hy rfl
 . exact hx rfl
def mZ{b:Bool}{x y:Prop}(h:br b x y):(b=true/\x)\/(b=false/\y):=by
 cases b
 . exact .inr ⟨rfl,h⟩
 . exact .inl ⟨rfl,h⟩
def S0(v:Option V)(d:Nat)(K:agt):Prop:=
 match v with
 |none=>K d
 |some v=>match v.jv with
  |some (_,n)=>0<=n/\K n.toNat|none=>False
def Lm{v:Option V}{d:Nat}{K:agt}(h:S0 v d K): ∃l,jI v d=some l/\K l:=by
 unfold S0 at h;split at h
 . exact⟨d,rfl,h⟩
 . split at h
   . rename_i k n o;exact⟨n.toNat,by simp only[jI,o,if_pos h.1],h.2⟩
   . exact h.elim
def QA{v:Option V}{d l:Nat}{K:agt}(h:jI v d=some l)(Z:K l):S0 v d K:=by
 unfold jI at h;unfold S0;split at h
 . simp only[ii]at h;subst h;exact Z
 . split at h
   . rename_i k n o;split at h
     . rename_i z;simp only[ii]at h;subst h
       try simp only[o]
       exact⟨z,Z⟩
     . simp at h
   . simp at h
def yV(tm:List (Nat×V)):List (Nat×eI)->Option (List (Nat×W))
 | []=>some []
 |(i,x)::r=>match x.get tm,yV tm r with
  | .w u,some l=>some ((i,u)::l)|_,_=>none
def Dh(tm:List (Nat×V))(b:Lc):List (Nat×Nat×eI)->Option Lc
 | []=>some b
 |(S,B,x)::z=>
  match x.get tm with
  | .w u=>if(cellsOf u).length=B/\S+B<=b.length then Dh tm (bt b S (cellsOf u)) z else none
  |_=>none
def F7(tm:List (Nat×V)):List eI->Option (List (Nat×Nat×Nat×Nat))
 | []=>some []
 |x::r=>match x.get tm,F7 tm r with
  | .w (.one (.ptr id N i j)),some l=>some ((id,N,i,j)::l)|_,_=>none
def w4(n:Option Nat)(cs:Lc)(j:Nat)(K:V->Prop):Prop:=
 match n with
 |some n=>if j+n<=cs.length then jG ((cs.drop j).take n) λl=>K (.w (.agg l))else False
 |none=>match cs[j]? with
  |some c=>Db c λc=>K (.w (.one c))|none=>False
def tu(hp:List (Nat×bE))(x:C):Option (Nat×Lq):=
 match x with
 | .t (.val (.slice none 0 0))=>some (0,[])|x=>elems hp x
def F2(hp:List (Nat×bE))(x:C):tu hp x=if isNil x then some (0,[])else elems hp x:=by
 unfold tu;split
 . rfl
 . rename_i P
   have:isNil x=false:=by
    unfold isNil;split
    . exact absurd rfl P
    . rfl
   rw[this];rfl
def mP(xs:Lq)(i:Nat)(K:Lc->Prop):Prop:=
 match xs[i]? with
 |some r=>K r|none=>False
def xS(c:C)(l h:Nat)(K:C->Prop):Prop:=
 match Im c l h with
 |some d=>K d|none=>False
def XR(r:Ro)(tm:List (Nat×V))(hp:List (Nat×bE))(nid:Nat)(K:V->List (Nat×bE)->Prop):Prop:=
 match r with
 | .LI x=>wy (x.get tm) λv=>K v hp
 | .pick c x y=>match(c.get tm).jT with
   |some b=>br b (wy (x.get tm) λv=>K v hp) (wy (y.get tm) λv=>K v hp)|none=>False
 | .alloc z=>K (.w (.one (.ptr nid z.length 0 0))) ((nid,.row z.length [z])::hp)
 | .box x=>match x.get tm with
   | .w u=>jG (cellsOf u) λR=>K (.w (.one (.ptr nid R.length 0 0))) ((nid,.row R.length [R])::hp)|_=>False
 | .build z g=>match Dh tm z g with
   |some R=>jG R λR=>K (.w (.agg R)) hp|none=>False
 | .zI z len g=>match yV tm g with
   |some l=>match uX z.length (List.replicate len z) l with
    |some o=>jG o λo=>K (.w (.one (.own nid z.length 0 len))) ((nid,.row z.length o)::hp)|none=>False
   |none=>False
 | .load n x=>match x.get tm with
   | .w (.one (.ptr id N i j))=>match find hp id with
     |some (.row D o)=>if D=N then mP o i λR=>w4 n R j λv=>K v hp else False
     |_=>False
   | .w (.one c)=>match deref hp c with
     |some (R,j)=>w4 n R j λv=>K v hp|none=>False
   |_=>False
 | .store n x y=>match x.get tm,y.get tm with
   | .w (.one (.ptr id N i j)),.w u=>match find hp id with
     |some (.row D o)=>mP o i λL=>if D=N/\(cellsOf u).length=n/\j+n<=L.length then
       jG (bt L j (cellsOf u)) λM=>jG (jB hp id (.row N (o.set i M))) λh=>K .undef h
       else False
     |_=>False
   |_,_=>False
 | .FV S x=>match x.get tm with
   | .w (.one (.ptr id N i j))=>K (.w (.one (.ptr id N i (j+S)))) hp| .w (.one (.yz e j))=>K (.w (.one (.yz e (j+S)))) hp|_=>False
 | .field S n x=>match x.get tm with
   | .w (.agg R)=>w4 n R S λv=>K v hp|_=>False
 | .Kl B x i=>match x.get tm,(i.get tm).jv with
   | .w (.one (.own id N A len)),some (_,n)=>if N=B then(0<=n/\n < len)/\K (.w (.one (.ptr id N (A+n.toNat) 0))) hp else False
   | .w (.one (.t (.aO N o))),some (_,n)=>if N=B then 0<=n/\ ∃e,o[n.toNat]? =some e/\K (.w (.one (.yz e 0))) hp else False
   |_,_=>False
 | .CS len B x i=>match x.get tm,(i.get tm).jv with
   | .w (.one c),some (_,n)=>match c.shift (n.toNat * B)with
     |some d=>(0<=n/\n < len)/\K (.w (.one d)) hp|none=>False
   |_,_=>False
 | .slice B x H I=>match x.get tm with
   | .w (.one c)=>match c.CN,c.sz? with
     |some len,some N=>if N=B then S0 (H.map (·.get tm)) 0 λl=>S0 (I.map (·.get tm)) len λh=>(l<=h/\h<=len)/\xS c l h λd=>K (.w (.one d)) hp
      else False
     |_,_=>False
   |_=>False
 | .make z J l c=>match(l.get tm).jv,(c.get tm).jv with
   |some (_,l),some (_,c)=>(0<=l/\l<=c/\c<=4611686018427387904/\c * J<=281474976710656)/\
     K (.w (.one (.own nid z.length 0 l.toNat))) ((nid,.row z.length (List.replicate l.toNat z))::hp)
   |_,_=>False
 | .extract x k=>match x.get tm with
   | .fB F=>match F[k]? with
     |some u=>wy (.w u) λv=>K v hp|none=>False
   |_=>False
 | .oO f U=>match F7 tm U with
   |some l=>K (.w (.one (.oO f l))) hp|none=>False
 | .len x=>match x.get tm with
   | .w (.one c)=>match c.CN with
     |some n=>K (iV .i64 (n:Int)) hp|none=>False
   |_=>False
 | .append B J s x=>match s.get tm,x.get tm with
   | .w (.one s),.w (.one x)=>match tu hp x with
     |some (_,[])=>match s.CN with
      |some _=>Db s λs=>K (.w (.one s)) hp|none=>False
     |some (N,y::Y)=>match s with
      | .own id D 0 len=>match find hp id with
        |some (.row Q o)=>
         if N=B/\D=B/\Q=B then(len=o.length/\(o.length+(Y.length+1)) * J<=bh/\o.length+(Y.length+1)<=maxLen)/\
          jG (del hp id) λhp=>K (.w (.one (.own nid B 0 (o.length+(Y.length+1))))) ((nid,.row B (o++y::Y))::hp)
         else False
        |_=>False
      | .t (.val (.slice none 0 0))=>if N=B then((Y.length+1) * J<=bh/\Y.length+1<=maxLen)/\
         K (.w (.one (.own nid B 0 (Y.length+1)))) ((nid,.row B (y::Y))::hp)else False
      |_=>False
     |none=>False
   |_,_=>False
 | .bin Z x y=>match x.get tm,y.get tm with
   | .w (.one (.t (.val (.int k a)))),.w (.one (.t (.val (.int P b))))=>
     if k=P then match Z with
      | .quo=>b≠0/\K (iV k (k.wrap (a.tdiv b))) hp| .rem=>b≠0/\K (iV k (a.tmod b)) hp| .shl=>0<=b/\K (iV k (k.wrap (a * 2 ^ (min b.toNat k.bits)))) hp| .shr=>0<=b/\K (iV k (a.fdiv (2 ^ (min b.toNat k.bits)))) hp| .and=>K (iV k (k.wrap (BitVec.ofInt k.bits a&&& BitVec.ofInt k.bits b).toNat)) hp| .or=>K (iV k (k.wrap (BitVec.ofInt k.bits a|||BitVec.ofInt k.bits b).toNat)) hp
      |Z=>match asW Z k a b with
       |some (.int j n)=>K (iV j n) hp|some (.bool c)=>K (bV c) hp|_=>False
     else match Z with
      | .shl=>0<=b/\K (iV k (k.wrap (a * 2 ^ (min b.toNat k.bits)))) hp| .shr=>0<=b/\K (iV k (a.fdiv (2 ^ (min b.toNat k.bits)))) hp|_=>False
   | .w (.one (.t (.val (.string a)))),.w (.one (.t (.val (.string b))))=>match Z with
     | .add=>a.size+b.size<=9223372036854775807/\K (.w (.one (.t (.val (.string (a++b)))))) hp| .eql=>K (bV (a.toList==b.toList)) hp| .neq=>K (bV (!(a.toList==b.toList))) hp|_=>False
   |_,_=>False
 | .XF Z x y=>match(x.get tm).jT,(y.get tm).jT with
   |some a,some b=>match Z with
    | .eql=>K (bV (a==b)) hp| .neq=>K (bV (!(a==b))) hp|_=>False
   |_,_=>False
 | .eqA neg w x y=>match x.get tm,y.get tm with
   | .w (.agg R),.w (.agg G)=>match xN w R G with
     |some b=>match neg with
      |true=>K (bV (!b)) hp|false=>K (bV b) hp
     |none=>False
   |_,_=>False
 | .Ra x y=>match(x.get tm).jv,(y.get tm).jv with
   |some (k,a),some (_,b)=>K (iV k (if b < a then b else a)) hp
   |_,_=>False
 | .Rb x y=>match(x.get tm).jv,(y.get tm).jv with
   |some (k,a),some (_,b)=>K (iV k (if b > a then b else a)) hp
   |_,_=>False
 | .Rf x=>match x.get tm with
   | .w (.one (.t (.val (.string s))))=>K (iV .i64 (s.size:Int)) hp|_=>False
 | .Uq x i=>match x.get tm,(i.get tm).jv with
   | .w (.one (.t (.val (.string s)))),some (_,n)=>0<=n/\ ∃b,s[n.toNat]? =some b/\K (iV .u8 (b.toNat:Int)) hp|_,_=>False
 | .not x=>match(x.get tm).jT with
   |some b=>K (bV (!b)) hp|none=>False
 | .neg x=>match(x.get tm).jv with
   |some (k,n)=>K (iV k (k.wrap (0 - n))) hp|none=>False
 | .conv k x=>match(x.get tm).jv with
   |some (_,n)=>K (iV k (k.wrap n)) hp|none=>False
 | .XD x=>match x.get tm with
   | .w (.one (.own id N i len))=>match elems hp (.own id N i len)with
     |some (1,y::Y)=>match F9 (y::Y)with
      |some O=>K (.w (.one (.t (.val (.string (strOfNums O)))))) hp|none=>False
     |_=>False
   |_=>False
 |_=>False
variable{P:Program}{st:St}
def Fo(st:St):∀ (ps:List (Nat×Operand)),yV st.tmps (ps.map λp=>(p.1,eR p.2))=jZ st.get ps
 | []=>rfl
 |(i,x)::r=>by simp only[aaq,yV,jZ,bW,Fo st r]<;>rfl
def td{a:Nat->Option (Nat×Nat)}:∀ {ps:List (Nat×Operand)} {l:List (Nat×Nat×eI)} {z cs:Lc},sJ a ps=some l->Dh st.tmps z l=some cs->
 ∃us,jZ st.get ps=some us/\Ap a z us=some cs
 | [],l,z,cs,h,R=>by
   simp only[sJ,ii]at h;subst h;simp only[Dh,ii]at R;subst R;exact⟨[],rfl,rfl⟩
 |(i,x)::r,l,z,cs,h,R=>by
  simp only[sJ]at h;split at h
  . rename_i S B A F U;simp only[ii]at h;subst h;simp only[Dh,bW]at R;split at R
    . rename_i u L;split at R
      . rename_i D;obtain⟨us,O,Y⟩:=td U R;exact⟨(i,u)::us,by simp only[jZ,L,O],by simp only[Ap,F,if_pos D,Y]⟩
      . simp at R
    . simp at R
  . simp at h
def Li(st:St):∀ (xs:List Operand),F7 st.tmps (xs.map eR)=Ed st.get xs
 | []=>rfl
 |x::r=>by simp only[aaq,F7,Ed,bW,Li st r]<;>rfl
def oy{t:TypeId}{n:Option Nat}{cs:Lc}{j:Nat}{K:V->Prop}(d:L9 P t=some n)(h:w4 n cs j K): ∃u,nN P t cs j=some u/\K (.w u):=by
 unfold L9 at d;split at d
 . rename_i l;split at d
   . rename_i m r;simp only[ii]at d;subst d;simp only[w4]at h;split at h
     . rename_i I;rw[cM]at h;exact⟨_,by simp only[nN,l,r,if_pos I],h⟩
     . exact h.elim
   . simp at d
 . rename_i l;simp only[ii]at d;subst d;simp only[w4]at h;split at h
   . rename_i c D;rw[mW]at h;exact⟨.one c,by simp only[nN,l,D,wv],h⟩
   . exact h.elim
 . simp at d
def qg{v:V}{k:IntKind}{n:Int}(G:v.jv =some (k,n)):v=iV k n:=by
 unfold V.jv at G;split at G
 . simp only[ii,uu]at G;obtain⟨rfl,rfl⟩:=G;rfl
 . simp at G
def Ga{v:V}{b:Bool}(G:v.jT =some b):v=bV b:=by
 unfold V.jT at G;split at G
 . simp only[ii]at G;subst G;rfl
 . simp at G
variable{o:Oper}{r:Ro}{nid:Nat}
def sG{P:Program}{get:Operand->V}{op:BinOp}{t t':TypeId}{x y:Operand}{a b v:Value}(d:o.op= .binOp op t x y t')(hx:(get x).val? =some a)(hy:(get y).val? =some b)
 (h:aX P (execOp (λx=>((get x).val?).getD undef) o)=some (.value v)):bS P get o=some (V.ofValue v):=by
 have n:(jL o.op&&o.op.operands.toList.all λx=>(get x).val?.isSome)=true:=by simp[d,jL,Op.operands,hx,hy]
 simp only[bS,n,if_true,h]
def S3{K:V->List (Nat×bE)->Prop}(J:aZ P o=some r)(h:XR r st.tmps st.heap nid K):
 cK st.get o=none/\ ∃v heap',aK P st.get st.heap nid o=some (v,heap')/\K v heap':=by
 obtain⟨dst,op,ty,pos,after,guard⟩:=o
 cases op with
 |move x=>
  simp only[aZ,ii]at J;subst J;simp only[XR,dj,bW]at h;exact⟨rfl,_,_,rfl,h⟩
 |assign x=>
  simp only[aZ,ii]at J;subst J;simp only[XR,dj,bW]at h;exact⟨rfl,_,_,rfl,h⟩
 |pick c x y=>
  simp only[aZ,ii]at J;subst J;simp only[XR,dj,bW]at h;split at h
  . rename_i b G;refine⟨rfl,if b then st.get x else st.get y,st.heap,by simp only[aK,G],?_⟩;rcases mZ h with⟨rfl,h⟩|⟨rfl,h⟩
    . exact h
    . exact h
  . exact h.elim
 |alloc e=>
  simp only[aZ,jU]at J;obtain⟨z,A,rfl⟩:=J;simp only[XR]at h;exact⟨rfl,_,_,by simp only[aK,qx,A,wv],h⟩
 |box e x=>
  simp only[aZ,ii]at J;subst J;simp only[XR,cM,bW]at h;split at h
  . rename_i u L;exact⟨rfl,_,_,by simp only[aK,xM,L,wv],h⟩
  . exact h.elim
 |build t ps=>
  simp only[aZ]at J;split at J
  . rename_i z fields A L;split at J
    . rename_i l U;simp only[jU]at J;obtain⟨qs,Q,rfl⟩:=J;simp only[XR,cM]at h;split at h
      . rename_i cs hcs;obtain⟨us,O,Y⟩:=td Q hcs;exact⟨rfl,_,_,by simp only[aK,qw,O,A,L,U,Y,wv],h⟩
      . exact h.elim
    . simp at J
  . rename_i z n e A L;split at J
    . rename_i size S;simp only[jU]at J;obtain⟨qs,Q,rfl⟩:=J;simp only[XR,cM]at h;split at h
      . rename_i cs hcs;obtain⟨us,O,Y⟩:=td Q hcs;exact⟨rfl,_,_,by simp only[aK,qw,O,A,L,S,Y,wv],h⟩
      . exact h.elim
    . simp at J
  . simp at J
 |buildSlice t len ps=>
  simp only[aZ]at J;split at J
  . rename_i e L;split at J
    . rename_i z A;split at J
      . rename_i D;simp only[ii]at J;subst J;simp only[XR,cM,Fo]at h;split at h
        . rename_i l U;split at h
          . rename_i M hxs;exact⟨rfl,_,_,by simp only[aK,fc,U,L,A,if_pos D,hxs,wv],h⟩
          . exact h.elim
        . exact h.elim
      . simp at J
    . simp at J
  . simp at J
 |load t x=>
  simp only[aZ,jU]at J;obtain⟨n,g,rfl⟩:=J;simp only[XR,bW]at h;split at h
  . rename_i id sz i j D;split at h
    . rename_i sz' M R;split at h
      . rename_i S;unfold mP at h;split at h
        . rename_i el hel;have hd:deref st.heap (.ptr id sz i j)=some (el,j):=by simp only[deref,R,if_pos S,hel,wv]
          obtain⟨u,L,hK⟩:=oy g h;exact⟨rfl,_,_,by simp only[aK,gA,D,hd,L,wv],hK⟩
        . exact h.elim
      . exact h.elim
    . exact h.elim
  . rename_i c _ D;split at h
    . rename_i cs j hd;obtain⟨u,L,hK⟩:=oy g h;exact⟨rfl,_,_,by simp only[aK,gA,D,hd,L,wv],hK⟩
    . exact h.elim
  . exact h.elim
 |store t x y=>
  simp only[aZ,jU]at J;obtain⟨n,g,rfl⟩:=J;simp only[XR,bW,cM]at h;split at h
  . rename_i id sz i j u N hy;split at h
    . rename_i sz' M R;unfold mP at h;split at h
      . rename_i el hel;split at h
        . rename_i D;exact⟨rfl,_,_,by simp only[aK,nu,N,hy,R,g,hel,if_pos D,wv],h⟩
        . exact h.elim
      . exact h.elim
    . exact h.elim
  . exact h.elim
 |fieldAddr s x f=>
  simp only[aZ]at J;split at J
  . rename_i fields L;split at J
    . rename_i fd Y3;split at J
      . rename_i m hm;simp only[ii]at J;subst J;simp only[XR,bW]at h;split at h
        . rename_i id sz i j N;exact⟨rfl,_,_,by simp only[aK,jS,N,L,Y3,hm,C.shift,wv],h⟩
        . rename_i e j N;exact⟨rfl,_,_,by simp only[aK,jS,N,L,Y3,hm,C.shift,wv],h⟩
        . exact h.elim
      . simp at J
    . simp at J
  . simp at J
 |field t x f=>
  simp only[aZ]at J;split at J
  . rename_i fields L;split at J
    . rename_i fd Y3;simp only[jU]at J;obtain⟨n,g,rfl⟩:=J;simp only[XR,bW]at h;split at h
      . rename_i cs N;obtain⟨u,F,hK⟩:=oy g h;exact⟨rfl,_,_,by simp only[aK,tT,N,L,Y3,F,wv],hK⟩
      . exact h.elim
    . simp at J
  . simp at J
 |indexAddr t x i=>
  simp only[aZ]at J;split at J
  . rename_i elem L;simp only[jU]at J;obtain⟨size,S,rfl⟩:=J;simp only[XR,bW]at h;split at h
    . rename_i id sz i0 len k n N I;split at h
      . rename_i hsz;obtain⟨G,hK⟩:=h;refine⟨rfl,_,_,?_,hK⟩;simp only[aK,iv,N,I,L,S,elemAt,if_pos (⟨hsz,G⟩:sz=size/\0<=n/\n < (len:Int)),wv]
      . exact h.elim
    . rename_i sz M k n N I;split at h
      . rename_i hsz;obtain⟨w,e,H,hK⟩:=h
        have hlt:n < (M.length:Int):=by
         have:=(jl.1 H).1;omega
        refine⟨rfl,_,_,?_,hK⟩;simp only[aK,iv,N,I,L,S,elemAt,if_pos (⟨hsz,w,hlt⟩:sz=size/\0<=n/\n < (M.length:Int)),H,wv]
      . exact h.elim
    . exact h.elim
  . rename_i len elem L;simp only[jU]at J;obtain⟨size,S,rfl⟩:=J;simp only[XR,bW]at h;split at h
    . rename_i c k n N I;split at h
      . rename_i d hd;obtain⟨G,hK⟩:=h;refine⟨rfl,_,_,?_,hK⟩;simp only[aK,iv,N,I,L,S,if_pos G,hd,wv]
      . exact h.elim
    . exact h.elim
  . simp at J
 |slice t x lo I mx=>
  cases mx with
  |some m=>simp[aZ]at J
  |none=>
   simp only[aZ]at J;split at J
   . rename_i elem L;simp only[jU]at J;obtain⟨size,S,rfl⟩:=J;have e1:∀ (q:Option Operand),(q.map eR).map (·.get st.tmps)=q.map st.get:=by intro q;cases q<;>simp[bW]
     simp only[XR,bW,e1]at h;split at h
     . rename_i c N;split at h
       . rename_i len sz hlen hsz;split at h
         . rename_i hss;obtain⟨l,U,h⟩:=Lm h;obtain⟨hh,hhh,h⟩:=Lm h;obtain⟨⟨c1,c2⟩,h⟩:=h;unfold xS at h;split at h
           . rename_i d hd;refine⟨rfl,_,_,?_,h⟩;simp only[aK,tS,N,L,hlen,U,hhh,S,if_pos (⟨c1,c2,by rw[hsz,hss]⟩:l<=hh/\hh<=len/\c.sz? =some size),hd,wv]
           . exact h.elim
         . exact h.elim
       . exact h.elim
     . exact h.elim
   . simp at J
 |makeSlice t l c=>
  simp only[aZ]at J;split at J
  . rename_i e L;split at J
    . rename_i z size bytes A hT;simp only[ii]at J;subst J;simp only[XR,bW]at h;split at h
      . rename_i k1 l' k2 c' U D;obtain⟨FI,hK⟩:=h;refine⟨rfl,_,_,?_,hK⟩;simp only[aK,jR,L,U,D,A,hT,if_pos FI,wv]
      . exact h.elim
    . simp at J
  . simp at J
 |extract x k=>
  simp only[aZ,ii]at J;subst J;simp only[XR,bW,dj]at h;split at h
  . rename_i ws N;split at h
    . rename_i u L;exact⟨rfl,_,_,by simp only[aK,N,L,wv],h⟩
    . exact h.elim
  . exact h.elim
 |makeFunc fn first captured=>
  cases fn with
  |func f=>
   simp only[aZ]at J;split at J
   . rename_i D;simp only[ii]at J;subst J;simp only[XR,Li]at h;split at h
     . rename_i l U;exact⟨rfl,_,_,by simp only[aK,if_pos D,U],h⟩
     . exact h.elim
   . simp at J
  |_=>simp[aZ]at J
 |unOp op t x=>
  cases op with
  |not=>
   simp only[aZ,ii]at J;subst J;simp only[XR,bW]at h;split at h
   . rename_i b G
     have hv:(st.get x).val? =some (.bool b):=by
      unfold V.jT at G;split at G
      . rename_i c heq;simp only[ii]at G;subst G;rw[heq];rfl
      . simp at G
     refine⟨rfl,_,_,?_,h⟩;simp[aK,bS,jL,Op.operands,hv,execOp,Op.unary,aX,bind,Sem.bind,pure,V.ofValue]
   . exact h.elim
  |neg=>
   simp only[aZ,ii]at J;subst J;simp only[XR,bW]at h;split at h
   . rename_i k n G
     have hv:(st.get x).val? =some (.int k n):=by
      unfold V.jv at G;split at G
      . rename_i k' n' heq;simp only[ii,uu]at G;obtain⟨rfl,rfl⟩:=G;rw[heq];rfl
      . simp at G
     refine⟨rfl,_,_,?_,h⟩;simp[aK,bS,jL,Op.operands,hv,execOp,Op.unary,Op.intArith,aX,bind,Sem.bind,pure,V.ofValue]
   . exact h.elim
  |_=>simp[aZ]at J
 |convert src dst' x=>
  simp only[aZ]at J;split at J
  . rename_i j k S L;simp only[ii]at J;subst J;simp only[XR,bW]at h;split at h
    . rename_i k' n G;have hv:=qg G;refine⟨rfl,_,_,?_,h⟩;simp[aK,kr,bS,jL,Op.operands,hv,V.val?,W.val?,C.val?,execOp,convert,aY,bi S,bi L,Conv.intToInt,aU,V.ofValue]
    . exact h.elim
  . rename_i e S L;split at J
    . rename_i H;simp only[ii]at J;subst J;simp only[XR,bW]at h;split at h
      . rename_i id sz i len N;split at h
        . rename_i y ys hel;split at h
          . rename_i ns hns;exact⟨rfl,_,_,by simp only[aK,kr,N,S,L,H,hel,hns,wv],h⟩
          . exact h.elim
        . exact h.elim
      . exact h.elim
    . simp at J
  . simp at J
 |binOp op t x y t'=>
  simp only[aZ]at J;split at J
  . simp only[ii]at J;subst J;simp only[XR,bW]at h;split at h
    . rename_i k a k' b N hy;split at h
      . rename_i Z;subst Z
        have key:∀ {v:Value},aX P (binOp op t (.int k a) (.int k b))=some v->cz v=true->aK P st.get st.heap nid ⟨dst,.binOp op t x y t',ty,pos,after,guard⟩=some (.w (.one (.t (.val v))),st.heap):=by
         intro v hv D
         have hg:aX P (eqGuard op t x y (.int k a) (.int k b))=some ():=by
          unfold eqGuard;cases op<;>rfl
         have O:aX P (execOp (λx=>((st.get x).val?).getD undef) ⟨dst,.binOp op t x y t',ty,pos,after,guard⟩)=some (.value v):=by
          simp only[execOp,N,hy,V.val?,W.val?,C.val?,YJ,aY,hg,Tf,hv,aU]
         have Y:=sG (P:=P) (get:=st.get) (o:=⟨dst,.binOp op t x y t',ty,pos,after,guard⟩) rfl (a:= .int k a) (b:= .int k b) (by rw[N];rfl) (by rw[hy];rfl) O;have B:V.ofValue v= .w (.one (.t (.val v))):=by cases v<;>first|rfl|(simp[Value.oneCell']at D)
         simp only[aK,Y,wv,B]
        split at h
        . obtain⟨w,hK⟩:=h;exact⟨rfl,_,_,key (v:= .int k (k.wrap (a.tdiv b))) (by simp[binOp,Op.intDiv,w,aU]) rfl,hK⟩
        . obtain⟨w,hK⟩:=h;exact⟨rfl,_,_,key (v:= .int k (a.tmod b)) (by simp[binOp,Op.intDiv,w,aU]) rfl,hK⟩
        . obtain⟨w,hK⟩:=h;have g:¬b < 0:=aa
          exact⟨rfl,_,_,key (v:= .int k (k.wrap (a * 2 ^ (min b.toNat k.bits)))) Sk rfl,hK⟩
        . obtain⟨w,hK⟩:=h;have g:¬b < 0:=aa
          exact⟨rfl,_,_,key (v:= .int k (a.fdiv (2 ^ (min b.toNat k.bits)))) Sk rfl,hK⟩
        . exact⟨rfl,_,_,key (v:= .int k (k.wrap (BitVec.ofInt k.bits a&&& BitVec.ofInt k.bits b).toNat)) (by simp[binOp,Op.intBits,aU]) rfl,h⟩
        . exact⟨rfl,_,_,key (v:= .int k (k.wrap (BitVec.ofInt k.bits a|||BitVec.ofInt k.bits b).toNat)) (by simp[binOp,Op.intBits,aU]) rfl,h⟩
        . have aDy:∀v,asW op k a b=some v->aX P (binOp op t (.int k a) (.int k b))=some v:=by
           intro v hv;cases op<;>simp[asW]at hv<;>subst hv<;>simp[binOp,Op.intArith,Op.intCmp,aU]
          split at h
          . rename_i j n G;exact⟨rfl,_,_,key (aDy _ G) rfl,h⟩
          . rename_i c G;exact⟨rfl,_,_,key (aDy _ G) rfl,h⟩
          . exact h.elim
      . have key:∀ {v:Value},aX P (binOp op t (.int k a) (.int k' b))=some v->cz v=true->(op= .shl\/op= .shr)->aK P st.get st.heap nid ⟨dst,.binOp op t x y t',ty,pos,after,guard⟩=some (.w (.one (.t (.val v))),st.heap):=by
         intro v hv D hop
         have hg:aX P (eqGuard op t x y (.int k a) (.int k' b))=some ():=by
          unfold eqGuard;rcases hop with rfl|rfl<;>rfl
         have O:aX P (execOp (λx=>((st.get x).val?).getD undef) ⟨dst,.binOp op t x y t',ty,pos,after,guard⟩)=some (.value v):=by
          simp only[execOp,N,hy,V.val?,W.val?,C.val?,YJ,aY,hg,Tf,hv,aU]
         have Y:=sG (P:=P) (get:=st.get) (o:=⟨dst,.binOp op t x y t',ty,pos,after,guard⟩) rfl (a:= .int k a) (b:= .int k' b) (by rw[N];rfl) (by rw[hy];rfl) O;have B:V.ofValue v= .w (.one (.t (.val v))):=by cases v<;>first|rfl|(simp[Value.oneCell']at D)
         simp only[aK,Y,wv,B]
        split at h
        . obtain⟨w,hK⟩:=h;have g:¬b < 0:=aa
          exact⟨rfl,_,_,key (v:= .int k (k.wrap (a * 2 ^ (min b.toNat k.bits)))) Sk rfl (.inl rfl),hK⟩
        . obtain⟨w,hK⟩:=h;have g:¬b < 0:=aa
          exact⟨rfl,_,_,key (v:= .int k (a.fdiv (2 ^ (min b.toNat k.bits)))) Sk rfl (.inr rfl),hK⟩
        . exact h.elim
    . rename_i a b N hy
      have key:∀ {v:Value},aX P (binOp op t (.string a) (.string b))=some v->cz v=true->aK P st.get st.heap nid ⟨dst,.binOp op t x y t',ty,pos,after,guard⟩=some (.w (.one (.t (.val v))),st.heap):=by
       intro v hv D
       have hg:aX P (eqGuard op t x y (.string a) (.string b))=some ():=by
        unfold eqGuard;cases op<;>rfl
       have O:aX P (execOp (λx=>((st.get x).val?).getD undef) ⟨dst,.binOp op t x y t',ty,pos,after,guard⟩)=some (.value v):=by
        simp only[execOp,N,hy,V.val?,W.val?,C.val?,YJ,aY,hg,Tf,hv,aU]
       have Y:=sG (P:=P) (get:=st.get) (o:=⟨dst,.binOp op t x y t',ty,pos,after,guard⟩) rfl (a:= .string a) (b:= .string b) (by rw[N];rfl) (by rw[hy];rfl) O;have B:V.ofValue v= .w (.one (.t (.val v))):=by cases v<;>first|rfl|(simp[Value.oneCell']at D)
       simp only[aK,Y,wv,B]
      split at h
      . obtain⟨w,hK⟩:=h;have g:¬ ((a.size+b.size:Nat):Int) > IntKind.i64.max:=by simp[IntKind.max,IntKind.bits,IntKind.signed];omega
        exact⟨rfl,_,_,key (v:= .string (a++b)) (by simp only[binOp,Op.stringOp,if_neg g,aU]) rfl,hK⟩
      . exact⟨rfl,_,_,key (v:= .bool (a.toList==b.toList)) (by simp[binOp,Op.stringOp,aU]) rfl,h⟩
      . exact⟨rfl,_,_,key (v:= .bool (!(a.toList==b.toList))) (by simp[binOp,Op.stringOp,aU]) rfl,h⟩
      . exact h.elim
    . exact h.elim
  . split at J
    . rename_i L;simp only[ii]at J;subst J;simp only[XR,bW]at h;split at h
      . rename_i a b N hy;have N:=Ga N;have hy:=Ga hy
        have key:∀ {v:Value},aX P (binOp op t (.bool a) (.bool b))=some v->cz v=true->aK P st.get st.heap nid ⟨dst,.binOp op t x y t',ty,pos,after,guard⟩=some (.w (.one (.t (.val v))),st.heap):=by
         intro v hv D
         have hg:aX P (eqGuard op t x y (.bool a) (.bool b))=some ():=by
          unfold eqGuard;cases op<;>rfl
         have O:aX P (execOp (λx=>((st.get x).val?).getD undef) ⟨dst,.binOp op t x y t',ty,pos,after,guard⟩)=some (.value v):=by
          simp only[execOp,N,hy,V.val?,W.val?,C.val?,YJ,aY,hg,Tf,hv,aU]
         have Y:=sG (P:=P) (get:=st.get) (o:=⟨dst,.binOp op t x y t',ty,pos,after,guard⟩) rfl (a:= .bool a) (b:= .bool b) (by rw[N];rfl) (by rw[hy];rfl) O;have B:V.ofValue v= .w (.one (.t (.val v))):=by cases v<;>first|rfl|(simp[Value.oneCell']at D)
         simp only[aK,Y,wv,B]
        have heq:aX P (Op.equal t (.bool a) (.bool b))=some (a==b):=by
         show aX P (Op.equalIn 10000 t (.bool a) (.bool b))=_;unfold Op.equalIn;rw[aY,bi L];rfl
        split at h
        . exact⟨rfl,_,_,key (v:= .bool (a==b)) afw rfl,h⟩
        . exact⟨rfl,_,_,key (v:= .bool (!(a==b))) afw rfl,h⟩
        . exact h.elim
      . exact h.elim
    . rename_i fs L
      have both:∀ {neg:Bool} {ks:List Nat},wc P t=some ks->XR (.eqA neg ks (eR x) (eR y)) st.tmps st.heap nid K->(op=if neg then .neq else .eql)->
       cK st.get ⟨dst,.binOp op t x y t',ty,pos,after,guard⟩=none/\ ∃v heap',aK P st.get st.heap nid ⟨dst,.binOp op t x y t',ty,pos,after,guard⟩=some (v,heap')/\K v heap':=by
       intro neg ks hks h hop;simp only[XR,bW]at h;split at h
       . rename_i cs ds N hy;split at h
         . rename_i b G;obtain⟨⟨vs,hvs⟩,⟨us,iG⟩⟩:=tV G;obtain⟨heq,hgt⟩:=nK hks G hvs iG;have hxv:(st.get x).val? =some (.agg vs.toArray):=by rw[N];simp only[V.val?,W.val?,hvs,wv]
           have hyv:(st.get y).val? =some (.agg us.toArray):=by rw[hy];simp only[V.val?,W.val?,iG,wv]
           have key:∀ {c:Bool},aX P (binOp op t (.agg vs.toArray) (.agg us.toArray))=some (.bool c)->aK P st.get st.heap nid ⟨dst,.binOp op t x y t',ty,pos,after,guard⟩=some (bV c,st.heap):=by
            intro c hv;have hprog:aX P program=some P:=rfl
            have hg:aX P (eqGuard op t x y (.agg vs.toArray) (.agg us.toArray))=some ():=by
             unfold eqGuard;cases neg<;>simp only[hop]<;>simp[aY,hprog,hgt,aU]
            have O:aX P (execOp (λx=>((st.get x).val?).getD undef) ⟨dst,.binOp op t x y t',ty,pos,after,guard⟩)=some (.value (.bool c)):=by
             simp only[execOp,hxv,hyv,YJ,aY,hg,Tf,hv,aU]
            have Y:=sG (P:=P) (get:=st.get) (o:=⟨dst,.binOp op t x y t',ty,pos,after,guard⟩) rfl hxv hyv O;simp only[aK,Y,wv];rfl
           cases neg with
           |true=>
            simp only[if_true]at hop;subst hop;exact⟨rfl,_,_,key (c:= !b) afw,h⟩
           |false=>
            simp only[aag,if_false]at hop;subst hop;exact⟨rfl,_,_,key (c:=b) afw,h⟩
         . exact h.elim
       . exact h.elim
      split at J
      . rename_i ks hks;simp only[ii]at J;subst J;exact both hks h rfl
      . rename_i ks hks;simp only[ii]at J;subst J;exact both hks h rfl
      . simp at J
    . simp at J
 |index t x i=>
  simp only[aZ]at J;split at J
  . rename_i L;simp only[ii]at J;subst J;simp only[XR,bW]at h;split at h
    . rename_i s k n N I;have I:=qg I;obtain⟨w,b,G,hK⟩:=h;refine⟨rfl,_,_,?_,hK⟩
      have hall:(jL (Op.index t x i)&& (Op.index t x i).operands.toList.all λx=>(st.get x).val?.isSome)=true:=by
       simp[jL,Op.operands,N,I,V.val?,W.val?,C.val?]
      have VT:bS P st.get ⟨dst,.index t x i,ty,pos,after,guard⟩=some (iV .u8 (b.toNat:Int)):=by
       simp only[bS,hall,if_true];simp[execOp,N,I,V.val?,W.val?,C.val?,Instr.index,asIntOf,aY,aU,eO,bi L,w,G,V.ofValue]
      simp only[aK,VT,wv]
    . exact h.elim
  . simp at J
 |call c=>
  obtain⟨callee,args,argTypes⟩:=c;simp only[aZ]at J;split at J
  . split at J
    . rename_i x t hargs mm;split at J
      . rename_i e L;simp only[ii]at J;subst J;simp only[XR,bW]at h;split at h
        . rename_i c D;split at h
          . rename_i n g;refine⟨rfl,_,_,?_,h⟩;simp only[aK,hargs,mm,L,apN,D,g,wv];rfl
          . exact h.elim
        . exact h.elim
      . rename_i L;simp only[ii]at J;subst J;simp only[XR,bW]at h;split at h
        . rename_i s S;refine⟨rfl,_,_,?_,h⟩
          have hall:(jL (Op.call ⟨.builtin .len,args,argTypes⟩)&& (Op.call ⟨.builtin .len,args,argTypes⟩).operands.toList.all λx=>(st.get x).val?.isSome)=true:=by
           simp[jL,Op.operands,Call.operands,hargs,S,V.val?,W.val?,C.val?]
          have ea:args= #[x]:=jh
          have et:argTypes= #[t]:=LR
          have VT:bS P st.get ⟨dst,.call ⟨.builtin .len,args,argTypes⟩,ty,pos,after,guard⟩=some (iV .i64 (s.size:Int)):=by
           subst ea;subst et;simp only[bS,hall,if_true];simp[execOp,resolve,S,V.val?,W.val?,C.val?,invoke,builtin,Builtin.len_,aY,aU,bi L,eO,goInt,V.ofValue]
          simp only[aK,hargs,mm,L,VT,wv]
        . exact h.elim
      . simp at J
    . simp at J
  . split at J
    . rename_i x y hargs;simp only[ii]at J;subst J;simp only[XR,bW]at h;split at h
      . rename_i k a k' b N hy;have N:=qg N;have hy:=qg hy;refine⟨rfl,_,_,?_,h⟩
        have hall:(jL (Op.call ⟨.builtin .min,args,argTypes⟩)&& (Op.call ⟨.builtin .min,args,argTypes⟩).operands.toList.all λx=>(st.get x).val?.isSome)=true:=by
         simp[jL,Op.operands,Call.operands,hargs,N,hy,V.val?,W.val?,C.val?]
        have ea:args= #[x,y]:=jh
        have VT:bS P st.get ⟨dst,.call ⟨.builtin .min,args,argTypes⟩,ty,pos,after,guard⟩=some (iV k (if b < a then b else a)):=by
         subst ea;simp only[bS,hall,if_true];simp[execOp,resolve,N,hy,V.val?,W.val?,C.val?,invoke,builtin,Builtin.min_,Builtin.min2,aY,aU,eO,V.ofValue]
        simp only[aK,VT,wv]
      . exact h.elim
    . simp at J
  . split at J
    . rename_i x y hargs;simp only[ii]at J;subst J;simp only[XR,bW]at h;split at h
      . rename_i k a k' b N hy;have N:=qg N;have hy:=qg hy;refine⟨rfl,_,_,?_,h⟩
        have hall:(jL (Op.call ⟨.builtin .max,args,argTypes⟩)&& (Op.call ⟨.builtin .max,args,argTypes⟩).operands.toList.all λx=>(st.get x).val?.isSome)=true:=by
         simp[jL,Op.operands,Call.operands,hargs,N,hy,V.val?,W.val?,C.val?]
        have ea:args= #[x,y]:=jh
        have VT:bS P st.get ⟨dst,.call ⟨.builtin .max,args,argTypes⟩,ty,pos,after,guard⟩=some (iV k (if b > a then b else a)):=by
         subst ea;simp only[bS,hall,if_true];simp[execOp,resolve,N,hy,V.val?,W.val?,C.val?,invoke,builtin,Builtin.max_,Builtin.max2,aY,aU,eO,V.ofValue]
        simp only[aK,VT,wv]
      . exact h.elim
    . simp at J
  . split at J
    . rename_i s x t t' hargs mm;split at J
      . rename_i htt;subst htt;split at J
        . rename_i e L;split at J
          . rename_i size bytes hT;simp only[ii]at J;subst J;simp only[XR,bW,cM,mW,F2]at h;split at h
            . rename_i s' x' S N;split at h
              . rename_i sz hel;split at h
                . rename_i ln hln;refine⟨rfl,_,_,?_,h⟩;simp only[aK,hargs,mm,if_true,gQ,S,N,L,hT,hel,List.isEmpty_nil,hln,ad7]
                . exact h.elim
              . rename_i sz y ys hel;split at h
                . rename_i id sz' len;split at h
                  . rename_i eV M R;split at h
                    . rename_i D;obtain⟨rfl,rfl,rfl⟩:=D;obtain⟨⟨c1,c2,c3⟩,hK⟩:=h;refine⟨rfl,_,_,?_,hK⟩;simp only[aK,hargs,mm,if_true,gQ,S,N,L,hT,aag,if_false,hel,List.isEmpty_cons,R,aaa];rw[if_pos ⟨trivial,trivial,c1,c2,c3⟩]
                    . exact h.elim
                  . exact h.elim
                . split at h
                  . rename_i D;subst D;obtain⟨⟨c2,c3⟩,hK⟩:=h;refine⟨rfl,_,_,?_,hK⟩;simp only[aK,hargs,mm,if_true,gQ,S,N,L,hT,aag,if_false,hel,List.isEmpty_cons,aaa];rw[if_pos ⟨rfl,c2,c3⟩]
                  . exact h.elim
                . exact h.elim
              . exact h.elim
            . exact h.elim
          . simp at J
        . simp at J
      . simp at J
    . simp at J
  . split at J
    . simp only[ii]at J;subst J;exact h.elim
    . simp at J
  . simp at J
 |_=>simp[aZ]at J
def atO{tm:List (Nat×V)}{hp:List (Nat×bE)}{K:V->List (Nat×bE)->Prop}(h:XR (JG o) tm hp nid K):False:=by
 rcases pW o with⟨t,j,l,_,e⟩|e
 . rw[e]at h;exact h
 . rw[e]at h;exact h
def yh{K:V->List (Nat×bE)->Prop}(J:bL P o=some r)(h:XR r st.tmps st.heap nid K):
 cK st.get o=none/\ ∃v n,aK P st.get st.heap nid o=some (v,n)/\K v n:=by
 unfold bL at J;split at J
 . rename_i U g;replace g:=fC g;simp only[ii]at J;subst J;exact S3 g h
 . simp only[ii]at J;subst J;exact(atO h).elim
end Go.aW
namespace Go.aW
open Go
variable{P:Program}
variable{get':Operand->V}{o:Oper}{nid:Nat}{v s:V}{hp' hp2:List (Nat×bE)}{ops:Array Oper}
def amV{get:Operand->V}(h:∀x,x∈o.op.operands->get x=get' x):bS P get o=bS P get' o:=by
 unfold bS
 have O:(o.op.operands.toList.all λx=>(get x).val?.isSome)=(o.op.operands.toList.all λx=>(get' x).val?.isSome):=by
  rw[adq,yt,yt];constructor
  . intro d x N;rw[<-h x iL];exact d x N
  . intro d x N;rw[h x iL];exact d x N
 rw[O];split
 . rename_i D
   have S:∀R b,o.op≠ .select R b:=by
    intro R b e;simp[e,jL]at D
   rw[execOp_congr o S (ρ:=λx=>((get x).val?).getD undef) (ρ':=λx=>((get' x).val?).getD undef) (λx N=>by rw[h x N])]
 . rfl
def qP{get get':Operand->V}:∀ {ps:List (Nat×Operand)},(∀p,p∈ps->get p.2=get' p.2)->jZ get ps=jZ get' ps
 | [],_=>rfl
 |(i,x)::r,h=>by
  have O:=h (i,x) ak;simp only at O;simp only[jZ,O,qP (ps:=r) (λp F=>h p (by simp[F]))]
def Cv{get get':Operand->V}:∀ {xs:List Operand},(∀x,x∈xs->get x=get' x)->Ed get xs=Ed get' xs
 | [],_=>rfl
 |x::r,h=>by simp only[Ed,h x ak,Cv (xs:=r) (λy G=>h y aga)]
def BU{get get':Operand->V}:∀ {xs:List Operand},(∀x,x∈xs->get x=get' x)->vq get xs=vq get' xs
 | [],_=>rfl
 |x::r,h=>by simp only[vq,h x ak,BU (xs:=r) (λy G=>h y aga)]
def xL{get:Operand->V}{heap:List (Nat×bE)}(h:∀x,x∈o.op.operands->get x=get' x):aK P get heap nid o=aK P get' heap nid o:=by
 have F:=amV (P:=P) h;obtain⟨J,Z,G,d,A,K⟩:=o;simp only at h
 cases Z with
 |move x=>simp only[aK,h x ej]
 |assign x=>simp only[aK,h x ej]
 |pick c x y=>simp only[aK,h c ej,h x ej,h y ej]
 |box e x=>simp only[aK,h x ej]
 |build t ps=>simp only[aK,qP (ps:=ps.toList) (λp F=>h p.2 YL)]
 |buildSlice t len ps=>simp only[aK,qP (ps:=ps.toList) (λp F=>h p.2 YL)]
 |load t x=>simp only[aK,h x ej]
 |store t x y=>simp only[aK,h x ej,h y ej]
 |fieldAddr s x f=>simp only[aK,h x ej]
 |field t x f=>simp only[aK,h x ej,F]
 |indexAddr t x i=>simp only[aK,h x ej,h i ej]
 |slice t x O I v=>
  cases v with
  |some m=>rfl
  |none=>
   have H:O.map get=O.map get':=by cases O with|none=>rfl|some z=>simp only[wv];rw[h z ej]
   have U:I.map get=I.map get':=by cases I with|none=>rfl|some z=>simp only[wv];rw[h z ej]
   simp only[aK,h x ej,H,U,F]
 |makeSlice t l c=>simp only[aK,h l ej,h c ej]
 |extract x k=>simp only[aK,h x ej]
 |nilCheck x=>simp only[aK,h x ej,F]
 |makeFunc n first Y=>
  cases n with
  |func f=>simp only[aK,Cv (xs:=Y.toList) (λx N=>h x (by simp[Op.operands];exact .inr iL)),F]
  |_=>rfl
 |call c=>
  obtain⟨D,j,a⟩:=c;have w:∀x,x∈j->get x=get' x:=λx N=>h x (by simp[Op.operands,Call.operands];exact .inr N)
  cases D with
  |builtin b=>
   cases b with
   |len=>
    simp only[aK];split
    . rename_i x t N Q
      have r:x∈j:=by
       have:x∈j.toList:=by rw[N];simp
       simpa using this
      rw[w x r,F]
    . rfl
   |append=>
    simp only[aK];split
    . rename_i s x t M N Q
      have S:s∈j:=by
       have:s∈j.toList:=by rw[N];simp
       simpa using this
      have r:x∈j:=by
       have:x∈j.toList:=by rw[N];simp
       simpa using this
      rw[w s S,w x r]
    . rfl
   |copy=>
    simp only[aK];split
    . rename_i s x t M N Q
      have S:s∈j:=by
       have:s∈j.toList:=by rw[N];simp
       simpa using this
      have r:x∈j:=by
       have:x∈j.toList:=by rw[N];simp
       simpa using this
      rw[w s S,w x r]
    . rfl
   |_=>simp only[aK,F]
  |_=>rfl
 |lookup t m k ok=>simp only[aK];rw[h m ej,h k ej]
 |mapUpdate t m k x=>simp only[aK];rw[h m ej,h k ej,h x ej]
 |binOp=>simp only[aK,F]
 |unOp=>simp only[aK,F]
 |convert B g x=>simp only[aK,F];rw[h x ej]
 |index=>simp only[aK,F]
 |makeInterface=>simp only[aK,F]
 |_=>rfl
def xV{get:Operand->V}(h:∀x,x∈o.op.operands->get x=get' x):cK get o=cK get' o:=by
 unfold cK;split
 . rename_i f j l d;rw[d]at h;rw[h f (by simp[Op.operands,Call.operands]),BU (xs:=j.toList) (λx N=>h x (by simp[Op.operands,Call.operands];exact .inr iL))]
 . rfl
def looks:Op->Bool
 | .load .. | .store .. | .call .. | .lookup .. | .mapUpdate .. | .convert .. =>true|_=>false
def Ig{get:Operand->V}{heap:List (Nat×bE)}(U:looks o.op=false)(h:aK P get heap nid o=some (v,hp')):
 ∃pre:List (Nat×bE),(∀p,p∈pre->p.1=nid)/\hp'=pre++heap/\ ∀r,aK P get r nid o=some (v,pre++r):=by
 have j:((bS P get o).map λv=>(v,heap))=some (v,hp')-> ∃pre:List (Nat×bE),(∀p,p∈pre->p.1=nid)/\hp'=pre++heap/\ ∀r,((bS P get o).map λv=>(v,r))=some (v,pre++r):=by
  intro h;simp only[jU,uu]at h;obtain⟨u,L,rfl,rfl⟩:=h;exact⟨[],ak,rfl,λr=>by simp[L]⟩
 obtain⟨J,Z,w,d,A,K⟩:=o;simp only at U
 cases Z with
 |move x=>
  simp only[aK,ii,uu]at h;obtain⟨rfl,rfl⟩:=h;exact⟨[],ak,rfl,λ_=>rfl⟩
 |assign x=>
  simp only[aK,ii,uu]at h;obtain⟨rfl,rfl⟩:=h;exact⟨[],ak,rfl,λ_=>rfl⟩
 |pick c x y=>
  simp only[aK]at h⊢;split at h
  . rename_i b G;simp only[ii,uu]at h;obtain⟨rfl,rfl⟩:=h;exact⟨[],ak,rfl,λ_=>by rfl⟩
  . simp at h
 |alloc e=>
  simp only[aK,jU,uu]at h;obtain⟨⟨u,p⟩,F,rfl,rfl⟩:=h;refine⟨[p],?_,rfl,λ_=>by simp only[aK,F,wv];rfl⟩;unfold qx at F;split at F
  . simp only[ii,uu]at F;obtain⟨_,rfl⟩:=F;simp
  . simp at F
 |box e x=>
  simp only[aK,jU,uu]at h;obtain⟨⟨u,p⟩,F,rfl,rfl⟩:=h;refine⟨[p],?_,rfl,λ_=>by simp only[aK,F,wv];rfl⟩;unfold xM at F;split at F
  . simp only[ii,uu]at F;obtain⟨_,rfl⟩:=F;simp
  . simp at F
 |build t g=>
  simp only[aK]at h⊢;split at h
  . rename_i l a;simp only[jU,uu]at h;obtain⟨u,L,rfl,rfl⟩:=h;exact⟨[],ak,rfl,λ_=>by simp[L]⟩
  . simp at h
 |buildSlice t len g=>
  simp only[aK]at h⊢;split at h
  . rename_i l a;simp only[jU,uu]at h;obtain⟨⟨u,p⟩,F,rfl,rfl⟩:=h;refine⟨[p],?_,rfl,λ_=>by simp[F]⟩;unfold fc at F;split at F
    . split at F
      . split at F
        . simp only[jU,uu]at F;obtain⟨_,_,_,rfl⟩:=F;simp
        . simp at F
      . simp at F
    . simp at F
  . simp at h
 |fieldAddr s x f=>
  simp only[aK,jU,uu]at h;obtain⟨u,L,rfl,rfl⟩:=h;exact⟨[],ak,rfl,λ_=>by simp[aK,L]⟩
 |field t x f=>
  simp only[aK]at h⊢;split at h
  . rename_i u L;simp only[ii,uu]at h;obtain⟨rfl,rfl⟩:=h;exact⟨[],ak,rfl,λ_=>rfl⟩
  . exact j h
 |indexAddr t x i=>
  simp only[aK,jU,uu]at h;obtain⟨u,L,rfl,rfl⟩:=h;exact⟨[],ak,rfl,λ_=>by simp[aK,L]⟩
 |slice t x H I z=>
  cases z with
  |some m=>simp[aK]at h
  |none=>
   simp only[aK]at h⊢;split at h
   . rename_i u L;simp only[ii,uu]at h;obtain⟨rfl,rfl⟩:=h;exact⟨[],ak,rfl,λ_=>rfl⟩
   . exact j h
 |makeSlice t l c=>
  simp only[aK,jU,uu]at h;obtain⟨⟨u,p⟩,F,rfl,rfl⟩:=h;refine⟨[p],?_,rfl,λ_=>by simp only[aK,F,wv];rfl⟩;unfold jR at F;split at F
  . split at F
    . split at F
      . simp only[ii,uu]at F;obtain⟨_,rfl⟩:=F;simp
      . simp at F
    . simp at F
  . simp at F
 |extract x k=>
  simp only[aK]at h⊢;split at h
  . rename_i R S;simp only[jU,uu]at h;obtain⟨u,L,rfl,rfl⟩:=h;exact⟨[],ak,rfl,λ_=>by simp[L]⟩
  . simp at h
 |nilCheck x=>
  simp only[aK]at h⊢;split at h
  . simp only[ii,uu]at h;obtain⟨rfl,rfl⟩:=h;exact⟨[],ak,rfl,λ_=>rfl⟩
  . simp only[ii,uu]at h;obtain⟨rfl,rfl⟩:=h;exact⟨[],ak,rfl,λ_=>rfl⟩
  . exact j h
 |makeFunc n first M=>
  cases n with
  |func f=>
   simp only[aK]at h⊢;split at h
   . rename_i D;split at h
     . rename_i l a;simp only[ii,uu]at h;obtain⟨rfl,rfl⟩:=h;exact⟨[],ak,rfl,λ_=>by rw[if_pos D];rfl⟩
     . simp at h
   . rename_i D;obtain⟨pre,O,Y,B⟩:=j h;exact⟨pre,O,Y,λr=>by rw[if_neg D];exact B r⟩
  |_=>simp[aK]at h
 |binOp=>exact j af7
 |unOp=>exact j af7
 |convert=>simp[looks]at U
 |index=>exact j af7
 |makeInterface=>exact j af7
 |load=>simp[looks]at U
 |store=>simp[looks]at U
 |call=>simp[looks]at U
 |lookup=>simp[looks]at U
 |mapUpdate=>simp[looks]at U
 |_=>simp[aK]at h
def V.ids:V->List Nat
 | .w u=>u.ids| .fB F=>F.flatMap W.ids| .undef=>[]
def lZ(get:Operand->V)(o:Oper):List Nat:=if looks o.op then o.op.operands.toList.flatMap λx=>(get x).ids else []
def writes:Op->Bool
 | .store .. | .mapUpdate .. =>true| .call ⟨.builtin .append,_,_⟩=>true| .call ⟨.builtin .copy,_,_⟩=>true|_=>false
def four(nid:Nat):List Nat:=[nid,nid+1,nid+2,nid+3]
def Vr{id:Nat}:id∈four nid↔nid<=id/\id < nid+4:=by simp[four];omega
def zQ(get:Operand->V)(nid:Nat)(o:Oper):List Nat:=four nid++if writes o.op then lZ get o else []
def Alike(c:List Nat)(hp hp' hp2 b:List (Nat×bE)):Prop:=
 (∀id,id∈c->find b id=find hp' id)/\(∀id,¬id∈c->find hp' id=find hp id/\find b id=find hp2 id)
def Alike.pre{c:List Nat}{hp hp2 pre:List (Nat×bE)}(a:∀id,id∈c->find hp2 id=find hp id)(o:∀p,p∈pre->p.1∈c):Alike c hp (pre++hp) hp2 (pre++hp2):=by
 refine⟨λid D=>?_,λid D=>?_⟩
 . rw[dO,dO,a id D]
 . have:find pre id=none:=by
    cases hf:find pre id with
    |none=>rfl
    |some b=>exact absurd (o _ (bX hf)) D
   rw[dO,dO,this];simp
def K7{hp:List (Nat×bE)}{c:C}(h:∀id,id∈c.ids->find hp2 id=find hp id):deref hp2 c=deref hp c:=by
 cases c with
 |ptr id N i j=>simp only[deref,h id (by simp[C.ids])]
 |_=>rfl
def oN{hp:List (Nat×bE)}{c:C}(h:∀id,id∈c.ids->find hp2 id=find hp id):elems hp2 c=elems hp c:=by
 cases c with
 |own id N i len=>simp only[elems,h id (by simp[C.ids])]
 |t x=>cases x<;>rfl
 |_=>rfl
def Ah{hp:List (Nat×bE)}{c:C}(h:∀id,id∈c.ids->find hp2 id=find hp id):sN hp2 c=sN hp c:=by
 cases c with
 |own id N i len=>simp only[sN,oN (c:= .own id N i len) h]
 |_=>rfl
def xl{hp hp2:List (Nat×bE)}:∀ {cs:Lc},(∀id,id∈cs.flatMap C.ids->find hp2 id=find hp id)->pw hp2 cs=pw hp cs
 | [],_=>rfl
 |c::r,h=>by simp only[pw,Ah (c:=c) (λid D=>h id (by simp[D])),xl (cs:=r) (λid D=>h id (by simp at D⊢;exact .inr D))]
def J4{hp:List (Nat×bE)}{u:W}(h:∀id,id∈u.ids->find hp2 id=find hp id):sM hp2 u=sM hp u:=by
 cases u with
 |one c=>simp only[sM,Ah (c:=c) h]
 |agg R=>simp only[sM,xl (cs:=R) h]
def xj{hp hp2:List (Nat×bE)}:∀ {us:Lw},(∀id,id∈us.flatMap W.ids->find hp2 id=find hp id)->iU hp2 us=iU hp us
 | [],_=>rfl
 |u::r,h=>by simp only[iU,J4 (u:=u) (λid D=>h id (by simp[D])),xj (us:=r) (λid D=>h id (by simp at D⊢;exact .inr D))]
def wC{get:Operand->V}:∀ {xs:List Operand} {us:Lw},vq get xs=some us-> ∀id,id∈us.flatMap W.ids->id∈xs.flatMap λx=>(get x).ids
 | [],us,h,id,D=>by simp only[vq,ii]at h;subst h;simp at D
 |x::r,us,h,id,D=>by
  simp only[vq]at h;split at h
  . rename_i u l N U;simp only[ii]at h;subst h;simp only[acn,yl]at D⊢;rcases D with D|D
    . exact .inl (by rw[N];exact D)
    . exact .inr (wC U id D)
  . simp at h
def DA{get:Operand->V}{g:FuncId}{us:Lw}(h:cK get o=some (g,us)):looks o.op=true/\ ∀id,id∈us.flatMap W.ids->id∈lZ get o:=by
 unfold cK at h;split at h
 . rename_i f j l d;have e:looks o.op=true:=by rw[d];rfl
   refine⟨e,?_⟩
   have Q:lZ get o=(get f).ids++j.toList.flatMap λx=>(get x).ids:=by
    rw[lZ,if_pos e,d];simp[Op.operands,Call.operands]
   rw[Q];split at h
   . rename_i y first U a R M
     split at h
     . simp only[ii,uu]at h;obtain⟨_,rfl⟩:=h;intro id D;exact yl.2 (.inr (wC M id D))
     . simp at h
   . rename_i y U a R M;simp only[ii,uu]at h;obtain⟨_,rfl⟩:=h;intro id D;simp only[ad3,yl]at D;rcases D with D|D
     . exact yl.2 (.inr (wC M id D))
     . refine yl.2 (.inl ?_);rw[R];simp only[abg,aad,W.ids,C.ids]at D;obtain⟨w,⟨p,F,rfl⟩,D⟩:=D;simp only[C.ids,vv]at D;simp only[V.ids,W.ids,C.ids,aad];exact⟨p,F,D.symm⟩
   . rename_i y b Z a R M;simp only[jU,uu]at h;obtain⟨n,v,_,rfl⟩:=h;intro id D;simp only[acn,yl]at D;rcases D with D|D
     . exfalso
       cases b with
       |true=>
        simp only[sF,ii]at v;subst v;simp only[W.ids,abg,aad]at D;obtain⟨c,⟨t,_,rfl⟩,D⟩:=D;simp[C.ids]at D
       |false=>
        unfold sF at v;split at v
        . simp at *
        . simp only[ii]at v;subst v;simp[W.ids,C.ids]at D
        . simp at v
     . exact yl.2 (.inr (wC M id D))
   . simp at h
 . simp at h
def vz{nid:Nat}:∀ {N:List (Nat×bE)} {p:Nat×bE},p∈gK nid N->p.1∈four nid
 | [],p,h=>by simp[gK]at h
 |(id,b)::r,p,h=>by
  simp only[gK]at h;split at h
  . rename_i D;rcases aak.1 h with rfl|h
    . rw[Vr];simp;omega
    . exact vz h
  . exact vz h
def zC{t:TypeId}{x:V}{hp:List (Nat×bE)}{c:List Nat}(h:gQ P t s x hp nid=some (v,hp'))
 (S:∀id,id∈s.ids->id∈c) (hx:∀id,id∈x.ids->id∈c) (K:nid∈c) (a:∀id,id∈c->find hp2 id=find hp id):
 ∃b,gQ P t s x hp2 nid=some (v,b)/\Alike c hp hp' hp2 b:=by
 unfold gQ at h⊢;split at h
 . rename_i s x;have d:elems hp2 x=elems hp x:=oN (λid H=>a id (hx id H));split at h
   . rename_i e L;split at h
     . rename_i B F N Q J j;have r:(if isNil x=true then some (0,[])else elems hp2 x)=some (N,Q):=by rw[d];exact j
       simp only[r,J];split at h
       . rename_i l;rw[if_pos l];split at h
         . rename_i n;simp only[ii,uu]at h;obtain⟨rfl,rfl⟩:=h;exact⟨hp2,by rw[if_pos n],⟨λid H=>a id H,λid _=>⟨rfl,rfl⟩⟩⟩
         . simp at h
       . rename_i l;rw[if_neg l];split at h
         . rename_i y;rw[if_pos y];split at h
           . rename_i id sz' len;have H:id∈c:=S id af1;have z:=a id H;split at h
             . rename_i w o R;split at h
               . rename_i D;simp only[ii,uu]at h;obtain⟨rfl,rfl⟩:=h;refine⟨(nid,.row B (o++Q))::del hp2 id,by simp only[z,R,if_pos D],⟨λk Z=>?_,λk Z=>?_⟩⟩
                 . simp only[aF,dG,a k Z]
                 . have O:¬nid=k:=λe=>Z (e▸K);have Y:¬k=id:=λe=>Z (e▸H);simp only[aF,dG,O,Y,if_false];exact⟨trivial,trivial⟩
               . simp at h
             . simp at h
           . rename_i g;split at h
             . rename_i D;simp only[ii,uu]at h;obtain⟨rfl,rfl⟩:=h;refine⟨_,by rw[if_pos D],?_⟩;exact Alike.pre (pre:=[_]) a (by simp;exact K)
             . simp at h
         . simp at h
     . simp at h
   . simp at h
 . simp at h
def Dk{t:TypeId}{d:V}{hp:List (Nat×bE)}{c:List Nat}(h:iq P t d s hp=some (v,hp'))
 (F:∀id,id∈d.ids->id∈c) (S:∀id,id∈s.ids->id∈c) (a:∀id,id∈c->find hp2 id=find hp id): ∃b,iq P t d s hp2=some (v,b)/\Alike c hp hp' hp2 b:=by
 unfold iq at h;split at h
 . rename_i id sz i len x;have H:elems hp2 x=elems hp x:=oN λk Z=>a k (S k (by simpa[V.ids,W.ids]using Z));have U:find hp2 id=find hp id:=a id (F id af1);split at h
   . rename_i e L;split at h
     . rename_i B Q Y y j;split at h
       . rename_i z;simp only[ii,uu]at h;obtain⟨rfl,rfl⟩:=h;exact⟨hp2,by simp only[iq,L,H,y,j,if_pos z],⟨a,λ_ _=>⟨rfl,rfl⟩⟩⟩
       . rename_i z;split at h
         . rename_i J o R;split at h
           . rename_i D;simp only[ii,uu]at h;obtain⟨rfl,rfl⟩:=h;refine⟨jB hp2 id (.row B (bt o i (Y.take len))),by simp only[iq,L,H,y,j,if_neg z,U,R,if_pos D],⟨λk Z=>?_,λk Z=>?_⟩⟩
             . simp only[bO,U,a k Z]
             . have:¬k=id:=λe=>Z (e▸F id af1);simp only[bO,this,if_false];exact⟨trivial,trivial⟩
           . simp at h
         . simp at h
     . simp at h
   . simp at h
 . simp at h
def ji(P:Program)(ops:Array Oper)(o:Oper)(n:Nat)(tm:List (Nat×V))(hp:List (Nat×bE))(nid:Nat)(v:V)(hp':List (Nat×bE)):Prop:=
 jd n o.dst=true/\
 match bH ops o tm with
 |none=>False|some false=>v= .fB []/\hp'=hp
 |some true=>
  match cK (St.get ⟨n,tm,hp⟩) o with
  |some (g,A)=>enters P g=true/\gY P hp nid g A v hp'|none=>aK P (St.get ⟨n,tm,hp⟩) hp nid o=some (v,hp')
def names(ops:Array Oper)(o:Oper):List Nat:=
 (o.op.operands.toList.filterMap λ| .tmp t=>some t|_=>none)++
 match o.guard with
 |some (j,_)=>((ops[j]?).bind (·.dst)).toList
 |none=>[]
def get_congr{n n2:Nat}{tm tm2:List (Nat×V)}{hp:List (Nat×bE)}(h:∀t,t∈names ops o->find tm2 t=find tm t)(x:Operand)(hx:x∈o.op.operands):
 St.get ⟨n2,tm2,hp2⟩ x=St.get ⟨n,tm,hp⟩ x:=by
 cases x with
 |tmp t=>
  simp only[St.get];rw[h t];simp only[names,yl,aau];exact .inl ⟨.tmp t,by simpa using hx,rfl⟩
 |_=>rfl
def guard_congr{tm tm2:List (Nat×V)}(h:∀t,t∈names ops o->find tm2 t=find tm t):bH ops o tm2=bH ops o tm:=by
 unfold bH;split
 . rfl
 . rename_i j e D;split
   . rfl
   . rename_i d S;rw[h d (by simp[names,D,S])]
def ji.loc{n:Nat}{tm tm2:List (Nat×V)}{hp:List (Nat×bE)}(h:ji P ops o n tm hp nid v hp')
 (Q:∀t,t∈names ops o->find tm2 t=find tm t) (J:∀id,id∈lZ (St.get ⟨n,tm,hp⟩) o->find hp2 id=find hp id) (R:∀id,id∈four nid->find hp2 id=find hp id):
 ∃sS,ji P ops o n tm2 hp2 nid v sS/\Alike (zQ (St.get ⟨n,tm,hp⟩) nid o) hp hp' hp2 sS:=by
 have I:=guard_congr (ops:=ops) (o:=o) Q;have MZ:=λx N=>get_congr (ops:=ops) (o:=o) (n:=n) (n2:=n) (hp:=hp) (hp2:=hp2) Q x N
 have a:∀id,id∈zQ (St.get ⟨n,tm,hp⟩) nid o->find hp2 id=find hp id:=by
  intro id O;simp only[zQ,yl]at O;rcases O with O|O
  . exact R id O
  . split at O
    . exact J id O
    . simp at O
 have U:∀id,id∈four nid->id∈zQ (St.get ⟨n,tm,hp⟩) nid o:=λid O=>by simp only[zQ,yl];exact .inl O
 obtain⟨S,h⟩:=h;unfold ji;rw[I];split at h
 . exact h.elim
 . obtain⟨rfl,rfl⟩:=h;exact⟨hp2,⟨S,rfl,rfl⟩,⟨a,λid _=>⟨rfl,rfl⟩⟩⟩
 . rename_i hgt;clear hgt;have Ex:=xV (get:=St.get ⟨n,tm2,hp2⟩) (get':=St.get ⟨n,tm,hp⟩) (o:=o) MZ;rw[Ex];split at h
   . rename_i g w lq;obtain⟨H,⟨res,B,targs,K,rfl,rfl,k4⟩|⟨rfl,hrd⟩⟩:=h
     case inr=>
      refine⟨hp2,⟨S,H,.inr ⟨rfl,λoG Y=>hrd oG λid O=>?_⟩⟩,⟨a,λid _=>⟨rfl,rfl⟩⟩⟩;rw[Y id O];exact J id ((DA lq).2 id O)
     refine⟨gK nid B++hp2,⟨S,H,.inl ⟨res,B,targs,K,rfl,rfl,?_⟩⟩,Alike.pre a (λp hp=>U _ (vz hp))⟩;rcases k4 with k4|⟨q1,q2⟩
     . exact .inl k4
     . refine .inr ⟨?_,q2⟩;rw[xj (λid O=>J id ((DA lq).2 id O))];exact q1
   . rename_i hcn;clear hcn;have eU:=xL (P:=P) (get:=St.get ⟨n,tm2,hp2⟩) (get':=St.get ⟨n,tm,hp⟩) (heap:=hp2) (nid:=nid) (o:=o) MZ;simp only[eU]
     cases hlk:looks o.op with
     |false=>
      obtain⟨pre,p1,rfl,p3⟩:=Ig hlk h;exact⟨pre++hp2,⟨S,p3 hp2⟩,Alike.pre a (λp hp=>by rw[p1 p hp];exact U _ (by simp[four]))⟩
     |true=>
      have sQ:lZ (St.get ⟨n,tm,hp⟩) o=o.op.operands.toList.flatMap λx=>(St.get ⟨n,tm,hp⟩ x).ids:=by rw[lZ,if_pos hlk]
      obtain⟨dst,op,ty,pos,after,guard⟩:=o;simp only at hlk sQ h J a U;cases op<;>simp[looks]at hlk
      case load t x=>
       simp only[aK,jU,uu]at h;obtain⟨u,L,rfl,rfl⟩:=h;refine⟨hp2,⟨S,?_⟩,⟨a,λid _=>⟨rfl,rfl⟩⟩⟩;unfold gA at L;simp only[aK,gA];split at L
       . rename_i c D;have:deref hp2 c=deref hp c:=K7 (λid O=>J id (by rw[sQ];simp[Op.operands,D,V.ids,W.ids,O]));rw[this];simp only[L,wv]
       . simp at L
      case convert src dst' x=>
       have hsame:kr P src dst' (St.get ⟨n,tm,hp⟩ x) hp2=kr P src dst' (St.get ⟨n,tm,hp⟩ x) hp:=by
        unfold kr;split
        . rename_i id sz i len N;rw[oN (hp:=hp) (λid' O=>J id' (by rw[sQ];simp only[Op.operands,abg];exact⟨x,ak,by rw[N];exact O⟩))]
        . rfl
       simp only[aK]at h;split at h
       . rename_i u L;simp only[ii,uu]at h;obtain⟨rfl,rfl⟩:=h;exact⟨hp2,⟨S,by simp only[aK,hsame,L]⟩,⟨a,λid _=>⟨rfl,rfl⟩⟩⟩
       . rename_i L;simp only[jU,uu]at h;obtain⟨u,hpu,rfl,rfl⟩:=h;exact⟨hp2,⟨S,by simp only[aK,hsame,L,hpu,wv]⟩,⟨a,λid _=>⟨rfl,rfl⟩⟩⟩
      case lookup t m k ok=>
       simp only[aK,jU,uu]at h;obtain⟨u,L,rfl,rfl⟩:=h;refine⟨hp2,⟨S,?_⟩,⟨a,λid _=>⟨rfl,rfl⟩⟩⟩;simp only[aK];rw[zA (hp:=hp) (λid O=>J id (by rw[sQ];simp[Op.operands,O,V.ids,W.ids,C.ids])),L];rfl
      case mapUpdate t m k x=>
       simp only[aK,jU,uu]at h;obtain⟨⟨id,blk⟩,L,rfl,rfl⟩:=h;have r:=Nq L;have O:id∈lZ (St.get ⟨n,tm,hp⟩) ⟨dst,.mapUpdate t m k x,ty,pos,after,guard⟩:=by rw[sQ];simp[Op.operands,r,V.ids,W.ids,C.ids]
       have aqV:id∈zQ (St.get ⟨n,tm,hp⟩) nid ⟨dst,.mapUpdate t m k x,ty,pos,after,guard⟩:=by simp only[zQ,writes,if_true,yl];exact .inr O
       have xD:=J id O;refine⟨jB hp2 id blk,⟨S,?_⟩,⟨λq l=>?_,λq l=>?_⟩⟩
       . simp only[aK];rw[EE (hp:=hp) (λid' MW=>by rw[r]at MW;cases MW;exact xD),L];rfl
       . simp only[bO,xD,a q l]
       . have:¬q=id:=λe=>l (e▸aqV);simp only[bO,this,if_false];exact⟨trivial,trivial⟩
      case store t x y=>
       simp only[aK,jU,uu]at h;obtain⟨l,L,rfl,rfl⟩:=h;unfold nu at L;split at L
       . rename_i id sz i j u N hy;have O:id∈lZ (St.get ⟨n,tm,hp⟩) ⟨dst,.store t x y,ty,pos,after,guard⟩:=by rw[sQ];simp[Op.operands,N,V.ids,W.ids,C.ids]
         have aqV:id∈zQ (St.get ⟨n,tm,hp⟩) nid ⟨dst,.store t x y,ty,pos,after,guard⟩:=by simp only[zQ,writes,if_true,yl];exact .inr O
         have xD:=J id O;split at L
         . rename_i sz' M m Y3 r;split at L
           . rename_i G hel;split at L
             . rename_i D;simp only[ii]at L;subst L;refine⟨jB hp2 id (.row sz (M.set i (bt G j (cellsOf u)))),⟨S,?_⟩,⟨λk Z=>?_,λk Z=>?_⟩⟩
               . simp only[aK,nu,N,hy,xD,Y3,r,hel,if_pos D,wv]
               . simp only[bO,xD,a k Z]
               . have:¬k=id:=λe=>Z (e▸aqV);simp only[bO,this,if_false];exact⟨trivial,trivial⟩
             . simp at L
           . simp at L
         . simp at L
       . simp at L
      case call c=>
       obtain⟨callee,args,argTypes⟩:=c;simp only[aK]at h
       have same:∀ {q:Option V},(q.map λv=>(v,hp))=some (v,hp')->(q.map λv=>(v,hp2))=some (v,hp2)/\hp'=hp:=by
        intro q l;simp only[jU,uu]at l;obtain⟨u,rfl,rfl,rfl⟩:=l;exact⟨rfl,rfl⟩
       split at h
       . split at h
         . rename_i x t hargs mm;split at h
           . rename_i e L;obtain⟨K,rfl⟩:=same h;exact⟨hp2,⟨S,by simp only[aK,hargs,mm,L];exact K⟩,⟨a,λid _=>⟨rfl,rfl⟩⟩⟩
           . rename_i L;obtain⟨K,rfl⟩:=same h;refine⟨hp2,⟨S,?_⟩,⟨a,λid _=>⟨rfl,rfl⟩⟩⟩;simp only[aK,hargs,mm];exact K
         . simp at h
       . split at h
         . rename_i s x t t' hargs mm;split at h
           . rename_i htt;subst htt
             have hsub:∀ (z:Operand),z∈args.toList-> ∀id,id∈ (St.get ⟨n,tm,hp⟩ z).ids->id∈zQ (St.get ⟨n,tm,hp⟩) nid ⟨dst,.call ⟨.builtin .append,args,argTypes⟩,ty,pos,after,guard⟩:=by
              intro z A id O;simp only[zQ,writes,if_true,yl];refine .inr ?_;rw[sQ];simp only[Op.operands,Call.operands,abg];exact⟨z,by simpa using A,O⟩
             obtain⟨sS,K,F⟩:=zC h (hsub s agi) (hsub x agi) (U nid (by simp[four])) a;exact⟨sS,⟨S,by simp only[aK,hargs,mm,if_true];exact K⟩,F⟩
           . simp at h
         . simp at h
       . split at h
         . rename_i d s t t' hargs mm
           have hsub:∀ (z:Operand),z∈args.toList-> ∀id,id∈ (St.get ⟨n,tm,hp⟩ z).ids->id∈zQ (St.get ⟨n,tm,hp⟩) nid ⟨dst,.call ⟨.builtin .copy,args,argTypes⟩,ty,pos,after,guard⟩:=by
            intro z A id O;simp only[zQ,writes,if_true,yl];refine .inr ?_;rw[sQ];simp only[Op.operands,Call.operands,abg];exact⟨z,by simpa using A,O⟩
           obtain⟨sS,K,F⟩:=Dk h (hsub d agi) (hsub s agi) a;exact⟨sS,⟨S,by simp only[aK,hargs,mm];exact K⟩,F⟩
         . simp at h
       . rename_i b sX nj hb3;obtain⟨K,rfl⟩:=same h;refine⟨hp2,⟨S,?_⟩,⟨a,λid _=>⟨rfl,rfl⟩⟩⟩;simp only[aK];exact K
       . simp at h
end Go.aW
namespace Go.aW
open Go
variable{P:Program}{M A:agt}{ρ:Env}{F:agt}{a:Act}{w:World}
def Cm(ids:List Nat)(G h:HS):HS:=
 ids.foldl (λh id=>match find G id with|some b=>(id,b)::del h id|none=>del h id) h
def ko(G:HS)(id:Nat):∀ (ids:List Nat) (h:HS),find (Cm ids G h) id=if id∈ids then find G id else find h id
 | [],h=>by simp[Cm]
 |k::r,h=>by
  have c:=ko G id r (match find G k with|some b=>(k,b)::del h k|none=>del h k);simp only[Cm,adp]at c⊢;rw[c]
  by_cases J:id∈r
  . simp[J]
  . simp only[J,if_false,aak,or_false]
    by_cases Z:id=k
    . subst Z;simp only[if_true]
      cases hs:find G id with
      |none=>simp[dG]
      |some b=>simp[aF]
    . simp only[Z,if_false];have a:¬k=id:=λe=>Z e.symm
      cases hs:find G k with
      |none=>simp[dG,Z]
      |some b=>simp[aF,dG,Z,a]
section
variable(dst:Nat->Option Nat)(v:Nat->V)(wr:Nat->List Nat)(hpT:Nat->HS)(vB:TS)(oE:HS)
def tY(L:Nat->Bool):Nat->TS
 |0=>vB
 |i+1=>if L i then eJ (tY L i) (dst i) (v i)else tY L i
def ue(L:Nat->Bool):Nat->HS
 |0=>oE
 |i+1=>if L i then Cm (wr i) (hpT (i+1)) (ue L i)else ue L i
def kp(tm:TS)(d:Option Nat)(u:V)(t:Nat):find (eJ tm d u) t=if d=some t then some u else find tm t:=by
 cases d with
 |none=>simp[eJ]
 |some d=>simp only[eJ,aF,ii]
def sr(K j:Nat->Bool)(t:Nat):∀k,(∀i,i < k->dst i=some t->K i=j i)->find (tY dst v vB K k) t=find (tY dst v vB j k) t
 |0,_=>rfl
 |k+1,h=>by
  have c:=sr K j t k (λi I=>h i aa);simp only[tY]
  by_cases S:dst k=some t
  . rw[h k aa S];split
    . simp only[kp,S,if_true]
    . exact c
  . have e:∀ (L:Nat->Bool),find (if L k then eJ (tY dst v vB L k) (dst k) (v k)else tY dst v vB L k) t=find (tY dst v vB L k) t:=by
     intro L;split
     . simp only[kp,S,if_false]
     . rfl
    rw[e K,e j,c]
def GC(L:Nat->Bool)(t i:Nat)(S:dst i=some t)(R:L i=true):∀k,i < k->(∀j,i < j->j < k->dst j=some t->L j=false)->find (tY dst v vB L k) t=some (v i)
 |0,h,_=>aa
 |k+1,h,Q=>by
  simp only[tY]
  by_cases e:i=k
  . subst e;simp only[R,if_true,kp,S]
  . have c:=GC L t i S R k aa (λj O Y=>Q j O aa)
    by_cases Z:dst k=some t
    . rw[Q k aa aa Z];exact c
    . split
      . simp only[kp,Z,if_false];exact c
      . exact c
def sR(K j:Nat->Bool)(id:Nat):∀k,(∀i,i < k->id∈wr i->K i=j i)->find (ue wr hpT oE K k) id=find (ue wr hpT oE j k) id
 |0,_=>rfl
 |k+1,h=>by
  have c:=sR K j id k (λi I=>h i aa);simp only[ue]
  by_cases S:id∈wr k
  . rw[h k aa S];split
    . simp only[ko,S,if_true]
    . exact c
  . have e:∀ (L:Nat->Bool),find (if L k then Cm (wr k) (hpT (k+1)) (ue wr hpT oE L k)else ue wr hpT oE L k) id=find (ue wr hpT oE L k) id:=by
     intro L;split
     . simp only[ko,S,if_false]
     . rfl
    rw[e K,e j,c]
def HN(L:Nat->Bool)(id i:Nat)(S:id∈wr i)(R:L i=true):∀k,i < k->(∀j,i < j->j < k->id∈wr j->L j=false)->find (ue wr hpT oE L k) id=find (hpT (i+1)) id
 |0,h,_=>aa
 |k+1,h,Q=>by
  simp only[ue]
  by_cases e:i=k
  . subst e;simp only[R,if_true,ko,S]
  . have c:=HN L id i S R k aa (λj O Y=>Q j O aa)
    by_cases Z:id∈wr k
    . rw[Q k aa aa Z];exact c
    . split
      . simp only[ko,Z,if_false];exact c
      . exact c
def wE(tmT:Nat->TS)(N:Nat)(z:tmT 0=vB)(S:∀i,i < N-> ∀t,find (tmT (i+1)) t=find (eJ (tmT i) (dst i) (v i)) t)(L:Nat->Bool)(t:Nat):∀k,k<=N->(∀i,i < k->L i=true)->find (tY dst v vB L k) t=find (tmT k) t
 |0,_,_=>by rw[z];rfl
 |k+1,Z,R=>by
  simp only[tY,R k aa,if_true];rw[S k aa t,kp,kp,wE tmT N z S L t k aa (λi I=>R i aa)]
def xA(N:Nat)(z:hpT 0=oE)(S:∀i,i < N-> ∀id,¬id∈wr i->find (hpT (i+1)) id=find (hpT i) id)(L:Nat->Bool)(id:Nat):∀k,k<=N->(∀i,i < k->L i=true)->find (ue wr hpT oE L k) id=find (hpT k) id
 |0,_,_=>by rw[z];rfl
 |k+1,Z,R=>by
  simp only[ue,R k aa,if_true,ko];split
  . rfl
  . rename_i K;rw[xA N z S L id k aa (λi I=>R i aa),S k aa id K]
def B8(i:Nat)(t:Nat):∀k,i<=k->find (tY dst v vB (λj=>decide (j < i)) k) t=find (tY dst v vB (λj=>decide (j < i)) i) t
 |0,h=>by have:i=0:=by omega
          subst this;rfl
 |k+1,h=>by
  by_cases e:i=k+1
  . subst e;rfl
  . have c:=B8 i t k aa;have K:decide (k < i)=false:=by simp;omega
    simp only[tY];rw[if_neg gZ];exact c
def CV(i:Nat)(id:Nat):∀k,i<=k->find (ue wr hpT oE (λj=>decide (j < i)) k) id=find (ue wr hpT oE (λj=>decide (j < i)) i) id
 |0,h=>by have:i=0:=by omega
          subst this;rfl
 |k+1,h=>by
  by_cases e:i=k+1
  . subst e;rfl
  . have c:=CV i id k aa;simp only[ue];rw[if_neg gZ];exact c
end
def ji.sound{ops:Array Oper}{o:Oper}{i n nid:Nat}{tm:TS}{hp hp':HS}{v:V}{Q:Exit->Act->World->Prop}{K':Act->World->Prop}(I:ops[i]? =some o)
 (h:ji P ops o n tm hp nid v hp') (J:Rel M A ρ F ⟨n,tm,hp⟩ a w) (s:∀k,nid<=k->k < nid+4->F k)
 (Z:∀G w' l ρ',Rel M l ρ' (Sub F nid) ⟨n,eJ tm o.dst v,hp'⟩ G w'->dA M w w'->dD ρ ρ'->bY A l w->K' G w'):wpOp P ops Q i K' a w:=by
 obtain⟨S,h⟩:=h;have HV:=nZ S;unfold wpOp;simp only[I]
 have fin:∀ {R:Act} {w2:World} {K:agt} {z:Env} {x:Value} {b:HS},Rel M K z (Sub F nid) ⟨n,tm,b⟩ R w2->RV w2 K z v x->Rel M K z (Sub F nid) ⟨n,eJ tm o.dst v,b⟩ (R.put o.dst x) w2:=by
  intro R w2 K z x b y B;have:=y.put (dst:=o.dst) B HV;rw[iP]at this;exact this
 split at h
 . exact h.elim
 . rename_i U;have:=eD J U;simp only[this,aag,if_false];obtain⟨rfl,rfl⟩:=h;exact Z _ _ A ρ (fin (J.sub λid h=>h.1) yI) (dA.refl _ _) (dD.refl _) (bY.refl _ _)
 . rename_i U;have:=eD J U;simp only[this,if_true];refine .inl ?_;split at h
   . rename_i g L D;obtain⟨H,hct⟩:=h;obtain⟨d,N,j⟩:=rj (P:=P) J D H;simp only[Oper.wp,N,Oper.upon];refine(gY.sound J s hct j).mono ?_;rintro e w' ⟨x,l,ρ',rfl,y,B,Y,O,r⟩;exact Z _ _ l ρ' (fin y B) Y O r
   . obtain⟨x,w',l,ρ',c,y,B,Y,O,r⟩:=qY h J (s nid (ww _) aa);rcases c with c|⟨c,rfl⟩
     . simp only[Oper.wp,c,Oper.upon];exact Z _ _ l ρ' (fin y B) Y O r
     . simp only[Oper.wp,c,Oper.upon];exact Z _ _ l ρ' (fin y B) Y O r
def bP(o:Oper):List Nat:=(o.after.toList.filter (Region.binds .any)).map (·.on)
def pF:List (List Nat)->List Nat->List Nat
 | [],a=>a|es::r,a=>pF r (a++[es.foldl (λs e=>s|||2 ^ e|||a.getD e 0) 0])
def Lp:∀ (r:List (List Nat)) (acc:List Nat), ∃b,pF r acc=acc++b/\b.length=r.length
 | [],acc=>⟨[],by simp[pF]⟩
 |es::r,acc=>by
  obtain⟨b,O,Y⟩:=Lp r (acc++[es.foldl (λs e=>s|||2 ^ e|||acc.getD e 0) 0]);exact⟨_::b,by simp only[pF];rw[O,aaQ];rfl,by simp[Y]⟩
def Lr:∀ (r:List (List Nat)) (acc:List Nat) (k:Nat) (es:List Nat),r[k]? =some es->(∀e,e∈es->e < acc.length+k)->
 (pF r acc).getD (acc.length+k) 0=es.foldl (λs e=>s|||2 ^ e|||(pF r acc).getD e 0) 0
 | [],acc,k,es,h,_=>agb
 |a::r,acc,0,es,h,H=>by
  simp only[yq,ii]at h;subst h;simp only[pF,ace];obtain⟨b,O,_⟩:=Lp r (acc++[a.foldl (λs e=>s|||2 ^ e|||acc.getD e 0) 0]);rw[O]
  have y:∀e,e∈a->(acc++[a.foldl (λs e=>s|||2 ^ e|||acc.getD e 0) 0]++b).getD e 0=acc.getD e 0:=by
   intro e F;have:=H e F;simp only[aba,aaQ];rw[aaf aa]
  have o:(acc++[a.foldl (λs e=>s|||2 ^ e|||acc.getD e 0) 0]++b).getD acc.length 0=a.foldl (λs e=>s|||2 ^ e|||acc.getD e 0) 0:=by
   simp[aba]
  rw[o]
  have d:∀ (l:List Nat) (s:Nat),(∀e,e∈l->e∈a)->l.foldl (λs e=>s|||2 ^ e|||acc.getD e 0) s=l.foldl (λs e=>s|||2 ^ e|||(acc++[a.foldl (λs e=>s|||2 ^ e|||acc.getD e 0) 0]++b).getD e 0) s:=by
   intro l
   induction l with
   |nil=>intro s _;rfl
   |cons x l c=>
    intro s S;simp only[adp];rw[y x (S x ak),c _ (λe h=>S e (by simp[h]))]
  exact d a 0 (λ_ h=>h)
 |a::r,acc,k+1,es,h,H=>by
  have:=Lr r (acc++[a.foldl (λs e=>s|||2 ^ e|||acc.getD e 0) 0]) k es bc (λe F=>by have:=H e F;simp;omega);simp only[pF];rw[show acc.length+(k+1)=(acc++[a.foldl (λs e=>s|||2 ^ e|||acc.getD e 0) 0]).length+k by simp;omega];exact this
def uB(g:Nat->Nat)(j:Nat):∀ (l:List Nat) (s:Nat),(l.foldl (λs e=>s|||2 ^ e|||g e) s).testBit j=true->s.testBit j=true\/ ∃e,e∈l/\(j=e\/(g e).testBit j=true)
 | [],s,h=> .inl h
 |e::r,s,h=>by
  simp only[adp]at h;rcases uB g j r _ h with h|⟨J,O,Y⟩
  . simp only[Nat.testBit_or,ab6,Nat.testBit_two_pow,decide_eq_true_eq]at h;rcases h with(h|h)|h
    . exact .inl h
    . exact .inr ⟨e,ak,.inl h.symm⟩
    . exact .inr ⟨e,ak,.inr h⟩
  . exact .inr ⟨J,by simp[O],Y⟩
def wj{b:List (List Nat)}(hE:∀ (i:Nat) (es:List Nat),b[i]? =some es-> ∀e,e∈es->e < i){L:Nat->Bool}:∀ (i:Nat),i < b.length->
 (∀ (k:Nat) (es:List Nat),k < i->L k=true->b[k]? =some es-> ∀e,e∈es->L e=true)->(∀ (es:List Nat),b[i]? =some es-> ∀e,e∈es->L e=true)-> ∀j,((pF b []).getD i 0).testBit j=true->L j=true/\j < i:=by
 intro i
 induction i using Nat.strongRecOn with
 |_ i c=>
  intro I y a j G;obtain⟨es,w⟩: ∃es,b[i]? =some es:=⟨b[i],by simp[I]⟩;have:=Lr b [] i es w (λe H=>by simpa using hE i es w e H);simp only[ac0,aas]at this;rw[this]at G;rcases uB _ j es 0 G with h|⟨e,H,h⟩
  . simp at h
  . have l:=hE i es w e H;have g:=a es w e H;rcases h with rfl|h
    . exact⟨g,l⟩
    . obtain⟨O,Y⟩:=c e l aa (λk o Z=>y k o aa) (λo n J d=>y e o l g n J d) j h;exact⟨O,aa⟩
def Nt(l r:List Nat):Bool:=l.all λx=> !r.contains x
def dK{l r:List Nat}(h:Nt l r=true){x:Nat}(hx:x∈l)(hy:x∈r):False:=by
 have:=yt.1 h x hx;simp only[ae2,List.contains_eq_mem]at this;simp[hy]at this
structure kT where
 dst:Option Nat
 nm:List Nat
 rd:List Nat
 wr:List Nat
def kT.apart(f g:kT):Bool:=
 Nt f.dst.toList g.nm&&Nt g.dst.toList f.nm&&Nt f.dst.toList g.dst.toList&&Nt f.wr g.rd&&Nt g.wr f.rd&&Nt f.wr g.wr
def Dn(b:List (List Nat))(fs:List kT):Bool:=
 let a:=pF b []
 (List.range fs.length).all λj=>match fs[j]? with
   |some g=>(List.range j).all λi=>match fs[i]? with
    |some f=>(a.getD j 0).testBit i||f.apart g|none=>true
   |none=>true
variable{fs:List kT}{base id:Nat}
def As{b:List (List Nat)}(h:Dn b fs=true){i j:Nat}{f g:kT}(A:i < j)(R:fs[i]? =some f)(hg:fs[j]? =some g):
 ((pF b []).getD j 0).testBit i=true\/f.apart g=true:=by
 unfold Dn at h;have Q:j < fs.length:=(jl.1 hg).1;have:=yt.1 h j (aap.2 Q);simp only[hg]at this;have:=yt.1 this i (aap.2 A);simp only[R,ab6]at this;exact this
def exists_least{p:Nat->Bool}:∀ {N:Nat},(∃i,i < N/\p i=false)-> ∃i,i < N/\p i=false/\ ∀j,j < i->p j=true
 |0,⟨i,h,_⟩=>aa
 |N+1,⟨i,h,hp⟩=>by
  by_cases d: ∃i,i < N/\p i=false
  . obtain⟨k,O,Y,B⟩:=exists_least d;exact⟨k,aa,Y,B⟩
  . have I:i=N:=by
     rcases aa8 i N with U|U
     . exact absurd ⟨i,U,hp⟩ d
     . omega
    subst I;refine⟨i,aa,hp,λj Q=>?_⟩
    cases hpj:p j with
    |true=>rfl
    |false=>exact absurd ⟨j,Q,hpj⟩ d
def tv(L:Nat->Bool):Nat->Nat
 |0=>0
 |k+1=>tv L k+if L k then 0 else 1
def zF{L:Nat->Bool}:∀ {k:Nat},tv L k=0-> ∀i,i < k->L i=true
 |0,_,i,I=>aa
 |k+1,h,i,I=>by
  simp only[tv]at h
  by_cases e:i=k
  . subst e
    cases hL:L i with
    |true=>rfl
    |false=>simp[hL]at h
  . exact zF (k:=k) aa i aa
def Dt{L L':Nat->Bool}{i:Nat}(I:L i=false)(hi':L' i=true)(P:∀j,j≠i->L' j=L j):∀ {k:Nat},i < k->tv L' k+1=tv L k
 |0,h=>aa
 |k+1,h=>by
  simp only[tv]
  by_cases e:i=k
  . subst e
    have a:∀ {m:Nat},m<=i->tv L' m=tv L m:=by
     intro m
     induction m with
     |zero=>intro _;rfl
     |succ m c=>intro r;simp only[tv];rw[c aa,P m aa]
    rw[a (ww _),I,hi'];simp
  . have:=Dt I hi' P (k:=k) aa;rw[P k (λJ=>e J.symm)];omega
def QR(M A:agt)(ρ:Env)(w:World)(Q:St->Nat->Prop)(G:Act)(w':World):Prop:=
 ∃b U l s,Q b U/\Rel M l s (bJ U) b G w'/\dA M w w'/\dD ρ s/\bY A l w
def QR.T6{Q:St->Nat->Prop}{G:Act}{w':World}(h:QR M A ρ w Q G w'):Post M A ρ w Q G w':=by
 obtain⟨b,F,l,s,O,Y,B,g,U⟩:=h;exact⟨b,F,l,s,O,Y,B,g.T6,U.m⟩
def K6{ops:Array Oper}{n:Nat}{tmT:Nat->TS}{hpT:Nat->HS}{v:Nat->V}{Q:Exit->Act->World->Prop}
 (hfo:P.follows .mixedOrders=true)
 (hstep:∀i o,ops[i]? =some o->ji P ops o n (tmT i) (hpT i) (base+4 * i) (v i) (hpT (i+1))/\(∀t,find (tmT (i+1)) t=find (eJ (tmT i) o.dst (v i)) t)/\
   ∃f,fs[i]? =some f/\f.dst=o.dst/\(∀t,t∈names ops o->t∈f.nm)/\(∀k,k∈lZ (St.get ⟨n,tmT i,hpT i⟩) o->k∈f.rd)/\(∀k,k∈zQ (St.get ⟨n,tmT i,hpT i⟩) (base+4 * i) o->k∈f.wr))
 (hE:∀i o,ops[i]? =some o-> ∀e,e∈bP o->e < i)
 (hok:Dn (ops.toList.map bP) fs=true)
 (cP:Rel M A ρ (bJ base) ⟨n,tmT 0,hpT 0⟩ a w)
 (hQ:∀a' w',QR M A ρ w (λst c=>st=⟨n,tmT ops.size,hpT ops.size⟩/\c=base+4 * ops.size) a' w'->Q .normal a' w'):(Code.region id ops true).wp P Q a w:=by
 refine wp_region_any hfo ?_
 let N:=ops.size
 let dst:Nat->Option Nat:=λi=>(ops[i]?).bind (·.dst)
 let wr:Nat->List Nat:=λi=>((ops[i]?).map λo=>zQ (St.get ⟨n,tmT i,hpT i⟩) (base+4 * i) o).getD []
 have hop:∀i,i < N-> ∃o,ops[i]? =some o:=λi I=>⟨ops[i],by simp[show i < ops.size from I]⟩;have C4:∀i o,ops[i]? =some o->dst i=o.dst:=λi o h=>by simp only[dst,h,Tf]
 have hwr:∀i o,ops[i]? =some o->wr i=zQ (St.get ⟨n,tmT i,hpT i⟩) (base+4 * i) o:=by
  intro i o h;simp only[wr,h,wv,YJ]
 have CX:∀i,i < N-> ∀k,¬k∈wr i->find (hpT (i+1)) k=find (hpT i) k:=by
  intro i I k Z;obtain⟨o,ho⟩:=hop i I;obtain⟨O,_⟩:=hstep i o ho;obtain⟨_,_,B⟩:=O.loc (tm2:=tmT i) (hp2:=hpT i) (λ_ _=>rfl) (λ_ _=>rfl) (λ_ _=>rfl);rw[hwr i o ho]at Z;exact(B.2 k Z).1
 have VO:∀i,i < N-> ∀t,find (tmT (i+1)) t=find (eJ (tmT i) (dst i) (v i)) t:=by
  intro i I t;obtain⟨o,ho⟩:=hop i I;rw[(hstep i o ho).2.1 t,C4 i o ho]
 have hEs:∀ (i:Nat) (es:List Nat),(ops.toList.map bP)[i]? =some es-> ∀e,e∈es->e < i:=by
  intro i es h e H;simp only[yu,aaN,jU]at h;obtain⟨o,ho,rfl⟩:=h;exact hE i o ho e H
 let eG:Array Bool->Nat->Bool:=λlisted i=>listed.getD i false
 let Fr:(Nat->Bool)->Nat->Prop:=λL k=>base+4 * N<=k\/ ∃j,j < N/\L j=false/\base+4 * j<=k/\k < base+4 * j+4
 have lN:∀ {L:Nat->Bool} {i:Nat},i < N->(∀k o,ops[k]? =some o->L k=true-> ∀e,e∈bP o->L e=true)->(∀o,ops[i]? =some o-> ∀e,e∈bP o->L e=true)->
  ∀j,((pF (ops.toList.map bP) []).getD i 0).testBit j=true->L j=true:=by
  intro L i I dW Y6 j G;refine(wj hEs i zh (λk es _ Sr kZ e H=>?_) (λes kZ e H=>?_) j G).1
  . simp only[yu,aaN,jU]at kZ;obtain⟨o,ho,rfl⟩:=kZ;exact dW k o ho Sr e H
  . simp only[yu,aaN,jU]at kZ;obtain⟨o,ho,rfl⟩:=kZ;exact Y6 o ho e H
 have hNs:N=ops.size:=rfl
 have finish:∀ (L:Nat->Bool) (a':Act) (w':World) (l:agt) (ρ':Env),(∀i,i < N->L i=true)->
  Rel M l ρ' (Fr L) ⟨n,tY dst v (tmT 0) L N,ue wr hpT (hpT 0) L N⟩ a' w'->dA M w w'->dD ρ ρ'->bY A l w->Q .normal a' w':=by
  intro L a' w' l ρ' hall J eU cI D;refine hQ _ _ ⟨⟨n,tmT ops.size,hpT ops.size⟩,base+4 * ops.size,l,ρ',⟨rfl,rfl⟩,?_,eU,cI,D⟩
  have O:Rel M l ρ' (Fr L) ⟨n,tmT ops.size,hpT ops.size⟩ a' w':=J.forget rfl (λt u F=>by
   rw[show find (⟨n,tY dst v (tmT 0) L N,ue wr hpT (hpT 0) L N⟩:St).tmps t=find (tmT N) t from wE dst v (tmT 0) tmT N rfl VO L t N (ww _) hall];exact F) (λk b G=>by
   rw[show find (⟨n,tY dst v (tmT 0) L N,ue wr hpT (hpT 0) L N⟩:St).heap k=find (hpT N) k from xA wr hpT (hpT 0) N rfl CX L k N (ww _) hall];exact G)
  exact O.sub (λk Z=> .inl Z)
 have main:∀ (fuel:Nat) (listed:Array Bool) (a':Act) (w':World) (l:agt) (ρ':Env),listed.size=N->tv (eG listed) N<=fuel->
  (∀k o,ops[k]? =some o->eG listed k=true-> ∀e,e∈bP o->eG listed e=true)->
  Rel M l ρ' (Fr (eG listed)) ⟨n,tY dst v (tmT 0) (eG listed) N,ue wr hpT (hpT 0) (eG listed) N⟩ a' w'->dA M w w'->dD ρ ρ'->bY A l w->
  wpAny P .any ops Q fuel listed a' w':=by
  intro fuel
  induction fuel with
  |zero=>
   intro listed a' w' l ρ' hsz M3 dW J eU cI D;have hall:=zF (Nat.le_zero.1 M3);refine⟨?_,finish _ a' w' l ρ' hall J eU cI D⟩;apply ac2.2;intro i I;rw[mem_ready]at I;obtain⟨z,o,ho,_⟩:=I;have hlt:i < N:=(aat.1 ho).1;have:=hall i hlt;simp only[eG,aae]at this z;have mU:i < listed.size:=aa
   simp[mU]at this z;simp[this]at z
  |succ fuel ih=>
   intro listed a' w' l ρ' hsz M3 dW J eU cI D;refine⟨λKs=>?_,λi I=>?_⟩
   . by_cases hex: ∃i,i < N/\eG listed i=false
     . exfalso;obtain⟨i,I,y,MT⟩:=exists_least hex;obtain⟨o,ho⟩:=hop i I
       have:i∈Region.ready .any ops listed:=by
        rw[mem_ready];refine⟨?_,o,ho,λe H G=>?_⟩
        . simp only[eG,aae]at y⊢;have mU:i < listed.size:=aa
          simpa[mU]using y
        . have r:e.on∈bP o:=by simp only[bP,aad,acu];exact⟨e,⟨C0,G⟩,rfl⟩
          exact MT _ (hE i o ho _ r)
       rw[Ks]at this;simp at this
     . exact finish _ a' w' l ρ' (λi I=>by cases h:eG listed i with|true=>rfl|false=>exact absurd ⟨i,I,h⟩ hex) J eU cI D
   . rw[mem_ready]at I;obtain⟨z,o,ho,C3⟩:=I;have HQ:i < N:=(aat.1 ho).1
     have Ss:eG listed i=false:=by
      simp only[eG,aae]at z⊢;have mU:i < listed.size:=aa
      simpa[mU]using z
     have Y6:∀e,e∈bP o->eG listed e=true:=by
      intro e H;simp only[bP,aad,acu]at H;obtain⟨ed,⟨O,Y⟩,rfl⟩:=H;exact C3 ed rW Y
     obtain⟨hst,aI8,f,R,fd,fn,fr,fw⟩:=hstep i o ho
     have order:∀j oj g,j≠i->ops[j]? =some oj->fs[j]? =some g->(f.apart g=true\/g.apart f=true)\/(j < i/\eG listed j=true)\/(i < j/\eG listed j=false):=by
      intro j oj g iw vS mM;have hjN:j < N:=(aat.1 vS).1;rcases adj iw with hlt|hgt
      . rcases As hok hlt mM R with G|G
        . exact .inr (.inl ⟨hlt,lN HQ dW (λo' BI=>by rw[ho]at BI;simp only[ii]at BI;subst BI;exact Y6) j G⟩)
        . exact .inl (.inr G)
      . rcases As hok hgt R mM with G|G
        . refine .inr (.inr ⟨hgt,?_⟩)
          cases hLj:eG listed j with
          |false=>rfl
          |true=>
           have:=lN hjN dW (λo' BI=>dW j o' BI hLj) i G;rw[Ss]at this;simp at this
        . exact .inl (.inl G)
     have Dd:∀j,j < N-> ∃oj g,ops[j]? =some oj/\fs[j]? =some g/\g.dst=dst j/\ ∀k,k∈wr j->k∈g.wr:=by
      intro j K;obtain⟨oj,vS⟩:=hop j K;obtain⟨_,_,g,g1,g2,_,_,g5⟩:=hstep j oj vS;exact⟨oj,g,vS,g1,by rw[g2,C4 j oj vS],λk Z=>g5 k (by rw[hwr j oj vS]at Z;exact Z)⟩
     have apart_spec:∀ {f g:kT},(f.apart g=true\/g.apart f=true)->(∀t,f.dst=some t->g.dst=some t->False)/\(∀t,g.dst=some t->t∈f.nm->False)/\(∀k,k∈g.wr->k∈f.rd->False)/\(∀k,k∈g.wr->k∈f.wr->False):=by
      intro f g h;rcases h with h|h<;>simp only[kT.apart,LD]at h<;>obtain⟨⟨⟨⟨⟨O,Y⟩,B⟩,s⟩,U⟩,h6⟩:=h
      . exact⟨λt a b=>dK (x:=t) B afs agr,λt a b=>dK (x:=t) Y afs b,λk a b=>dK U a b,λk a b=>dK h6 b a⟩
      . exact⟨λt a b=>dK (x:=t) B agr afs,λt a b=>dK (x:=t) O afs b,λk a b=>dK s a b,λk a b=>dK h6 a b⟩
     have NO:∀t,t∈names ops o->find (tY dst v (tmT 0) (eG listed) N) t=find (tmT i) t:=by
      intro t ht;rw[sr dst v (tmT 0) (eG listed) (λj=>decide (j < i)) t N ?_,B8 dst v (tmT 0) i t N (acz HQ),wE dst v (tmT 0) tmT N rfl VO _ t i (acz HQ) (λj K=>by simpa using K)];intro j K HU
      by_cases iw:j=i
      . subst iw;rw[Ss];simp
      . obtain⟨oj,g,vS,mM,gd,gw⟩:=Dd j K;rcases order j oj g iw vS mM with hap|⟨O,Y⟩|⟨O,Y⟩
        . exact((apart_spec hap).2.1 t (by rw[gd,HU]) (fn t ht)).elim
        . rw[Y];simp[O]
        . rw[Y];simp;omega
     have DG:∀k,(k∈f.rd\/k∈f.wr)->find (ue wr hpT (hpT 0) (eG listed) N) k=find (hpT i) k:=by
      intro k Z;rw[sR wr hpT (hpT 0) (eG listed) (λj=>decide (j < i)) k N ?_,CV wr hpT (hpT 0) i k N (acz HQ),xA wr hpT (hpT 0) N rfl CX _ k i (acz HQ) (λj K=>by simpa using K)];intro j K HU
      by_cases iw:j=i
      . subst iw;rw[Ss];simp
      . obtain⟨oj,g,vS,mM,gd,gw⟩:=Dd j K;rcases order j oj g iw vS mM with hap|⟨O,Y⟩|⟨O,Y⟩
        . rcases Z with Z|Z
          . exact((apart_spec hap).2.2.1 k (gw k HU) Z).elim
          . exact((apart_spec hap).2.2.2 k (gw k HU) Z).elim
        . rw[Y];simp[O]
        . rw[Y];simp;omega
     have V0:∀k,k∈four (base+4 * i)->k∈f.wr:=λk Z=>fw k (by simp only[zQ,yl];exact .inl Z);obtain⟨sS,apX,hal⟩:=hst.loc (tm2:=tY dst v (tmT 0) (eG listed) N) (hp2:=ue wr hpT (hpT 0) (eG listed) N) NO (λk Z=>DG k (.inl (fr k Z))) (λk Z=>DG k (.inr (V0 k Z)));rw[<-hwr i o ho]at hal;refine ji.sound ho apX J (λk O Y=> .inr ⟨i,HQ,Ss,O,Y⟩) ?_;intro a2 w2 A2 ρ2 d r2 r3 r4
     have MP:∀j,eG (listed.setIfInBounds i true) j=if j=i then true else eG listed j:=by
      intro j
      by_cases iw:j=i
      . subst iw;have:j < listed.size:=aa
        simp[eG,aae,this]
      . simp only[eG,iw,if_false];exact getD_set_ne false (λe=>iw e.symm)
     have C7:eG (listed.setIfInBounds i true) i=true:=by rw[MP];simp
     have rJ:∀j,j≠i->eG (listed.setIfInBounds i true) j=eG listed j:=λj K=>by rw[MP,if_neg K]
     have later:∀j,i < j->j < N->(∀oj g,ops[j]? =some oj->fs[j]? =some g->(f.apart g=true\/g.apart f=true)->False)->eG (listed.setIfInBounds i true) j=false:=by
      intro j O Y B;obtain⟨oj,g,vS,mM,gd,gw⟩:=Dd j Y;rw[rJ j aa];rcases order j oj g aa vS mM with hap|⟨s,_⟩|⟨_,U⟩
      . exact(B oj g vS mM hap).elim
      . omega
      . exact U
     refine ih (listed.setIfInBounds i true) a2 w2 A2 ρ2 (by simpa using hsz) ?_ ?_ ?_ (eU.trans r2) (cI.trans r3) (D.trans r4 eU.size)
     . have:=Dt (L:=eG listed) (L':=eG (listed.setIfInBounds i true)) Ss C7 rJ (k:=N) HQ;omega
     . intro k ok' A4 Sr e H
       by_cases rH:k=i
       . subst rH;rw[ho]at A4;simp only[ii]at A4;subst A4;exact getD_set_true (Y6 e H)
       . rw[rJ k rH]at Sr;exact getD_set_true (dW k ok' A4 Sr e H)
     . refine(Rel.forget (st':=⟨n,tY dst v (tmT 0) (eG (listed.setIfInBounds i true)) N,ue wr hpT (hpT 0) (eG (listed.setIfInBounds i true)) N⟩) d rfl (λt u F=>?_) (λk b G=>?_)).sub (λk Z=>?_)
       . simp only[kp];split
         . rename_i S
           have uT:=GC dst v (tmT 0) (eG (listed.setIfInBounds i true)) t i (by rw[C4 i o ho];exact S) C7 N HQ (λj O Y B=>later j O Y (λoj g vS mM hap=>by
            obtain⟨_,g',_,zk,gd,_⟩:=Dd j Y;rw[mM]at zk;simp only[ii]at zk;subst zk;exact(apart_spec hap).1 t (by rw[fd];exact S) (by rw[gd];exact B)))
           rw[<-uT];exact F
         . rename_i S
           rw[sr dst v (tmT 0) (eG listed) (eG (listed.setIfInBounds i true)) t N (λj K HU=>by
            by_cases iw:j=i
            . subst iw;rw[C4 j o ho]at HU;exact absurd HU S
            . exact(rJ j iw).symm)]
           exact F
       . by_cases Z:k∈wr i
         . have hkw:k∈f.wr:=fw k (by rw[<-hwr i o ho];exact Z)
           have uT:=HN wr hpT (hpT 0) (eG (listed.setIfInBounds i true)) k i Z C7 N HQ (λj O Y B=>later j O Y (λoj g vS mM hap=>by
            obtain⟨_,g',_,zk,_,gw⟩:=Dd j Y;rw[mM]at zk;simp only[ii]at zk;subst zk;exact(apart_spec hap).2.2.2 k (gw k B) hkw))
           rw[hal.1 k Z, <-uT];exact G
         . rw[(hal.2 k Z).2,sR wr hpT (hpT 0) (eG listed) (eG (listed.setIfInBounds i true)) k N (λj K HU=>by
            by_cases iw:j=i
            . subst iw;exact absurd HU Z
            . exact(rJ j iw).symm)]
           exact G
       . refine⟨?_,?_⟩
         . rcases Z with Z|⟨j,O,Y,B⟩
           . exact .inl Z
           . by_cases iw:j=i
             . subst iw;rw[C7]at Y;simp at Y
             . rw[rJ j iw]at Y;exact .inr ⟨j,O,Y,B⟩
         . rintro⟨q1,q2⟩;rcases Z with Z|⟨j,O,Y,B,s⟩
           . omega
           . by_cases iw:j=i
             . subst iw;rw[C7]at Y;simp at Y
             . omega
 have z:∀i,eG (Array.replicate ops.size false) i=false:=by
  intro i;simp only[eG,aae]
  by_cases I:i < ops.size<;>simp[I]
 refine main ops.size (Array.replicate ops.size false) a _ A ρ (by simp[N]) ?_ (λk o _ y=>by rw[z]at y;simp at y) ?_ (dA.drew M w) (dD.refl _) (bY.refl _ _)
 . have:∀k,tv (eG (Array.replicate ops.size false)) k=k:=by
    intro k
    induction k with
    |zero=>rfl
    |succ k ih=>simp only[tv,ih,z];simp
   rw[this];exact ww _
 . have eT:∀k,tY dst v (tmT 0) (eG (Array.replicate ops.size false)) k=tmT 0:=by
    intro k
    induction k with
    |zero=>rfl
    |succ k ih=>simp only[tY,z,aag,if_false,ih]
   have eH:∀k,ue wr hpT (hpT 0) (eG (Array.replicate ops.size false)) k=hpT 0:=by
    intro k
    induction k with
    |zero=>rfl
    |succ k ih=>simp only[ue,z,aag,if_false,ih]
   rw[eT,eH];refine cP.drew.sub (λk Z=>?_);simp only[bJ];rcases Z with Z|⟨j,_,_,B,_⟩<;>omega
def Dm{ops:Array Oper}{n:Nat}{tmT:Nat->TS}{hpT:Nat->HS}{v:Nat->V}{Q:Exit->Act->World->Prop}
 (b:P.follows .mixedOrders=true)
 (s:∀i o,ops[i]? =some o->ji P ops o n (tmT i) (hpT i) (base+4 * i) (v i) (hpT (i+1))/\(∀t,find (tmT (i+1)) t=find (eJ (tmT i) o.dst (v i)) t)/\
   ∃f,fs[i]? =some f/\f.dst=o.dst/\(∀t,t∈names ops o->t∈f.nm)/\(∀k,k∈lZ (St.get ⟨n,tmT i,hpT i⟩) o->k∈f.rd)/\(∀k,k∈zQ (St.get ⟨n,tmT i,hpT i⟩) (base+4 * i) o->k∈f.wr))
 (hE:∀i o,ops[i]? =some o-> ∀e,e∈bP o->e < i)
 (I:Dn (ops.toList.map bP) fs=true)
 (d:Rel M A ρ (bJ base) ⟨n,tmT 0,hpT 0⟩ a w)
 (g:∀G w',Post M A ρ w (λst c=>st=⟨n,tmT ops.size,hpT ops.size⟩/\c=base+4 * ops.size) G w'->Q .normal G w'):(Code.region id ops true).wp P Q a w:=
 K6 b s hE I d λG w' h=>g G w' h.T6
end Go.aW
