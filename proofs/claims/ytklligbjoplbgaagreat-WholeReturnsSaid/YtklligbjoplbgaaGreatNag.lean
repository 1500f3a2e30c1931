/- Part 7 of the proof of WholeReturns. No conditions. -/
import Derived.Test.YtklligbjoplbgaaGreatNaf
import Derived.Shelf.RegionOpenPlain
import Derived.Deep.RegionLaw
import Derived.Lib.SliceRun
import Derived.Lib.ConvBytes
import Derived.Lib.BufferRead
import Derived.Laws.BytesString
set_option linter.all false
namespace Go.Proofs.YtklligbjoplbgaaGreat
set_option maxRecDepth 100000
set_option maxHeartbeats 64000000
open Go.RowKit Lib List Nat _root_.Go.Proofs.Tryz Go.Shelf
variable {A Z:fJ}{a:Act}{K:Act->cB->Prop}{parts:Array (Nat×Operand)}{af:Array Edge}{ops:Array Oper}{b c:dD}{R:Ending->cB->Prop}{Q:Exit->Act->cB->Prop}{fn:Func}{B bs l r t:cD}{X:cD->cB->Prop}{ps:List (cI×cD)}{ts:List cD}{O:List O4}{rest:List Oper}{L rs:List R4}{m:List dg}{vs xs:List cI}{base by' dst g i j k n y z:Nat}{f:Nat->cI}{o:O4}{gd:Option (Nat×Bool)}{d:Option Nat}{P:kS}{s:cR}{p:String}{T dT e src t2 ty:dC}{v zv:cI}{w w' w0:cB}{SS:cB->Prop}
theorem acg{l:List dg}{s a x:dg}{p q:cR}(b:dJ m=dJ l)(c:s.tocR=p)(d:a.tocR=q):dJ ((m++[s]).set i a)=(dJ l++[p]).set i q:=by grind[dJ,map_set]
theorem Ho{y x:dg}(h:y.tocR=x.tocR):y.id=x.id/\y.name=x.name/\y.cW=x.cW/\y.cG=x.cG/\y.cT=x.cT/\y.cA=x.cA/\y.blocks=x.blocks/\y.cz=x.cz/\y.cO=x.cO:=
 by grind
section
attribute[local irreducible]wpList Code.wp Calls Oper.wp wpAnyH
def Qg (b:dD)(A:fJ)(hA:A=ct 2 (dk b))(hf:xZ b.t)(cC:fh)(hfu:cC.size<=140737488355328)(cA:Nat)(w:cB)(R:gV w b):
 CP_ 54 #[.agg A,.string cC,.int .u64 cA] w λe w'=>∃B,e=.returned (.tuple #[.agg B,.int .i64 (iD b.t cC cA).2])/\kT w' w.heap.size B (iD b.t cC cA).1/\dz w w':=by
 have HA:=cq hA;have HR:=cq R;have C1:=cq (AJ cC hfu);have C2:=cq λcC hfu W (hb:dz w W)=>wU b A hA hf cC hfu W (HR.o.cx hb);have C7:=cq λid W (hb:dz w W)=>Dg b.l b.sv id hf.len W (HR.o.cx hb);have C9:=cq λW (hb:dz w W)=>pA b A hA hf W (HR.o.cx hb);have C3:=cq λs D hD W (hb:dz w W)=>Hn b A hA hf s D hD W (HR.o.cx hb);have hd:qe b.l:=hf.2;have S:=pF w;have HL:=cq (show b.l.length=b.t.cE.length from(gj _).symm);obtain⟨ao,cap,-,hcap,hao⟩:=du R.1;clear hA hf;obtain⟨T,hT⟩:=c8 (iD b.t cC cA);have HT:=cq hT;rw[hT];clear hT;go_enter func54,ntmps54
 go_upto_region 2 with(first|(first|refine jx 3 99 0 S HA.o λW S=>?_|refine jb 6 99 S rl mZ λW S=>?_)|(refine je S (C1.o _) λW S=>?_))
 cases hv:nq cC with
 | none=>
  obtain rfl: (b.t,141)=T:=by rw[<-HT.o];unfold iD;rw[hv]
  go_wp2_with (first|(refine jr 23 99 3 S 1 HA.o ?_)|refine js 99 6 24 S 0 HB.o (eY _) λW S=>?_|(refine zI S (C9.o _ S.b) λW B c HB HC HF S=>?_)|((with_reducible refine rA ?_);go_must (refine nQ S 0 rfl rfl rfl mP rfl ?_;exact⟨_,rfl,⟨c,rfl,HC.o,S.iF HF.o⟩,S.b⟩)))
 | some vv=>
  obtain⟨jA,cW⟩:=vv;have hvs:=Qf hv
  go_upto_region 5 with(first|(with_reducible refine jr 26 99 3 S 1 HA.o ?_)|(go_at_call 113;refine je S (C2.o jA hvs _ S.b) λW S=>?_))
  cases hn:jB b.t.cE jA with
  | none=>
   obtain rfl: (b.t,172)=T:=by rw[<-HT.o];unfold iD;rw[hv];simp only[hn]
   simp only[kE]
   go_wp2_with (first|(with_reducible refine jr 31 99 3 S 1 HA.o ?_)|with_reducible refine js 99 6 32 S 0 HB.o (eY _) λW S=>?_|(go_at_call 112;refine zI S (C9.o _ S.b) λW B c HB HC HF S=>?_)|((with_reducible refine rA ?_);go_must (refine nQ S 0 rfl rfl rfl mP rfl ?_;exact⟨_,rfl,⟨c,rfl,HC.o,S.iF HF.o⟩,S.b⟩)))
  | some i=>
   simp only[kE];have hi0: ¬((i:Int)<0):=cw;by_cases h4:32<=b.t.cE.length
   . obtain rfl: (b.t,175)=T:=by rw[<-HT.o];unfold iD;rw[hv];simp only[hn,h4,nI]
     have h5: (32:Int)<=(b.l.length:Int):=by have:=HL.o;omega
     go_wp2_with (first|(with_reducible first|refine jl 34 97 33 S 1 1 (.slice b.dO b.l.length b.cap) ?_|refine jr 37 99 3 S 1 HA.o ?_)|with_reducible refine js 99 6 38 S 0 HB.o (eY _) λW S=>?_|(go_at_call 112;refine zI S (C9.o _ S.b) λW B c HB HC HF S=>?_)|((with_reducible refine rA ?_);go_must (refine nQ S 0 rfl rfl rfl mP rfl ?_;exact⟨_,rfl,⟨c,rfl,HC.o,S.iF HF.o⟩,S.b⟩)))
   . have h5: ¬(32:Int)<=(b.l.length:Int):=by have:=HL.o;omega
     go_upto_region 9 with(first|(with_reducible refine jl 34 97 33 S 1 1 (.slice b.dO b.l.length b.cap) ?_))
     have C6:=cq (C2.o cC hfu);cases hn2:jB b.t.cE cC with
     | some j=>
      obtain rfl: (b.t,171)=T:=by rw[<-HT.o];unfold iD;rw[hv];simp only[hn,h4,lE,hn2]
      rw[hn2] at C6;simp only[kE] at C6
      go_wp2_with (first|(with_reducible first|refine jr 39 99 3 S 1 HA.o ?_|refine jr 43 99 3 S 1 HA.o ?_)|with_reducible refine js 99 6 44 S 0 HB.o (eY _) λW S=>?_|(go_at_call 113;refine je S (C6.o _ S.b) λW S=>?_)|(go_at_call 112;refine zI S (C9.o _ S.b) λW B c HB HC HF S=>?_)|((with_reducible refine rA ?_);go_must (refine nQ S 0 rfl rfl rfl mP rfl ?_;exact⟨_,rfl,⟨c,rfl,HC.o,S.iF HF.o⟩,S.b⟩)))
     | none=>
      rw[hn2] at C6;simp only[kE] at C6;obtain⟨x,hx⟩:=uB hn;have hil:=(mQ.1 hx).1;have hil2: (i:Int)< (b.l.length:Int):=cw;have hg:di b.t.cE i=x.tocR:=kF hx;obtain⟨bb,oo,hbo⟩: ∃bb oo,b.dO=s_ bb oo:=by
       obtain⟨_,_,e1,_,h⟩:=du R.1;unfold dD.sv at e1;simp only[kM] at e1;obtain⟨h1,o1,h2⟩:=h cw;exact⟨h1,o1,by rw[e1.1];exact h2⟩
      have HBV:Hid (dk b 1=.slice (s_ bb oo) b.l.length b.cap):=cq (by rw[<-hbo];rfl);have R9:fE w (.slice (s_ bb oo) b.l.length b.cap) b.l:=by have:=R;unfold gV dD.sv at this;rwa [hbo] at this
      have HX:=cq (R9.at hx);have HR9:=cq R9;have C8:=cq (C7.o x.id);have hsv:b.sv=.slice (s_ bb oo) b.l.length b.cap:=by unfold dD.sv;rw[hbo]
      rw[hsv] at C8;obtain⟨fl,hfl⟩:=c8 (eM (dJ b.l) x.id);rw[hfl] at C8
      go_upto_region 12 with(first|(with_reducible first|refine jr 39 99 3 S 1 HA.o ?_|refine jo 50 82 49 ((HX.o.cx S.b).c0) ?_)|(go_at_call 113;refine je S (C6.o _ S.b) λW S=>?_)|((with_reducible refine aQ_ ?_);refine Db S 1 rfl 1 (v:=.slice (s_ bb oo) b.l.length b.cap) HBV.o ?_))
      by_cases h6:cA<1∨281474976710655<cA∨cA<=eM b.t.cE (di b.t.cE i).id
      . obtain rfl: (b.t,176)=T:=by rw[<-HT.o];unfold iD;rw[hv];simp only[hn,h4,lE,hn2,h6,nI]
        rw[hg] at h6;rw[show eM b.t.cE x.id=fl from hfl] at h6;by_cases h7:cA<1
        . have h8: ((cA:Int)<1):=cw
          go_wp2_with (first|(with_reducible refine jr 65 99 3 S 1 HA.o ?_)|with_reducible refine js 99 6 66 S 0 HB.o (eY _) λW S=>?_|(go_at_call 112;refine zI S (C9.o _ S.b) λW B c HB HC HF S=>?_)|((with_reducible refine rA ?_);go_must (refine nQ S 0 rfl rfl rfl mP rfl ?_;exact⟨_,rfl,⟨c,rfl,HC.o,S.iF HF.o⟩,S.b⟩)))
        . have h8: ¬((cA:Int)<1):=cw;by_cases h9:281474976710655<cA
          . have h10: ((281474976710655:Int)< (cA:Int)):=cw
            go_wp2_with (first|(with_reducible refine jr 65 99 3 S 1 HA.o ?_)|with_reducible refine js 99 6 66 S 0 HB.o (eY _) λW S=>?_|(go_at_call 112;refine zI S (C9.o _ S.b) λW B c HB HC HF S=>?_)|((with_reducible refine rA ?_);go_must (refine nQ S 0 rfl rfl rfl mP rfl ?_;exact⟨_,rfl,⟨c,rfl,HC.o,S.iF HF.o⟩,S.b⟩)))
          . have h10: ¬((281474976710655:Int)< (cA:Int)):=cw;have h11: ((cA:Int)<=(fl:Int)):=cw
            go_wp2_with (first|(with_reducible refine jr 65 99 3 S 1 HA.o ?_)|with_reducible refine js 99 6 66 S 0 HB.o (eY _) λW S=>?_|((with_reducible refine aQ_ ?_);refine Db S 1 rfl 1 (v:=.slice (s_ bb oo) b.l.length b.cap) HBV.o ?_)|(go_at_call 114;refine je S (C8.o _ S.b) λW S=>?_)|(go_at_call 112;refine zI S (C9.o _ S.b) λW B c HB HC HF S=>?_)|((with_reducible refine rA ?_);go_must (refine nQ S 0 rfl rfl rfl mP rfl ?_;exact⟨_,rfl,⟨c,rfl,HC.o,S.iF HF.o⟩,S.b⟩)))
      . rw[hg] at h6;obtain rfl: (⟨iA b.next,(dJ b.l++[{x.tocR with id:=b.next,name:=cW,cW:=true,cG:=x.id,cA:=cA}]).set i {x.tocR with cT:=b.next,cO:=[]}⟩,0)=T:=by
         rw[<-HT.o];unfold iD;rw[hv];simp only[hn,h4,lE,hn2,hg,h6];rfl
        rw[show eM b.t.cE x.id=fl from hfl] at h6;have h8: ¬((cA:Int)<1):=cw;have h10: ¬((281474976710655:Int)< (cA:Int)):=cw;have h11: ¬((cA:Int)<=(fl:Int)):=cw;obtain⟨E,hE⟩:=eW (ct 11 (gq x));have hxx:=(mQ.1 hx).2;have hsub:=cq (mu b.l hil (A:=E) (by rw[hxx];exact hE));have hm:=kt hx;have CC:=cq λW (hb:dz w W)=>oZ x E hE (hd.at hm).1 W ((HR.o.cx hb).2 x hm);have HE:=cq hE;have HXE:Hid (b.l[i]'hil=x):=cq hxx;clear hE hxx hm hx hg hn hn2 hv hfl h6
        go_upto_region 17 with(first|(with_reducible first|refine jl 74 82 73 S 2 0 (.int .u64 b.next) ?_|refine jr 83 99 3 S 2 HA.o ?_|refine jr 84 109 13 S 0 HE2.o ?_)|(with_reducible first|refine jb 13 109 S wx oB λW S=>?_|refine js 109 13 72 S 0 HB.o (lM _) λW S=>?_|refine jb 14 99 S rl mZ λW S=>?_|refine js 99 14 85 S 0 HB3.o (eY _) λW S=>?_)|((with_reducible refine aQ_ ?_);first | refine Db S 1 rfl 1 (v:=.slice (s_ bb oo) b.l.length b.cap) HBV.o ?_ | refine Bf (HR9.o.cx S.b).1 hil (tL HE) hsub.o ?_)|(go_at_call 114;refine je S (C8.o _ S.b) λW S=>?_)|(go_at_call 115;refine(CC.o _ S.b).mono ?_;rintro e W5 ⟨B,y,rfl,hB,hY,hb⟩;have HB:=cq hB;have HFy:=cq (show qg w.heap.size y from λhn b hb=>gO S.fr.size ((qW.of hY.2).2 hn b hb));replace S:=S.zH hb hY.2;have HY:=cq hY.1;clear hb hB hY)|((with_reducible refine uV 82 78 74 ?_);refine tR S 0 rfl 0 (v:=.int .u64 b.next) pR rfl rfl rfl fg λW S=>?_)|((with_reducible refine uV 9 79 75 ?_);refine tR S 0 rfl 1 (v:=.string cW) pR rfl rfl rfl ET λW S=>?_)|((with_reducible refine abO 4 80 ?_);refine tR S 0 rfl 2 (v:=.bool true) pR rfl rfl rfl rZ λW S=>?_)|((with_reducible refine uV 82 81 76 ?_);refine tR S 0 rfl 3 (v:=.int .u64 x.id) pR rfl rfl rfl fg λW S=>?_)|((with_reducible refine uV 82 82 77 ?_);refine tR S 0 rfl 5 (v:=.int .u64 cA) pR rfl rfl rfl fg λW S=>?_;obtain⟨ys,hys⟩: ∃ys:dg,ys=⟨⟨b.next,cW,true,x.id,y.cT,cA,y.blocks,y.cz,y.cO⟩,y.dO,y.cap⟩:=⟨_,rfl⟩;have HYS:=cq hys;replace S:=S.wv (k:=0) rfl (g:=gq ys) (λi hi=>by have hi:i<11:=hi;rw[hys];rcases i with(_|_|_|_|_|_|_|_|_|_|_|i) <;> first | rfl);obtain⟨E2,hE2⟩:=eW (ct 11 (gq ys));have HE2:=cq hE2;have C4:=cq (C3.o ys E2 hE2);clear hys hE2)|(go_at_call 116;refine(C4.o _ S.b).mono ?_;rintro e W8 ⟨B3,m,ao2,c,rfl,hB,hm,ho,hd2,hb⟩;obtain⟨g,c',hgc⟩:=BW ho (succ_pos _);simp only[kM] at hgc;obtain⟨rfl,-,rfl⟩:=hgc;obtain⟨M5,hM5⟩:=eW (m++[ys]);have hKl:m.length+1=M5.length:=(by rw[hM5,ik];rfl);rw[<-hM5,hKl] at ho;rw[<-hM5] at hB;have HB3:=cq hB;have HM:=cq hm;have HF:=cq (show ∀x∈m,qg w.heap.size x from λx hx hn b h9=>gO S.fr.size ((hd2 x hx).2 hn b h9));have hyd:ys.dv=y.dv/\ys.cO=y.cO:=(by rw[HYS.o];exact⟨rfl,rfl⟩);have hyx:IY ys _ _:=(by have:=S.x.2;unfold IY at this ⊢;rwa [<-hyd.1,<-hyd.2] at this);replace S:=S.Lh hb ho (λx hx=>by rw[hM5] at hx;rcases fL.1 hx with h | h;exact(hd2 x h).1;rw[eV.1 h];exact hyx.1.cx hb) (λx hx hn b h9 h8=>by rw[hM5] at hx;rcases fL.1 hx with h | h;have:=(hd2 x h).2 hn b h9;have:=S.lt b h8;omega;rw[eV.1 h] at hn h9;exact hyx.2 hn b h9 h8);have HK:=cq hM5;have HKL:=cq hKl;clear hb hB ho hd2 hm hM5 hKl hyd hyx))
        have hml:m.length=b.l.length:=by have:=fK length HM.o;rwa [gj,gj] at this
        have him:i<m.length:=cw;obtain⟨z,hz⟩:=c8 (m[i]);have hzx:z.tocR=x.tocR:=by
         have h9: (dJ m)[i]? =(dJ b.l)[i]?:=by rw[HM.o]
         rw[l9,l9,iz him,hz,iz hil,HXE.o] at h9;exact ve h9
        have HZX:=cq hzx;have hKi:i<M5.length:=by have:=HKL.o;omega
        have hKz:M5[i]=z:=by
         have h9:M5[i]? =some z:=by rw[HK.o,GR him,iz him,hz]
         rw[iz hKi] at h9;exact ve h9
        have HKZ:=cq hKz;have hiK: (i:Int)< (M5.length:Int):=cw;clear hzx hKz hz hml him;refine dN S cX [⟨W8.heap.size,99,2,dk ⟨iA b.next,M5,s_ g 0,c⟩⟩,⟨W5.heap.size,109,11,gq ys⟩] Be λW S=>?_;refine cJ 0 (cZ W8.heap.size 1) ?_;refine cJ 1 (.slice (s_ g 0) M5.length c) ?_;refine cJ 2 _ ?_;refine cJ 3 (cZ W8.heap.size 1) ?_;refine cJ 4 (.slice (s_ g 0) M5.length c) ?_;refine cJ 5 _ ?_;refine cJ 6 (cZ W5.heap.size 0) ?_;refine fW 7 (.int .u64 b.next) rfl (fR (λw h=>by have h9:=cu.cell (h.row 1 rfl) (i:=0) pR;rw[HYS.o] at h9;exact h9) rfl fg) ?_;refine cJ 8 (cZ g (i*11)) ?_;refine cJ 9 (cZ g (i*11+4)) ?_;refine jQ 10 λK hK=>?_;refine Lj S 0 rfl rfl (i*11+4) (v:=.int .u64 b.next) (by show i*11+4<M5.length*11;omega) rfl rfl rfl fg λW S=>?_;refine fC hK ?_;clear hK K;refine cJ 11 (cZ g (i*11)) ?_;refine cJ 12 (cZ g (i*11+10)) ?_;refine jQ 13 λK hK=>?_;refine Lj S 0 rfl rfl (i*11+10) (v:=.slice none 0 0) (by show i*11+10<M5.length*11;omega) rfl rfl rfl nk λW S=>?_;refine fC hK ?_;clear hK K;refine pz ?_;obtain⟨y1,hy1⟩: ∃y1:dg,y1=⟨⟨z.id,z.name,z.cW,z.cG,b.next,z.cA,z.blocks,z.cz,z.cO⟩,z.dO,z.cap⟩:=⟨_,rfl⟩;obtain⟨y2,hy2⟩: ∃y2:dg,y2=⟨⟨z.id,z.name,z.cW,z.cG,b.next,z.cA,z.blocks,z.cz,[]⟩,none,0⟩:=⟨_,rfl⟩;have hput: ((ij M5).set (i*11+4) (.int .u64 b.next)).set (i*11+10) (.slice none 0 0)=ij (M5.set i y2):=by
         rw[uC hKi HKZ.o 4 cw _ y1 (λj hj=>by rw[hy1];rcases j with(_|_|_|_|_|_|_|_|_|_|_|j) <;> first | rfl),
          uC (x:=y1) (by rw[wu];exact hKi) (by rw[getElem_set_self]) 10 cw _ y2 (λj hj=>by rw[hy1,hy2];rcases j with(_|_|_|_|_|_|_|_|_|_|_|j) <;> first | rfl | omega),set_set]
        have HPUT:=cq hput;have HY2:=cq hy2;obtain⟨B4,hB4⟩:=eW (ct 2 (dk ⟨iA b.next,M5.set i y2,s_ g 0,c⟩));have hB5:B4=ct 2 (dk ⟨iA b.next,M5,s_ g 0,c⟩):=by rw[hB4];unfold dk dD.sv;simp only[wu]
        have HB4:=cq hB4;have HB5:=cq hB5;have hT1:dJ (M5.set i y2)=(dJ b.l++[{x.tocR with id:=b.next,name:=cW,cW:=true,cG:=x.id,cA:=cA}]).set i {x.tocR with cT:=b.next,cO:=[]}:=by
         rw[HK.o];obtain⟨-,-,-,-,e5,-,e7,e8,e9⟩:=Ho HY.o;obtain⟨f1,f2,f3,f4,-,f6,f7,f8,-⟩:=Ho HZX.o;exact acg (x:=z) HM.o (by rw[HYS.o,e5,e7,e8,e9]) (by rw[hy2,f1,f2,f3,f4,f6,f7,f8])
        have hfr: ∀v∈M5.set i y2,qg w.heap.size v:=λv hv=>by
         rcases wq hv with h | h
         . rw[HK.o] at h;rcases fL.1 h with h | h
           . exact HF.o v h
           . rw[eV.1 h,HYS.o];exact HFy.o
         . rw[h,hy2];exact λhn=>absurd hn (tP _)
        have hdl: ∀v∈M5.set i y2,v∈M5∨v=y2:=λv hv=>wq hv;have HFR:=cq hfr;have HDL:=cq hdl;have HT1:=cq hT1;clear hput hy1 hy2 hB4 hB5 hT1 hfr hdl
        go_wp2_with (first|(with_reducible refine jr 98 99 14 S 0 HB5.o ?_)|with_reducible refine js 99 6 98 S 2 HB4.o (eY _) λW S=>?_|((with_reducible refine rA ?_);go_must (refine nQ S 2 rfl rfl rfl mP rfl ?_;exact⟨_,rfl,⟨_,rfl,by unfold dD.t;rw[HT1.o],by have h9:=S.o0;simp only at h9;rw[HPUT.o] at h9;exact⟨by unfold dD.sv;rw[wu];exact h9,λv hv=>⟨by rcases HDL.o v hv with h | h;exact(S.x.2 v h).1;rw[h];exact FT _ _ (by rw[HY2.o]) (by rw[HY2.o]) (by rw[HY2.o]),HFR.o v hv⟩⟩⟩,S.b⟩)))
theorem Zn(l:List dg)(i:Nat):(ij l).take (i*11)=ij (l.take i):=by grind[np,take_append_drop,vx]
theorem Zo(l:List dg)(i:Nat):(ij l).drop (i*11)=ij (l.drop i):=by rcases Nat.lt_or_ge l.length i with h|h;grind[drop_of_length_le,ij,np];(conv=>lhs;rw[<-zZ i l,vx]);grind[np]
theorem VO(l:List dg)(c:l.length=n)(d:i<n)(b:List cI)(e:b.length=11):
 (BL (BL (ij l) (i*11) ((ij l).drop ((i+1)*11))) ((n-1)*11) b).take ((n-1)*11)=ij (l.eraseIdx i):=by
 have a:(ij l).length=n*11:=by rw[np,c]
 rw[eraseIdx_eq_take_drop_succ,vx,<-Zn,<-Zo];apply wm;intro t;rw[getElem?_take];split;next ht=>rw[xD _ _ _ _ (by grind[yz]),cM cw,xD _ _ _ _ iG,r8,a,Kg,kL,a];grind
 grind
theorem Nh(w:cB)(b o c:Nat)(ty:dC)(d:w.there b o 11):(Builtin.clear_ #[97] ty #[.slice (some ⟨b,o,none⟩) 1 c]).run prog w=.ok (.tuple #[]) (w.setCells b o (ct 11 (gq mb)).toList):=by
 have g:∀w,(zeroValue 109).run prog w=.ok (.agg (ct 11 (gq mb))) w:=wx;have f:(ct 11 (gq mb)).toList.length=11:=rfl;have e:=KU (P:=prog) b o (ct 11 (gq mb)).toList 0 w (λj a=>by rw[f] at a;simpa using(d j a).1) (λj a=>by rw[f] at a;simpa using(d j a).2) (λv g=>by
  grind[nu,lM,Array.all_eq_true_iff_forall_mem])
 simp only[wi] at e;have h:Builtin.zeroCells (Value.agg (ct 11 (gq mb))).cells 1=ct 11 (gq mb):=cX;simp_all[Builtin.clear_]
theorem Ca(l:List dg)(g c n i j base:Nat)(C:l.length=n)(F:i<n)(H:j=i+1)(w:cB)(ho:w.ownsRow base 109 11 (.slice (some ⟨g,0,none⟩) n c) n (ij l)):
 CP_ 129 #[.slice (some ⟨g,0,none⟩) n c,.int .i64 i,.int .i64 j] w λe w'=>e=.returned (.slice (some ⟨g,0,none⟩) (n-1) c)/\w'.ownsRow base 109 11 (.slice (some ⟨g,0,none⟩) (n-1) c) (n-1) (ij (l.eraseIdx i))/\iU g w w':=by
 have⟨i0,hi0,hz0,hz1,hz2⟩:=nB Qc;have v:n<=c/\c<=maxLen:=by rcases ho.2 with⟨d,_⟩|⟨J,cap,r,d,_,_,M,E,_⟩;cases d;grind
 have⟨hnc,hcm⟩:=v;have⟨news,HN⟩:=xm ((ij l).drop (j*11));have a:news.length=(n-j)*11:=by rw[HN.o,r8,np,C,Nat.sub_mul]
 have R:i<=c:=cw;have U:j<=c:=cw;have V:j<=n:=cw;have T:((i:Int)==(j:Int))=false:=by rw[lx];omega
 have mixed:prog.follows .mixedOrders=true:=cX;have G:(i:Int)<=(j:Int):=cw;have X:¬c=i+(n-j):=cw;obtain⟨A,G,x⟩:∃A:Addr,(if c=j then some (⟨g,0,none⟩:Addr) else some ⟨g,j*11,none⟩)=some A/\Hid (∀t u,news[t]?=some u->w.drew.cell? (A.add t)=some u):=by by_cases h:c=j;refine⟨⟨g,0,none⟩,by simp[h],λt u q=>?_⟩;grind;refine⟨⟨g,j*11,none⟩,by simp[h],λt u q=>?_⟩;rw[HN.o,getElem?_drop] at q;have B:=ho.cells (g:=g) ae _ u q;rw[Addr.add_lit] at B|-;rw[ou] at B;exact B
 have Y:Hid (news.length=(n-j)*11):=a;have Z:Hid (∀u∈news,u.oneCell'=true):=λu q=>by rw[HN.o] at q;exact Zj l u (mR q)
 have⟨m,f,hr,hm⟩:=zG ho;have G:Hid (∀t,t<news.length->(w.drew.cell? ⟨g,0+i*11+t,none⟩).isSome=true/\w.drew.frozen? ⟨g,0+i*11+t,none⟩=false):=by intro t I;rw[a] at I;rw[ou];exact mO hr (o:=i*11) (n:=(n-j)*11) cw t I
 have⟨W1,hW1⟩:=eW (w.drew.setCells g (0+i*11) news);have k:W1.ownsRow base 109 11 (.slice (s_ g 0) n c) n (BL (ij l) (i*11) news):=by rw[hW1,ou];exact rI news (i*11) (w:=w.drew) ho
 have s:iU g w W1:=by rw[hW1];exact(show iU g w w.drew from⟨ae,ae,ae,dK _,λ_ _ _=>ae⟩).trans (iU.setCells _ _ _ _)
 have Q:∀ty,(Builtin.clear_ #[97] ty #[.slice (s_ g ((i+(n-j))*11)) (n-(i+(n-j))) (c-(i+(n-j)))]).run prog W1=.ok (.tuple #[]) (W1.setCells g ((i+(n-j))*11) (ct 11 (gq mb)).toList):=λty=>by have⟨m',f',hr',hm'⟩:=zG k;rw[show n-(i+(n-j))=1 by omega];exact Nh W1 g _ _ ty (mO hr' cw)
 have O:Hid (W1=w.drew.setCells g (0+i*11) news):=hW1;have z:=cq k;have y:=cq s;have D:=cq H;clear k s hW1 hr hm a ho H;go_enter func129,ntmps129;go_wp2_with fail;go_region_law_o (refine step_append_room ae (.tmp 22) (.tmp 25) 97 ae 109 i0 11 underlying97 hi0 hz1 g 0 i c (by simp[Act.eval,Act.put]) A (n-j) (c-j) news (by simp[Act.eval,Act.put]) Y.o x.o Z.o cw G.o ?_;rw[<-O.o]);go_wp2;go_ret;have b:i+(n-j)=n-1:=by have:=D.o;omega
 have p:=rI (ct 11 (gq mb)).toList ((i+(n-j))*11) z.o;refine⟨by rw[<-b];rfl,?_,y.o.trans (iU.setCells _ _ _ _)⟩;rw[b] at p|-;have hc:=VO l C F (ct 11 (gq mb)).toList ae;rw[HN.o,D.o] at p;refine⟨by rw[np,length_eraseIdx,C,cL F],?_⟩;rcases p.2 with⟨d,_⟩|⟨J,cap,r,d,K,L,M,E,h6,N⟩;cases d;simp only[kM,xk,Addr.mk.injEq] at d;obtain⟨⟨rfl,-,-⟩,-,rfl⟩:=d;refine .inr ⟨g,c,r,ae,K,L,cw,E,h6,?_⟩;rw[<-hc,<-N,take_take,show min ((n-1)*11) (n*11)=(n-1)*11 by omega]
end
section
variable {ty2:dC}
theorem Lk(S:St w0 d l L O X w)(k s:Nat){r b:R4}{p f q:Tmp}(i:L[k]?=some r)(c:L[s]?=some b)(h:fn.results=#[.cell p ty,.cell f ty2,.tmp q])(v:a.tmps.getD p undef=.pointer (some ⟨r.b,0,none⟩))(m:a.tmps.getD f undef=.pointer (some ⟨b.b,0,none⟩))(n:jF P ty r.n)(e:jF P ty2 b.n)(u:a.defers=[])(t:R (.returned (.tuple #[.agg (ct r.n r.f),.agg (ct b.n b.f),a.tmps.getD q undef])) w):bodyPost P fn R .ret a w:=by
 have⟨⟨dd,h1,h2⟩,h3⟩:=n;have⟨⟨de,i1,i2⟩,i3⟩:=e;have j:a.tmps[p]?.getD undef=cZ r.b 0:=by simp_all
 have g:a.tmps[f]?.getD undef=cZ b.b 0:=by simp_all
 have x:=G8 (P:=P) w r.b r.t ty (ct r.n r.f) (0,0) dd (S.oh i) h1 iG aD;have o:=G8 (P:=P) w b.b b.t ty2 (ct b.n b.f) (0,0) de (S.oh c) i1 iG aD;simp_all[gE,results,asAddr]
def St.erased(S:St w0 d l L O X w){c a:Nat}{b:List dg}(h:O[j]?=some ⟨109,11,.slice (some ⟨g,0,none⟩) n c,n,ij m⟩)(e:w'.ownsRow w0.heap.size 109 11 (.slice (some ⟨g,0,none⟩) a c) a (ij b))(f:iU g w w'):
 St w0 d l L (O.set j ⟨109,11,.slice (some ⟨g,0,none⟩) a c,a,ij b⟩) X w':=
 S.grow h (tj f) e ae ax
end
theorem Cb(s:List cR)(cC:fh):(∃c:Int,(c !=0)=true/\nt s cC=(none,c))∨∃i,jB s cC=some i/\nt s cC=(some i,0):=by unfold nt;split;grind;split<;>grind
theorem zJ(R:gV w b)(h:0<b.l.length):∃a c,b.dO=some ⟨a,c,none⟩:=by obtain⟨_,_,d,_,e⟩:=du R.1;grind[dD.sv]
theorem gV.cE(R:gV w b){a c:Nat}(h:b.dO=some ⟨a,c,none⟩):fE w (.slice (some ⟨a,c,none⟩) b.l.length b.cap) b.l:=by grind[gV,dD.sv]
theorem tq(R:tp w base c)(h:0<c.l.length):∃g,c.dO=some ⟨g,0,none⟩:=by have⟨g,c',e⟩:=BW R.1 h;grind[dD.sv]
def eX(b:dS)(cC:fh):dS×cR×Int:=
 match nt b.cE cC with
 |(none,c)=>(b,nC,c)
 |(some i,_)=>if 0<(sJ b.cE (di b.cE i).id).1.length then(b,nC,173) else(⟨b.next,b.cE.eraseIdx i⟩,di b.cE i,0)
theorem Ox(l:List dg)(i:Nat):dJ (l.eraseIdx i)=(dJ l).eraseIdx i:=by grind[dJ,eraseIdx_eq_take_drop_succ,map_take,map_drop]
section
attribute[local irreducible]wpList Code.wp Calls Oper.wp wpAnyH
def JJ(b:dD)(A:fJ)(L:A=ct 2 (dk b))(q:xZ b.t)(cC:fh)(Y:cC.size<=140737488355328)(w:cB)(R:gV w b):
 CP_ 64 #[.agg A,.string cC] w λe w'=>∃B D,e=.returned (.tuple #[.agg B,.agg D,.int .i64 (eX b.t cC).2.2])/\kT w' w.heap.size B (eX b.t cC).1/\xY w' w.heap.size D (eX b.t cC).2.1/\dz w w':=by
 have HA:=cq L;have J:=cq R;have s:=cq λW(a:dz w W)=>Hm b A L q cC Y W (J.o.cx a);have C2:=cq λid W(a:dz w W)=>Ow b.l b.sv id q.len W (J.o.cx a);have C9:=cq λW(a:dz w W)=>pA b A L q W (J.o.cx a);have hd:qe b.l:=q.2;have a2:=q.len;have S:=pF w;clear L q;have⟨T,HT⟩:=q8 (eX b.t cC);rw[HT.o];go_enter func64,ntmps64;rcases Cb b.t.cE cC with⟨cd,hc,d⟩|⟨i,hn,d⟩;obtain rfl:(b.t,nC,cd)=T:=by rw[<-HT.o];unfold eX;rw[d]
 rw[d] at s;clear d;rotate_left;have⟨x,hx⟩:=uB hn;have z:=(mQ.1 hx).1;have a1:(i:Int)<(b.l.length:Int):=cw;have hg:di b.t.cE i=x.tocR:=kF hx;have⟨bb,oo,hbo⟩:=zJ R cw;have R9:=R.cE hbo;have Q:=cq R9;have HX:=cq (R9.at hx);have t:=cq hx;have l:Hid (dk b 1=.slice (some ⟨bb,oo,none⟩) b.l.length b.cap):=cq bO;have M:=cq (C2.o x.id);rw[show b.sv=.slice (s_ bb oo) b.l.length b.cap by unfold dD.sv;rw[hbo]] at M;have⟨ch,hch⟩:=c8 ((sJ (dJ b.l) x.id).1);rw[hch] at M;have k:T=if 0<ch.length then(b.t,nC,173) else(⟨b.next,(dJ b.l).eraseIdx i⟩,x.tocR,0):=by rw[<-HT.o,<-hch];unfold eX;rw[d];simp only[hg];rfl
 have f:=cq k;rw[d] at s;simp only[kE] at s;clear d hn hg hx hbo hch k;go_upto_region 4 with(first|refine je S (s.o _ S.b) λW S=>?_|refine eR ?_|refine ey λW S=>?_);refine dL S cX λW S=>?_;refine cJ 0 (cZ w.heap.size 1) ?_;refine fW 1 (.slice (s_ bb oo) b.l.length b.cap) ae (sh S 2 (λ_ h=>h) ae 1 l.o pR ae rk) ?_;refine cJ 2 (cZ w.heap.size 1) ?_;refine fW 3 (.slice (s_ bb oo) b.l.length b.cap) ae (sh S 2 (λ_ h=>h) ae 1 l.o pR ae rk) ?_;refine cJ 4 _ ?_;refine cJ 5 (cZ bb (oo+i*11)) ?_;refine cJ 6 (cZ bb (oo+i*11)) ?_;refine fW 7 (.int .u64 x.id) ae (fR (λw h=>by obtain⟨_,S⟩:=h;exact(HX.o.cx S.b).c0) ae fg) ?_;refine jQ 8 λK o=>?_;go_wp2_with fail;refine ag (M.o _ S.b) λr W⟨ho,a⟩=>?_;obtain⟨ra,rc,rfl⟩:=cS ho;replace S:=S.cx a;clear a;refine fC o ?_;refine cJ 9 (.int .i64 ch.length) ?_;refine cJ 10 (.bool (decide (0<(ch.length:Int)))) ?_;refine pz ?_;by_cases U:0<ch.length;obtain rfl:T=(b.t,nC,173):=by rw[f.o,cL U]
 have h1:(0:Int)<(ch.length:Int):=cw;rotate_left
 . (obtain rfl:T=(⟨b.next,(dJ b.l).eraseIdx i⟩,x.tocR,0):=by rw[f.o,cM U]);(have h1:¬(0:Int)<(ch.length:Int):=cw;have w1:IntKind.i64.wrap ((i:Int)+1)=((i+1:Nat):Int):=by rw[j0 _ cw];omega);have⟨E,hE⟩:=eW (ct 11 (gq x));have I:=(mQ.1 t.o).2;have H:=cq (mu b.l z (A:=E) (by rw[I];exact hE));have Z:=kt t.o;have CC:=cq λW(a:dz w W)=>oZ x E hE (hd.at Z).1 W ((J.o.cx a).2 x Z);have HE:=cq hE;clear hE I Z U;go_upto_region 8 with(first|(refine ag (C9.o _ S.b) λB W5⟨⟨⟨cn,m,ca,p⟩,hB,hc,ho⟩,a⟩=>?_;have⟨hcn,hcs⟩:=dS.mk.inj hc;simp only at hcn hcs;subst hcn;have F:m.length=b.l.length:=(by have V:=fK length hcs;rwa [gj,gj] at V);obtain⟨g,u⟩:=tq ho akh;simp only at u;subst u;have n:=cq F;have HB:=cq hB;have HM:=cq hcs;have N:=cq (S.fresh ho);replace S:=S.jv a ho;clear F;change St _ _ _ _ (⟨109,11,.slice (s_ g 0) m.length p,m.length,ij m⟩::_) _ _ at S;clear a hB hc hcs)|(refine ah (Ca m g p m.length i (i+1) w.heap.size ae akA ae _ S.o0) λW6⟨ho,a⟩=>?_;replace S:=S.erased (j:=0) ae ho a;clear a)|(refine vU S 0 ae 1 (dk ⟨b.next,m.eraseIdx i,s_ g 0,p⟩) (λj hj=>by have hj:j<2:=hj;rcases j with(_|_|j);rfl;show Value.slice _ (m.eraseIdx i).length _=_;rw[length_eraseIdx,cL akA];rfl;omega) pR ae ae ae rk λW S=>?_;have⟨G,HG⟩:=xm (ct 2 (dk ⟨b.next,m.eraseIdx i,s_ g 0,p⟩)))|refine eR ?_|refine ey λW S=>?_);refine dN S cX [⟨W5.heap.size,99,2,dk ⟨b.next,m.eraseIdx i,s_ g 0,p⟩⟩,⟨w.heap.size,99,2,dk b⟩] Be λW S=>?_;refine fW 0 (.agg G) ae (pZ aF ae HG.o mP) ?_;refine cJ 1 (cZ w.heap.size 1) ?_;refine fW 2 (.slice (s_ bb oo) b.l.length b.cap) ae (fR (λw h=>by rw[cu.cell (h.row 1 ae) (i:=1) pR];exact fK some l.o) ae rk) ?_;refine cJ 3 _ ?_;refine cJ 4 (cZ bb (oo+i*11)) ?_;refine fW 5 (.agg E) ae (ySl (λw h=>(Q.o.cx h.fr.cx).1) z ae (tL HE) H.o tf) ?_;refine jQ 6 λK o=>?_;go_wp2_with fail;(refine(CC.o _ S.b).mono ?_;rintro e W ⟨D,y,rfl,hD,X,a⟩;have HD:=cq hD;have HY:=cq (And.intro X.1 gI);replace S:=S.gm a X.2 ae ae;clear a hD X;refine fC o ?_;refine jQ 7 λK o=>?_;refine ju S 2 ae ae ae HG.o mP (eY _) λW S=>?_;refine fC o ?_;refine jQ 8 λK o=>?_;refine ju S 1 ae ae ae HD.o tf (lM _) λW S=>?_;refine fC o ?_;refine cJ 9 _ ?_;refine pz ?_;have C:(m.eraseIdx i).length=m.length-1:=by rw[length_eraseIdx,cL akA]);have O:=cq C;clear C;go_wp2_with (refine Lk S 2 1 ae ae ae ae ae mP tf ae ?_;exact⟨_,_,ae,⟨⟨b.next,m.eraseIdx i,s_ g 0,p⟩,ae,by unfold dD.t;rw[Ox,HM.o],⟨by have V:=S.o1;unfold dD.sv;rw[O.o];exact V,λv d=>⟨(S.x.2 v (BB d)).1,N.o v (BB d)⟩⟩⟩,⟨y,ae,HY.o.1,S.o0⟩,S.b⟩)
 all_goals
  go_wp2_with first|refine je S (s.o _ S.b) λW S=>?_|refine zI S (C9.o _ S.b) λW B c HB HC N S=>?_|refine eR ?_|refine ey λW S=>?_|(refine Lk S 1 0 ae ae ae ae ae mP tf ae ?_;exact⟨_,_,ae,⟨c,ae,HC.o,S.iF N.o⟩,qX _ _,S.b⟩)
end
section
variable {x:Nat}
def fu(S:St w0 d l L O X w)(c:∀w,(zeroValue ty).run P w=.ok (.agg Z) w)(b:Z=ct n f)(ho:fT ty=false)(h:∀E W,St w0 d l (⟨E,ty,n,f⟩::L) O X W->K (a.put (some dst) (.pointer (some ⟨E,0,none⟩))) W):Oper.wp P ⟨some dst,.alloc ty,t2,p,af,none⟩ a w K Q:=
 FD S c b ho λW hS=>h _ W hS
theorem ach(S:St w0 d l L O X w)(j:Nat)(b:O[j]?=some o){c:Nat}(t:o.v=.slice (some ⟨g,0,none⟩) o.n c)(i:Nat)(G:i+z<=o.n*o.z)(D:a.eval (.tmp x)=.pointer (some ⟨g,i,none⟩))(E:a.eval (.tmp y)=.agg A)(B:A=ct z f)(s:jF P ty z)(F:∀i,(f i).oneCell'=true)(h:∀W,St w0 d l L (O.set j ⟨o.e,o.z,o.v,o.n,BL o.xs i (ct z f).toList⟩) X W->K (a.put none undef) W):Oper.wp P ⟨none,.store ty (.tmp x) (.tmp y),t2,p,af,none⟩ a w K Q:=by
 subst B;have k:=S.s8 b;rw[t] at k;have⟨m,f',hr,hm⟩:=zG k;have e:=mO hr (o:=i) (n:=z) cw;have r:(ct z f).toList.length=z:=by grind[cF]
 have C:=KU (P:=P) g i (ct z f).toList 0 w (λj b=>by rw[r] at b;simpa using(e j b).1) (λj b=>by rw[r] at b;simpa using(e j b).2) (λu J=>by
  grind[nu,Array.all_eq_true_iff_forall_mem])
 have v:(storeVar ty ⟨g,i,none⟩ (.agg (ct z f))).run P w=.ok () (w.setCells g i (ct z f).toList):=by cases H:P.info? ty with|none=>have:=s.2;grind|some it=>(have I:it.size=z:=by have:=s.2;grind);have hc:(Value.agg (ct z f)).cells=ct z f:=rfl;simp_all[storeVar,sizeOf,typeInfo]
 unfold Oper.wp execOp;simp only[D,E,Instr.storeAt,Instr.sureAddr,kj,qq,mS,v];have q:o.v.ownBlock=some g:=by rw[t];rfl
 exact h _ (S.grow b (by grind[tj,iU.setCells]) (by grind[rI]) q (.inl q))
end
theorem Oy(c:k<m.length){x:dg}(f:m[k]=x)(q:cy)(y:dg)(h:∀i,i<11->gq y i=if 7<=i/\i<10 then c7 q (i-7) else gq x i):BL (ij m) (k*11+7) (ct 3 (c7 q)).toList=ij (m.set k y):=by refine Le zF m c y (by rw[yz,np]) (λi b=>?_) λi r d g=>?_;unfold SN;rw[mj (xs:=ct 11 _),cU,cL b,h i b,xD _ _ _ _ bZ,mq,cF];by_cases a:7<=i/\i<10;rw[cL cw,cL a,mj (xs:=ct 3 _),cU,cL cw,show k*11+i-(k*11+7)=i-7 by omega];rw[cM cw,cM a,mu m c (A:=ct 11 (gq x)) (by rw[f]) i b,cU,cL b];rw[xD _ _ _ _ bZ,mq,cF,cM (λe=>?_)];rfl;omega
def cu.setAt{b:Nat}{x:dg}(h:cu w b 109 11 (gq x)):my w b 0 x:=λk a=>by rw[ou];exact cu.cell h a
def kV(b:dS)(cC:fh):dS×cR×Int:=
 match nt b.cE cC with
 |(none,c)=>(b,nC,c)
 |(some i,_)=>match eu b.cE (di b.cE i).cT with
  |none=>(b,nC,174)
  |some j=>(⟨b.next,b.cE.set i {di b.cE i with cz:=(di b.cE j).cz,cO:=[]}⟩,di b.cE i,0)
section
attribute[local irreducible]wpList Code.wp Calls Oper.wp wpAnyH
def Qh (b:dD)(A:fJ)(hA:A=ct 2 (dk b))(hf:xZ b.t)(cC:fh)(hfu:cC.size<=140737488355328)(w:cB)(R:gV w b):
 CP_ 101 #[.agg A,.string cC] w λe w'=>∃B D,e=.returned (.tuple #[.agg B,.agg D,.int .i64 (kV b.t cC).2.2])/\kT w' w.heap.size B (kV b.t cC).1/\xY w' w.heap.size D (kV b.t cC).2.1/\dz w w':=by
 have HA:=cq hA;have HR:=cq R;have C1:=cq λW (hb:dz w W)=>Hm b A hA hf cC hfu W (HR.o.cx hb);have C2:=cq λid W (hb:dz w W)=>I1 b.l b.sv id hf.len hf.2 W (HR.o.cx hb);have C9:=cq λW (hb:dz w W)=>pA b A hA hf W (HR.o.cx hb);have hd:qe b.l:=hf.2;have hlen:=hf.len;have S:=pF w;clear hA hf;obtain⟨T,hT⟩:=c8 (kV b.t cC);have HT:=cq hT;rw[hT];clear hT;go_enter func101,ntmps101;rcases Cb b.t.cE cC with⟨cd,hc,hv⟩ | ⟨i,hn,hv⟩
 . obtain rfl: (b.t,nC,cd)=T:=by rw[<-HT.o];unfold kV;rw[hv]
   rw[hv] at C1;clear hv
   go_wp2_with (first|(refine je S (C1.o _ S.b) λW S=>?_)|(refine zI S (C9.o _ S.b) λW B c HB HC HF S=>?_)|(refine Lk S 1 0 rfl rfl rfl rfl rfl mP tf rfl ?_;exact⟨_,_,rfl,⟨c,rfl,HC.o,S.iF HF.o⟩,qX _ _,S.b⟩)|refine eR ?_|refine ey λW S=>?_)
 . obtain⟨x,hx⟩:=uB hn;have hil:=(mQ.1 hx).1;have hil2: (i:Int)< (b.l.length:Int):=cw;have hg:di b.t.cE i=x.tocR:=kF hx;obtain⟨bb,oo,hbo⟩:=zJ R cw;have R9:=R.cE hbo;have HR9:=cq R9;have HX:=cq (R9.at hx);have HXI:=cq hx;have HBV:Hid (dk b 1=.slice (some ⟨bb,oo,none⟩) b.l.length b.cap):=cq (by rw[<-hbo];rfl);have C3:=cq (C2.o x.cT);rw[show b.sv=.slice (s_ bb oo) b.l.length b.cap by unfold dD.sv;rw[hbo]] at C3;obtain⟨pn,hpn⟩:=c8 (eu (dJ b.l) x.cT);rw[hpn] at C3;obtain⟨pb,hpb⟩:=c8 pn.isSome;rw[hpb] at C3;have HPB:=cq hpb;have hres:T=pn.elim (b.t,nC,174) λj=>(⟨b.next,(dJ b.l).set i {x.tocR with cz:=(di (dJ b.l) j).cz,cO:=[]}⟩,x.tocR,0):=by
    rw[<-HT.o,<-hpn];unfold kV;rw[hv];simp only[hg];rw[show b.t.cE=dJ b.l from rfl];cases eu (dJ b.l) x.cT <;> rfl
   have HRES:=cq hres;rw[hv] at C1;simp only[kE] at C1;clear hv hn hg hx hbo hpn hres hpb;obtain⟨E,hE⟩:=eW (ct 11 (gq x));have hxx:b.l[i]'hil=x:=(mQ.1 HXI.o).2;have hsub:=cq (mu b.l hil (A:=E) (by rw[hxx];exact hE));have hm:=kt HXI.o;have CC:=cq λW (hb:dz w W)=>oZ x E hE (hd.at hm).1 W ((HR.o.cx hb).2 x hm);have HE:=cq hE;have HXX:=cq hxx;clear hE hxx hm
   go_upto_region 4 with(first|(refine je S (C1.o _ S.b) λW4 S=>?_)|refine eR ?_|refine ey λW S=>?_)
   refine dN S cX [⟨w.heap.size,99,2,dk b⟩] Be λW S=>?_;refine cJ 0 (cZ w.heap.size 1) ?_;refine fW 1 (.slice (s_ bb oo) b.l.length b.cap) rfl (fR (λw h=>by rw[cu.cell (h.row 0 rfl) (i:=1) pR];exact fK some HBV.o) rfl rk) ?_;refine cJ 2 (cZ w.heap.size 1) ?_;refine fW 3 (.slice (s_ bb oo) b.l.length b.cap) rfl (fR (λw h=>by rw[cu.cell (h.row 0 rfl) (i:=1) pR];exact fK some HBV.o) rfl rk) ?_;refine cJ 4 _ ?_;refine cJ 5 (cZ bb (oo+i*11)) ?_;refine cJ 6 (cZ bb (oo+i*11+4)) ?_;refine fW 7 (.int .u64 x.cT) rfl (fR (λw h=>(HX.o.cx h.fr.cx).c4) rfl fg) ?_
   repeat' first|refine Rp ?_|refine mi 9 _ ?_|refine mi 10 (.agg B) ?_|refine mi 11 (.bool pb) ?_|refine mi 14 _ ?_|refine zX 8 12 (λK hK=>?_) λK hK=>?_|refine oJ 8 λK hK=>?_|refine oJ 13 λK hK=>?_|refine oJ 12 λK hK=>?_|(refine fu S wx oB rfl λE9 W S=>?_;refine fC hK ?_;clear hK K)|(go_wp2_with fail;refine(C3.o _ S.b).mono ?_;rintro e W6 ⟨B,rfl,⟨pv,hB,hpv,hpo⟩,hb⟩;have HB:=cq hB;have HPV:=cq hpv;replace S:=S.cx hb;clear hb hB hpv hpo;refine fC hK ?_;clear hK K)|(refine ju S 0 rfl rfl rfl HB.o tf (lM _) λW S=>?_;refine fC hK ?_;clear hK K)
   all_goals (
    refine cq ?_;cases pb with
    | false=>
     obtain rfl:T=(b.t,nC,174):=by
      have h9:=HRES.o;cases pn with
      | none=>exact h9
      | some j=>exact absurd HPB.o dU
     go_wp2_with (first|(refine zI S (C9.o _ S.b) λW B c HB HC HF S=>?_)|(refine Lk S 2 1 rfl rfl rfl rfl rfl mP tf rfl ?_;exact⟨_,_,rfl,⟨c,rfl,HC.o,S.iF HF.o⟩,qX _ _,S.b⟩)|refine eR ?_|refine ey λW S=>?_)
    | true=>
     obtain⟨j,rfl⟩: ∃j,pn=some j:=by
      cases pn with
      | none=>exact absurd HPB.o dU
      | some j=>exact⟨j,rfl⟩
     obtain rfl:T=(⟨b.next,(dJ b.l).set i {x.tocR with cz:=(di (dJ b.l) j).cz,cO:=[]}⟩,x.tocR,0):=HRES.o;obtain⟨rt,hrt⟩:=c8 pv.cz;have HRT:=cq hrt;have HR2:Hid ((di (dJ b.l) j).cz=rt):=cq (by rw[<-hrt];exact(fK cR.cz HPV.o).symm);obtain⟨G,hG⟩:=eW (ct 3 (c7 pv.cz));have HG:=cq hG;have HG2:Hid (G=ct 3 (c7 rt)):=cq (by rw[hG,hrt]);clear hrt hG
     go_upto_region 8 with(first|(refine(C9.o _ S.b).mono ?_;rintro e W5 ⟨B3,rfl,⟨⟨cn,m,ca,cc⟩,hB,hc,ho⟩,hb⟩;obtain⟨hcn,hcs⟩:=dS.mk.inj hc;simp only at hcn hcs;subst hcn;have hml:m.length=b.l.length:=(by have h9:=fK length hcs;rwa [gj,gj] at h9);obtain⟨g,hca⟩:=tq ho (by show 0<m.length;omega);simp only at hca;subst hca;have HML:=cq hml;have HB3:=cq hB;have HM:=cq hcs;have HF:=cq (S.fresh ho);replace S:=S.jv hb ho;clear hml;change St _ _ _ _ (⟨109,11,.slice (s_ g 0) m.length cc,m.length,ij m⟩::_) _ _ at S;clear hb hB hc ho hcs)|refine eR ?_|refine ey λW S=>?_)
     have him: (i:Int)< (m.length:Int):=by have:=HML.o;omega
     have him2:i<m.length:=cw;refine dN S cX [⟨W5.heap.size,99,2,dk ⟨b.next,m,s_ g 0,cc⟩⟩,⟨E9,109,11,gq pv⟩] Be λW S=>?_;refine cJ 0 (cZ W5.heap.size 1) ?_;refine cJ 1 (.slice (s_ g 0) m.length cc) ?_;refine cJ 2 _ ?_;refine cJ 3 (cZ W5.heap.size 1) ?_;refine cJ 4 (.slice (s_ g 0) m.length cc) ?_;refine cJ 5 _ ?_;refine cJ 6 (cZ E9 7) ?_;refine fW 7 (.agg G) rfl (SW (λw h=>(h.row 1 rfl).setAt) rfl HG.o) ?_;refine cJ 8 (cZ g (i*11)) ?_;refine cJ 9 (cZ g (i*11+7)) ?_;refine jQ 10 λK hK=>?_;refine ach S 0 rfl rfl (i*11+7) (z:=3) (by show i*11+7+3<=m.length*11;omega) rfl rfl HG2.o eN (df _) λW S=>?_;refine fC hK ?_;clear hK K;refine cJ 11 (cZ g (i*11)) ?_;refine cJ 12 (cZ g (i*11+10)) ?_;refine jQ 13 λK hK=>?_;refine Lj S 0 rfl rfl (i*11+10) (v:=.slice none 0 0) (by show i*11+10<m.length*11;omega) rfl rfl rfl nk λW S=>?_;refine fC hK ?_;clear hK K;refine pz ?_;obtain⟨z,hz⟩:=c8 (m[i]);have hzx:z.tocR=x.tocR:=by
      have h9: (dJ m)[i]? =(dJ b.l)[i]?:=by rw[HM.o]
      rw[l9,l9,iz him2,hz,iz hil,HXX.o] at h9;exact ve h9
     obtain⟨y1,hy1⟩: ∃y1:dg,y1=⟨⟨z.id,z.name,z.cW,z.cG,z.cT,z.cA,z.blocks,rt,z.cO⟩,z.dO,z.cap⟩:=⟨_,rfl⟩;obtain⟨y2,hy2⟩: ∃y2:dg,y2=⟨⟨z.id,z.name,z.cW,z.cG,z.cT,z.cA,z.blocks,rt,[]⟩,none,0⟩:=⟨_,rfl⟩;have hput: (BL (ij m) (i*11+7) (ct 3 (c7 rt)).toList).set (i*11+10) (.slice none 0 0)=ij (m.set i y2):=by
      rw[Oy him2 hz rt y1 (λj hj=>by rw[hy1];rcases j with(_|_|_|_|_|_|_|_|_|_|_|j) <;> first | rfl),
       uC (x:=y1) (by rw[wu];exact him2) (by rw[getElem_set_self]) 10 cw _ y2 (λj hj=>by rw[hy1,hy2];rcases j with(_|_|_|_|_|_|_|_|_|_|_|j) <;> first | rfl | omega),set_set]
     have hB4:B3=ct 2 (dk ⟨b.next,m.set i y2,s_ g 0,cc⟩):=by rw[HB3.o];unfold dk dD.sv;simp only[wu]
     have hT1:dJ (m.set i y2)=(dJ b.l).set i {x.tocR with cz:=(di (dJ b.l) j).cz,cO:=[]}:=by
      obtain⟨f1,f2,f3,f4,f5,f6,f7,f8,-⟩:=Ho hzx;rw[HR2.o,<-HM.o];unfold dJ;rw[map_set];congr 1;rw[hy2,f1,f2,f3,f4,f5,f6,f7]
     have HFR:=cq (show ∀v∈m.set i y2,qg w.heap.size v from λv hv=>by
      rcases wq hv with h | h
      . exact HF.o v h
      . rw[h,hy2];exact λhn=>absurd hn (tP _))
     have HDL:=cq (show ∀v∈m.set i y2,v∈m∨v=y2 from λv hv=>wq hv);have HPUT:=cq hput;have HB4:=cq hB4;have HT1:=cq hT1;have HY2:=cq hy2;clear hput hB4 hT1 hy1 hy2 hzx hz
     go_upto_region 9 with(fail)
     refine dN S cX [⟨W5.heap.size,99,2,dk ⟨b.next,m,s_ g 0,cc⟩⟩,⟨w.heap.size,99,2,dk b⟩] Be λW S=>?_;refine fW 0 (.agg B3) rfl (pZ (λw h=>h.row 0 rfl) rfl HB3.o mP) ?_;refine cJ 1 (cZ w.heap.size 1) ?_;refine fW 2 (.slice (s_ bb oo) b.l.length b.cap) rfl (fR (λw h=>by rw[cu.cell (h.row 1 rfl) (i:=1) pR];exact fK some HBV.o) rfl rk) ?_;refine cJ 3 _ ?_;refine cJ 4 (cZ bb (oo+i*11)) ?_;refine fW 5 (.agg E) rfl (ySl (λw h=>(HR9.o.cx h.fr.cx).1) hil rfl (tL HE) hsub.o tf) ?_;refine jQ 6 λK hK=>?_
     go_wp2_with fail
     refine(CC.o _ S.b).mono ?_;rintro e W ⟨D,y,rfl,hD,hY,hb⟩;have HD:=cq hD;have HY:=cq (And.intro hY.1 gI);replace S:=S.gm hb hY.2 rfl rfl;clear hb hD hY;refine fC hK ?_;clear hK K;refine jQ 7 λK hK=>?_;refine ju S 3 rfl rfl rfl HB4.o mP (eY _) λW S=>?_;refine fC hK ?_;clear hK K;refine jQ 8 λK hK=>?_;refine ju S 2 rfl rfl rfl HD.o tf (lM _) λW S=>?_;refine fC hK ?_;clear hK K;refine cJ 9 _ ?_;refine pz ?_
     go_wp2_with (refine Lk S 3 2 rfl rfl rfl rfl rfl mP tf rfl ?_;exact⟨_,_,rfl,⟨_,rfl,by unfold dD.t;rw[HT1.o],by have h9:=S.o1;simp only at h9;rw[HPUT.o] at h9;exact⟨by unfold dD.sv;rw[wu];exact h9,λv hv=>⟨by rcases HDL.o v hv with h | h;exact(S.x.2 v h).1;rw[h];exact FT _ _ (by rw[HY2.o]) (by rw[HY2.o]) (by rw[HY2.o]),HFR.o v hv⟩⟩⟩,⟨y,rfl,HY.o.1,S.o0⟩,S.b⟩)
   )
end
def uD(a:Nat):List cy->List cy×List cy->Option (List cy×List cy)
 | [],s=>some s
 |q::l,s=>if a<q.2.1 then uD a l (s.1,s.2++[q]) else match qd s.1 q with
  |none=>none
  |some m=>if 4000<m.length then none else uD a l (m,s.2)
theorem Cc(a:Nat)(q:cy)(l:List cy)(s:List cy×List cy):uD a (q::l) s=if a<q.2.1 then uD a l (s.1,s.2++[q]) else match qd s.1 q with|none=>none|some m=>if 4000<m.length then none else uD a l (m,s.2):=rfl
def kf(b:dS)(id:Nat)(l:List cy):dS×List cy×Int:=
 match eu b.cE id with
 |none=>(b,[],172)
 |some i=>match uD (eM b.cE id) l ((di b.cE i).cO,[]) with
  |none=>(b,[],131)
  |some (d,g)=>(⟨b.next,b.cE.set i {di b.cE i with cO:=d}⟩,g,0)
section
theorem x5{base:Nat}{e:dC}{z g n cap:Nat}{xs:List cI}(h:w.ownsRow base e z (.slice (some ⟨g,0,none⟩) n cap) n xs){j:Nat}{v:cI}(a:xs[j]?=some v):w.cell? ⟨g,j,none⟩=some v:=by have:=h.cells (g:=g) ae j v a;grind[Addr.add]
def aeR(m:List dg){x:dg}(c:m[i]?=some x)(a:k<11):(ij m)[i*11+k]?=some (gq x k):=by obtain⟨b,rfl⟩:=mQ.1 c;rw[mu m b ae k a,cU,cL a]
end
section
attribute[local irreducible]wpList Code.wp Calls Oper.wp wpAnyH
def Qi (b:dD)(A:fJ)(hA:A=ct 2 (dk b))(hf:xZ b.t)(id:Nat)(l:List cy)(v:cI)(hl:l.length<=1000000)(w:cB)(R:gV w b)(RL:ko w v l):
 CP_ 144 #[.agg A,.int .u64 id,v] w λe w'=>∃B r,e=.returned (.tuple #[.agg B,r,.int .i64 (kf b.t id l).2.2])/\kT w' w.heap.size B (kf b.t id l).1/\gg w' w.heap.size r (kf b.t id l).2.1/\dz w w':=by
 have HA:=cq hA;have HR:=cq R;obtain⟨la,lc,rfl,hlc,hla⟩:=du RL;have RL:=cq RL;have hla:=cq hla;have C1:=cq λW (hb:dz w W)=>uX b.l b.sv id hf.len W (HR.o.cx hb);have C2:=cq λW (hb:dz w W)=>Dg b.l b.sv id hf.len W (HR.o.cx hb);have C9:=cq λW (hb:dz w W)=>pA b A hA hf W (HR.o.cx hb);have hd:qe b.l:=hf.2;have hlen:=hf.len;have S:=pF w;clear hA hf;obtain⟨T,HT⟩:=q8 (kf b.t id l);rw[HT.o];go_enter func144,ntmps144;cases hp:eu (dJ b.l) id with
 | none=>
  obtain rfl: (b.t,[],172)=T:=by rw[<-HT.o];unfold kf;rw[show b.t.cE=dJ b.l from rfl,hp]
  rw[hp] at C1;simp only[kE] at C1;clear hp
  go_wp2_with (first|(first|refine jl 18 97 17 S 1 1 (b.sv) ?_|refine jr 23 99 3 S 1 HA.o ?_)|(first|refine jx 3 99 0 S HA.o λW S=>?_|refine jb 6 99 S rl mZ λW S=>?_|refine js 99 6 24 S 0 HB.o (eY _) λW S=>?_)|(refine je S (C1.o _ S.b) λW S=>?_)|(refine zI S (C9.o _ S.b) λW B c HB HC HF S=>?_)|((with_reducible refine rA ?_);go_must (refine FB S 0 rfl rfl rfl mP rfl ?_;exact⟨_,_,rfl,⟨c,rfl,HC.o,S.iF HF.o⟩,gg.nil _ _,S.b⟩)))
 | some i=>
  obtain⟨hil,x,hx,-⟩:=jU hp;have hi0: ¬((i:Int)<0):=cw;have hg:di b.t.cE i=x.tocR:=kF hx;obtain⟨fl,hfl⟩:=c8 (eM (dJ b.l) id);obtain⟨KT,HKT⟩:=q8 (uD fl l (x.cO,[]));have hres:T=KT.elim (b.t,[],131) λs=>(⟨b.next,(dJ b.l).set i {x.tocR with cO:=s.1}⟩,s.2,0):=by
   rw[<-HT.o,<-HKT.o,<-hfl];unfold kf;rw[show b.t.cE=dJ b.l from rfl,hp];simp only[show di (dJ b.l) i=x.tocR from hg];cases uD (eM (dJ b.l) id) l (x.cO,[]) <;> rfl
  have HRES:=cq hres;have hxx:b.l[i]'hil=x:=(mQ.1 hx).2;have hdx:=(hd.at (kt hx)).1;have HXX:=cq hxx;rw[hp] at C1;rw[hfl] at C2;simp only[kE] at C1;clear hp hg hfl hres hx hxx
  go_upto_region 8 with(first|(first|refine jl 18 97 17 S 1 1 (b.sv) ?_|refine jl 26 97 25 S 1 1 (b.sv) ?_|refine jr 29 99 3 S 1 HA.o ?_)|(first|refine jb 6 99 S rl mZ λW S=>?_|refine jb 11 99 S rl mZ λW S=>?_|refine js 99 11 30 S 0 HB3.o (eY _) λW S=>?_)|(refine xN S rfl HA.o rfl λW2 S=>?_)|(refine je S (C1.o _ S.b) λW S=>?_)|(refine je S (C2.o _ S.b) λW S=>?_)|(refine(C9.o _ S.b).mono ?_;rintro e W5 ⟨B3,rfl,⟨⟨cn,m0,ca,cc⟩,hB,hc,ho⟩,hb⟩;obtain⟨hcn,hcs⟩:=dS.mk.inj hc;simp only at hcn hcs;subst hcn;have hml:m0.length=b.l.length:=(by have h9:=fK length hcs;rwa [gj,gj] at h9);obtain⟨g,hca⟩:=tq ho (by show 0<m0.length;omega);simp only at hca;subst hca;have HML:=cq hml;have HB3:=cq hB;have HM:=cq hcs;have HF:=cq (S.fresh ho);replace S:=S.jv hb ho;clear hml;change St _ _ _ _ (⟨109,11,.slice (s_ g 0) m0.length cc,m0.length,ij m0⟩::_) _ _ at S;clear hb hB hc hcs))
  have S:=cq (S.Hi 106 3 rfl rfl);have him:i<m0.length:=by have:=HML.o;omega
  have hbx: (dJ b.l)[i]'(by rw[gj];exact hil)=x.tocR:=by unfold dJ;rw[getElem_map,HXX.o]
  go_loopw [12,33] (λgv kv wr=>∃(k:Nat) (dd gn:List cy) (m:List dg) (ga:Option Addr) (gc:Nat),k<=l.length/\kv=.int .i64 k/\gv=.slice ga gn.length gc/\dd.length<=1000000/\gn.length<=k/\Hid (uD fl (l.drop k) (dd,gn)=KT/\m.length=m0.length/\dJ m=(dJ b.l).set i {x.tocR with cO:=dd}/\(∀v∈m,qg w.heap.size v)/\
   St w none [] [⟨W5.heap.size,99,2,dk ⟨b.next,m0,s_ g 0,cc⟩⟩,⟨W2.heap.size,99,2,dk vy⟩,⟨w.heap.size,99,2,dk b⟩] [⟨106,3,.slice ga gn.length gc,gn.length,gY gn⟩,⟨109,11,.slice (s_ g 0) m0.length cc,m0.length,ij m⟩] (nE m) wr)) (λ_ kv _=>l.length - (intOf kv).toNat)
  case atStart=>exact⟨0,x.cO,[],m0,none,0,cw,rfl,rfl,hdx,by simp,cq ⟨HKT.o,rfl,by
   rw[HM.o];show dJ b.l=(dJ b.l).set i x.tocR;rw[<-hbx,set_getElem_self],HF.o,S.o.Dx (λ_ _ h=>h.2) (iq m0).k8⟩⟩
  case round=>
   clear S;obtain⟨k,dd,gn,m,ga,gc,hk,rfl,rfl,hdd,hgn,hS⟩:=hrel;obtain⟨hkill,hmm,hsm,hfm,S⟩:=hS.o;clear hS;have HMM:=cq hmm;have HSM:=cq hsm;have HFM:=cq hfm;have him2:i<m.length:=cw;clear hfm;by_cases hlt:k<l.length
   . obtain⟨lb,lo,rfl⟩:=hla.o cw;obtain⟨q,hq⟩:=c8 (l[k]);obtain⟨AQ,hAQ⟩:=eW (ct 3 (c7 q));have hsub:=cq (jK l hlt (A:=AQ) (by rw[hq];exact hAQ));have HAQ:=cq hAQ;rw[Eg hlt,hq] at hkill;obtain⟨y,hy⟩:=c8 (m[i]);have hym:y∈m:=hy ▸ lU him2;have hyt:y.tocR= {x.tocR with cO:=dd}:=by
      have h9: (dJ m)[i]? =((dJ b.l).set i {x.tocR with cO:=dd})[i]?:=by rw[hsm]
      rw[l9,iz him2,hy,getElem?_set_self (by rw[gj];exact hil)] at h9;exact ve h9
     have hyd:y.cO=dd:=fK cR.cO hyt;have hydv:y.dv=.slice y.dO dd.length y.cap:=by unfold dg.dv;rw[hyd]
     have HY:=cq hy;have HYT:=cq hyt;have HYM:=cq hym;have HYDV:=cq hydv;have HYI:Hid ((ij m)[i*11+10]? =some (.slice y.dO dd.length y.cap)):=cq (by rw[<-hydv];exact aeR m (by rw[iz him2,hy]) cw);have HYD:=cq hyd;clear hy hyt hym hydv hsm hmm hq hAQ;by_cases hfl:fl<q.2.1
     . have hfl2: ((fl:Nat):Int)< ((q.2.1:Nat):Int):=cw;rw[Cc] at hkill;rw[cL hfl] at hkill;have HK:=cq hkill;clear hkill
       go_wp2_with (first|(first|refine jl 38 82 37 S 0 1 (.int .u64 q.2.1) ?_|refine jr 42 106 14 S 0 HAQ.o ?_)|(first|refine jb 14 106 S vV gQ λW S=>?_|refine js 106 14 36 S 0 HAQ.o (df _) λW S=>?_)|(refine Bf (RL.o.cx S.b) hlt (tL HAQ) hsub.o ?_)|(refine KV S rfl HAQ.o fU cw rfl λW S=>?_)|(refine rK S 0 rfl 0 rfl rfl rfl rfl fU (df _) Br wR λg9 c9 W S=>?_))
       go_roundw
       case rel=>exact⟨k+1,dd,gn++[q],m,s_ g9 0,c9,cw,by go_num,by simp,hdd,by simp;omega,cq ⟨HK.o,HMM.o,HSM.o,HFM.o,by rw[ik,im,oH];exact S.pop.pop⟩⟩
       case measure=>exact oV
     . have hfl2: ¬((fl:Nat):Int)< ((q.2.1:Nat):Int):=cw;have him3: (i:Int)< (m0.length:Int):=by have:=HMM.o;omega
       obtain⟨da,hda⟩:=c8 (qd dd q);have C3:=cq λv W R=>SL dd q v AQ HAQ.o W cw R;rw[hda] at C3;rw[Cc] at hkill;rw[cM hfl] at hkill;simp only[hda] at hkill;have HK:=cq hkill;clear hkill hda
       go_upto_region 12 with(first|(with_reducible refine jl 38 82 37 S 0 1 (.int .u64 q.2.1) ?_)|(with_reducible first|refine jb 14 106 S vV gQ λW S=>?_|refine js 106 14 36 S 0 HAQ.o (df _) λW S=>?_)|((with_reducible refine aQ_ ?_);refine Bf (RL.o.cx S.b) hlt (tL HAQ) hsub.o ?_))
       refine dL S cX λW S=>?_;refine cJ 0 (cZ W5.heap.size 1) ?_;refine cJ 1 (.slice (s_ g 0) m0.length cc) ?_;refine cJ 2 _ ?_;refine cJ 3 (cZ g (i*11)) ?_;refine cJ 4 (cZ g (i*11+10)) ?_;refine fW 5 (.slice y.dO dd.length y.cap) rfl (fR (λw h=>by obtain⟨_,S⟩:=h;exact x5 S.o1 HYI.o) rfl nk) ?_;refine cJ 6 (.agg AQ) ?_;refine jQ 7 λK hK=>?_
       go_wp2_with fail
       refine(C3.o _ _ (by have h9:=(S.x y HYM.o).1;unfold ko;rw[<-HYDV.o,<-HYD.o];exact h9)).mono ?_;rintro e W ⟨r,rfl,ho,hb⟩;obtain⟨ra,rc,rfl⟩:=cS ho;have HFy:=cq (show qg w.heap.size ⟨{y.tocR with cO:=da.getD []},ra,rc⟩ from λhn b hb=>gO S.fr.size ((qW.of (x:=⟨{y.tocR with cO:=da.getD []},ra,rc⟩) ho).2 hn b hb));replace S:=S.zH (y:=⟨{y.tocR with cO:=da.getD []},ra,rc⟩) hb ho;clear hb;refine fC hK ?_;refine cJ 8 _ ?_;refine cJ 9 (.slice ra (da.getD []).length rc) ?_;refine cJ 10 (.int .i64 (fp 131 da)) ?_;refine cJ 11 _ ?_;refine cJ 12 _ ?_;refine pz ?_;cases da with
       | none=>
        obtain rfl:T=(b.t,[],131):=by rw[HRES.o,<-HK.o];rfl
        go_wp2_with (first|(with_reducible refine jr 63 99 3 S 3 HA.o ?_)|with_reducible refine js 99 6 64 S 2 HB.o (eY _) λW S=>?_|(go_at_call 112;refine zI S (C9.o _ S.b) λW B c HB HC HF S=>?_)|((with_reducible refine rA ?_);go_must (refine FB S 2 rfl rfl rfl mP rfl ?_;exact⟨_,_,rfl,⟨c,rfl,HC.o,S.iF HF.o⟩,gg.nil _ _,S.b⟩)))
       | some mm=>
        simp only[ku] at S HFy ⊢;simp only at HK;by_cases h4:4000<mm.length
        . obtain rfl:T=(b.t,[],131):=by have h9:=HK.o;rw[cL h4] at h9;rw[HRES.o,<-h9];rfl
          have h5: (4000:Int)< (mm.length:Int):=cw
          go_wp2_with (first|(with_reducible refine jr 63 99 3 S 3 HA.o ?_)|with_reducible refine js 99 6 64 S 2 HB.o (eY _) λW S=>?_|(go_at_call 112;refine zI S (C9.o _ S.b) λW B c HB HC HF S=>?_)|((with_reducible refine rA ?_);go_must (refine FB S 2 rfl rfl rfl mP rfl ?_;exact⟨_,_,rfl,⟨c,rfl,HC.o,S.iF HF.o⟩,gg.nil _ _,S.b⟩)))
        . have h5: ¬(4000:Int)< (mm.length:Int):=cw;rw[cM h4] at HK
          go_wp2_with (first|(with_reducible refine jl 66 97 65 S 1 1 (.slice (s_ g 0) m0.length cc) ?_)|((with_reducible refine uV 107 70 68 ?_);refine ace S 1 rfl rfl (i*11+10) (v:=.slice ra mm.length rc) (by show i*11+10<m0.length*11;omega) rfl rfl rfl nk λW S=>?_))
          go_roundw
          case rel=>
           obtain⟨y',hy'⟩: ∃y':dg,y'=⟨{y.tocR with cO:=mm},ra,rc⟩:=⟨_,rfl⟩;have hput: (ij m).set (i*11+10) (.slice ra mm.length rc)=ij (m.set i y'):=uC him2 HY.o 10 cw _ y' (λj hj=>by rw[hy'];rcases j with(_|_|_|_|_|_|_|_|_|_|_|j) <;> first | rfl | omega);have hsv:dJ (m.set i y')=(dJ b.l).set i {x.tocR with cO:=mm}:=by
            have h1:dJ (m.set i y')=(dJ m).set i y'.tocR:=by unfold dJ;rw[map_set]
            rw[h1,HSM.o,set_set,hy'];simp only[HYT.o]
           refine⟨k+1,mm,gn,m.set i y',ga,gc,cw,by go_num,rfl,cw,by omega,cq ⟨HK.o,by rw[wu];exact HMM.o,hsv,λv hv=>?_,?_⟩⟩
           . rcases wq hv with h | h
             . exact HFM.o v h
             . rw[h,hy'];exact HFy.o
           . have S:=S.pop;simp only at S;rw[hput,<-hy'] at S;refine S.Dx (λB w h v hv=>?_) (iq _).k8;rcases wq hv with h2 | h2
             . exact h.1 v h2
             . rw[h2];exact h.2
          case measure=>exact oV
   . obtain rfl:k=l.length:=cw;rw[drop_length] at hkill;obtain rfl:T=(⟨b.next,(dJ b.l).set i {x.tocR with cO:=dd}⟩,gn,0):=by rw[HRES.o,<-hkill];rfl
     obtain⟨B4,hB4⟩:=eW B3;have HBM:Hid (B3=ct 2 (dk ⟨b.next,m,s_ g 0,cc⟩)):=cq (by rw[HB3.o];unfold dk dD.sv;simp only[HMM.o]);clear hkill hmm hsm hB4
     go_wp2_with (first|(with_reducible refine jr 72 99 11 S 0 HB3.o ?_)|with_reducible refine js 99 6 72 S 1 HBM.o (eY _) λW S=>?_|((with_reducible refine rA ?_);go_must (refine FB S 1 rfl rfl rfl mP rfl ?_;exact⟨_,_,rfl,⟨⟨b.next,m,s_ g 0,cc⟩,rfl,by unfold dD.t;rw[HSM.o],⟨by have h9:=S.o1;unfold dD.sv;rw[HMM.o];exact h9,λv hv=>⟨(S.x v hv).1,HFM.o v hv⟩⟩⟩,S.o0,S.b⟩)))
def Zp(l:cD)(n:Nat):Option Nat:=l.findIdx? λx=>decide (x=n)
def SX(l:cD)(v:cI)(n:Nat)(A:l.length<=1000000)(w:cB)(R:cK w 82 1 v l.length (JI l)):rF 161 #[v,.int .u64 n] w (.int .i64 (kE (Zp l n))):=by
 obtain⟨t,cap,rfl,q,a⟩:=du R;have R:=cq R;have a:=cq a;have S:=cq (pF w);go_enter func161,ntmps161;go_upto_region 2 with(fail);go_loopw [8] (λi wr=>∃k:Nat,k<=l.length/\i=.int .i64 k/\Hid ((∀(j:Nat)y,l[j]?=some y->j<k->decide (y=n)=false)/\St w none [] [] [] (λ_ _=>True) wr)) (λi _=>l.length-(intOf i).toNat);exact bT;clear S;obtain⟨k,z,rfl,hS⟩:=hrel;by_cases d:k<l.length
 . obtain⟨b,o,rfl⟩:=a.o cw;obtain⟨x,f⟩:∃x,l[k]?=some x:=⟨_,iz d⟩;have p:Hid (∀W,dz w W->W.cell? ⟨b,o+k,none⟩=some (.int .u64 x)):=cq λW r=>cK.cellAt (R.o.cx r) cw (by unfold JI;rw[ql,f];rfl);have m:=cq f;clear f;rcases z6 (x=n) with rfl|he
   . go_wp2_with (with_reducible refine jo 15 82 14 (p.o _ hS.o.2.fr.cx) ?_);go_ret;have e:Zp l x=some k:=AH m.o (fQ ae) hS.o.1;exact akl
   . (have s:(((n:Nat):Int)==((x:Nat):Int))=false:=by rw[lx];omega);go_wp2_with (with_reducible refine jo 15 82 14 (p.o _ hS.o.2.fr.cx) ?_);go_roundw;refine⟨k+1,cw,by go_num,cq ⟨λj y g u=>?_,hS.o.2⟩⟩;by_cases c:j=k;subst c;rw[m.o] at g;cases g;exact iC he;exact hS.o.1 j y g cw;exact oV
 . obtain rfl:k=l.length:=cw;have e:Hid (Zp l n=none):=cq (AI hS.o.1);go_wp2;go_ret;exact⟨by rw[e.o];rfl,hS.o.2.fr.cx⟩
def Hp(p:cR->Bool)(l:List dg)(v:cI)(i:l.length<=1000000)(g:Nat)(c:fJ)(w:cB)(d:∀args w,(callFunc g args).run prog w=.ok (.enter g args) w)(R:fE w v l)(hc:∀(k:Nat)x A W,l[k]?=some x->A=ct 11 (gq x)->dz w W->CP_ g (#[.agg A]++c) W λe w'=>e=.returned (.bool (p x.tocR))/\dz W w'):
 rF 162 #[v,.func (.func g) #[] c] w (.bool ((dJ l).any p)):=by
 have b:=cq (DQ p l v i g c w d R hc);clear hc R;have a:(dJ l).any p=((dJ l).findIdx? p).isSome:=by rw[findIdx?_isSome]
 rw[a];have⟨r,hr⟩:=c8 ((dJ l).findIdx? p);rw[hr] at b|-;clear a hr d;rcases r with _|k;simp only[kE] at b;rotate_left;simp only[kE] at b;have j:(0:Int)<=(k:Int):=Int.natCast_nonneg k
 all_goals
  go_enter func162,ntmps162
  go_wp2_with (go_at_call 176;refine ah b.o λW h=>?_;have f:=cq h)
  go_ret;exact⟨ae,f.o⟩
def I3(id:Nat)(a:fh)(s:cR):Bool:=s.cW&&decide (s.cG=id)&&decide (s.name=a)
theorem aci(s t:fh):(s.toList==t.toList)=decide (s=t):=by rw[wg,yl,pG];rw[BZ,BZ];exact⟨λe=>by have⟨⟨x⟩⟩:=s;simp_all,λe=>by rw[e]⟩
def FU(x y:dg)(A:fJ)(r:A=ct 11 (gq x))(id n f c j:Nat)(b:dD)(w:cB)(q:cu w n 82 1 (λ_=>.int .u64 id))(s:cu w f 99 2 (dk b))(d:cu w c 3 1 (λ_=>.int .i64 j))(R:gV w b)(m:b.l[j]?=some y)(u:b.l.length<=1000000):
 rF 163 #[.agg A,.pointer (some ⟨n,0,none⟩),.pointer (some ⟨f,0,none⟩),.pointer (some ⟨c,0,none⟩)] w (.bool (I3 id y.name x.tocR)):=by
 have E:=cq r;have C:=(mQ.1 m).1;have t:(j:Int)<(b.l.length:Int):=cw;have⟨bb,oo,hbo⟩:=zJ R cw;have z:=cq ((R.cE hbo).at m);have k:Hid (dk b 1=.slice (some ⟨bb,oo,none⟩) b.l.length b.cap):=cq bO;have o:=cq q;have l:=cq s;have g:=cq d;have⟨T,hT⟩:=c8 (I3 id y.name x.tocR);rw[hT];clear r q s d hbo m;have S:=pF w;unfold I3 at hT;cases a:x.cW with
 |false=>
  obtain rfl:false=T:=by rw[<-hT,a];rfl
  have e:Hid (Value.bool x.cW=.bool false):=cq (by rw[a]);clear hT a;go_enter func163,ntmps163;go_upto_region 1 with(refine ey λW S=>?_);refine dL S cX λW S=>?_;refine cJ 0 (cZ w.heap.size 2) ?_;refine fW 1 (.bool false) ae (sh S 0 (λ_ h=>h) ae 2 e.o pR ae rZ) ?_;refine cJ 2 _ ?_;refine oA 3 ?_;refine oA 4 ?_;refine oA 5 ?_;refine oA 6 ?_;refine cJ 7 (.bool false) ?_;refine cJ 8 (.bool false) ?_;refine oA 9 ?_;refine oA 10 ?_;refine oA 11 ?_;refine oA 12 ?_;refine oA 13 ?_;refine oA 14 ?_;refine oA 15 ?_;refine oA 16 ?_;refine oA 17 ?_;refine cJ 18 (.bool false) ?_;refine cJ 19 _ ?_;refine pz ?_;go_wp2;go_ret;exact aw
 |true=>
  have e:Hid (Value.bool x.cW=.bool true):=cq (by rw[a]);rw[a,Bool.true_and] at hT;by_cases ho:x.cG=id
  . rw[fQ ho,Bool.true_and] at hT;have v:Hid ((x.name.toList==y.name.toList)=T):=cq (by rw[aci];exact hT);have p:Hid (((x.cG:Nat):Int)==((id:Nat):Int)):=cq (by rw[ho];simp);clear hT a;subst ho;go_enter func163,ntmps163;go_upto_region 1 with(refine ey λW S=>?_);refine dL S cX λW S=>?_;refine cJ 0 (cZ w.heap.size 2) ?_;refine fW 1 (.bool true) ae (sh S 0 (λ_ h=>h) ae 2 e.o pR ae rZ) ?_;refine cJ 2 _ ?_;refine cJ 3 (cZ w.heap.size 3) ?_;refine cJ 4 (.int .u64 x.cG) ?_;refine fW 5 (.int .u64 x.cG) ae (fR (λw h=>by obtain⟨_,S⟩:=h;exact cu.cell (o.o.cx S.b) (i:=0) cw) ae fg) ?_;refine cJ 6 (.bool true) ?_;refine cJ 7 (.bool true) ?_;refine cJ 8 (.bool true) ?_;refine cJ 9 (cZ w.heap.size 1) ?_;refine cJ 10 (.string x.name) ?_;refine cJ 11 (cZ f 1) ?_;refine fW 12 (.slice (s_ bb oo) b.l.length b.cap) ae (fR (λw h=>by obtain⟨_,S⟩:=h;rw[cu.cell (l.o.cx S.b) (i:=1) cw];exact fK some k.o) ae rk) ?_;refine fW 13 (.int .i64 j) ae (fR (λw h=>by obtain⟨_,S⟩:=h;exact cu.cell (g.o.cx S.b) (i:=0) cw) ae BU) ?_;refine cJ 14 (cZ bb (oo+j*11)) ?_;refine cJ 15 (cZ bb (oo+j*11+1)) ?_;refine fW 16 (.string y.name) ae (fR (λw h=>by obtain⟨_,S⟩:=h;exact(z.o.cx S.b).c1) ae ET) ?_;refine fW 17 (.bool T) ae (Or.inl ⟨cX,λw D=>by have B:=v.o;go_simp⟩) ?_;refine cJ 18 (.bool T) ?_;refine cJ 19 _ ?_;refine pz ?_;go_wp2;go_ret;exact aw
  . (obtain rfl:false=T:=by rw[<-hT,iC ho];rfl);have p:Hid ((((x.cG:Nat):Int)==((id:Nat):Int))=false):=cq (by rw[lx];omega);clear hT a;go_enter func163,ntmps163;go_upto_region 1 with(refine ey λW S=>?_);refine dL S cX λW S=>?_;refine cJ 0 (cZ w.heap.size 2) ?_;refine fW 1 (.bool true) ae (sh S 0 (λ_ h=>h) ae 2 e.o pR ae rZ) ?_;refine cJ 2 _ ?_;refine cJ 3 (cZ w.heap.size 3) ?_;refine cJ 4 (.int .u64 x.cG) ?_;refine fW 5 (.int .u64 id) ae (fR (λw h=>by obtain⟨_,S⟩:=h;exact cu.cell (o.o.cx S.b) (i:=0) cw) ae fg) ?_;refine fW 6 (.bool false) ae (Or.inl ⟨cX,λw D=>by have B:=p.o;go_simp⟩) ?_;refine cJ 7 (.bool false) ?_;refine cJ 8 (.bool false) ?_;refine oA 9 ?_;refine oA 10 ?_;refine oA 11 ?_;refine oA 12 ?_;refine oA 13 ?_;refine oA 14 ?_;refine oA 15 ?_;refine oA 16 ?_;refine oA 17 ?_;refine cJ 18 (.bool false) ?_;refine cJ 19 _ ?_;refine pz ?_;go_wp2;go_ret;exact aw
theorem I4(l:List cR)(id:Nat):∀(f:Nat)(a:cD)(cT:Nat),(∀m∈a,(eu l m).isSome=true)->∀m∈(yG l id f a cT).1,(eu l m).isSome=true
 |0,a,cT,h=>h
 |f+1,a,cT,h=>by
  unfold yG;split
  . exact h
  . split
    . exact h
    . next i hi=>
      split
      . refine I4 l id f _ _ λm b=>?_;rcases fL.1 b with h2|h2
        . exact h m h2
        . rw[eV.1 h2,hi];rfl
      . exact h
theorem VP(l:List cR)(id:Nat):∀m∈(sJ l id).1,(eu l m).isSome=true:=by grind[sJ,I4]
def x6(l:List cR)(id:Nat):cD->List cR->Option (List cR)
 | [],s=>some s
 |m::ms,s=>match eu l m with
  |none=>none
  |some j=>if l.any (I3 id (di l j).name)=true then none else x6 l id ms (s.set j {di s j with cG:=id})
def wV(l:List cR)(o:cR):cD:=(sJ l o.cG).1.drop ((Zp (sJ l o.cG).1 o.id).getD 0)
def fI(b:dS)(cC:fh):dS×Int:=
 match nt b.cE cC with
 |(none,c)=>(b,c)
 |(some i,_)=>match eu b.cE (sJ b.cE (di b.cE i).id).2 with
  |none=>(b,174)
  |some o=>match x6 b.cE (di b.cE i).id (wV b.cE (di b.cE o)) b.cE with
   |none=>(b,171)
   |some s=>(⟨b.next,s⟩,0)
theorem I5(l:List cR)(id m:Nat)(a:cD)(s:List cR):x6 l id (m::a) s=match eu l m with
 |none=>none
 |some j=>if l.any (I3 id (di l j).name)=true then none else x6 l id a (s.set j {di s j with cG:=id}):=rfl
theorem Oz(l:List cR)(id:Nat):∀(f:Nat)(a:cD)(cT:Nat),(yG l id f a cT).1.length<=a.length+f
 |0,a,cT=>dK _
 |f+1,a,cT=>by
  unfold yG;split
  . grind
  . split
    . grind
    . split
      . have:=Oz l id f (a++[cT]) (di l (by assumption)).cT;rw[ik] at this;simp only[length_singleton] at this;omega
      grind
theorem acj(l:List cR)(id:Nat):(sJ l id).1.length<=32:=by unfold sJ;split;grind;split;grind;grind[Oz]
theorem St.SY(S:St w0 d l L (o::O) X w)(R:cK w o.e o.z v n xs)(m:0<n->v.ownBlock=o.v.ownBlock)(c:kO o.e=false)(e:fT o.e=false):
 St w0 d l L O (λB w=>X B w/\xL o.e o.z v n xs B w) w:=by
 refine S.M6.B6 (eI _ _ _ _ _ c e) ⟨R,λk b j g=>?_⟩;have h:o.v.ownBlock=some b:=by grind
 have a:=S.nd;have f:dM L (o::O)=L.map R4.b++b::O.filterMap O4.ob:=by grind[dM,O4.ob]
 rw[f] at a;have i:(L.map R4.b++b::O.filterMap O4.ob).Perm (b:: (L.map R4.b++O.filterMap O4.ob)):=perm_middle;exact(vP.1 (i.nodup_iff.1 a)).1 g
def agC:ER prog 78 1:=⟨cX,λW=>by rfl⟩
theorem JK(b:dD)(A:fJ)(hA:A=ct 2 (dk b))(L:xZ b.t)(cC:fh)(e4:cC.size<=140737488355328)(w:cB)(R:gV w b):
 CP_ 99 #[.agg A,.string cC] w λe w'=>∃B,e=.returned (.tuple #[.agg B,.int .i64 (fI b.t cC).2])/\kT w' w.heap.size B (fI b.t cC).1/\dz w w':=by
 have HA:=cq hA;have HR:=cq R;have C1:=cq λW(a:dz w W)=>Hm b A hA L cC e4 W (HR.o.cx a);have C2:=cq λid W(a:dz w W)=>Ld b.l b.sv id L.len W (HR.o.cx a);have C3:=cq λid W(a:dz w W)=>I1 b.l b.sv id L.len L.2 W (HR.o.cx a);have C4:=cq λid W(a:dz w W)=>Ow b.l b.sv id L.len W (HR.o.cx a);have C6:=cq λid W(a:dz w W)=>uX b.l b.sv id L.len W (HR.o.cx a);have C9:=cq λW(a:dz w W)=>pA b A hA L W (HR.o.cx a);have hd:qe b.l:=L.2;have G:=L.len;have S:=pF w;clear hA L;obtain⟨T,HT⟩:=q8 (fI b.t cC);rw[HT.o];go_enter func99,ntmps99;rcases Cb b.t.cE cC with⟨cd,hc,p⟩|⟨i,hn,p⟩
 . (obtain rfl:(b.t,cd)=T:=by rw[<-HT.o];unfold fI;rw[p]);rw[p] at C1;clear p;go_wp2_with first|refine je S (C1.o _ S.b) λW S=>?_|refine zI S (C9.o _ S.b) λW B c HB HC HF S=>?_|(refine lC ?_;exact⟨_,ae,⟨c,ae,HC.o,S.iF HF.o⟩,S.b⟩)|refine eR ?_|refine ey λW S=>?_
 . (obtain⟨x,hx⟩:=uB hn;have f2:=(mQ.1 hx).1;have e7:(i:Int)<(b.l.length:Int):=cw;have hg:di b.t.cE i=x.tocR:=kF hx;obtain⟨C,J,O⟩:=zJ R cw;have R9:=R.cE O;have b6:=cq R9;have HX:=cq (R9.at hx);have l:Hid (dk b 1=.slice (some ⟨C,J,none⟩) b.l.length b.cap):=cq (by rw[<-O];rfl);have Y:b.sv=.slice (s_ C J) b.l.length b.cap:=by unfold dD.sv;rw[O]);(rw[Y] at C2 C3 C4 C6;obtain⟨og,a9⟩:=c8 ((sJ (dJ b.l) x.id).2);have C2:=cq (C2.o x.id);have C3:=cq (C3.o og);rw[a9] at C2;obtain⟨pn,b1⟩:=c8 (eu (dJ b.l) og);rw[b1] at C3;obtain⟨pb,a5⟩:=q8 pn.isSome;rw[a5.o] at C3;have a2:T=pn.elim (b.t,174) λo=>(x6 (dJ b.l) x.id (wV (dJ b.l) (di (dJ b.l) o)) (dJ b.l)).elim (b.t,171) λs=>(⟨b.next,s⟩,0):=by rw[<-HT.o,<-b1,<-a9];unfold fI;rw[p];simp only[hg];rw[show b.t.cE=dJ b.l from ae];cases eu (dJ b.l) (sJ (dJ b.l) x.id).2 with|none=>rfl|some o=>simp only[Aa];cases x6 (dJ b.l) x.id (wV (dJ b.l) (di (dJ b.l) o)) (dJ b.l)<;>rfl);have a1:=cq a2;rw[p] at C1;simp only[kE] at C1;clear p hn hg hx O b1 a2 a9 Y;go_upto_region 5 with(first|(first|refine jo 32 82 31 ((HX.o.cx S.b).c0) ?_)|refine xN S rfl HA.o rfl λW1 S=>?_|refine je S (C1.o _ S.b) λW4 S=>?_|refine Db S 1 ae 1 (v:=.slice (s_ C J) b.l.length b.cap) l.o ?_|refine eR ?_|refine ey λW S=>?_);refine dN S cX [⟨w.heap.size,99,2,dk b⟩,⟨W4.heap.size,82,1,λ_=>.int .u64 x.id⟩] Be λW S=>?_;refine cJ 0 (cZ w.heap.size 1) ?_;refine fW 1 (.slice (s_ C J) b.l.length b.cap) ae (fR (λw h=>by rw[cu.cell (h.row 0 ae) (i:=1) pR];exact fK some l.o) ae rk) ?_;refine cJ 2 (cZ w.heap.size 1) ?_;refine fW 3 (.slice (s_ C J) b.l.length b.cap) ae (fR (λw h=>by rw[cu.cell (h.row 0 ae) (i:=1) pR];exact fK some l.o) ae rk) ?_;refine cJ 4 (.int .u64 x.id) ?_;repeat' first|refine Rp ?_|refine mi 7 _ ?_|refine mi 8 (.agg B) ?_|refine mi 9 (.bool pb) ?_|refine mi 12 _ ?_|refine zX 5 10 (λK D=>?_) λK D=>?_|refine oJ 5 λK D=>?_|refine oJ 6 λK D=>?_|refine oJ 11 λK D=>?_|refine zX 6 10 (λK D=>?_) λK D=>?_|refine oJ 10 λK D=>?_|(refine fu S wx oB ae λE9 W S=>?_;refine fC D ?_)|(go_wp2_with fail;refine je S (C2.o _ S.b) λW S=>?_;refine fC D ?_)|(go_wp2_with fail;refine ag (C3.o _ S.b) λB W6⟨⟨pv,hB,d4,e5⟩,a⟩=>?_;have HB:=cq hB;have e2:=cq d4;replace S:=S.cx a;clear a hB d4 e5;refine fC D ?_)|(refine ju S 0 ae ae ae HB.o tf (lM _) λW S=>?_;refine fC D ?_)
   all_goals(
    refine cq ?_;cases pb with
    |false=>
     obtain rfl:T=(b.t,174):=by
      have h9:=a1.o;cases pn with
      |none=>exact h9
      |some j=>exact absurd a5.o dU
     go_wp2_with first|refine zI S (C9.o _ S.b) λW B c HB HC HF S=>?_|(refine lC ?_;exact⟨_,ae,⟨c,ae,HC.o,S.iF HF.o⟩,S.b⟩)|refine eR ?_|refine ey λW S=>?_
    |true=>
     obtain⟨e6,rfl⟩:∃j,pn=some j:=by
      cases pn with
      |none=>exact absurd a5.o dU
      |some j=>exact⟨j,ae⟩
     have d2:di (dJ b.l) e6=pv.tocR:=e2.o.symm;obtain⟨N,E⟩:=c8 ((sJ (dJ b.l) pv.cG).1);obtain⟨ri,X⟩:=c8 (Zp N pv.id);obtain⟨kk,U⟩:=c8 (ri.getD 0);obtain⟨f,M⟩:=q8 (N.drop kk);obtain⟨KT,b4⟩:=q8 (x6 (dJ b.l) x.id f (dJ b.l));have I:T=KT.elim (b.t,171) λs=>(⟨b.next,s⟩,0):=by
      rw[a1.o,<-b4.o,<-M.o,<-U,<-X,<-E];unfold wV;rw[Aa,d2]
     have d6:∀m∈f,(eu (dJ b.l) m).isSome=true:=λm hm=>by rw[<-M.o] at hm;have:=mR hm;rw[<-E] at this;exact VP _ _ m this
     have f1:N.length<=32:=by rw[<-E];exact acj _ _
     have c5:kk<=N.length:=by
      rw[<-U];cases ri with
      |none=>exact fN _
      |some q=>exact Nat.le_of_lt (GV.1 X).1
     have c6:max (kE ri) 0=((kk:Nat):Int):=by
      rw[<-U];cases ri with
      |none=>rfl
      |some q=>exact Int.max_eq_left (Int.natCast_nonneg q)
     have H:N.length-kk=f.length:=by rw[<-M.o,r8]
     have e8:f.length<=32:=cw;have u:=cq I;have e3:=cq d6;have C4:=cq (C4.o pv.cG);rw[E] at C4;have C5:=cq λv hl W R=>SX N v pv.id hl W R;rw[X] at C5;have b9:N.length<=1000000:=cw;clear d2 E X I d6 U
     go_upto_region 12 with(first|refine Db S 3 ae 1 (v:=.slice (s_ C J) b.l.length b.cap) l.o ?_|(refine ag (C4.o _ S.b) λr W⟨ho,a⟩=>?_;obtain⟨ra,rc,rfl⟩:=cS ho;replace S:=S.gm a ho ae ae;clear a)|refine je S (C5.o _ b9 _ S.q0) λW S=>?_|(refine xU agC ae ae c5 ?_;have RD:=cK.Bj S.q0 c5;obtain⟨md,V⟩:=c8 (kx ra rc kk 1);(try simp only at RD);rw[V,H,q7,<-map_drop,M.o] at RD;rw[V,H];have d1:0<f.length->Value.ownBlock (.slice md f.length (rc-kk))=Value.ownBlock (.slice ra N.length rc):=(λhn=>by obtain⟨g1,c1,e1⟩:=BW S.o0 (by show 0<N.length;omega);simp only[kM] at e1;obtain⟨rfl,-,rfl⟩:=e1;rw[<-V];unfold kx;split<;>simp[Value.ownBlock,Addr.add]<;>(split<;>simp_all));replace S:=S.SY RD d1 ae ae;clear RD d1 V)|(refine ag (C9.o _ S.b) λB3 W5⟨⟨⟨cn,t,ca,cc⟩,hB,hc,ho⟩,a⟩=>?_;obtain⟨c2,Q⟩:=dS.mk.inj hc;simp only at c2 Q;subst c2;have c7:t.length=b.l.length:=(by have h9:=fK length Q;rwa [gj,gj] at h9);obtain⟨g,b8⟩:=tq ho (by show 0<t.length;omega);simp only at b8;subst b8;have d9:=cq c7;have d8:=cq hB;have HM:=cq Q;have HF:=cq (S.fresh ho);replace S:=S.jv a ho;clear c7;change St _ _ _ _ (⟨109,11,.slice (s_ g 0) t.length cc,t.length,ij t⟩::_) _ _ at S;clear a hB hc Q)|refine eR ?_|refine ey λW S=>?_)
     have eg:∀args w,(callFunc 163 args).run prog w=.ok (.enter 163 args) w:=enters_of func163 cX ae;have EG:=cq eg;have d5:=eI 82 1 (Value.slice md f.length (rc-kk)) f.length (JI f) ae ae;have b7:=cq d5;have S:=cq S;clear eg d5 c6 H
     go_loopw [63] (λkv wr=>∃(k:Nat)(m:List dg),k<=f.length/\kv=.int .i64 k/\Hid (x6 (dJ b.l) x.id (f.drop k) (dJ m)=KT/\m.length=t.length/\(∀v∈m,qg w.heap.size v)/\
      St w none [] [⟨W5.heap.size,99,2,dk ⟨b.next,t,s_ g 0,cc⟩⟩,⟨E9,109,11,gq pv⟩,⟨W4.heap.size,82,1,λ_=>.int .u64 x.id⟩,⟨W1.heap.size,99,2,dk vy⟩,⟨w.heap.size,99,2,dk b⟩] [⟨109,11,.slice (s_ g 0) t.length cc,t.length,ij m⟩] (λB w=>xL 82 1 (Value.slice md f.length (rc-kk)) f.length (JI f) B w/\nE m B w) wr)) (λkv _=>f.length-(intOf kv).toNat)
     case atStart=>exact⟨0,t,cw,ae,cq ⟨by rw[HM.o];exact b4.o,ae,HF.o,S.o.Dx (λ_ _ h=>⟨h.1.2,h.2⟩) (b7.o.and (iq t)).k8⟩⟩
     case round=>
      clear S;obtain⟨k,m,hk,rfl,hS⟩:=hrel;obtain⟨d,a8,c3,S⟩:=hS.o;clear hS;have a4:=cq a8;have a3:=cq c3;clear c3;by_cases a7:k<f.length
      . obtain⟨n,hn⟩:=c8 (f[k]);obtain⟨lb,lo,rfl⟩:∃lb lo,md=s_ lb lo:=by
         obtain⟨_,_,e1,_,h⟩:=du S.x.1.1
         grind
        have c9:(JI f)[k]?=some (.int .u64 n):=by unfold JI;rw[ql,iz a7,hn];rfl
        obtain⟨j,hj⟩:∃j,eu (dJ b.l) n=some j:=Option.isSome_iff_exists.1 (e3.o n (hn▸lU a7));obtain⟨f3,y,hy,-⟩:=jU hj;have c4:di (dJ b.l) j=y.tocR:=kF hy;rw[Eg a7,hn,I5,hj] at d;simp only[c4] at d;have C7:=cq (C6.o n);rw[hj] at C7;simp only[kE] at C7;obtain⟨an,a6⟩:=c8 ((dJ b.l).any (I3 x.id y.name));rw[show y.tocR.name=y.name from ae,a6] at d;have C8:=cq λ(cb:fJ)W hR hc=>Hp (I3 x.id y.name) b.l (.slice (s_ C J) b.l.length b.cap) G 163 cb W EG.o hR hc;rw[a6] at C8;have b2:=cq d;have b5:=cq c9;have b3:=cq hy;have f4:(j:Int)<(t.length:Int):=by have:=d9.o;omega
        have F:j<m.length:=cw;clear d hn c9 hj c4 a6 hy a8;cases an with
        |true=>
         obtain rfl:T=(b.t,171):=by have h9:=b2.o;rw[cL ae] at h9;rw[u.o,<-h9];rfl
         go_wp2_with first|(first|refine yi (cK.cellAt S.x.1.1 cw b5.o) ?_|refine Db S 4 ae 1 (v:=.slice (s_ C J) b.l.length b.cap) l.o ?_|refine Db S 5 ae 1 (v:=.slice (s_ C J) b.l.length b.cap) l.o ?_)|refine je S (C7.o _ S.b) λW S=>?_|(have hE:=λ(k:Nat)(z:dg)(A:fJ)W'(_:b.l[k]?=some z)(hA:A=ct 11 (gq z))a=>FU z y A hA x.id _ _ _ j b W' (cu.cx (S.oh (k:=3) ae) a) (cu.cx (S.oh (k:=5) ae) a) (cu.cx S.k0 a) ((HR.o.cx S.b).cx a) b3.o G;refine(C8.o #[cZ _ 0,cZ _ 0,cZ _ 0] _ (b6.o.cx S.b) hE).mono ?_;clear hE;rintro e W ⟨rfl,a⟩;replace S:=S.cx a;clear a)|refine zI S (C9.o _ S.b) λW B c HB HC HF S=>?_|(refine lC ?_;exact⟨_,ae,⟨c,ae,HC.o,S.iF HF.o⟩,S.b⟩)|refine eR ?_|refine ey λW S=>?_
        |false=>
         go_wp2_with first|(first|refine jl 78 97 77 S 1 1 (.slice (s_ g 0) t.length cc) ?_|refine jl 79 3 15 S 0 0 (.int .i64 j) ?_)|(first|refine yi (cK.cellAt S.x.1.1 cw b5.o) ?_|refine Db S 4 ae 1 (v:=.slice (s_ C J) b.l.length b.cap) l.o ?_|refine Db S 5 ae 1 (v:=.slice (s_ C J) b.l.length b.cap) l.o ?_)|refine je S (C7.o _ S.b) λW S=>?_|(have hE:=λ(k:Nat)(z:dg)(A:fJ)W'(_:b.l[k]?=some z)(hA:A=ct 11 (gq z))a=>FU z y A hA x.id _ _ _ j b W' (cu.cx (S.oh (k:=3) ae) a) (cu.cx (S.oh (k:=5) ae) a) (cu.cx S.k0 a) ((HR.o.cx S.b).cx a) b3.o G;refine(C8.o #[cZ _ 0,cZ _ 0,cZ _ 0] _ (b6.o.cx S.b) hE).mono ?_;clear hE;rintro e W ⟨rfl,a⟩;replace S:=S.cx a;clear a)|refine ace S 0 rfl rfl (j*11+3) (v:=.int .u64 x.id) (by show j*11+3<t.length*11;omega) rfl rfl rfl fg λW S=>?_|refine eR ?_|refine ey λW S=>?_
         go_roundw
         case rel=>
          obtain⟨z,hz⟩:=c8 (m[j]);obtain⟨y',Z⟩:∃y':dg,y'=⟨{z.tocR with cG:=x.id},z.dO,z.cap⟩:=⟨_,ae⟩;have d3:(ij m).set (j*11+3) (.int .u64 x.id)=ij (m.set j y'):=uC F hz 3 cw _ y' (λj hj=>by rw[Z];rcases j with(_|_|_|_|_|_|_|_|_|_|_|j)<;>first|rfl);have Y:dJ (m.set j y')=(dJ m).set j {di (dJ m) j with cG:=x.id}:=by
           rw[kF (x:=z) (by rw[iz F,hz]),show dJ (m.set j y')=(dJ m).set j y'.tocR by unfold dJ;rw[map_set],Z]
          have d7:z∈m:=hz▸lU F;have d:=b2.o;rw[cM dU] at d;refine⟨k+1,m.set j y',cw,by go_num,cq ⟨by rw[Y];exact d,by rw[wu];exact a4.o,λv p=>?_,?_⟩⟩
          . rcases wq p with h|h
            . exact a3.o v h
            . rw[h,Z];exact a3.o z d7
          . have S:=S.pop;simp only at S;rw[d3] at S;refine S.Dx (λB w h=>⟨h.1,λv p=>?_⟩) (b7.o.and (iq _)).k8;rcases wq p with h2|h2
            . exact h.2 v h2
            . rw[h2,Z];exact h.2 z d7
         case measure=>exact oV
      . obtain rfl:k=f.length:=cw;rw[drop_length] at d;obtain rfl:T=(⟨b.next,dJ m⟩,0):=by rw[u.o,<-d];rfl
        have e9:Hid (B3=ct 2 (dk ⟨b.next,m,s_ g 0,cc⟩)):=cq (by rw[d8.o];unfold dk dD.sv;simp only[a4.o]);clear d a8
        go_wp2_with first|(refine lC ?_;exact⟨_,ae,⟨⟨b.next,m,s_ g 0,cc⟩,ae,ae,⟨by have h9:=S.o0;unfold dD.sv;rw[a4.o];exact h9,λv p=>⟨(S.x.2 v p).1,a3.o v p⟩⟩⟩,S.b⟩)|refine eR ?_|refine ey λW S=>?_
   )
def eC(s:cR):Bool:=
 decide (1<=s.id/\s.id<=281474976710655)&&decide (1<=s.cG/\s.cG<=281474976710655)&&decide (s.cT<=281474976710655)&&decide (1<=s.blocks/\s.blocks<=64)&&dV s.name&&fY s.cz&& (decide (s.cO.length<=4000)&&nj s.cO)&&
  (if s.cW=true then decide (1<=s.cA/\s.cA<=281474976710655) else decide (s.cA=0/\s.cG=s.id))
theorem lN(h:(1<=s.id/\s.id<=281474976710655)->(1<=s.cG/\s.cG<=281474976710655)->s.cT<=281474976710655->(1<=s.blocks/\s.blocks<=64)->dV s.name=true->fY s.cz=true->s.cO.length<=4000->nj s.cO=true->(if s.cW=true then decide (1<=s.cA/\s.cA<=281474976710655) else decide (s.cA=0/\s.cG=s.id))=false):eC s=false:=by simp_all[eC]
theorem uE(x:dg):∀i,i<3->gq x (7+i)=c7 x.cz i:=λi a=>by grind[gq]
theorem FV(x:dg)(A:fJ)(H:A=ct 11 (gq x))(X:x.cO.length<=1000000)(w:cB)(R:xW w x):
 rF 198 #[.agg A] w (.bool (eC x.tocR)):=by
 have L:=cq H;have I:=cq R;have⟨G,hG⟩:=eW (ct 3 (c7 x.cz));have k:=cq λw=>rL x.name w;have l:=cq (show∀w,rF 241 #[.agg G] w (.bool (fY x.cz)) from λw=>by rw[<-cP hG];exact xw x.cz w);have n:=cq λW(K:dz w W)=>yX x.cO x.dv W cw (I.o.cx K);have D:=cq hG;have h:=uE x;have S:=pF w;have⟨T,hT⟩:=c8 (eC x.tocR);have d:=cq hT;rw[hT];clear H hG hT;go_enter func198,ntmps198;by_cases M:x.id<1
 case pos=>
  obtain rfl:false=T:=by rw[<-d.o];exact(lN λb _ _ _ _ _ _ _=>absurd b.1 cw).symm
  have r:(x.id:Int)<1:=cw;go_wp2_with (first|refine eR ?_|refine ey λW S=>?_);go_ret;exact aw
 have r:¬((x.id:Int)<1):=cw;by_cases N:281474976710655<x.id
 case pos=>
  obtain rfl:false=T:=by rw[<-d.o];exact(lN λb _ _ _ _ _ _ _=>absurd b.2 cw).symm
  have s:(281474976710655:Int)<(x.id:Int):=cw;go_wp2_with (first|(first|refine jm 9 82 8 S 0 0 (.int .u64 x.id) ?_)|refine eR ?_|refine ey λW S=>?_);go_ret;exact aw
 have s:¬((281474976710655:Int)<(x.id:Int)):=cw;go_upto_region 2 with(first|(first|refine jm 9 82 8 S 0 0 (.int .u64 x.id) ?_)|refine eR ?_|refine ey λW S=>?_);by_cases O:x.cG<1
 case pos=>
  obtain rfl:false=T:=by rw[<-d.o];exact(lN λ_ b _ _ _ _ _ _=>absurd b.1 cw).symm
  have t:(x.cG:Int)<1:=cw;go_wp2_with (refine eR ?_);go_ret;exact aw
 have t:¬((x.cG:Int)<1):=cw;by_cases Q:281474976710655<x.cG
 case pos=>
  obtain rfl:false=T:=by rw[<-d.o];exact(lN λ_ b _ _ _ _ _ _=>absurd b.2 cw).symm
  have u:(281474976710655:Int)<(x.cG:Int):=cw;go_wp2_with (first|(first|refine jm 17 82 16 S 0 3 (.int .u64 x.cG) ?_)|refine eR ?_);go_ret;exact aw
 have u:¬((281474976710655:Int)<(x.cG:Int)):=cw;go_upto_region 3 with(first|(first|refine jm 17 82 16 S 0 3 (.int .u64 x.cG) ?_)|refine eR ?_);by_cases U:281474976710655<x.cT
 case pos=>
  obtain rfl:false=T:=by rw[<-d.o];exact(lN λ_ _ b _ _ _ _ _=>absurd b cw).symm
  have y:(281474976710655:Int)<(x.cT:Int):=cw;go_wp2_with (refine eR ?_);go_ret;exact aw
 have y:¬((281474976710655:Int)<(x.cT:Int)):=cw;go_upto_region 4 with(refine eR ?_);by_cases h6:x.blocks<1
 case pos=>
  obtain rfl:false=T:=by rw[<-d.o];exact(lN λ_ _ _ b _ _ _ _=>absurd b.1 cw).symm
  have z:(x.blocks:Int)<1:=cw;go_wp2_with (refine eR ?_);go_ret;exact aw
 have z:¬((x.blocks:Int)<1):=cw;by_cases V:64<x.blocks
 case pos=>
  obtain rfl:false=T:=by rw[<-d.o];exact(lN λ_ _ _ b _ _ _ _=>absurd b.2 cw).symm
  have B:(64:Int)<(x.blocks:Int):=cw;go_wp2_with (first|(first|refine jm 28 3 27 S 0 6 (.int .i64 x.blocks) ?_)|refine eR ?_);go_ret;exact aw
 have B:¬((64:Int)<(x.blocks:Int)):=cw;go_upto_region 5 with(first|(first|refine jm 28 3 27 S 0 6 (.int .i64 x.blocks) ?_)|refine eR ?_)
 cases E:dV x.name with
 |false=>
  obtain rfl:false=T:=by rw[<-d.o];exact(lN λ_ _ _ _ b _ _ _=>absurd b iG).symm
  rw[E] at k;go_wp2_with (first|refine je S (k.o _) λW S=>?_|refine eR ?_);go_ret;exact aw
 |true=>
 rw[E] at k;go_upto_region 6 with(first|refine je S (k.o _) λW S=>?_|refine eR ?_)
 cases F:fY x.cz with
 |false=>
  obtain rfl:false=T:=by rw[<-d.o];exact(lN λ_ _ _ _ _ b _ _=>absurd b iG).symm
  rw[F] at l;go_wp2_with (first|refine oM_ S 0 ae (o:=7) (m:=3) (c7 x.cz) h D.o ?_|refine je S (l.o _) λW S=>?_);go_ret;exact aw
 |true=>
 rw[F] at l;go_upto_region 7 with(first|refine oM_ S 0 ae (o:=7) (m:=3) (c7 x.cz) h D.o ?_|refine je S (l.o _) λW S=>?_);by_cases J:4000<x.cO.length
 case pos=>
  obtain rfl:false=T:=by rw[<-d.o];exact(lN λ_ _ _ _ _ _ b _=>absurd b cw).symm
  have i:(4000:Int)<(x.cO.length:Int):=cw;go_wp2_with (refine eR ?_);go_ret;exact aw
 have i:¬((4000:Int)<(x.cO.length:Int)):=cw;cases g:nj x.cO with
 |false=>
  obtain rfl:false=T:=by rw[<-d.o];exact(lN λ_ _ _ _ _ _ _ b=>absurd b iG).symm
  rw[g] at n;go_wp2_with (first|(first|refine jm 45 107 44 S 0 10 (.slice x.dO x.cO.length x.cap) ?_)|refine je S (n.o _ S.b) λW S=>?_|refine eR ?_);go_ret;exact aw
 |true=>
 rw[g] at n;go_upto_region 9 with(first|(first|refine jm 45 107 44 S 0 10 (.slice x.dO x.cO.length x.cap) ?_)|refine je S (n.o _ S.b) λW S=>?_|refine eR ?_);have c:T=(if x.cW=true then decide (1<=x.cA/\x.cA<=281474976710655) else decide (x.cA=0/\x.cG=x.id)):=by rw[<-d.o];unfold eC;grind
 cases f:x.cW with
 |true=>
  have e:Hid (Value.bool x.cW=.bool true):=cq (by rw[f]);rw[f,cL ae] at c;have a:=cq c;clear c f;by_cases q:x.cA<1
  . (obtain rfl:T=false:=by rw[a.o];grind);have j:¬(1:Int)<=(x.cA:Int):=cw;go_wp2_with (first|refine Db S 0 ae 2 (v:=.bool true) e.o ?_|refine eR ?_);go_ret;exact aw
  . have j:(1:Int)<=(x.cA:Int):=cw;by_cases C:x.cA<=281474976710655
    . (obtain rfl:T=true:=by rw[a.o];grind);have p:(x.cA:Int)<=281474976710655:=cw;go_wp2_with (first|(first|refine jm 57 82 56 S 0 5 (.int .u64 x.cA) ?_)|refine Db S 0 ae 2 (v:=.bool true) e.o ?_|refine eR ?_);go_ret;exact aw
    . (obtain rfl:T=false:=by rw[a.o];grind);have p:¬(x.cA:Int)<=281474976710655:=cw;go_wp2_with (first|(first|refine jm 57 82 56 S 0 5 (.int .u64 x.cA) ?_)|refine Db S 0 ae 2 (v:=.bool true) e.o ?_|refine eR ?_);go_ret;exact aw
 |false=>
  have e:Hid (Value.bool x.cW=.bool false):=cq (by rw[f]);rw[f,cM dU] at c;have a:=cq c;clear c f;by_cases q:x.cA=0
  . have j:Hid (Value.int .u64 x.cA=.int .u64 0):=cq (by rw[q];rfl);by_cases C:x.cG=x.id
    . (obtain rfl:T=true:=by rw[a.o];grind);have p:Hid (Value.int .u64 x.cG=.int .u64 x.id):=cq (by rw[C]);clear q C;go_wp2_with (first|refine jm 67 82 66 S 0 0 (.int .u64 x.id) ?_|(first|refine Db S 0 ae 2 (v:=.bool false) e.o ?_|refine Db S 0 ae 5 (v:=.int .u64 0) j.o ?_|refine Db S 0 ae 3 (v:=.int .u64 x.id) p.o ?_));go_ret;exact aw
    . (obtain rfl:T=false:=by rw[a.o];grind);(have p:(((x.cG:Nat):Int)==((x.id:Nat):Int))=false:=by rw[lx];omega);clear q;go_wp2_with (first|(first|refine jm 65 82 64 S 0 3 (.int .u64 x.cG) ?_|refine jm 67 82 66 S 0 0 (.int .u64 x.id) ?_)|(first|refine Db S 0 ae 2 (v:=.bool false) e.o ?_|refine Db S 0 ae 5 (v:=.int .u64 0) j.o ?_));go_ret;exact aw
  . (obtain rfl:T=false:=by rw[a.o];grind);(have j:(((x.cA:Nat):Int)==0)=false:=by rw[lx];omega);go_wp2_with (first|refine Db S 0 ae 2 (v:=.bool false) e.o ?_|refine eR ?_);go_ret;exact aw
end
section
variable {x:Nat}
theorem OA(s:fh):(qx s).length=s.size:=by grind[qx,size_eq]
def SZ(w:cB)(e:dC)(s:fh):dz w (bytesWorld w e s):=
 ⟨ae,ae,ae,by rw[bytesWorld_size];omega,λk a=>bytesWorld_at_old w e s k a⟩
theorem ai0(S:St w0 d l L O X w){s:fh}{e:dC}(t:a.eval (.tmp x)=.string s)(r:P.underlying src=some .string)(n:P.underlying e=some (.slice 5))(o:P.underlying 5=some (.int .u8))(q:s.size<=maxLen)(h:∀g c W,St w0 d l L O (λB w=>X B w/\xL 5 1 (.slice (some ⟨g,0,none⟩) s.size c) s.size (dH (qx s)) B w) W->K (a.put (some dst) (.slice (some ⟨g,0,none⟩) s.size c)) W):
 Oper.wp P ⟨some dst,.convert src e (.tmp x),t2,p,af,none⟩ a w K Q:=by have f:=Lib.run_convert_string_bytes (P:=P) w src e 5 s r n o;unfold Oper.wp execOp;simp only[kj,t,f,mS];refine h _ _ _ ((S.cx (SZ w 5 s)).B6 (eI 5 1 _ _ _ ae ae) ⟨?_,λ_ b m i=>?_⟩);refine⟨by grind[dH,OA],_,_,ae,grownCap_ge _ _ _ _,grownCap_le_maxLen _ _ _ _ q,λ_=>⟨w.heap.size,0,_,_,ae,bytesWorld_at_new w 5 s,λj u k=>?_⟩⟩;rw[ou];unfold dH qx at k;rw[sK,ql] at k;unfold bytesCells;grind;cases m;exact tP _ (S.lt _ i)
theorem XI(S:St w0 d l L O X w){t:dC}(vs:List cI)(f:P.underlying t=some (.slice e))(b:(P.info? e).map (λi=>(i.zero,i.size,i.bytes))=some (some zv,1,by'))(g:0<n)(o:n<=16777216)(ho:fT e=false)(m:vs.length=n)(j:∀v∈vs,v.cells=#[v])(c:parts.toList.map (λp=>(p.1,a.eval p.2))=(vs.zipIdx 0).map λx=>(x.2,x.1))(h:∀W,St w0 d l (⟨w.heap.size,e,n,λi=>vs.getD i undef⟩::L) O X W->K (a.put (some dst) (.slice (some ⟨w.heap.size,0,none⟩) n n)) W):
 Oper.wp P ⟨some dst,.buildSlice t n parts,t2,p,af,none⟩ a w K Q:=by
 have⟨it,hi1,hz,hz1,hz2⟩:=nB b;have k:ct n (λi=>vs.getD i undef)=vs.toArray:=by apply xb;grind[cU]
 refine wp_buildSlice t e n parts ae (ct n (λi=>vs.getD i undef)) it zv f hi1 hz iG iG (by rw[hz1];refine(fK (Instr.fill _ _) ((Array.toList_map).trans c)).trans ?_;grind[Great.fill_flat]) (h _ (S.alloc e ae ho))
def blV(S:St w0 d l L O X w){t:dC}(vs:List cI)(o:P.underlying t=some (.slice e))(g:(P.info? e).map (λi=>(i.zero,i.size,i.bytes))=some (some zv,1,by'))(b:0<n)(k:n<=16777216)(ho:fT e=false)(j:vs.length=n)(c:∀v∈vs,v.cells=#[v])(m:parts.toList.map (λp=>(p.1,a.eval p.2))=(vs.zipIdx 0).map λx=>(x.2,x.1))(h:∀W,St w0 d l (⟨w.heap.size,e,n,λi=>vs.getD i undef⟩::L) O X W->wpList P ops Q rest (a.put (some dst) (.slice (some ⟨w.heap.size,0,none⟩) n n)) W):
 wpList P ops Q (⟨some dst,.buildSlice t n parts,t2,p,af,none⟩::rest) a w:=
 lF ae λ_ f=>XI S vs o g b k ho j c m λW hS=>f _ _ (h W hS)
end
def Qj:(prog.info? 22).map (λi=>(i.zero,i.size,i.bytes))=some (some (.slice none 0 0),1,24):=cX
theorem cK.tr{w:cB}{T:dC}{v:cI}{n:Nat}{l:cD}(h:cK w T 1 v n (dH l))(a:∀x∈l,x<256):dR .u8 w v (dh l):=by
 have b:l.length=n:=by have:=h.1;grind[dH]
 subst b;exact kZ.ints (T:=T) ⟨h,a⟩
def S4(s:fh):∀x∈qx s,x<256:=λx a=>by unfold qx at a;obtain⟨q,_,rfl⟩:=fM.1 a;exact q.toNat_lt
def S5{b:Nat}(h:cu w b 22 n (λi=>vs.getD i undef))(d:vs.length=n)(e:ts.length=n)(c:∀k(h:k<vs.length)(f:k<ts.length),dR .u8 w vs[k] (dh ts[k])/\Al vs[k]):Pt w (.slice (some ⟨b,0,none⟩) n n) ts:=by subst e;refine⟨some ⟨b,0,none⟩,ts.length,vs,ae,d,dK _,c,λ_=>⟨b,0,ae,cu.lt h,λk a=>?_⟩⟩;rw[ou,cu.cell h cw,tY,iz a];rfl
def oL:cD:=[8,1,8,8,8,1]
def oC(s:cR):cD:=[s.id,if s.cW=true then 1 else 0,s.cG,s.cT,s.cA,s.blocks]
def nS(s:cR):Option cD:=if eC s=true then sa [j8 oL (oC s)++gK s.cz,qx s.name,oK s.cO] else none
def tt(s:cR):Prop:=cY s.cz/\∀q∈s.cO,cY q
theorem Cd(h:eC s=true):(1<=s.id/\s.id<=281474976710655)/\(1<=s.cG/\s.cG<=281474976710655)/\s.cT<=281474976710655/\(1<=s.blocks/\s.blocks<=64)/\dV s.name=true/\fY s.cz=true/\s.cO.length<=4000/\nj s.cO=true/\s.cA<=281474976710655:=by unfold eC at h;grind
theorem Zq(h:eC s=true):uj oL (oC s)=some (j8 oL (oC s)):=by obtain⟨a,b,c,d,-,-,-,-,e⟩:=Cd h;unfold uj;rw[cL];refine⟨by decide,ae,?_⟩;grind[oL,oC,fitAll]
theorem OB(h:∀n∈l,n<18446744073709551616):∀x∈dh l,(Lit.int .u64 x).wf=true:=λx a=>by unfold dh at a;obtain⟨n,b,rfl⟩:=fM.1 a;grind[Lit.wf,IntKind.min,IntKind.max,IntKind.signed,IntKind.bits]
def S6(l:List cy):∀x∈oK l,x<256:=λx a=>by unfold oK at a;obtain⟨p,_,h⟩:=By.1 a;exact oE p x h
theorem JL{l:List cy}(a:l.length<=4000)(b:nj l=true):pN l=some (oK l):=by simp_all[pN]
section
attribute[local irreducible]wpList Code.wp Calls Oper.wp wpAnyH
theorem VQ(x:dg)(A:fJ)(F:A=ct 11 (gq x))(G:x.cO.length<=1000000)(N:tt x.tocR)(w:cB)(R:xW w x):
 CP_ 243 #[.agg A] w λe w'=>∃r,e=.returned (.tuple #[r,.int .i64 (fp 151 (nS x.tocR))])/\lS w' w.heap.size r ((nS x.tocR).getD [])/\dz w w':=by
 have H:=cq F;have U:=cq R;have D:=cq λW(a:dz w W)=>FV x A F G W (U.o.cx a);have S:=pF w;have⟨T,HT⟩:=q8 (nS x.tocR);rw[HT.o];cases q:eC x.tocR with
 |false=>
  obtain rfl:none=T:=by rw[<-HT.o];unfold nS;rw[q];rfl
  rw[q] at D;clear q F;go_enter func243,ntmps243;go_wp2_with (first|refine je S (D.o _ S.b) λW S=>?_|refine eR ?_|refine ey λW S=>?_);go_ret2;exact aG
 |true=>
  have⟨g1,g2,g3,g4,g5,g6,g7,g8,g9⟩:=Cd q;obtain⟨sn,B⟩:∃sn:Nat,(if x.cW=true then 1 else 0)=sn:=⟨_,ae⟩;have G:sn<256:=by rw[<-B];split<;>omega
  have i:oC x.tocR=[x.id,sn,x.cG,x.cT,x.cA,x.blocks]:=by unfold oC;rw[B]
  have b:=Zq q;rw[i] at b;have⟨NB,hNB⟩:=c8 (j8 oL [x.id,sn,x.cG,x.cT,x.cA,x.blocks]);rw[hNB] at b;have c:NB.length=34:=by rw[<-hNB];exact(qP (ws:=oL) (ns:=[x.id,sn,x.cG,x.cT,x.cA,x.blocks]) ae).trans ae
  have d:∀y∈NB,y<256:=by rw[<-hNB];exact vg _ _
  have H:=cq λv u W C G=>Fp v u oL [x.id,sn,x.cG,x.cT,x.cA,x.blocks] jR W C G;rw[b] at H;simp only[ku] at H;have f:sa [NB++gK x.cz,qx x.name,oK x.cO]=T:=by rw[<-HT.o];unfold nS;rw[q,cL ae,i,hNB]
  have g:=jL g5;have I:=cq λv W C=>RV v [NB++gK x.cz,qx x.name,oK x.cO] dU (λk h=>by
   rcases k with(_|_|_|k)
   . simp[c,ff]
   . simp[OA];have:x.name.size<=24:=g;omega
   . simp[uA];have:x.cO.length<=4000:=g7;omega
   . exact absurd h dU) W C
  rw[f] at I;have⟨G,hG⟩:=eW (ct 3 (c7 x.cz));have V:=cq hG;have O:=uE x;have Z:=cq (K6 x.cz N.1 g6 G hG);have E:=cq λW(a:dz w W)=>Na x.cO N.2 x.dv W cw (U.o.cx a);rw[JL g7 g8] at E;simp only[ku] at E;have⟨DB,hDB⟩:=c8 (oK x.cO);rw[hDB] at E I;have s:=cq (show∀y∈DB,y<256 by rw[<-hDB];exact S6 _);have Y:DB.length<=64000:=by rw[<-hDB,uA];have:x.cO.length<=4000:=g7;omega
  clear hDB;rw[q] at D;have p:=cq c;have t:=cq d;have J:=cq (show∀y∈dh oL,(Lit.int .i64 y).wf=true by decide);have L:=cq (OB (l:=[x.id,sn,x.cG,x.cT,x.cA,x.blocks]) (λn G=>by
   grind))
  have G:IntKind.u64.wrap (x.blocks:Int)=(x.blocks:Int):=An _ (by have G:x.blocks<=64:=g4.2;omega);have z:(x.cW=false/\sn=0)∨(x.cW=true/\sn=1):=by
   grind
  have G:x.cO.length<=4000:=g7;clear q F hG N b f i hNB c d B g1 g2 g3 g4 g5 g6 g7 g8 g9 HT;go_enter func243,ntmps243;rcases z with⟨Q,rfl⟩|⟨Q,rfl⟩
  all_goals(
   have F:=cq (fK Value.bool Q);clear Q
   go_upto_region 15 with(first|refine je S (D.o _ S.b) λW S=>?_|(first|refine Db S 0 ae 2 F.o ?_|refine oM_ S 2 ae (o:=7) (m:=3) (c7 x.cz) O V.o ?_)|refine lK S .i64 (dh oL) oW td cw cw rfl rfl rfl λW S=>?_|refine lK S .u64 (dh [x.id,_,x.cG,x.cT,x.cA,x.blocks]) uk yV cw cw rfl rfl rfl λW S=>?_|(go_at_call 73;refine ag (H.o _ _ _ (dR.row S.k1 ae (show(6:Nat)<=_ by omega) J.o) (dR.row S.k0 ae (show(6:Nat)<=_ by omega) L.o)) λr W⟨ho,a⟩=>?_;obtain⟨F,F,rfl⟩:=cS ho;replace S:=S.gm a ho ae ae;clear a)|(refine ag (Z.o _) λr W⟨ho,a⟩=>?_;obtain⟨F,F,rfl⟩:=cS ho;replace S:=S.gm a ho ae ae;clear a)|(refine ag (E.o _ S.b) λr W⟨ho,a⟩=>?_;obtain⟨G,H,rfl⟩:=cS ho;replace S:=S.gm a ho ae ae;clear a)|refine eR ?_|refine ey λW S=>?_)
   have F:x.name.size<=24:=g;refine dN S cX [⟨w.heap.size,109,11,gq x⟩] Be λW S=>?_;refine cJ 0 _ ?_;refine cJ 1 _ ?_;refine cJ 3 (cZ w.heap.size 1) ?_;refine cJ 4 (.string x.name) ?_;refine cJ 6 _ ?_
   repeat' first|refine Rp ?_|refine mi 9 _ ?_|refine mi 10 (r) ?_|refine mi 11 (.int .i64 (fp 21 T)) ?_|refine mi 12 _ ?_|refine mi 13 _ ?_|refine zX 2 5 (λK j=>?_) λK j=>?_|refine oJ 2 λK j=>?_|refine oJ 7 λK j=>?_|refine oJ 8 λK j=>?_|refine oJ 5 λK j=>?_|(refine ai0 S ae xP nK xI wR λU F W S=>?_;refine fC j ?_)|(refine aca S 2 ae ae ae S.q1 AD (zD _) (by simp only[p.o];omega) (by unfold maxLen;simp only[p.o];omega) λJ N W S=>?_;refine fC j ?_)|(refine XI S [.slice J (NB.length+16) N,.slice (s_ U 0) x.name.size F,.slice G DB.length H] underlying75 Qj cw cw ae ae (by intro v C;simp only[ib,iS,sM] at C;rcases C with rfl|rfl|rfl<;>rfl) ae λW S=>?_;refine fC j ?_)|(go_wp2_with fail;refine ag (I.o _ _ (S5 S.k0 ae ae (λk h F=>by rcases k with(_|_|_|k);exact⟨cK.tr (by have X:=cK.iW S.o2;simp only[<-mI] at X;exact X) (λy F=>by rcases fL.1 F with h|h;exact t.o y h;exact oE x.cz y h),sV S.o2⟩;exact⟨cK.tr S.x.2.1 (S4 _),by obtain⟨_,_,V,M,_⟩:=du S.x.2.1;simp only[kM] at V;obtain⟨-,-,rfl⟩:=V;exact .inr ⟨_,_,_,ae,M⟩⟩;exact⟨cK.tr S.q0 s.o,sV S.o0⟩;exact absurd h dU))) λr W⟨ho,a⟩=>?_;replace S:=S.gm a ho ae ae;clear a;refine fC j ?_)
   all_goals(
    refine cq ?_;cases T with
    |none=>
     go_wp2;go_ret2;exact aG
    |some bs=>
     go_wp2;go_ret2;exact bj
   )
  )
end
def agD:vT prog 75 22 1 24:=⟨underlying75,_,Qj,ae,cw⟩
section
def St.J4(S:St w0 d l L O X w)(g:dz w w')(ho:w'.ownsRow w.heap.size e z v n xs)(c:kO e=false)(f:fT e=false):St w0 d l L O (λB w=>X B w/\xL e z v n xs B w) w':=
 (S.cx g).B6 (eI e z v n xs c f) ⟨cK.iW ho,λ_ b a h=>by have i:=(ho.lt b a).1;have:=S.lt b h;omega⟩
def AK(ps:List (cI×cD)):cD->cB->Prop:=λB w=>∀p∈ps,xL 5 1 p.1 p.2.length (dH p.2) B w
def qD(ps:List (cI×cD)):tS (AK ps):=Hl ps λp _=>eI 5 1 _ _ _ ae ae
theorem S7(f:ps.length=n)(ho:w.ownsRow base 22 1 v n (ps.map Prod.fst))(j:AK ps B w)(i:∀p∈ps,Al p.1)(t:∀p∈ps,∀y∈p.2,y<256):Pt w v (ps.map Prod.snd):=by subst f;have a:(ps.map Prod.snd).length=ps.length:=lV _;rcases ho.2 with⟨rfl,c⟩|⟨g,cap,b,rfl,m,d,o,q,h6,r⟩;have:ps=[]:=wj c;subst this;exact⟨none,0,[],ae,ae,dK _,λk h=>absurd h (u' _),λh=>absurd ae h⟩;refine⟨some ⟨g,0,none⟩,cap,ps.map Prod.fst,by rw[a],by grind,cw,λk h l=>?_,λ_=>⟨g,0,ae,(qj.1 d).1,λk s=>?_⟩⟩;rw[lV] at h;have e:=lU h;have u:=(j _ e).1;grind[cK.tr];rw[ou];grind[x5]
end
def jN:List cR->Option (List cD)
 | []=>some []
 |s::l=>match nS s with
  |none=>none
  |some t=>match jN l with
   |none=>none
   |some ts=>some (t::ts)
theorem Ni(l:List cR)(s:cR):jN (l++[s])=match jN l with
 |none=>none
 |some ts=>match nS s with
  |none=>none
  |some t=>some (ts++[t]):=by
 induction l<;>grind[jN]
theorem Nj{l:List cR}(h:jN (l.take k)=none):jN l=none:=by rw[<-zZ k l];generalize l.drop k=m;generalize l.take k=n at h;induction n<;>grind[jN]
def iw(next:Nat)(l:List cR):Option cD:=
 if 281474976710655<next∨32<l.length then none else match jN l with
  |none=>none
  |some ts=>sa (j8 [8] [next]::ts)
theorem AL(h:sa ts=some r):ts.length<=65535/\(∀t∈ts,t.length<=65535)/\r=tK ts.length++ts.flatMap sW:=by unfold sa at h;grind
theorem aeS{n:Nat}(h:n<=65535):∀y∈tK n,y<256:=λy a=>by unfold tK at a;grind
theorem S8(h:sa ts=some r)(c:∀t∈ts,∀y∈t,y<256):∀y∈r,y<256:=by obtain⟨a,b,rfl⟩:=AL h;grind[aeS,sW]
theorem Zr(h:sa ts=some r):r.length<=5000000000:=by
 obtain⟨b,c,rfl⟩:=AL h;have d:∀a:List cD,(∀t∈a,t.length<=65535)->(a.flatMap sW).length<=a.length*65537:=by intro a;induction a<;>grind[sW,tK]
 grind[tK]
theorem FW(h:nS s=some t):eC s=true/\sa [j8 oL (oC s)++gK s.cz,qx s.name,oK s.cO]=some t:=by grind[nS]
def Ll(h:nS s=some t):∀y∈t,y<256:=by refine S8 (FW h).2 λu b y a=>?_;simp only[ib,iS,sM] at b;rcases b with rfl|rfl|rfl;rcases fL.1 a with h1|h1;exact vg _ _ y h1;exact oE _ y h1;exact S4 _ y a;exact S6 _ y a
theorem FX{l:List cR}(h:jN l=some ts):∀t∈ts,∃s,nS s=some t:=by induction l generalizing ts with|nil=>grind[jN]|cons a l ih=>unfold jN at h;grind
section
attribute[local irreducible]wpList Code.wp Calls Oper.wp wpAnyH
theorem Ce(next:Nat)(F:next<18446744073709551616)(l:List dg)(v:cI)(F:l.length<=1000000)(hd:∀s∈dJ l,s.cO.length<=1000000)(z:∀s∈dJ l,tt s)(w:cB)(R:fE w v l):
 CP_ 197 #[.int .u64 next,v] w λe w'=>∃r,e=.returned (.tuple #[r,.int .i64 (fp 151 (iw next (dJ l)))])/\lS w' w.heap.size r ((iw next (dJ l)).getD [])/\dz w w':=by
 obtain⟨F,cap,rfl,F,J⟩:=du R.1;have R:=cq R;have J:=cq J;have S:=pF w;have⟨T,HT⟩:=q8 (iw next (dJ l));rw[HT.o];go_enter func197,ntmps197;by_cases F:281474976710655<next
 . (obtain rfl:none=T:=by rw[<-HT.o];unfold iw;rw[cL (.inl F)]);have F:(281474976710655:Int)<(next:Int):=cw;go_wp2;go_ret2;exact aG
 have F:¬(281474976710655:Int)<(next:Int):=cw;by_cases X:32<l.length
 . (obtain rfl:none=T:=by rw[<-HT.o];unfold iw;rw[cL (.inr (by rw[gj];exact X))]);have F:(32:Int)<(l.length:Int):=cw;go_wp2;go_ret2;exact aG
 have F:¬(32:Int)<(l.length:Int):=cw;have C:uj [8] [next]=some (j8 [8] [next]):=by unfold uj;rw[cL];refine⟨by decide,ae,?_⟩;simp[fitAll];omega
 have⟨c,hHD⟩:=c8 (j8 [8] [next]);rw[hHD] at C;have H:c.length=8:=by rw[<-hHD];rfl
 have j:∀y∈c,y<256:=by rw[<-hHD];exact vg _ _
 have G:=cq λv u W F I=>Fp v u [8] [next] jR W F I;rw[C] at G;simp only[ku] at G;have Z:(match jN (dJ l) with|none=>none|some ts=>sa (c::ts))=T:=by rw[<-HT.o,<-hHD];unfold iw;rw[cM (by rw[gj];omega)]
 have V:=cq Z;have I:=cq (show∀y∈dh [8],(Lit.int .i64 y).wf=true by decide);have U:=cq (OB (l:=[next]) (λn N=>by grind));have a2:=cq H;have N:=cq j;clear C hHD H j Z;go_upto_region 8 with(first|refine lK S .i64 (dh [8]) oW td cw cw rfl rfl rfl λW S=>?_|refine lK S .u64 (dh [next]) uk yV cw cw rfl rfl rfl λW S=>?_|(refine ag (G.o _ _ _ (dR.row S.k1 ae (show(1:Nat)<=_ by omega) I.o) (dR.row S.k0 ae (show(1:Nat)<=_ by omega) U.o)) λr W⟨ho,d⟩=>?_;obtain⟨na,nc,rfl⟩:=cS ho;have U:=cq (sV ho);replace S:=S.J4 d ho ae ae;clear d)|(refine blV S [.slice na c.length nc] underlying75 Qj cw cw ae ae akY ae λW S=>?_;replace S:=S.Su ae));replace S:=S.Dx (X':=AK [(.slice na c.length nc,c)]) (λB w h p z=>by rw[eV.1 z];exact h.2) (qD _).k8;have S:=cq S
 go_loopw [8,34] (λY G wr=>∃(k:Nat)(ps:List (cI×cD))(H:Option Addr)(I:Nat),k<=l.length/\G=.int .i64 k/\ps.length=k/\Y=.slice H (k+1) I/\Hid (jN ((dJ l).take k)=some (ps.map Prod.snd)/\(∀p∈ps,Al p.1)/\
  ∃L,St w none [] L [⟨22,1,.slice H (k+1) I,k+1,((.slice na c.length nc,c)::ps).map Prod.fst⟩] (AK ((.slice na c.length nc,c)::ps)) wr)) (λ_ G _=>l.length-(intOf G).toNat)
 exact⟨0,[],_,1,cw,ae,ae,ae,cq ⟨ae,by simp,_,S.o⟩⟩;clear S;obtain⟨k,ps,H,I,G,rfl,H,rfl,hS⟩:=hrel;have⟨a,hsh,L,S⟩:=hS.o;clear hS;have G:=cq a;have Q:=cq hsh;clear a hsh;by_cases m:k<l.length
 . (obtain⟨b,o,rfl⟩:=J.o cw;have⟨x,hx⟩:=c8 (l[k]);have⟨D,hD⟩:=eW (ct 11 (gq x));have I:=cq (mu l m (A:=D) (by rw[hx];exact hD));have Y:x∈l:=hx▸lU m;have⟨K,HRC⟩:=q8 (nS x.tocR);have J:=cq λW(d:dz w W)=>VQ x D hD (hd _ (fM.2 ⟨x,Y,ae⟩)) (z _ (fM.2 ⟨x,Y,ae⟩)) W ((R.o.cx d).2 x Y);rw[HRC.o] at J;have E:jN ((dJ l).take (k+1))=K.bind λt=>some (ps.map Prod.snd++[t]):=by(have h9:(dJ l).take (k+1)=(dJ l).take k++[x.tocR]:=by rw[take_succ,l9,iz m,hx];rfl);rw[h9,Ni,G.o,<-HRC.o];grind);have f:=cq E;have M:=cq hD;clear hD hx Y E;cases K with|none=>(obtain rfl:none=T:=by rw[<-V.o,Nj f.o]);go_wp2_with (first|refine Bf (R.o.cx S.b).1 m (tL M) I.o ?_|(refine ag (J.o _ S.b) λr W⟨ho,d⟩=>?_;replace S:=S.cx d;clear d)|refine eR ?_|refine ey λW S=>?_);go_ret2;exact aG|some t=>simp only[ku] at J;go_wp2_with (first|refine Bf (R.o.cx S.b).1 m (tL M) I.o ?_|(refine ag (J.o _ S.b) λr W⟨ho,d⟩=>?_;obtain⟨J,K,rfl⟩:=cS ho;have I:=cq (sV ho);replace S:=S.J4 d ho ae ae;clear d)|(refine blV S [.slice J t.length K] underlying75 Qj cw cw ae ae akY ae λW S=>?_;replace S:=S.wv (k:=0) ae (g:=λ_=>.slice J t.length K) (λi Y=>by grind))|refine rK S 0 rfl 0 rfl rfl rfl rfl agD (λ_=>rfl) Br wR λg9 Y W S=>?_|refine eR ?_|refine ey λW S=>?_);go_roundw;refine⟨k+1,ps++[(.slice J t.length K,t)],s_ g9 0,Y,cw,by go_num,by simp[H],ae,cq ⟨by rw[f.o];simp,λp z=>?_,L,?_⟩⟩;rcases fL.1 z with h|h;exact Q.o p h;rw[eV.1 h];exact I.o;rw[<-sL,mI];have S:=S.pop.pop;refine S.Dx (λB w h p z=>?_) (qD _).k8;rcases fL.1 z with X|X;exact h.1 p X;rw[eV.1 X];exact h.2;exact oV
 . (obtain rfl:k=l.length:=cw;have a:=G.o;rw[nz (by rw[gj];exact dK _)] at a;have Y:sa (c::ps.map Prod.snd)=T:=by rw[<-V.o,a]);have O:=cq (show∀t∈ps.map Prod.snd,t.length<=5000000000/\∀y∈t,y<256 from λt G=>by have⟨s,hs⟩:=FX a t G;exact⟨Zr (FW hs).2,Ll hs⟩);have G:=cq λv W F=>RV v (c::ps.map Prod.snd) sp_ (λq h=>by have I:=lU h;rcases ib.1 I with h7|h7;rw[h7,a2.o];omega;exact gO (O.o _ h7).1 cw) W F;rw[Y] at G;clear a Y;go_upto_region 16 with(refine ag (G.o _ _ (S7 (ps:=(.slice na c.length nc,c)::ps) (by simp[H]) S.o0 S.x (λp z=>by rcases ib.1 z with h|h;rw[h];exact U.o;exact Q.o p h) (λp z=>by rcases ib.1 z with h|h;rw[h];exact N.o;exact(O.o _ (fM.2 ⟨p,h,ae⟩)).2))) λr W⟨ho,d⟩=>?_;replace S:=S.gm d ho ae ae;clear d);cases T with|none=>go_wp2;go_ret2;exact aG|some bs=>go_wp2;go_ret2;exact bj
end
def UH(l:cD):fh:=⟨(l.map UInt8.ofNat).toArray⟩
theorem Ta:∀(l:cD)(r:fh),(dh l).foldl (λr(n:Int)=>r.push (UInt8.ofNat n.toNat)) r=⟨r.data++(l.map UInt8.ofNat).toArray⟩
 | [],r=>by simp[dh]
 |b::l,r=>by
  unfold dh;simp only[xd,ym];have:=Ta l (r.push (UInt8.ofNat ((b:Int)).toNat));unfold dh at this;rw[this];simp[ByteArray.push]
theorem ack{q:cD}(h:DE bs=some (t,q))(c:∀y∈bs,y<256):(∀y∈t,y<256)/\∀y∈q,y<256:=by rcases bs with _|⟨a,_|⟨b,r⟩⟩<;>grind[DE]
theorem OC:∀(k:Nat){bs:cD}{ts:List cD}{q:cD},pq k bs=some (ts,q)->(∀y∈bs,y<256)->(∀t∈ts,∀y∈t,y<256)/\∀y∈q,y<256
 |0,bs,ts,q,h,hb=>by
  grind[pq]
 |k+1,bs,ts,q,h,hb=>by
  unfold pq at h;cases a:pq k bs with
  |none=>rw[a] at h;cases h
  |some p=>
   have⟨us,r⟩:=p;rw[a] at h;simp only at h;cases b:DE r with
   |none=>rw[b] at h;cases h
   |some p2=>
    have⟨t,q'⟩:=p2;rw[b] at h;cases h;have c:=OC k a hb;have d:=ack b c.2;refine⟨λu e=>?_,d.2⟩;rcases fL.1 e with h3|h3
    . exact c.1 u h3
    . rw[eV.1 h3];exact d.1
theorem Dh(h:um bs=some ts)(c:∀y∈bs,y<256):∀t∈ts,∀y∈t,y<256:=by rcases bs with _|⟨a,_|⟨b,r⟩⟩<;>grind[um,OC]
theorem St.OD(S:St w0 d l L O X w)(m:dz w w')(ho:JD w' w.heap.size v ts):
 ∃ps:List (cI×cD),ps.map Prod.snd=ts/\(∀p∈ps,Al p.1/\p.2.length<=65535)/\St w0 d l L O (λB w=>X B w/\(xL 22 1 v ps.length (ps.map Prod.fst) B w/\AK ps B w)) w':=by
 have⟨vs,hl,hown,hk⟩:=ho;have g:(vs.zip ts).map Prod.snd=ts:=map_snd_zip cw;have i:(vs.zip ts).map Prod.fst=vs:=map_fst_zip cw;have e:(vs.zip ts).length=ts.length:=by grind
 have c:∀p∈vs.zip ts,lS w' w.heap.size p.1 p.2/\p.2.length<=65535:=λp c=>by obtain⟨k,n,rfl⟩:=xh.1 c;grind
 refine⟨vs.zip ts,g,λp h=>⟨sV (c p h).1,(c p h).2⟩,?_⟩;rw[i,e];refine(S.cx m).B6 ((eI 22 1 v _ _ ae ae).and (qD _)) ⟨⟨cK.iW hown,λ_ b a f=>?_⟩,λp h=>⟨cK.iW (c p h).1,λ_ b a f=>?_⟩⟩;have j:=(hown.lt b a).1;have:=S.lt b f;omega;have j:=((c p h).1.lt b a).1;have:=S.lt b f;omega
section
variable {x:Nat}
theorem OE{w:cB}{T:dC}{v:cI}{n:Nat}{l:cD}(g:P.underlying src=some (.slice 5))(f:P.underlying 5=some (.int .u8))(e:P.underlying dT=some .string)(R:cK w T 1 v n (dH l)):(convert src dT v).run P w=.ok (.string (UH l)) w:=by
 have i:l.length=n:=by have:=R.1;grind[dH]
 subst i;obtain⟨c,cap,rfl,d,a⟩:=du R;rcases tZ l.length with h0|h0;obtain rfl:l=[]:=wj h0;rw[run_convert_bytes_string w src dT 5 c _ cap g f e];cases c with|none=>rfl|some b=>rfl
 . obtain⟨b,o,rfl⟩:=a h0;rw[run_convert_bytes_string w src dT 5 _ _ cap g f e];rw[run_bytesToString w ⟨b,o,none⟩ l.length cap (dh l) (by
    have k:=run_loadCells_list (P:=P) (w:=w) ⟨b,o,none⟩ (dH l) (λj u h=>by
     rw[show(⟨b,o,none⟩:Addr).add j=⟨b,o+j,none⟩ from by grind[Addr.add]];exact R.cellAt h0 h)
    simp_all[dH,dh]),Ta]
   simp[UH]
theorem agE(g:a.eval (.tmp x)=v)(f:P.underlying src=some (.slice 5))(e:P.underlying 5=some (.int .u8))(d:P.underlying dT=some .string)(R:∀w,SS w->cK w T 1 v n (dH l))(b:Region.wanted ⟨some dst,.convert src dT (.tmp x),t2,p,af,gd⟩ (yielded ops a.tmps)=true:=by kernel_rfl):
 YieldsIf P ops SS ⟨some dst,.convert src dT (.tmp x),t2,p,af,gd⟩ (.string (UH l)) a:=by refine .inl ⟨b,λw c=>?_⟩;grind[execOp,Sem.run_bind,OE,Result.andThen_ok,Sem.run_pure]
end
def tu(bs:cD):Option cR:=
 match um bs with
 |some [p0,p1,p2]=>if p0.length<34 then none else match qQ oL (p0.take 34) with
  |none=>none
  |some ns=>match mU (p0.drop 34) with
   |none=>none
   |some cz=>match ke p2 with
    |none=>none
    |some dd=>some ⟨ns.getD 0 0,UH p1,decide (ns.getD 1 0=1),ns.getD 2 0,ns.getD 3 0,ns.getD 4 0,ns.getD 5 0,cz,dd⟩
 |_=>none
theorem Di{bs:cD}(a:∀y∈bs,y<256):iH bs<256^bs.length:=by grind[Kr]
theorem Tb(bs:cD)(k:∀y∈bs,y<256)(q:bs.length=34):∃c d e f g h,qQ oL bs=some [c,d,e,f,g,h]/\c<18446744073709551616/\d<256/\e<18446744073709551616/\f<18446744073709551616/\g<18446744073709551616/\h<256:=by
 have b:qQ oL bs=some (nZ oL bs):=by unfold qQ;simp_all[okW,oL,ru]
 have j:∀(m:Nat)(l:cD),(∀y∈l,y<256)->iH ((l.drop m).take 8)<18446744073709551616:=λm l a=>by have o:=Di (bs:=(l.drop m).take 8) λy n=>a y (mR (lu n));have p:256^((l.drop m).take 8).length<=256^8:=Pc cw iG;omega
 have i:∀(m:Nat)(l:cD),(∀y∈l,y<256)->iH ((l.drop m).take 1)<256:=λm l a=>by grind[Di,length_take]
 refine⟨_,_,_,_,_,_,b,?_,?_,?_,?_,?_,?_⟩;exact j 0 bs k;grind;grind;grind;grind;grind
def SEX(w0:cB)(d:Option Nat)(l:cD)(rs:List R4)(X:cD->cB->Prop):cB->Prop:=λW=>∃L O,St w0 d l L O X W/\∀r∈rs,r∈L
section
variable {W:cB}
theorem SEX.row(h:SEX w0 d l rs X W)(k:Nat){r:R4}(a:rs[k]?=some r):cu W r.b r.t r.n r.f:=by have⟨L,O,S,hr⟩:=h;exact(S.row r (hr r (kt a))).1
theorem SEX.x(h:SEX w0 d l rs X W):∃B,X B W:=by have⟨L,O,S,hr⟩:=h;exact⟨_,S.x⟩
def Lm(S:St w0 d l L O X w){id:Nat}(b:P.follows .mixedOrders=true)(rs:List R4)(c:∀r∈rs,r∈L)(h:∀W,St w0 d l L O X W->wpAnyH P .any ops Q (SEX w0 d l rs X) ops.size (Array.replicate ops.size false) a W):(Code.region id ops true).wp P Q a w:=
 wp_region_held_drew b ⟨L,O,S.drew,c⟩ λ_=>h _ S.drew
end
def Tc:kB prog 22:=⟨⟨_,nK,ae⟩,cX⟩
instance in5a1b2 :pS 22:=⟨Tc⟩
def tz:ER prog 22 1:=⟨cX,λW=>by rfl⟩
def zK(h:JD w base v ts):∃a c,v=.slice a ts.length c:=by obtain⟨vs,d,b,_⟩:=h;exact cS b
theorem agF{a b c:cD}(h:ps.map Prod.snd=[a,b,c]):∃d e f,ps=[(d,a),(e,b),(f,c)]:=by rcases ps with _|⟨⟨d,q0⟩,_|⟨⟨e,q1⟩,_|⟨⟨f,q2⟩,_|⟨x,ps⟩⟩⟩⟩<;>simp at h;simp_all
theorem sk(l:cD)(k:Nat):(dH l).take k=dH (l.take k):=by simp_all[dH]
theorem vz(l:cD)(k:Nat):(dH l).drop k=dH (l.drop k):=by simp_all[dH]
theorem zL{p:cD}(h:xL 5 1 v p.length (dH p) B w):∃a c,v=.slice a p.length c/\p.length<=c:=by obtain⟨a,c,e,hc,_⟩:=du h.1;grind
section
attribute[local irreducible]wpList Code.wp Calls Oper.wp wpAnyH
theorem Zt(bs:cD)(u:cI)(F:bs.length<=1000000000)(w:cB)(A:dR .u8 w u (dh bs))(hc:yr u):
 CP_ 196 #[u] w λe w'=>∃B,e=.returned (.tuple #[.agg B,.int .i64 (fp 151 (tu bs))])/\xY w' w.heap.size B ((tu bs).getD nC)/\dz w w':=by
 have G:∀x∈bs,x<256:=Ak (by obtain⟨_,_,_,_,h,_⟩:=A;exact h);have N:=cq λW(g:dz w W)=>N3 u bs cw W (A.cx g) hc;have S:=pF w;have⟨T,hT⟩:=c8 (tu bs);have F:=cq hT;rw[hT];clear hT A hc;go_enter func196,ntmps196;cases f:um bs with
 |none=>
  obtain rfl:none=T:=by rw[<-F.o];unfold tu;rw[f]
  rw[f] at N;clear f;go_wp2_with first|(refine ag (N.o _ S.b) λr W⟨ho,g⟩=>?_;replace S:=S.cx g;clear g ho)|(refine lC ?_;exact⟨_,ae,qX _ _,S.b⟩)|refine eR ?_|refine ey λW S=>?_
 |some ts=>
  have s:=Dh f G;rw[f] at N;simp only[ku] at N;by_cases M:ts.length=3
  case neg=>
   obtain rfl:none=T:=by
    rw[<-F.o];unfold tu;rw[f];rcases ts with _|⟨a,_|⟨b,_|⟨c,_|⟨e,ts⟩⟩⟩⟩<;>first|rfl|exact absurd ae M
   have G:((ts.length:Int) !=3)=true:=by rw[eO];omega
   clear f
   go_wp2_with first|(refine ag (N.o _ S.b) λr W⟨ho,g⟩=>?_;obtain⟨G,H,rfl⟩:=zK ho;replace S:=S.cx g;clear g ho)|(refine lC ?_;exact⟨_,ae,qX _ _,S.b⟩)|refine eR ?_|refine ey λW S=>?_
  obtain⟨d,k,l,rfl⟩:∃d k l,ts=[d,k,l]:=by
   rcases ts with _|⟨a,_|⟨b,_|⟨c,_|⟨e,ts⟩⟩⟩⟩<;>first|exact⟨_,_,_,ae⟩|simp at M
  have L:=s d dU;have V:=s k dU;have X:=s l dU;have m:(if d.length<34 then none else match qQ oL (d.take 34) with|none=>none|some ns=>match mU (d.drop 34) with|none=>none|some cz=>match ke l with|none=>none|some dd=>some (⟨ns.getD 0 0,UH k,decide (ns.getD 1 0=1),ns.getD 2 0,ns.getD 3 0,ns.getD 4 0,ns.getD 5 0,cz,dd⟩:cR))=T:=by
   rw[<-F.o];unfold tu;rw[f]
  clear f s M
  go_upto_region 2 with(first|(refine ag (N.o _ S.b) λr W⟨ho,g⟩=>?_;obtain⟨G,H,rfl⟩:=zK ho;have⟨ps,hps,hsh,S9⟩:=S.OD g ho;replace S:=S9;clear S9 g ho;obtain⟨I,J,F,rfl⟩:=agF hps;obtain⟨rb,ro,rfl⟩:∃rb ro,G=s_ rb ro:=(by obtain⟨_,_,e1,_,h⟩:=du S.x.2.1.1;grind);have G:l.length<=65535:=(hsh (F,l) dU).2;clear hps hsh;obtain⟨Z,Q,rfl,G⟩:=zL (p:=d) (S.x.2.2 (I,d) dU);obtain⟨N,c1,rfl,G⟩:=zL (p:=k) (S.x.2.2 (J,k) dU);obtain⟨U,c2,rfl,a8⟩:=zL (p:=l) (S.x.2.2 (F,l) dU);replace S:=S.Dx (X':=λB w=>xL 22 1 (.slice (s_ rb ro) 3 H) 3 [.slice Z d.length Q,.slice N k.length c1,.slice U l.length c2] B w/\AK [(.slice Z d.length Q,d),(.slice N k.length c1,k),(.slice U l.length c2,l)] B w) (λB w h=>h.2) ((eI _ _ _ _ _ ae ae).and (qD _)).k8;simp only[kr,r7,ou,reduceAdd])|refine ey λW S=>?_)
  by_cases R:d.length<34
  . obtain rfl:none=T:=by rw[<-m,cL R]
    have F:(d.length:Int)<34:=cw
    go_wp2_with first|refine yi (cK.cellAt S.x.1.1 (j:=0) cw ae) ?_|(refine lC ?_;exact⟨_,ae,qX _ _,S.b⟩)|refine eR ?_|refine ey λW S=>?_
  have F:¬(d.length:Int)<34:=cw;rw[cM R] at m;have o:∀y∈d.take 34,y<256:=λy F=>L y (lu F);have E:∀y∈d.drop 34,y<256:=λy F=>L y (mR F);obtain⟨n0,n1,n2,n3,n4,O,Y,F,F,F,F,F,F⟩:=Tb (d.take 34) o bf;have F:=cq λv u W G A hc=>II v u oL (d.take 34) jR W G A hc;rw[Y] at m F;simp only[ku] at F;have⟨rp,hrp⟩:=c8 (mU (d.drop 34));have⟨rd,hrd⟩:=c8 (ke l);have⟨G,hG⟩:=eW (ct 3 (c7 (rp.getD cH)));have C3:=cq λu W A hc=>vh u (d.drop 34) W A hc;have C4:=cq λv W A hc=>Qa l v W cw A hc;rw[hrp,cP hG] at C3;rw[hrd] at C4;rw[hrp,hrd] at m;have q:=cq m;have HG:=cq hG;have H:=cq (And.intro o (And.intro E (And.intro V X)));have I:=cq (show∀y∈dh oL,(Lit.int .i64 y).wf=true by decide);have C:34<=Q:=cw;have n:34<=d.length:=cw;clear m hrp hrd hG Y o E L V X
  go_upto_region 8 with(first|(first|refine yi (cK.cellAt S.x.1.1 (j:=0) cw ae) ?_|refine yi (cK.cellAt S.x.1.1.1 (j:=0) cw ae) ?_)|refine lK S .i64 (dh oL) oW td cw cw rfl rfl rfl λW S=>?_|refine SJ tz ae ae C ?_|(refine ag (F.o _ _ _ (dR.row S.k0 ae (show(6:Nat)<=_ by omega) I.o) (cK.tr (by have J:=cK.take (S.x.2 (.slice Z d.length Q,d) dU).1 n;rw[q7,sk] at J;exact J) H.o.1) ⟨_,_,_,ae,C⟩) λr W⟨ho,g⟩=>?_;obtain⟨na,F,rfl⟩:=cS ho;replace S:=S.J4 g ho ae ae;clear ho g)|refine xU tz ae ae n ?_|refine je S (C3.o _ _ (cK.tr (by have J:=cK.Bj (S.x.1.2 (.slice Z d.length Q,d) dU).1 n;rw[q7,vz] at J;exact J) H.o.2.1) ⟨_,_,_,rfl,cw⟩) λW7 S=>?_|refine ey λW S=>?_)
  cases rp with
  |none=>
   obtain rfl:none=T:=q.o
   go_wp2_with first|(refine lC ?_;exact⟨_,ae,qX _ _,S.b⟩)|refine eR ?_|refine ey λW S=>?_
  |some cz=>
   simp only[ku] at HG S
   go_upto_region 11 with(first|refine yi (cK.cellAt S.x.1.1.1 (j:=2) cw ae) ?_|(refine ag (C4.o _ _ (cK.tr (S.x.1.2 (.slice U l.length c2,l) dU).1 H.o.2.2.2) ⟨_,_,_,ae,a8⟩) λr W⟨ho,g⟩=>?_;obtain⟨da,dc,rfl⟩:=cS ho;replace S:=S.gm g ho ae ae;clear ho g))
   cases rd with
   |none=>
    obtain rfl:none=T:=q.o
    go_wp2_with (first
   |(refine lC ?_;exact⟨_,ae,qX _ _,S.b⟩)
   |refine eR ?_
   |refine ey λW S=>?_)
   |some dd=>
    simp only[ku] at S|-;have⟨sb,hsb⟩:=c8 (decide (n1=1));have F:((n1:Int)==1)=sb:=by
     rw[<-hsb];by_cases h:n1=1
     . rw[h];rfl
     . rw[iC h,lx];omega
    have Y:=cq F;obtain⟨ty,z⟩:∃t:cR,t=⟨n0,UH k,sb,n2,n3,n4,O,cz,dd⟩:=⟨_,ae⟩;obtain rfl:some ty=T:=by rw[<-q.o,z,<-hsb];rfl
    have⟨D,hD⟩:=eW (ct 11 (gq ⟨ty,da,dc⟩));have U:D=ct 11 (gq ⟨⟨n0,UH k,sb,n2,n3,n4,O,cz,dd⟩,da,dc⟩):=by rw[hD,z]
    have HD:=cq hD;have V:=cq U;have a5:=cq z;have H:IntKind.i64.wrap (O:Int)=(O:Int):=j0 _ cw;obtain⟨H,I,rfl⟩:∃H I,na=s_ H I:=by
     obtain⟨_,_,e1,_,h⟩:=du S.x.2.1
     grind
    clear hD U hsb F z q
    go_upto_region 13 with(fail)
    refine Lm S cX [⟨W7.heap.size,106,3,c7 cz⟩] Be λW S=>?_;refine cJ 0 _ ?_;refine cJ 1 (cZ H (I+0)) ?_;refine fW 2 (.int .u64 n0) ae (fR (λw h=>by obtain⟨_,i⟩:=h.x;exact cK.cellAt i.2.1 (j:=0) dU ae) ae fg) ?_;refine cJ 3 _ ?_;refine cJ 4 (cZ rb (ro+1)) ?_;refine fW 5 (.slice N k.length c1) ae (fR (λw h=>by obtain⟨_,i⟩:=h.x;exact cK.cellAt i.1.1.1 (j:=1) cw ae) ae Tc) ?_;refine fW 6 (.string (UH k)) ae (agE ae nK xI xP (λw h=>by obtain⟨_,i⟩:=h.x;exact(i.1.2 (.slice N k.length c1,k) dU).1)) ?_;refine cJ 7 _ ?_;refine cJ 8 (cZ H (I+1)) ?_;refine fW 9 (.int .u64 n1) ae (fR (λw h=>by obtain⟨_,i⟩:=h.x;exact cK.cellAt i.2.1 (j:=1) dU ae) ae fg) ?_;refine fW 10 (.bool sb) ae (Or.inl ⟨cX,λw F=>by have F:=Y.o;go_simp⟩) ?_;refine cJ 11 _ ?_;refine cJ 12 (cZ H (I+2)) ?_;refine fW 13 (.int .u64 n2) ae (fR (λw h=>by obtain⟨_,i⟩:=h.x;exact cK.cellAt i.2.1 (j:=2) dU ae) ae fg) ?_;refine cJ 14 _ ?_;refine cJ 15 (cZ H (I+3)) ?_;refine fW 16 (.int .u64 n3) ae (fR (λw h=>by obtain⟨_,i⟩:=h.x;exact cK.cellAt i.2.1 (j:=3) dU ae) ae fg) ?_;refine cJ 17 _ ?_;refine cJ 18 (cZ H (I+4)) ?_;refine fW 19 (.int .u64 n4) ae (fR (λw h=>by obtain⟨_,i⟩:=h.x;exact cK.cellAt i.2.1 (j:=4) dU ae) ae fg) ?_;refine cJ 20 _ ?_;refine cJ 21 (cZ H (I+5)) ?_;refine fW 22 (.int .u64 O) ae (fR (λw h=>by obtain⟨_,i⟩:=h.x;exact cK.cellAt i.2.1 (j:=5) dU ae) ae fg) ?_;refine cJ 23 (.int .i64 O) ?_;refine fW 24 (.agg G) ae (pZ aF ae HG.o eN) ?_;refine cJ 25 _ ?_;refine fW 26 (.agg D) ae (xO ae (by rw[V.o,HG.o];kernel_rfl)) ?_;refine jQ 27 λK F=>?_;refine ju S 2 ae ae ae HD.o tf (lM _) λW S=>?_;refine fC F ?_;clear F K;refine cJ 28 _ ?_;refine pz ?_
    go_wp2_with (refine lC ?_;exact⟨_,ae,⟨⟨ty,da,dc⟩,ae,ae,by have J:=S.o0;unfold dg.dv;rw[a5.o];exact J⟩,S.b⟩)
def ah0(dst:Nat)(src dT:dC)(x:Nat)(h:wpList P ops Q (⟨some dst,.convert src dT (.tmp x),t2,p,af,none⟩::rest) a w):wpList P ops Q (⟨some dst,.convert src dT (.tmp x),t2,p,af,none⟩::rest) a w:=h
def afX{x:Nat}(f:a.eval (.tmp x)=v)(e:P.underlying src=some (.slice 5))(d:P.underlying 5=some (.int .u8))(c:P.underlying dT=some .string)(R:cK w T 1 v n (dH l))(h:wpList P ops Q rest (a.put (some dst) (.string (UH l))) w):wpList P ops Q (⟨some dst,.convert src dT (.tmp x),t2,p,af,none⟩::rest) a w:=by refine lF ae λK b=>?_;unfold Oper.wp execOp;simp only[f,kj,OE e d c R,mS];exact b _ _ h
theorem aeT{m:cD}(d:∀y∈l,y<256)(e:∀y∈m,y<256)(h:UH l=UH m):l=m:=by
 unfold UH at h;have b:l.map UInt8.ofNat=m.map UInt8.ofNat:=by grind
 have c:(l.map UInt8.ofNat).map UInt8.toNat=(m.map UInt8.ofNat).map UInt8.toNat:=by rw[b]
 have a:∀k:cD,(∀y∈k,y<256)->(k.map UInt8.ofNat).map UInt8.toNat=k:=λk f=>by
  rw[sK];conv=>rhs;rw[<-map_id k]
  grind[map_congr_left,UInt8.toNat_ofNat']
 rwa [a l d,a m e] at c
def Cf(v u:cI)(l m:cD)(f g:dC)(k n:Nat)(i:∀y∈l,y<256)(j:∀y∈m,y<256)(w:cB)(a:cK w f 1 v k (dH l))(b:cK w g 1 u n (dH m)):CP_ 32 #[v,u] w λe w'=>e=.returned (.bool (decide (l=m)))/\w=w':=by
 have c:((UH l).toList==(UH m).toList)=decide (l=m):=by rw[aci];by_cases h:l=m;rw[h];simp;rw[iC h,iC (λe=>h (aeT i j e))]
 have d:=cq c;clear c;have a:=cq a;have b:=cq b;go_enter func32,ntmps32;go_wp2_with (first|((with_reducible refine ah0 6 22 9 5 ?_);refine afX ae nK xI xP a.o ?_)|((with_reducible refine ah0 8 22 9 7 ?_);refine afX ae nK xI xP b.o ?_));go_ret;exact⟨by rw[d.o];rfl,ae⟩
end
def lO:List cD->Option (List cR)
 | []=>some []
 |t::ts=>match tu t with
  |none=>none
  |some s=>match lO ts with
   |none=>none
   |some l=>some (s::l)
theorem Nk(l:List cD)(t:cD):lO (l++[t])=match lO l with
 |none=>none
 |some ss=>match tu t with
  |none=>none
  |some s=>some (ss++[s]):=by
 induction l<;>grind[lO]
theorem Nl{l:List cD}(h:lO (l.take k)=none):lO l=none:=by rw[<-zZ k l];generalize l.drop k=m;generalize l.take k=n at h;induction n<;>grind[lO]
theorem Qk{l:List cy}(a:∀y∈bs,y<256)(h:rC k bs=some l):∀q∈l,cY q:=by induction k generalizing l<;>grind[rC,vu]
theorem DR{l:List cy}(h:ke bs=some l):rC (bs.length/16) bs=some l/\bs.length<=64000/\nj l=true:=by grind[ke]
theorem Ln{bs:cD}{l:List cy}(a:∀y∈bs,y<256)(h:ke bs=some l):∀q∈l,cY q:=Qk a (DR h).1
theorem Ql{bs:cD}{l:List cy}(h:ke bs=some l):l.length<=4000:=by obtain⟨a,b,_⟩:=DR h;grind[VG]
theorem FY{bs:cD}{s:cR}(b:∀y∈bs,y<256)(h:tu bs=some s):tt s/\s.cO.length<=4000:=by
 unfold tu at h;split at h;next p0 p1 p2 hs=>have a:=Dh hs b;split at h;cases h;split at h;cases h;next ns hn=>split at h;cases h;next cz hr=>split at h;cases h;next dd hd=>cases h;refine⟨⟨vu (λy c=>a p0 dU y (mR c)) hr,λq d=>?_⟩,?_⟩;grind[Ln];grind[Ql]
 cases h
end Go.Proofs.YtklligbjoplbgaaGreat