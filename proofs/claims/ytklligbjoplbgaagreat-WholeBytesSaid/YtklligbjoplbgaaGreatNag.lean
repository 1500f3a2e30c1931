/- Part 7 of 15 of the proof of WholeBytes; no conditions. -/
import Derived.Test.YtklligbjoplbgaaGreatNaf
import Derived.Shelf.RegionOpenPlain
import Derived.Deep.RegionLaw
import Derived.Lib.SliceRun
import Derived.Lib.ConvBytes
import Derived.Lib.BufferRead
import Derived.Laws.BytesString
namespace Go.Proofs.YtklligbjoplbgaaGreat
set_option linter.all false
set_option maxRecDepth 100000
set_option maxHeartbeats 64000000
open Go.RowKit Lib List Nat _root_.Go.Proofs.Tryz Go.Shelf
variable {A Z:iw}{a:Act}{K:Act->aD->Prop}{parts:Array (Nat×Operand)}{af:Array Edge}{ops:Array Oper}{b c:bx}{R:Ending->aD->Prop}{Q:Exit->Act->aD->Prop}{fn:Func}{B bs l r t:aK}{X:aK->aD->Prop}{ps:List (bh×aK)}{ts:List aK}{O:List O4}{rest:List Oper}{L rs:List R4}{m:List aZ}{vs xs:List bh}{base by' dst g i id j k n y z:Nat}{f:Nat->bh}{o:O4}{gd:Option (Nat×Bool)}{d:Option Nat}{P:pw}{s:cu}{p:String}{T dT e src t2 ty:dD}{v zv:bh}{w w' w0:aD}{SS:aD->Prop}
theorem Wp {l:List aZ}{s y' x:aZ}{p q:cu}(hm:bA m=bA l)(hs:s.tocu=p)(hy:y'.tocu=q):bA ((m++[s]).set i y')=(bA l++[p]).set i q:=by
 grind[bA,map_set]
theorem Cl {y x:aZ}(h:y.tocu=x.tocu):y.id=x.id/\y.name=x.name/\y.snap=x.snap/\y.owner=x.owner/\y.prev=x.prev/\y.ay=x.ay/\y.blocks=x.blocks/\y.root=x.root/\y.dead=x.dead:=
 by grind
theorem K2 (b:bx)(A:iw)(hA:A=ah 2 (bg b))(hf:rY b.t)(full:lf)(hfu:full.size<=1000000)(ay:Nat)(w:aD)(R:dN w b):
 Calls prog 54 #[.agg A,.string full,.int .u64 ay] w λe w'=>∃B,e=.returned (.tuple #[.agg B,.int .i64 (eR b.t full ay).2])/\gF w' w.heap.size B (eR b.t full ay).1/\dp w w':=by
 have HA:=ae hA;have HR:=ae R;have C1:=ae (vp full hfu);have C2:=ae λfull hfu W (hb:dp w W)=>ry b A hA hf full hfu W (HR.o.below hb);have C7:=ae λid W (hb:dp w W)=>x8 b.l b.sv id hf.len W (HR.o.below hb);have C9:=ae λW (hb:dp w W)=>k7 b A hA hf W (HR.o.below hb);have C3:=ae λs D hD W (hb:dp w W)=>Ck b A hA hf s D hD W (HR.o.below hb);have hd:lS b.l:=hf.2;have S:=ug w;have HL:=ae (show b.l.length=b.t.bO.length from(dC _).symm);obtain⟨ao,cap,-,hcap,hao⟩:=aR R.1;clear hA hf;obtain⟨T,hT⟩:=cM (eR b.t full ay);have HT:=ae hT;rw[hT];clear hT;go_enter func54,ntmps54
 go_upto_region 2 with(first|(with_reducible first|refine jx 3 99 0 S HA.o λW S=>?_|refine jb 6 99 S yo dM λW S=>?_)|(go_at_call 111;refine je S (C1.o _) λW S=>?_))
 cases hv:k8 full with
 | none=>
  obtain rfl: (b.t,141)=T:=by rw[<-HT.o];unfold eR;rw[hv]
  go_wp2_with (first|(with_reducible refine jr 23 99 3 S 1 HA.o ?_)|with_reducible refine js 99 6 24 S 0 HB.o (aT _) λW S=>?_|(go_at_call 112;refine JZ S (C9.o _ S.b) λW B c HB HC HF S=>?_)|((with_reducible refine aJ ?_);go_must (refine bj S 0 rfl rfl rfl fe rfl ?_;exact⟨_,rfl,⟨c,rfl,HC.o,S.dO HF.o⟩,S.b⟩)))
 | some vv=>
  obtain⟨vol,snap⟩:=vv;have hvs:=K1 hv
  go_upto_region 5 with(first|(with_reducible refine jr 26 99 3 S 1 HA.o ?_)|(go_at_call 113;refine je S (C2.o vol hvs _ S.b) λW S=>?_))
  cases hn:jD b.t.bO vol with
  | none=>
   obtain rfl: (b.t,172)=T:=by rw[<-HT.o];unfold eR;rw[hv];simp only[hn]
   simp only[fV]
   go_wp2_with (first|(with_reducible refine jr 31 99 3 S 1 HA.o ?_)|with_reducible refine js 99 6 32 S 0 HB.o (aT _) λW S=>?_|(go_at_call 112;refine JZ S (C9.o _ S.b) λW B c HB HC HF S=>?_)|((with_reducible refine aJ ?_);go_must (refine bj S 0 rfl rfl rfl fe rfl ?_;exact⟨_,rfl,⟨c,rfl,HC.o,S.dO HF.o⟩,S.b⟩)))
  | some i=>
   simp only[fV];have hi0: ¬((i:Int)<0):=au;by_cases h4:32<=b.t.bO.length
   . obtain rfl: (b.t,175)=T:=by rw[<-HT.o];unfold eR;rw[hv];simp only[hn,h4,wz]
     have h5: (32:Int)<=(b.l.length:Int):=by have:=HL.o;omega
     go_wp2_with (first|(with_reducible first|refine jl 34 97 33 S 1 1 (.slice b.bI b.l.length b.cap) ?_|refine jr 37 99 3 S 1 HA.o ?_)|with_reducible refine js 99 6 38 S 0 HB.o (aT _) λW S=>?_|(go_at_call 112;refine JZ S (C9.o _ S.b) λW B c HB HC HF S=>?_)|((with_reducible refine aJ ?_);go_must (refine bj S 0 rfl rfl rfl fe rfl ?_;exact⟨_,rfl,⟨c,rfl,HC.o,S.dO HF.o⟩,S.b⟩)))
   . have h5: ¬(32:Int)<=(b.l.length:Int):=by have:=HL.o;omega
     go_upto_region 9 with(first|(with_reducible refine jl 34 97 33 S 1 1 (.slice b.bI b.l.length b.cap) ?_))
     have C6:=ae (C2.o full hfu);cases hn2:jD b.t.bO full with
     | some j=>
      obtain rfl: (b.t,171)=T:=by rw[<-HT.o];unfold eR;rw[hv];simp only[hn,h4,Jq,hn2]
      rw[hn2] at C6;simp only[fV] at C6
      go_wp2_with (first|(with_reducible first|refine jr 39 99 3 S 1 HA.o ?_|refine jr 43 99 3 S 1 HA.o ?_)|with_reducible refine js 99 6 44 S 0 HB.o (aT _) λW S=>?_|(go_at_call 113;refine je S (C6.o _ S.b) λW S=>?_)|(go_at_call 112;refine JZ S (C9.o _ S.b) λW B c HB HC HF S=>?_)|((with_reducible refine aJ ?_);go_must (refine bj S 0 rfl rfl rfl fe rfl ?_;exact⟨_,rfl,⟨c,rfl,HC.o,S.dO HF.o⟩,S.b⟩)))
     | none=>
      rw[hn2] at C6;simp only[fV] at C6;obtain⟨x,hx⟩:=pH hn;have hil:=(sy.1 hx).1;have hil2: (i:Int)< (b.l.length:Int):=au;have hg:di b.t.bO i=x.tocu:=fW hx;obtain⟨bb,oo,hbo⟩: ∃bb oo,b.bI=s_ bb oo:=by
       obtain⟨_,_,e1,_,h⟩:=aR R.1;unfold bx.sv at e1;simp only[mA] at e1;obtain⟨h1,o1,h2⟩:=h au;exact⟨h1,o1,by rw[e1.1];exact h2⟩
      have HBV:Hid (bg b 1=.slice (s_ bb oo) b.l.length b.cap):=ae (by rw[<-hbo];rfl);have R9:cQ w (.slice (s_ bb oo) b.l.length b.cap) b.l:=by have:=R;unfold dN bx.sv at this;rwa [hbo] at this
      have HX:=ae (R9.at hx);have HR9:=ae R9;have C8:=ae (C7.o x.id);have hsv:b.sv=.slice (s_ bb oo) b.l.length b.cap:=by unfold bx.sv;rw[hbo]
      rw[hsv] at C8;obtain⟨fl,hfl⟩:=cM (iO (bA b.l) x.id);rw[hfl] at C8
      go_upto_region 12 with(first|(with_reducible first|refine jr 39 99 3 S 1 HA.o ?_|refine jo 50 82 49 ((HX.o.below S.b).c0) ?_)|(go_at_call 113;refine je S (C6.o _ S.b) λW S=>?_)|((with_reducible refine pP ?_);refine O9 S 1 rfl 1 (v:=.slice (s_ bb oo) b.l.length b.cap) HBV.o ?_))
      by_cases h6:ay<1∨281474976710655<ay∨ay<=iO b.t.bO (di b.t.bO i).id
      . obtain rfl: (b.t,176)=T:=by rw[<-HT.o];unfold eR;rw[hv];simp only[hn,h4,Jq,hn2,h6,wz]
        rw[hg] at h6;rw[show iO b.t.bO x.id=fl from hfl] at h6;by_cases h7:ay<1
        . have h8: ((ay:Int)<1):=au
          go_wp2_with (first|(with_reducible refine jr 65 99 3 S 1 HA.o ?_)|with_reducible refine js 99 6 66 S 0 HB.o (aT _) λW S=>?_|(go_at_call 112;refine JZ S (C9.o _ S.b) λW B c HB HC HF S=>?_)|((with_reducible refine aJ ?_);go_must (refine bj S 0 rfl rfl rfl fe rfl ?_;exact⟨_,rfl,⟨c,rfl,HC.o,S.dO HF.o⟩,S.b⟩)))
        . have h8: ¬((ay:Int)<1):=au;by_cases h9:281474976710655<ay
          . have h10: ((281474976710655:Int)< (ay:Int)):=au
            go_wp2_with (first|(with_reducible refine jr 65 99 3 S 1 HA.o ?_)|with_reducible refine js 99 6 66 S 0 HB.o (aT _) λW S=>?_|(go_at_call 112;refine JZ S (C9.o _ S.b) λW B c HB HC HF S=>?_)|((with_reducible refine aJ ?_);go_must (refine bj S 0 rfl rfl rfl fe rfl ?_;exact⟨_,rfl,⟨c,rfl,HC.o,S.dO HF.o⟩,S.b⟩)))
          . have h10: ¬((281474976710655:Int)< (ay:Int)):=au;have h11: ((ay:Int)<=(fl:Int)):=au
            go_wp2_with (first|(with_reducible refine jr 65 99 3 S 1 HA.o ?_)|with_reducible refine js 99 6 66 S 0 HB.o (aT _) λW S=>?_|((with_reducible refine pP ?_);refine O9 S 1 rfl 1 (v:=.slice (s_ bb oo) b.l.length b.cap) HBV.o ?_)|(go_at_call 114;refine je S (C8.o _ S.b) λW S=>?_)|(go_at_call 112;refine JZ S (C9.o _ S.b) λW B c HB HC HF S=>?_)|((with_reducible refine aJ ?_);go_must (refine bj S 0 rfl rfl rfl fe rfl ?_;exact⟨_,rfl,⟨c,rfl,HC.o,S.dO HF.o⟩,S.b⟩)))
      . rw[hg] at h6;obtain rfl: (⟨jW b.next,(bA b.l++[{x.tocu with id:=b.next,name:=snap,snap:=true,owner:=x.id,ay:=ay}]).set i {x.tocu with prev:=b.next,dead:=[]}⟩,0)=T:=by
         rw[<-HT.o];unfold eR;rw[hv];simp only[hn,h4,Jq,hn2,hg,h6];rfl
        rw[show iO b.t.bO x.id=fl from hfl] at h6;have h8: ¬((ay:Int)<1):=au;have h10: ¬((281474976710655:Int)< (ay:Int)):=au;have h11: ¬((ay:Int)<=(fl:Int)):=au;obtain⟨E,hE⟩:=gq (ah 11 (dy x));have hxx:=(sy.1 hx).2;have hsub:=ae (iN b.l hil (A:=E) (by rw[hxx];exact hE));have hm:=nf hx;have CC:=ae λW (hb:dp w W)=>kR x E hE (hd.at hm).1 W ((HR.o.below hb).2 x hm);have HE:=ae hE;have HXE:Hid (b.l[i]'hil=x):=ae hxx;clear hE hxx hm hx hg hn hn2 hv hfl h6
        go_upto_region 17 with(first|(with_reducible first|refine jl 74 82 73 S 2 0 (.int .u64 b.next) ?_|refine jr 83 99 3 S 2 HA.o ?_|refine jr 84 109 13 S 0 HE2.o ?_)|(with_reducible first|refine jb 13 109 S Er cO λW S=>?_|refine js 109 13 72 S 0 HB.o (cy _) λW S=>?_|refine jb 14 99 S yo dM λW S=>?_|refine js 99 14 85 S 0 HB3.o (aT _) λW S=>?_)|((with_reducible refine pP ?_);first | refine O9 S 1 rfl 1 (v:=.slice (s_ bb oo) b.l.length b.cap) HBV.o ?_ | refine Md (HR9.o.below S.b).1 hil (DW HE) hsub.o ?_)|(go_at_call 114;refine je S (C8.o _ S.b) λW S=>?_)|(go_at_call 115;refine(CC.o _ S.b).mono ?_;rintro e W5 ⟨B,y,rfl,hB,hY,hb⟩;have HB:=ae hB;have HFy:=ae (show l5 w.heap.size y from λhn b hb=>kL S.fr.size ((mH.of hY.2).2 hn b hb));replace S:=S.uD hb hY.2;have HY:=ae hY.1;clear hb hB hY)|((with_reducible refine aS 82 78 74 ?_);refine nt S 0 rfl 0 (v:=.int .u64 b.next) qv rfl rfl rfl bF λW S=>?_)|((with_reducible refine aS 9 79 75 ?_);refine nt S 0 rfl 1 (v:=.string snap) qv rfl rfl rfl pY λW S=>?_)|((with_reducible refine fE 4 80 ?_);refine nt S 0 rfl 2 (v:=.bool true) qv rfl rfl rfl gU λW S=>?_)|((with_reducible refine aS 82 81 76 ?_);refine nt S 0 rfl 3 (v:=.int .u64 x.id) qv rfl rfl rfl bF λW S=>?_)|((with_reducible refine aS 82 82 77 ?_);refine nt S 0 rfl 5 (v:=.int .u64 ay) qv rfl rfl rfl bF λW S=>?_;obtain⟨ys,hys⟩: ∃ys:aZ,ys=⟨⟨b.next,snap,true,x.id,y.prev,ay,y.blocks,y.root,y.dead⟩,y.bI,y.cap⟩:=⟨_,rfl⟩;have HYS:=ae hys;replace S:=S.ld (k:=0) rfl (g:=dy ys) (λi hi=>by have hi:i<11:=hi;rw[hys];rcases i with(_|_|_|_|_|_|_|_|_|_|_|i) <;> first | rfl);obtain⟨E2,hE2⟩:=gq (ah 11 (dy ys));have HE2:=ae hE2;have C4:=ae (C3.o ys E2 hE2);clear hys hE2)|(go_at_call 116;refine(C4.o _ S.b).mono ?_;rintro e W8 ⟨B3,m,ao2,c,rfl,hB,hm,ho,hd2,hb⟩;obtain⟨g,c',hgc⟩:=xb ho (succ_pos _);simp only[mA] at hgc;obtain⟨rfl,-,rfl⟩:=hgc;obtain⟨M5,hM5⟩:=gq (m++[ys]);have hKl:m.length+1=M5.length:=(by rw[hM5,kh];rfl);rw[<-hM5,hKl] at ho;rw[<-hM5] at hB;have HB3:=ae hB;have HM:=ae hm;have HF:=ae (show ∀x∈m,l5 w.heap.size x from λx hx hn b h9=>kL S.fr.size ((hd2 x hx).2 hn b h9));have hyd:ys.dv=y.dv/\ys.dead=y.dead:=(by rw[HYS.o];exact⟨rfl,rfl⟩);have hyx:Dq ys _ _:=(by have:=S.x.2;unfold Dq at this ⊢;rwa [<-hyd.1,<-hyd.2] at this);replace S:=S.F0 hb ho (λx hx=>by rw[hM5] at hx;rcases jn.1 hx with h | h;exact(hd2 x h).1;rw[gz.1 h];exact hyx.1.below hb) (λx hx hn b h9 h8=>by rw[hM5] at hx;rcases jn.1 hx with h | h;have:=(hd2 x h).2 hn b h9;have:=S.lt b h8;omega;rw[gz.1 h] at hn h9;exact hyx.2 hn b h9 h8);have HK:=ae hM5;have HKL:=ae hKl;clear hb hB ho hd2 hm hM5 hKl hyd hyx))
        have hml:m.length=b.l.length:=by have:=iS length HM.o;rwa [dC,dC] at this
        have him:i<m.length:=au;obtain⟨z,hz⟩:=cM (m[i]);have hzx:z.tocu=x.tocu:=by
         have h9: (bA m)[i]? =(bA b.l)[i]?:=by rw[HM.o]
         rw[jH,jH,j4 him,hz,j4 hil,HXE.o] at h9;exact El h9
        have HZX:=ae hzx;have hKi:i<M5.length:=by have:=HKL.o;omega
        have hKz:M5[i]=z:=by
         have h9:M5[i]? =some z:=by rw[HK.o,Vc him,j4 him,hz]
         rw[j4 hKi] at h9;exact El h9
        have HKZ:=ae hKz;have hiK: (i:Int)< (M5.length:Int):=au;clear hzx hKz hz hml him;refine bf S cm [⟨W8.heap.size,99,2,bg ⟨jW b.next,M5,s_ g 0,c⟩⟩,⟨W5.heap.size,109,11,dy ys⟩] L9 λW S=>?_;refine bp 0 86 (bZ W8.heap.size 1) ?_;refine bp 1 87 (.slice (s_ g 0) M5.length c) ?_;refine bp 2 88 _ ?_;refine bp 3 89 (bZ W8.heap.size 1) ?_;refine bp 4 90 (.slice (s_ g 0) M5.length c) ?_;refine bp 5 91 _ ?_;refine bp 6 92 (bZ W5.heap.size 0) ?_;refine gY 7 93 (.int .u64 b.next) rfl (bP (λw h=>by have h9:=ag.cell (h.row 1 rfl) (i:=0) qv;rw[HYS.o] at h9;exact h9) rfl bF) ?_;refine bp 8 94 (bZ g (i*11)) ?_;refine bp 9 95 (bZ g (i*11+4)) ?_;refine mO 10 λK hK=>?_;refine F2 S 0 rfl rfl (i*11+4) (v:=.int .u64 b.next) (by show i*11+4<M5.length*11;omega) rfl rfl rfl bF λW S=>?_;refine gM hK ?_;clear hK K;refine bp 11 96 (bZ g (i*11)) ?_;refine bp 12 97 (bZ g (i*11+10)) ?_;refine mO 13 λK hK=>?_;refine F2 S 0 rfl rfl (i*11+10) (v:=.slice none 0 0) (by show i*11+10<M5.length*11;omega) rfl rfl rfl gx λW S=>?_;refine gM hK ?_;clear hK K;refine uy ?_;obtain⟨y1,hy1⟩: ∃y1:aZ,y1=⟨⟨z.id,z.name,z.snap,z.owner,b.next,z.ay,z.blocks,z.root,z.dead⟩,z.bI,z.cap⟩:=⟨_,rfl⟩;obtain⟨y2,hy2⟩: ∃y2:aZ,y2=⟨⟨z.id,z.name,z.snap,z.owner,b.next,z.ay,z.blocks,z.root,[]⟩,none,0⟩:=⟨_,rfl⟩;have hput: ((dR M5).set (i*11+4) (.int .u64 b.next)).set (i*11+10) (.slice none 0 0)=dR (M5.set i y2):=by
         rw[pI hKi HKZ.o 4 au _ y1 (λj hj=>by rw[hy1];rcases j with(_|_|_|_|_|_|_|_|_|_|_|j) <;> first | rfl),
          pI (x:=y1) (by rw[En];exact hKi) (by rw[getElem_set_self]) 10 au _ y2 (λj hj=>by rw[hy1,hy2];rcases j with(_|_|_|_|_|_|_|_|_|_|_|j) <;> first | rfl | omega),set_set]
        have HPUT:=ae hput;have HY2:=ae hy2;obtain⟨B4,hB4⟩:=gq (ah 2 (bg ⟨jW b.next,M5.set i y2,s_ g 0,c⟩));have hB5:B4=ah 2 (bg ⟨jW b.next,M5,s_ g 0,c⟩):=by rw[hB4];unfold bg bx.sv;simp only[En]
        have HB4:=ae hB4;have HB5:=ae hB5;have hT1:bA (M5.set i y2)=(bA b.l++[{x.tocu with id:=b.next,name:=snap,snap:=true,owner:=x.id,ay:=ay}]).set i {x.tocu with prev:=b.next,dead:=[]}:=by
         rw[HK.o];obtain⟨-,-,-,-,e5,-,e7,e8,e9⟩:=Cl HY.o;obtain⟨f1,f2,f3,f4,-,f6,f7,f8,-⟩:=Cl HZX.o;exact Wp (x:=z) HM.o (by rw[HYS.o,e5,e7,e8,e9]) (by rw[hy2,f1,f2,f3,f4,f6,f7,f8])
        have hfr: ∀v∈M5.set i y2,l5 w.heap.size v:=λv hv=>by
         rcases Hi hv with h | h
         . rw[HK.o] at h;rcases jn.1 h with h | h
           . exact HF.o v h
           . rw[gz.1 h,HYS.o];exact HFy.o
         . rw[h,hy2];exact λhn=>absurd hn (Al _)
        have hdl: ∀v∈M5.set i y2,v∈M5∨v=y2:=λv hv=>Hi hv;have HFR:=ae hfr;have HDL:=ae hdl;have HT1:=ae hT1;clear hput hy1 hy2 hB4 hB5 hT1 hfr hdl
        go_wp2_with (first|(with_reducible refine jr 98 99 14 S 0 HB5.o ?_)|with_reducible refine js 99 6 98 S 2 HB4.o (aT _) λW S=>?_|((with_reducible refine aJ ?_);go_must (refine bj S 2 rfl rfl rfl fe rfl ?_;exact⟨_,rfl,⟨_,rfl,by unfold bx.t;rw[HT1.o],by have h9:=S.o0;simp only at h9;rw[HPUT.o] at h9;exact⟨by unfold bx.sv;rw[En];exact h9,λv hv=>⟨by rcases HDL.o v hv with h | h;exact(S.x.2 v h).1;rw[h];exact AR _ _ (by rw[HY2.o]) (by rw[HY2.o]) (by rw[HY2.o]),HFR.o v hv⟩⟩⟩,S.b⟩)))
theorem TR (l:List aZ)(i:Nat): (dR l).take (i*11)=dR (l.take i):=by
 grind[iY,take_append_drop,qq]
theorem TS (l:List aZ)(i:Nat): (dR l).drop (i*11)=dR (l.drop i):=by
 rcases Nat.lt_or_ge l.length i with h | h
 . grind[drop_of_length_le,dR,iY]
 . conv=>lhs;rw[<-Sv i l,qq]
   grind[iY]
theorem Qu (l:List aZ)(hn:l.length=n)(hi:i<n)(zs:List bh)(hz:zs.length=11):
 (wq (wq (dR l) (i*11) ((dR l).drop ((i+1)*11))) ((n - 1)*11) zs).take ((n - 1)*11)=dR (l.eraseIdx i):=by
 have hlen: (dR l).length=n*11:=by rw[iY,hn]
 rw[eraseIdx_eq_take_drop_succ,qq,<-TR,<-TS];apply EU;intro t;rw[getElem?_take];split
 . next ht=>
   rw[qi _ _ _ _ (by grind[sV]),bX au,qi _ _ _ _ rE,Ek,hlen,Vf,pM,hlen]
   grind
 grind
theorem Iz (w:aD)(b o c:Nat)(ty:dD)(hth:w.there b o 11): (Builtin.clear_ #[97] ty #[.slice (some ⟨b,o,none⟩) 1 c]).run prog w=.ok (.tuple #[]) (w.setCells b o (ah 11 (dy iA)).toList):=by
 have hv: ∀w,(zeroValue 109).run prog w=.ok (.agg (ah 11 (dy iA))) w:=Er;have hl: (ah 11 (dy iA)).toList.length=11:=rfl;have hst:=Tz (P:=prog) b o (ah 11 (dy iA)).toList 0 w (λj hj=>by rw[hl] at hj;simpa using(hth j hj).1) (λj hj=>by rw[hl] at hj;simpa using(hth j hj).2) (λv hv=>by
  grind[iv,cy,Array.all_eq_true_iff_forall_mem])
 simp only[CI] at hst;have hzc:Builtin.zeroCells (Value.agg (ah 11 (dy iA))).cells 1=ah 11 (dy iA):=cm
 simp_all[Builtin.clear_]
theorem xj (l:List aZ)(g c n i j base:Nat)(hn:l.length=n)(hi:i<n)(hj:j=i+1)(w:aD)(ho:w.ownsRow base 109 11 (.slice (some ⟨g,0,none⟩) n c) n (dR l)):
 Calls prog 129 #[.slice (some ⟨g,0,none⟩) n c,.int .i64 i,.int .i64 j] w λe w'=>e=.returned (.slice (some ⟨g,0,none⟩) (n - 1) c)/\w'.ownsRow base 109 11 (.slice (some ⟨g,0,none⟩) (n - 1) c) (n - 1) (dR (l.eraseIdx i))/\ek g w w':=by
 obtain⟨i0,hi0,hz0,hz1,hz2⟩:=sC KY;have hcap:n<=c/\c<=maxLen:=by
  rcases ho.2 with⟨h1,_⟩ | ⟨g',cap,cur,h1,_,_,h4,h5,_⟩
  . cases h1
  grind
 obtain⟨hnc,hcm⟩:=hcap;obtain⟨news,HN⟩:=BU ((dR l).drop (j*11));have hlen:news.length=(n - j)*11:=by rw[HN.o,Ek,iY,hn,Nat.sub_mul]
 have hic:i<=c:=au;have hjc:j<=c:=au;have hjn:j<=n:=au;have hij: ((i:Int)==(j:Int))=false:=by rw[k'];omega
 have mixed:prog.follows .mixedOrders=true:=cm;have hijn: (i:Int)<=(j:Int):=au;have hne: ¬c=i+ (n - j):=au;obtain⟨A,hA,hsrc⟩: ∃A:Addr,(if c=j then some (⟨g,0,none⟩:Addr) else some ⟨g,j*11,none⟩)=some A/\Hid (∀t u,news[t]? =some u->w.drew.cell? (A.add t)=some u):=by
  by_cases h:c=j
  . refine⟨⟨g,0,none⟩,by simp[h],λt u hu=>?_⟩
    grind
  . refine⟨⟨g,j*11,none⟩,by simp[h],λt u hu=>?_⟩;rw[HN.o,getElem?_drop] at hu;have h9:=ho.cells (g:=g) rfl _ u hu;rw[Addr.add_lit] at h9 ⊢;rw[rC] at h9;exact h9
 have s1:Hid (news.length=(n - j)*11):=hlen;have s2:Hid (∀u∈news,u.oneCell'=true):=λu hu=>by rw[HN.o] at hu;exact TM l u (vF hu)
 obtain⟨m,f,hr,hm⟩:=uC ho;have s3:Hid (∀t,t<news.length->(w.drew.cell? ⟨g,0+i*11+t,none⟩).isSome=true/\w.drew.frozen? ⟨g,0+i*11+t,none⟩=false):=by
  intro t ht;rw[hlen] at ht;rw[rC];exact iz hr (o:=i*11) (n:=(n - j)*11) au t ht
 obtain⟨W1,hW1⟩:=gq (w.drew.setCells g (0+i*11) news);have ho1:W1.ownsRow base 109 11 (.slice (s_ g 0) n c) n (wq (dR l) (i*11) news):=by
  rw[hW1,rC];exact lA news (i*11) (w:=w.drew) ho
 have hb1:ek g w W1:=by
  rw[hW1];exact(show ek g w w.drew from⟨rfl,rfl,rfl,eO _,λ_ _ _=>rfl⟩).trans (ek.setCells _ _ _ _)
 have hcl: ∀ty,(Builtin.clear_ #[97] ty #[.slice (s_ g ((i+ (n - j))*11)) (n - (i+ (n - j))) (c - (i+ (n - j)))]).run prog W1=.ok (.tuple #[]) (W1.setCells g ((i+ (n - j))*11) (ah 11 (dy iA)).toList):=λty=>by
  obtain⟨m',f',hr',hm'⟩:=uC ho1;rw[show n - (i+ (n - j))=1 by omega];exact Iz W1 g _ _ ty (iz hr' au)
 have hW:Hid (W1=w.drew.setCells g (0+i*11) news):=hW1;have HO1:=ae ho1;have HB1:=ae hb1;have HJ:=ae hj;clear ho1 hb1 hW1 hr hm hlen ho hj;go_enter func129,ntmps129
 go_wp2_with fail
 go_region_law_o (refine step_append_room rfl (.tmp 22) (.tmp 25) 97 rfl 109 i0 11 underlying97 hi0 hz1 g 0 i c (by simp[Act.eval,Act.put]) A (n - j) (c - j) news (by simp[Act.eval,Act.put]) s1.o hsrc.o s2.o au s3.o ?_;rw[<-hW.o])
 go_wp2;go_ret;have hres:i+ (n - j)=n - 1:=by have:=HJ.o;omega
 have ho2:=lA (ah 11 (dy iA)).toList ((i+ (n - j))*11) HO1.o;refine⟨by rw[<-hres];rfl,?_,HB1.o.trans (ek.setCells _ _ _ _)⟩;rw[hres] at ho2 ⊢;have hc:=Qu l hn hi (ah 11 (dy iA)).toList rfl;rw[HN.o,HJ.o] at ho2;refine⟨by rw[iY,length_eraseIdx,hn,bC hi],?_⟩;rcases ho2.2 with⟨h1,_⟩ | ⟨g',cap,cur,h1,h2,h3,h4,h5,h6,h7⟩
 . cases h1
 . simp only[mA,EZ,Addr.mk.injEq] at h1;obtain⟨⟨rfl,-,-⟩,-,rfl⟩:=h1;refine .inr ⟨g,c,cur,rfl,h2,h3,au,h5,h6,?_⟩;rw[<-hc,<-h7,take_take,show min ((n - 1)*11) (n*11)=(n - 1)*11 by omega]
section
variable {ty2:dD}
theorem Ec (S:St w0 d l L O X w)(k k2:Nat){r r2:R4}{p p2 q:Tmp}(hk:L[k]? =some r)(hk2:L[k2]? =some r2)(h:fn.results=#[.cell p ty,.cell p2 ty2,.tmp q])(hp:a.tmps.getD p undef=.pointer (some ⟨r.b,0,none⟩))(hp2:a.tmps.getD p2 undef=.pointer (some ⟨r2.b,0,none⟩))(ht:fu P ty r.n)(ht2:fu P ty2 r2.n)(hd:a.defers=[])(hR:R (.returned (.tuple #[.agg (ah r.n r.f),.agg (ah r2.n r2.f),a.tmps.getD q undef])) w):bodyPost P fn R .ret a w:=by
 obtain⟨⟨dd,h1,h2⟩,h3⟩:=ht;obtain⟨⟨de,i1,i2⟩,i3⟩:=ht2;have hp':a.tmps[p]?.getD undef=bZ r.b 0:=by simp_all
 have hp2':a.tmps[p2]?.getD undef=bZ r2.b 0:=by simp_all
 have hv:=SY (P:=P) w r.b r.t ty (ah r.n r.f) (0,0) dd (S.ee hk) h1 rE (by grind[aj]);have hv2:=SY (P:=P) w r2.b r2.t ty2 (ah r2.n r2.f) (0,0) de (S.ee hk2) i1 rE (by grind[aj])
 simp_all[kg,results,asAddr]
theorem St.erased (S:St w0 d l L O X w){c n2:Nat}{m2:List aZ}(hj:O[j]? =some ⟨109,11,.slice (some ⟨g,0,none⟩) n c,n,dR m⟩)(h1:w'.ownsRow w0.heap.size 109 11 (.slice (some ⟨g,0,none⟩) n2 c) n2 (dR m2))(h2:ek g w w'):
 St w0 d l L (O.set j ⟨109,11,.slice (some ⟨g,0,none⟩) n2 c,n2,dR m2⟩) X w':=
 S.grow hj (oP h2) h1 rfl (.inl rfl)
end
theorem xk (s:List cu)(full:lf): (∃c:Int,(c != 0)=true/\oR s full=(none,c))∨∃i,jD s full=some i/\oR s full=(some i,0):=by
 unfold oR;split
 . grind
 . split<;>grind
theorem uE (R:dN w b)(h:0<b.l.length): ∃bb oo,b.bI=some ⟨bb,oo,none⟩:=by
 obtain⟨_,_,e1,_,h2⟩:=aR R.1
 grind[bx.sv]
theorem dN.bO (R:dN w b){bb oo:Nat}(h:b.bI=some ⟨bb,oo,none⟩):cQ w (.slice (some ⟨bb,oo,none⟩) b.l.length b.cap) b.l:=by
 grind[dN,bx.sv]
theorem oS (R:oQ w base c)(h:0<c.l.length): ∃g,c.bI=some ⟨g,0,none⟩:=by
 obtain⟨g,c',e⟩:=xb R.1 h
 grind[bx.sv]
def eM (b:cL) (full:lf):cL×cu×Int:=
 match oR b.bO full with
 |(none,c)=>(b,jN,c)
 |(some i,_)=>if 0< (qF b.bO (di b.bO i).id).1.length then(b,jN,173) else(⟨b.next,b.bO.eraseIdx i⟩,di b.bO i,0)
theorem J0 (l:List aZ)(i:Nat):bA (l.eraseIdx i)=(bA l).eraseIdx i:=by
 grind[bA,eraseIdx_eq_take_drop_succ,map_take,map_drop]
theorem Ed (b:bx)(A:iw)(hA:A=ah 2 (bg b))(hf:rY b.t)(full:lf)(hfu:full.size<=1000000)(w:aD)(R:dN w b):
 Calls prog 64 #[.agg A,.string full] w λe w'=>∃B D,e=.returned (.tuple #[.agg B,.agg D,.int .i64 (eM b.t full).2.2])/\gF w' w.heap.size B (eM b.t full).1/\rX w' w.heap.size D (eM b.t full).2.1/\dp w w':=by
 have HA:=ae hA;have HR:=ae R;have C1:=ae λW (hb:dp w W)=>Cj b A hA hf full hfu W (HR.o.below hb);have C2:=ae λid W (hb:dp w W)=>JY b.l b.sv id hf.len W (HR.o.below hb);have C9:=ae λW (hb:dp w W)=>k7 b A hA hf W (HR.o.below hb);have hd:lS b.l:=hf.2;have hlen:=hf.len;have S:=ug w;clear hA hf;obtain⟨T,HT⟩:=qI (eM b.t full);rw[HT.o];go_enter func64,ntmps64;rcases xk b.t.bO full with⟨cd,hc,hv⟩ | ⟨i,hn,hv⟩;obtain rfl: (b.t,jN,cd)=T:=by rw[<-HT.o];unfold eM;rw[hv]
 rw[hv] at C1;clear hv
 rotate_left
 obtain⟨x,hx⟩:=pH hn;have hil:=(sy.1 hx).1;have hil2: (i:Int)< (b.l.length:Int):=au;have hg:di b.t.bO i=x.tocu:=fW hx;obtain⟨bb,oo,hbo⟩:=uE R au;have R9:=R.bO hbo;have HR9:=ae R9;have HX:=ae (R9.at hx);have HXI:=ae hx;have HBV:Hid (bg b 1=.slice (some ⟨bb,oo,none⟩) b.l.length b.cap):=ae (by rw[<-hbo];rfl);have C3:=ae (C2.o x.id);rw[show b.sv=.slice (s_ bb oo) b.l.length b.cap by unfold bx.sv;rw[hbo]] at C3;obtain⟨ch,hch⟩:=cM ((qF (bA b.l) x.id).1);rw[hch] at C3;have hres:T=if 0<ch.length then(b.t,jN,173) else(⟨b.next,(bA b.l).eraseIdx i⟩,x.tocu,0):=by
  rw[<-HT.o,<-hch];unfold eM;rw[hv];simp only[hg];rfl
 have HRES:=ae hres;rw[hv] at C1;simp only[fV] at C1;clear hv hn hg hx hbo hch hres
 go_upto_region 4 with(first|(go_at_call 127;refine je S (C1.o _ S.b) λW S=>?_)|refine fN ?_|refine ew λW S=>?_)
 refine bL S cm λW S=>?_;refine bp 0 22 (bZ w.heap.size 1) ?_;refine gY 1 23 (.slice (s_ bb oo) b.l.length b.cap) rfl (gE S 2 (λ_ h=>h) rfl 1 HBV.o qv rfl fB) ?_;refine bp 2 24 (bZ w.heap.size 1) ?_;refine gY 3 25 (.slice (s_ bb oo) b.l.length b.cap) rfl (gE S 2 (λ_ h=>h) rfl 1 HBV.o qv rfl fB) ?_;refine bp 4 26 _ ?_;refine bp 5 27 (bZ bb (oo+i*11)) ?_;refine bp 6 28 (bZ bb (oo+i*11)) ?_;refine gY 7 29 (.int .u64 x.id) rfl (bP (λw h=>by obtain⟨_,S⟩:=h;exact(HX.o.below S.b).c0) rfl bF) ?_;refine mO 8 λK hK=>?_
 go_wp2_with fail
 refine(C3.o _ S.b).mono ?_;rintro e W ⟨r,rfl,ho,hb⟩;obtain⟨ra,rc,rfl⟩:=aH ho;replace S:=S.below hb;clear hb;refine gM hK ?_;refine bp 9 31 (.int .i64 ch.length) ?_;refine bp 10 32 (.bool (decide (0< (ch.length:Int)))) ?_;refine uy ?_;by_cases h0:0<ch.length;obtain rfl:T=(b.t,jN,173):=by rw[HRES.o,bC h0]
 have h1: (0:Int)< (ch.length:Int):=au
 rotate_left
 . obtain rfl:T=(⟨b.next,(bA b.l).eraseIdx i⟩,x.tocu,0):=by rw[HRES.o,bX h0]
   have h1: ¬(0:Int)< (ch.length:Int):=au;have w1:IntKind.i64.wrap ((i:Int)+1)=((i+1:Nat):Int):=by rw[mT _ au];omega
   obtain⟨E,hE⟩:=gq (ah 11 (dy x));have hxx:=(sy.1 HXI.o).2;have hsub:=ae (iN b.l hil (A:=E) (by rw[hxx];exact hE));have hm:=nf HXI.o;have CC:=ae λW (hb:dp w W)=>kR x E hE (hd.at hm).1 W ((HR.o.below hb).2 x hm);have HE:=ae hE;clear hE hxx hm h0
   go_upto_region 8 with(first|(go_at_call 112;refine(C9.o _ S.b).mono ?_;rintro e W5 ⟨B,rfl,⟨⟨cn,m,ca,cc⟩,hB,hc,ho⟩,hb⟩;obtain⟨hcn,hcs⟩:=cL.mk.inj hc;simp only at hcn hcs;subst hcn;have hml:m.length=b.l.length:=(by have h9:=iS length hcs;rwa [dC,dC] at h9);obtain⟨g,hca⟩:=oS ho (by show 0<m.length;omega);simp only at hca;subst hca;have HML:=ae hml;have HB:=ae hB;have HM:=ae hcs;have HF:=ae (S.fresh ho);replace S:=S.bB hb ho;clear hml;change St _ _ _ _ (⟨109,11,.slice (s_ g 0) m.length cc,m.length,dR m⟩::_) _ _ at S;clear hb hB hc hcs)|(go_at_call 129;refine(xj m g cc m.length i (i+1) w.heap.size rfl (by have:=HML.o;omega) rfl _ S.o0).mono ?_;rintro e W6 ⟨rfl,ho,hb⟩;replace S:=S.erased (j:=0) rfl ho hb;clear hb)|((with_reducible refine aS 97 44 43 ?_);refine gu S 0 rfl 1 (bg ⟨b.next,m.eraseIdx i,s_ g 0,cc⟩) (λj hj=>by have hj:j<2:=hj;rcases j with(_|_|j);rfl;show Value.slice _ (m.eraseIdx i).length _=_;rw[length_eraseIdx,bC (by have:=HML.o;omega)];rfl;omega) qv rfl rfl rfl fB λW S=>?_;obtain⟨G,HG⟩:=BU (ah 2 (bg ⟨b.next,m.eraseIdx i,s_ g 0,cc⟩)))|refine fN ?_|refine ew λW S=>?_)
   refine bf S cm [⟨W5.heap.size,99,2,bg ⟨b.next,m.eraseIdx i,s_ g 0,cc⟩⟩,⟨w.heap.size,99,2,bg b⟩] L9 λW S=>?_;refine gY 0 45 (.agg G) rfl (lq (λw h=>h.row 0 rfl) rfl HG.o fe) ?_;refine bp 1 46 (bZ w.heap.size 1) ?_;refine gY 2 47 (.slice (s_ bb oo) b.l.length b.cap) rfl (bP (λw h=>by rw[ag.cell (h.row 1 rfl) (i:=1) qv];exact iS some HBV.o) rfl fB) ?_;refine bp 3 48 _ ?_;refine bp 4 49 (bZ bb (oo+i*11)) ?_;refine gY 5 50 (.agg E) rfl (UO (λw h=>(HR9.o.below h.fr.below).1) hil rfl (DW HE) hsub.o fQ) ?_;refine mO 6 λK hK=>?_
   go_wp2_with fail
   refine(CC.o _ S.b).mono ?_;rintro e W ⟨D,y,rfl,hD,hY,hb⟩;have HD:=ae hD;have HY:=ae (And.intro hY.1 kO);replace S:=S.cU hb hY.2 rfl rfl;clear hb hD hY;refine gM hK ?_;refine mO 7 λK hK=>?_;refine dL S 2 rfl rfl rfl HG.o fe (aT _) λW S=>?_;refine gM hK ?_;refine mO 8 λK hK=>?_;refine dL S 1 rfl rfl rfl HD.o fQ (cy _) λW S=>?_;refine gM hK ?_;refine bp 9 6 _ ?_;refine uy ?_;have hle: (m.eraseIdx i).length=m.length - 1:=by rw[length_eraseIdx,bC (by have:=HML.o;omega)]
   have HLE:=ae hle;clear hle
   go_wp2_with ((with_reducible refine aJ ?_);go_must (refine Ec S 2 1 rfl rfl rfl rfl rfl fe fQ rfl ?_;exact⟨_,_,rfl,⟨⟨b.next,m.eraseIdx i,s_ g 0,cc⟩,rfl,by unfold bx.t;rw[J0,HM.o],⟨by have h9:=S.o1;unfold bx.sv;rw[HLE.o];exact h9,λv hv=>⟨(S.x.2 v (X2 hv)).1,HF.o v (X2 hv)⟩⟩⟩,⟨y,rfl,HY.o.1,S.o0⟩,S.b⟩))
 all_goals
  go_wp2_with (first|(go_at_call 127;refine je S (C1.o _ S.b) λW S=>?_)|(go_at_call 112;refine JZ S (C9.o _ S.b) λW B c HB HC HF S=>?_)|refine fN ?_|refine ew λW S=>?_|((with_reducible refine aJ ?_);go_must (refine Ec S 1 0 rfl rfl rfl rfl rfl fe fQ rfl ?_;exact⟨_,_,rfl,⟨c,rfl,HC.o,S.dO HF.o⟩,kB _ _,S.b⟩)))
section
variable {x:Nat}
theorem bG (S:St w0 d l L O X w)(hv: ∀w,(zeroValue ty).run P w=.ok (.agg Z) w)(hZ:Z=ah n f)(ho:df ty=false)(h: ∀E W,St w0 d l (⟨E,ty,n,f⟩::L) O X W->K (a.put (some dst) (.pointer (some ⟨E,0,none⟩))) W):Oper.wp P ⟨some dst,.alloc ty,t2,p,af,none⟩ a w K Q:=
 wj S hv hZ ho λW hS=>h _ W hS
theorem Wq (S:St w0 d l L O X w)(j:Nat)(hj:O[j]? =some o){c:Nat}(hv:o.v=.slice (some ⟨g,0,none⟩) o.n c)(i:Nat)(hi:i+z<=o.n*o.z)(hx:a.eval (.tmp x)=.pointer (some ⟨g,i,none⟩))(hy:a.eval (.tmp y)=.agg A)(hA:A=ah z f)(ht:fu P ty z)(h1: ∀i,(f i).oneCell'=true)(h: ∀W,St w0 d l L (O.set j ⟨o.e,o.z,o.v,o.n,wq o.xs i (ah z f).toList⟩) X W->K (a.put none undef) W):Oper.wp P ⟨none,.store ty (.tmp x) (.tmp y),t2,p,af,none⟩ a w K Q:=by
 subst hA;have hO:=S.bR hj;rw[hv] at hO;obtain⟨m,f',hr,hm⟩:=uC hO;have hth:=iz hr (o:=i) (n:=z) au;have hl: (ah z f).toList.length=z:=by grind[aj]
 have hst:=Tz (P:=P) g i (ah z f).toList 0 w (λj hj=>by rw[hl] at hj;simpa using(hth j hj).1) (λj hj=>by rw[hl] at hj;simpa using(hth j hj).2) (λu hu=>by
  grind[iv,Array.all_eq_true_iff_forall_mem])
 have h2: (storeVar ty ⟨g,i,none⟩ (.agg (ah z f))).run P w=.ok () (w.setCells g i (ah z f).toList):=by
  cases hq:P.info? ty with
  | none=>have:=ht.2;grind
  | some it=>
   have hs:it.size=z:=by have:=ht.2;grind
   have hc: (Value.agg (ah z f)).cells=ah z f:=rfl
   simp_all[storeVar,sizeOf,typeInfo]
 unfold Oper.wp execOp;simp only[hx,hy,Instr.storeAt,Instr.sureAddr,py,wB,rj,h2];have hb:o.v.ownBlock=some g:=by rw[hv];rfl
 exact h _ (S.grow hj (by grind[oP,ek.setCells]) (by grind[lA]) hb (.inl hb))
end
theorem J1 (hk:k<m.length){x:aZ}(hx:m[k]=x)(q:aq)(y:aZ)(h: ∀i,i<11->dy y i=if 7<=i/\i<10 then aN q (i - 7) else dy x i):wq (dR m) (k*11+7) (ah 3 (aN q)).toList=dR (m.set k y):=by
 refine FY uA m hk y (by rw[sV,iY]) (λi hi=>?_) λi r hik hr=>?_
 . unfold Mg;rw[qx (xs:=ah 11 _),aF,bC hi,h i hi,qi _ _ _ _ (by grind[aj,iY]),p9,aj];by_cases hij:7<=i/\i<10
   . rw[bC au,bC hij,qx (xs:=ah 3 _),aF,bC au,show k*11+i - (k*11+7)=i - 7 by omega]
   . rw[bX au,bX hij,iN m hk (A:=ah 11 (dy x)) (by rw[hx]) i hi,aF,bC hi]
 . rw[qi _ _ _ _ (by grind[aj,iY]),p9,aj,bX (λe=>?_)]
   . rfl
   omega
theorem ag.setAt {b:Nat}{x:aZ}(h:ag w b 109 11 (dy x)):kQ w b 0 x:=λk hk=>by rw[rC];exact ag.cell h hk
def jE (b:cL) (full:lf):cL×cu×Int:=
 match oR b.bO full with
 |(none,c)=>(b,jN,c)
 |(some i,_)=>match cR b.bO (di b.bO i).prev with
  | none=>(b,jN,174)
  | some j=>(⟨b.next,b.bO.set i {di b.bO i with root:=(di b.bO j).root,dead:=[]}⟩,di b.bO i,0)
theorem K3 (b:bx)(A:iw)(hA:A=ah 2 (bg b))(hf:rY b.t)(full:lf)(hfu:full.size<=1000000)(w:aD)(R:dN w b):
 Calls prog 101 #[.agg A,.string full] w λe w'=>∃B D,e=.returned (.tuple #[.agg B,.agg D,.int .i64 (jE b.t full).2.2])/\gF w' w.heap.size B (jE b.t full).1/\rX w' w.heap.size D (jE b.t full).2.1/\dp w w':=by
 have HA:=ae hA;have HR:=ae R;have C1:=ae λW (hb:dp w W)=>Cj b A hA hf full hfu W (HR.o.below hb);have C2:=ae λid W (hb:dp w W)=>Dt b.l b.sv id hf.len hf.2 W (HR.o.below hb);have C9:=ae λW (hb:dp w W)=>k7 b A hA hf W (HR.o.below hb);have hd:lS b.l:=hf.2;have hlen:=hf.len;have S:=ug w;clear hA hf;obtain⟨T,hT⟩:=cM (jE b.t full);have HT:=ae hT;rw[hT];clear hT;go_enter func101,ntmps101;rcases xk b.t.bO full with⟨cd,hc,hv⟩ | ⟨i,hn,hv⟩
 . obtain rfl: (b.t,jN,cd)=T:=by rw[<-HT.o];unfold jE;rw[hv]
   rw[hv] at C1;clear hv
   go_wp2_with (first|(go_at_call 127;refine je S (C1.o _ S.b) λW S=>?_)|(go_at_call 112;refine JZ S (C9.o _ S.b) λW B c HB HC HF S=>?_)|((with_reducible refine aJ ?_);go_must (refine Ec S 1 0 rfl rfl rfl rfl rfl fe fQ rfl ?_;exact⟨_,_,rfl,⟨c,rfl,HC.o,S.dO HF.o⟩,kB _ _,S.b⟩))|refine fN ?_|refine ew λW S=>?_)
 . obtain⟨x,hx⟩:=pH hn;have hil:=(sy.1 hx).1;have hil2: (i:Int)< (b.l.length:Int):=au;have hg:di b.t.bO i=x.tocu:=fW hx;obtain⟨bb,oo,hbo⟩:=uE R au;have R9:=R.bO hbo;have HR9:=ae R9;have HX:=ae (R9.at hx);have HXI:=ae hx;have HBV:Hid (bg b 1=.slice (some ⟨bb,oo,none⟩) b.l.length b.cap):=ae (by rw[<-hbo];rfl);have C3:=ae (C2.o x.prev);rw[show b.sv=.slice (s_ bb oo) b.l.length b.cap by unfold bx.sv;rw[hbo]] at C3;obtain⟨pn,hpn⟩:=cM (cR (bA b.l) x.prev);rw[hpn] at C3;obtain⟨pb,hpb⟩:=cM pn.isSome;rw[hpb] at C3;have HPB:=ae hpb;have hres:T=pn.elim (b.t,jN,174) λj=>(⟨b.next,(bA b.l).set i {x.tocu with root:=(di (bA b.l) j).root,dead:=[]}⟩,x.tocu,0):=by
    rw[<-HT.o,<-hpn];unfold jE;rw[hv];simp only[hg];rw[show b.t.bO=bA b.l from rfl];cases cR (bA b.l) x.prev <;> rfl
   have HRES:=ae hres;rw[hv] at C1;simp only[fV] at C1;clear hv hn hg hx hbo hpn hres hpb;obtain⟨E,hE⟩:=gq (ah 11 (dy x));have hxx:b.l[i]'hil=x:=(sy.1 HXI.o).2;have hsub:=ae (iN b.l hil (A:=E) (by rw[hxx];exact hE));have hm:=nf HXI.o;have CC:=ae λW (hb:dp w W)=>kR x E hE (hd.at hm).1 W ((HR.o.below hb).2 x hm);have HE:=ae hE;have HXX:=ae hxx;clear hE hxx hm
   go_upto_region 4 with(first|(go_at_call 127;refine je S (C1.o _ S.b) λW4 S=>?_)|refine fN ?_|refine ew λW S=>?_)
   refine bf S cm [⟨w.heap.size,99,2,bg b⟩] L9 λW S=>?_;refine bp 0 25 (bZ w.heap.size 1) ?_;refine gY 1 26 (.slice (s_ bb oo) b.l.length b.cap) rfl (bP (λw h=>by rw[ag.cell (h.row 0 rfl) (i:=1) qv];exact iS some HBV.o) rfl fB) ?_;refine bp 2 27 (bZ w.heap.size 1) ?_;refine gY 3 28 (.slice (s_ bb oo) b.l.length b.cap) rfl (bP (λw h=>by rw[ag.cell (h.row 0 rfl) (i:=1) qv];exact iS some HBV.o) rfl fB) ?_;refine bp 4 29 _ ?_;refine bp 5 30 (bZ bb (oo+i*11)) ?_;refine bp 6 31 (bZ bb (oo+i*11+4)) ?_;refine gY 7 32 (.int .u64 x.prev) rfl (bP (λw h=>(HX.o.below h.fr.below).c4) rfl bF) ?_
   repeat' first|refine Zf ?_|refine qK 9 24 _ ?_|refine qK 10 34 (.agg B) ?_|refine qK 11 35 (.bool pb) ?_|refine qK 14 10 _ ?_|refine JV 8 12 (λK hK=>?_) λK hK=>?_|refine tF 8 λK hK=>?_|refine tF 13 λK hK=>?_|refine tF 12 λK hK=>?_|(refine bG S Er cO rfl λE9 W S=>?_;refine gM hK ?_;clear hK K)|(go_wp2_with fail;refine(C3.o _ S.b).mono ?_;rintro e W6 ⟨B,rfl,⟨pv,hB,hpv,hpo⟩,hb⟩;have HB:=ae hB;have HPV:=ae hpv;replace S:=S.below hb;clear hb hB hpv hpo;refine gM hK ?_;clear hK K)|(refine dL S 0 rfl rfl rfl HB.o fQ (cy _) λW S=>?_;refine gM hK ?_;clear hK K)
   all_goals (
    refine ae ?_;cases pb with
    | false=>
     obtain rfl:T=(b.t,jN,174):=by
      have h9:=HRES.o;cases pn with
      | none=>exact h9
      | some j=>exact absurd HPB.o fh
     go_wp2_with (first
   |(go_at_call 112;refine JZ S (C9.o _ S.b) λW B c HB HC HF S=>?_)
   |((with_reducible refine aJ ?_);go_must (refine Ec S 2 1 rfl rfl rfl rfl rfl fe fQ rfl ?_;exact⟨_,_,rfl,⟨c,rfl,HC.o,S.dO HF.o⟩,kB _ _,S.b⟩))
   |refine fN ?_
   |refine ew λW S=>?_)
    | true=>
     obtain⟨j,rfl⟩: ∃j,pn=some j:=by
      cases pn with
      | none=>exact absurd HPB.o fh
      | some j=>exact⟨j,rfl⟩
     obtain rfl:T=(⟨b.next,(bA b.l).set i {x.tocu with root:=(di (bA b.l) j).root,dead:=[]}⟩,x.tocu,0):=HRES.o;obtain⟨rt,hrt⟩:=cM pv.root;have HRT:=ae hrt;have HR2:Hid ((di (bA b.l) j).root=rt):=ae (by rw[<-hrt];exact(iS cu.root HPV.o).symm);obtain⟨G,hG⟩:=gq (ah 3 (aN pv.root));have HG:=ae hG;have HG2:Hid (G=ah 3 (aN rt)):=ae (by rw[hG,hrt]);clear hrt hG
     go_upto_region 8 with(first
   |(go_at_call 112;refine(C9.o _ S.b).mono ?_;rintro e W5 ⟨B3,rfl,⟨⟨cn,m,ca,cc⟩,hB,hc,ho⟩,hb⟩;obtain⟨hcn,hcs⟩:=cL.mk.inj hc;simp only at hcn hcs;subst hcn;have hml:m.length=b.l.length:=(by have h9:=iS length hcs;rwa [dC,dC] at h9);obtain⟨g,hca⟩:=oS ho (by show 0<m.length;omega);simp only at hca;subst hca;have HML:=ae hml;have HB3:=ae hB;have HM:=ae hcs;have HF:=ae (S.fresh ho);replace S:=S.bB hb ho;clear hml;change St _ _ _ _ (⟨109,11,.slice (s_ g 0) m.length cc,m.length,dR m⟩::_) _ _ at S;clear hb hB hc ho hcs)
   |refine fN ?_
   |refine ew λW S=>?_)
     have him: (i:Int)< (m.length:Int):=by have:=HML.o;omega
     have him2:i<m.length:=au;refine bf S cm [⟨W5.heap.size,99,2,bg ⟨b.next,m,s_ g 0,cc⟩⟩,⟨E9,109,11,dy pv⟩] L9 λW S=>?_;refine bp 0 43 (bZ W5.heap.size 1) ?_;refine bp 1 44 (.slice (s_ g 0) m.length cc) ?_;refine bp 2 45 _ ?_;refine bp 3 46 (bZ W5.heap.size 1) ?_;refine bp 4 47 (.slice (s_ g 0) m.length cc) ?_;refine bp 5 48 _ ?_;refine bp 6 49 (bZ E9 7) ?_;refine gY 7 50 (.agg G) rfl (ND (λw h=>(h.row 1 rfl).setAt) rfl HG.o) ?_;refine bp 8 51 (bZ g (i*11)) ?_;refine bp 9 52 (bZ g (i*11+7)) ?_;refine mO 10 λK hK=>?_;refine Wq S 0 rfl rfl (i*11+7) (z:=3) (by show i*11+7+3<=m.length*11;omega) rfl rfl HG2.o bd (aE _) λW S=>?_;refine gM hK ?_;clear hK K;refine bp 11 53 (bZ g (i*11)) ?_;refine bp 12 54 (bZ g (i*11+10)) ?_;refine mO 13 λK hK=>?_;refine F2 S 0 rfl rfl (i*11+10) (v:=.slice none 0 0) (by show i*11+10<m.length*11;omega) rfl rfl rfl gx λW S=>?_;refine gM hK ?_;clear hK K;refine uy ?_;obtain⟨z,hz⟩:=cM (m[i]);have hzx:z.tocu=x.tocu:=by
      have h9: (bA m)[i]? =(bA b.l)[i]?:=by rw[HM.o]
      rw[jH,jH,j4 him2,hz,j4 hil,HXX.o] at h9;exact El h9
     obtain⟨y1,hy1⟩: ∃y1:aZ,y1=⟨⟨z.id,z.name,z.snap,z.owner,z.prev,z.ay,z.blocks,rt,z.dead⟩,z.bI,z.cap⟩:=⟨_,rfl⟩;obtain⟨y2,hy2⟩: ∃y2:aZ,y2=⟨⟨z.id,z.name,z.snap,z.owner,z.prev,z.ay,z.blocks,rt,[]⟩,none,0⟩:=⟨_,rfl⟩;have hput: (wq (dR m) (i*11+7) (ah 3 (aN rt)).toList).set (i*11+10) (.slice none 0 0)=dR (m.set i y2):=by
      rw[J1 him2 hz rt y1 (λj hj=>by rw[hy1];rcases j with(_|_|_|_|_|_|_|_|_|_|_|j) <;> first | rfl),
       pI (x:=y1) (by rw[En];exact him2) (by rw[getElem_set_self]) 10 au _ y2 (λj hj=>by rw[hy1,hy2];rcases j with(_|_|_|_|_|_|_|_|_|_|_|j) <;> first | rfl | omega),set_set]
     have hB4:B3=ah 2 (bg ⟨b.next,m.set i y2,s_ g 0,cc⟩):=by rw[HB3.o];unfold bg bx.sv;simp only[En]
     have hT1:bA (m.set i y2)=(bA b.l).set i {x.tocu with root:=(di (bA b.l) j).root,dead:=[]}:=by
      obtain⟨f1,f2,f3,f4,f5,f6,f7,f8,-⟩:=Cl hzx;rw[HR2.o,<-HM.o];unfold bA;rw[map_set];congr 1;rw[hy2,f1,f2,f3,f4,f5,f6,f7]
     have HFR:=ae (show ∀v∈m.set i y2,l5 w.heap.size v from λv hv=>by
      rcases Hi hv with h | h
      . exact HF.o v h
      . rw[h,hy2];exact λhn=>absurd hn (Al _))
     have HDL:=ae (show ∀v∈m.set i y2,v∈m∨v=y2 from λv hv=>Hi hv);have HPUT:=ae hput;have HB4:=ae hB4;have HT1:=ae hT1;have HY2:=ae hy2;clear hput hB4 hT1 hy1 hy2 hzx hz
     go_upto_region 9 with(fail)
     refine bf S cm [⟨W5.heap.size,99,2,bg ⟨b.next,m,s_ g 0,cc⟩⟩,⟨w.heap.size,99,2,bg b⟩] L9 λW S=>?_;refine gY 0 55 (.agg B3) rfl (lq (λw h=>h.row 0 rfl) rfl HB3.o fe) ?_;refine bp 1 56 (bZ w.heap.size 1) ?_;refine gY 2 57 (.slice (s_ bb oo) b.l.length b.cap) rfl (bP (λw h=>by rw[ag.cell (h.row 1 rfl) (i:=1) qv];exact iS some HBV.o) rfl fB) ?_;refine bp 3 58 _ ?_;refine bp 4 59 (bZ bb (oo+i*11)) ?_;refine gY 5 60 (.agg E) rfl (UO (λw h=>(HR9.o.below h.fr.below).1) hil rfl (DW HE) hsub.o fQ) ?_;refine mO 6 λK hK=>?_
     go_wp2_with fail
     refine(CC.o _ S.b).mono ?_;rintro e W ⟨D,y,rfl,hD,hY,hb⟩;have HD:=ae hD;have HY:=ae (And.intro hY.1 kO);replace S:=S.cU hb hY.2 rfl rfl;clear hb hD hY;refine gM hK ?_;clear hK K;refine mO 7 λK hK=>?_;refine dL S 3 rfl rfl rfl HB4.o fe (aT _) λW S=>?_;refine gM hK ?_;clear hK K;refine mO 8 λK hK=>?_;refine dL S 2 rfl rfl rfl HD.o fQ (cy _) λW S=>?_;refine gM hK ?_;clear hK K;refine bp 9 6 _ ?_;refine uy ?_
     go_wp2_with ((with_reducible refine aJ ?_);go_must (refine Ec S 3 2 rfl rfl rfl rfl rfl fe fQ rfl ?_;exact⟨_,_,rfl,⟨_,rfl,by unfold bx.t;rw[HT1.o],by have h9:=S.o1;simp only at h9;rw[HPUT.o] at h9;exact⟨by unfold bx.sv;rw[En];exact h9,λv hv=>⟨by rcases HDL.o v hv with h | h;exact(S.x.2 v h).1;rw[h];exact AR _ _ (by rw[HY2.o]) (by rw[HY2.o]) (by rw[HY2.o]),HFR.o v hv⟩⟩⟩,⟨y,rfl,HY.o.1,S.o0⟩,S.b⟩))
   )
def tK (floor:Nat):List aq->List aq×List aq->Option (List aq×List aq)
 | [],s=>some s
 | q::l,s=>if floor<q.2.1 then tK floor l (s.1,s.2++[q]) else match nI s.1 q with
  | none=>none
  | some m=>if 4000<m.length then none else tK floor l (m,s.2)
theorem xl (floor:Nat)(q:aq)(l:List aq)(s:List aq×List aq):tK floor (q::l) s=if floor<q.2.1 then tK floor l (s.1,s.2++[q]) else match nI s.1 q with | none=>none | some m=>if 4000<m.length then none else tK floor l (m,s.2):=rfl
def iP (b:cL) (id:Nat) (l:List aq):cL×List aq×Int:=
 match cR b.bO id with
 | none=>(b,[],172)
 | some i=>match tK (iO b.bO id) l ((di b.bO i).dead,[]) with
  | none=>(b,[],131)
  | some (d,g)=>(⟨b.next,b.bO.set i {di b.bO i with dead:=d}⟩,g,0)
section
theorem rZ {base:Nat} {e:dD} {z g n cap:Nat} {xs:List bh} (h:w.ownsRow base e z (.slice (some ⟨g,0,none⟩) n cap) n xs) {j:Nat} {v:bh} (hj:xs[j]? =some v):w.cell? ⟨g,j,none⟩=some v:=by
 have:=h.cells (g:=g) rfl j v hj
 grind[Addr.add]
theorem YG (m:List aZ){x:aZ}(hx:m[i]? =some x)(hk:k<11): (dR m)[i*11+k]? =some (dy x k):=by
 obtain⟨hi,rfl⟩:=sy.1 hx;rw[iN m hi rfl k hk,aF,bC hk]
end
theorem K4 (b:bx)(A:iw)(hA:A=ah 2 (bg b))(hf:rY b.t)(id:Nat)(l:List aq)(v:bh)(hl:l.length<=1000000)(w:aD)(R:dN w b)(RL:fM w v l):
 Calls prog 144 #[.agg A,.int .u64 id,v] w λe w'=>∃B r,e=.returned (.tuple #[.agg B,r,.int .i64 (iP b.t id l).2.2])/\gF w' w.heap.size B (iP b.t id l).1/\dh w' w.heap.size r (iP b.t id l).2.1/\dp w w':=by
 have HA:=ae hA;have HR:=ae R;obtain⟨la,lc,rfl,hlc,hla⟩:=aR RL;have RL:=ae RL;have hla:=ae hla;have C1:=ae λW (hb:dp w W)=>pZ b.l b.sv id hf.len W (HR.o.below hb);have C2:=ae λW (hb:dp w W)=>x8 b.l b.sv id hf.len W (HR.o.below hb);have C9:=ae λW (hb:dp w W)=>k7 b A hA hf W (HR.o.below hb);have hd:lS b.l:=hf.2;have hlen:=hf.len;have S:=ug w;clear hA hf;obtain⟨T,HT⟩:=qI (iP b.t id l);rw[HT.o];go_enter func144,ntmps144;cases hp:cR (bA b.l) id with
 | none=>
  obtain rfl: (b.t,[],172)=T:=by rw[<-HT.o];unfold iP;rw[show b.t.bO=bA b.l from rfl,hp]
  rw[hp] at C1;simp only[fV] at C1;clear hp
  go_wp2_with (first|(with_reducible first|refine jl 18 97 17 S 1 1 (b.sv) ?_|refine jr 23 99 3 S 1 HA.o ?_)|(with_reducible first|refine jx 3 99 0 S HA.o λW S=>?_|refine jb 6 99 S yo dM λW S=>?_|refine js 99 6 24 S 0 HB.o (aT _) λW S=>?_)|(go_at_call 131;refine je S (C1.o _ S.b) λW S=>?_)|(go_at_call 112;refine JZ S (C9.o _ S.b) λW B c HB HC HF S=>?_)|((with_reducible refine aJ ?_);go_must (refine fU S 0 rfl rfl rfl fe rfl ?_;exact⟨_,_,rfl,⟨c,rfl,HC.o,S.dO HF.o⟩,dh.nil _ _,S.b⟩)))
 | some i=>
  obtain⟨hil,x,hx,-⟩:=fy hp;have hi0: ¬((i:Int)<0):=au;have hg:di b.t.bO i=x.tocu:=fW hx;obtain⟨fl,hfl⟩:=cM (iO (bA b.l) id);obtain⟨KT,HKT⟩:=qI (tK fl l (x.dead,[]));have hres:T=KT.elim (b.t,[],131) λs=>(⟨b.next,(bA b.l).set i {x.tocu with dead:=s.1}⟩,s.2,0):=by
   rw[<-HT.o,<-HKT.o,<-hfl];unfold iP;rw[show b.t.bO=bA b.l from rfl,hp];simp only[show di (bA b.l) i=x.tocu from hg];cases tK (iO (bA b.l) id) l (x.dead,[]) <;> rfl
  have HRES:=ae hres;have hxx:b.l[i]'hil=x:=(sy.1 hx).2;have hdx:=(hd.at (nf hx)).1;have HXX:=ae hxx;rw[hp] at C1;rw[hfl] at C2;simp only[fV] at C1;clear hp hg hfl hres hx hxx
  go_upto_region 8 with(first|(with_reducible first|refine jl 18 97 17 S 1 1 (b.sv) ?_|refine jl 26 97 25 S 1 1 (b.sv) ?_|refine jr 29 99 3 S 1 HA.o ?_)|(with_reducible first|refine jb 6 99 S yo dM λW S=>?_|refine jb 11 99 S yo dM λW S=>?_|refine js 99 11 30 S 0 HB3.o (aT _) λW S=>?_)|((with_reducible refine gT 3 99 0 ?_);refine rQ S rfl HA.o rfl λW2 S=>?_)|(go_at_call 131;refine je S (C1.o _ S.b) λW S=>?_)|(go_at_call 114;refine je S (C2.o _ S.b) λW S=>?_)|(go_at_call 112;refine(C9.o _ S.b).mono ?_;rintro e W5 ⟨B3,rfl,⟨⟨cn,m0,ca,cc⟩,hB,hc,ho⟩,hb⟩;obtain⟨hcn,hcs⟩:=cL.mk.inj hc;simp only at hcn hcs;subst hcn;have hml:m0.length=b.l.length:=(by have h9:=iS length hcs;rwa [dC,dC] at h9);obtain⟨g,hca⟩:=oS ho (by show 0<m0.length;omega);simp only at hca;subst hca;have HML:=ae hml;have HB3:=ae hB;have HM:=ae hcs;have HF:=ae (S.fresh ho);replace S:=S.bB hb ho;clear hml;change St _ _ _ _ (⟨109,11,.slice (s_ g 0) m0.length cc,m0.length,dR m0⟩::_) _ _ at S;clear hb hB hc hcs))
  have S:=ae (S.yK 106 3 rfl rfl);have him:i<m0.length:=by have:=HML.o;omega
  have hbx: (bA b.l)[i]'(by rw[dC];exact hil)=x.tocu:=by unfold bA;rw[getElem_map,HXX.o]
  go_loopw [12,33] (λgv kv wr=>∃(k:Nat) (dd gn:List aq) (m:List aZ) (ga:Option Addr) (gc:Nat),k<=l.length/\kv=.int .i64 k/\gv=.slice ga gn.length gc/\dd.length<=1000000/\gn.length<=k/\Hid (tK fl (l.drop k) (dd,gn)=KT/\m.length=m0.length/\bA m=(bA b.l).set i {x.tocu with dead:=dd}/\(∀v∈m,l5 w.heap.size v)/\
   St w none [] [⟨W5.heap.size,99,2,bg ⟨b.next,m0,s_ g 0,cc⟩⟩,⟨W2.heap.size,99,2,bg qO⟩,⟨w.heap.size,99,2,bg b⟩] [⟨106,3,.slice ga gn.length gc,gn.length,eo gn⟩,⟨109,11,.slice (s_ g 0) m0.length cc,m0.length,dR m⟩] (jU m) wr)) (λ_ kv _=>l.length - (intOf kv).toNat)
  case atStart=>exact⟨0,x.dead,[],m0,none,0,au,rfl,rfl,hdx,by simp,ae ⟨HKT.o,rfl,by
   rw[HM.o];show bA b.l=(bA b.l).set i x.tocu;rw[<-hbx,set_getElem_self],HF.o,S.o.vP (λ_ _ h=>h.2) (dF m0).fs⟩⟩
  case round=>
   clear S;obtain⟨k,dd,gn,m,ga,gc,hk,rfl,rfl,hdd,hgn,hS⟩:=hrel;obtain⟨hkill,hmm,hsm,hfm,S⟩:=hS.o;clear hS;have HMM:=ae hmm;have HSM:=ae hsm;have HFM:=ae hfm;have him2:i<m.length:=au;clear hfm;by_cases hlt:k<l.length
   . obtain⟨lb,lo,rfl⟩:=hla.o au;obtain⟨q,hq⟩:=cM (l[k]);obtain⟨AQ,hAQ⟩:=gq (ah 3 (aN q));have hsub:=ae (fF l hlt (A:=AQ) (by rw[hq];exact hAQ));have HAQ:=ae hAQ;rw[U9 hlt,hq] at hkill;obtain⟨y,hy⟩:=cM (m[i]);have hym:y∈m:=hy ▸ tW him2;have hyt:y.tocu= {x.tocu with dead:=dd}:=by
      have h9: (bA m)[i]? =((bA b.l).set i {x.tocu with dead:=dd})[i]?:=by rw[hsm]
      rw[jH,j4 him2,hy,getElem?_set_self (by rw[dC];exact hil)] at h9;exact El h9
     have hyd:y.dead=dd:=iS cu.dead hyt;have hydv:y.dv=.slice y.bI dd.length y.cap:=by unfold aZ.dv;rw[hyd]
     have HY:=ae hy;have HYT:=ae hyt;have HYM:=ae hym;have HYDV:=ae hydv;have HYI:Hid ((dR m)[i*11+10]? =some (.slice y.bI dd.length y.cap)):=ae (by rw[<-hydv];exact YG m (by rw[j4 him2,hy]) au);have HYD:=ae hyd;clear hy hyt hym hydv hsm hmm hq hAQ;by_cases hfl:fl<q.2.1
     . have hfl2: ((fl:Nat):Int)< ((q.2.1:Nat):Int):=au;rw[xl] at hkill;rw[bC hfl] at hkill;have HK:=ae hkill;clear hkill
       go_wp2_with (first|(with_reducible first|refine jl 38 82 37 S 0 1 (.int .u64 q.2.1) ?_|refine jr 42 106 14 S 0 HAQ.o ?_)|(with_reducible first|refine jb 14 106 S D8 bz λW S=>?_|refine js 106 14 36 S 0 HAQ.o (aE _) λW S=>?_)|((with_reducible refine pP ?_);refine Md (RL.o.below S.b) hlt (DW HAQ) hsub.o ?_)|((with_reducible refine jZ 43 107 42 ?_);refine rR S rfl HAQ.o cN au rfl λW S=>?_)|((with_reducible refine bN 44 41 43 ?_);refine lZ S 0 rfl 0 rfl rfl rfl rfl cN (aE _) JW BM λg9 c9 W S=>?_))
       go_roundw
       case rel=>exact⟨k+1,dd,gn++[q],m,s_ g9 0,c9,au,by go_num,by simp,hdd,by simp;omega,ae ⟨HK.o,HMM.o,HSM.o,HFM.o,by rw[kh,dU,kG];exact S.pop.pop⟩⟩
       case measure=>exact uO
     . have hfl2: ¬((fl:Nat):Int)< ((q.2.1:Nat):Int):=au;have him3: (i:Int)< (m0.length:Int):=by have:=HMM.o;omega
       obtain⟨da,hda⟩:=cM (nI dd q);have C3:=ae λv W R=>Nt dd q v AQ HAQ.o W au R;rw[hda] at C3;rw[xl] at hkill;rw[bX hfl] at hkill;simp only[hda] at hkill;have HK:=ae hkill;clear hkill hda
       go_upto_region 12 with(first|(with_reducible refine jl 38 82 37 S 0 1 (.int .u64 q.2.1) ?_)|(with_reducible first|refine jb 14 106 S D8 bz λW S=>?_|refine js 106 14 36 S 0 HAQ.o (aE _) λW S=>?_)|((with_reducible refine pP ?_);refine Md (RL.o.below S.b) hlt (DW HAQ) hsub.o ?_))
       refine bL S cm λW S=>?_;refine bp 0 46 (bZ W5.heap.size 1) ?_;refine bp 1 47 (.slice (s_ g 0) m0.length cc) ?_;refine bp 2 48 _ ?_;refine bp 3 49 (bZ g (i*11)) ?_;refine bp 4 50 (bZ g (i*11+10)) ?_;refine gY 5 51 (.slice y.bI dd.length y.cap) rfl (bP (λw h=>by obtain⟨_,S⟩:=h;exact rZ S.o1 HYI.o) rfl gx) ?_;refine bp 6 52 (.agg AQ) ?_;refine mO 7 λK hK=>?_
       go_wp2_with fail
       refine(C3.o _ _ (by have h9:=(S.x y HYM.o).1;unfold fM;rw[<-HYDV.o,<-HYD.o];exact h9)).mono ?_;rintro e W ⟨r,rfl,ho,hb⟩;obtain⟨ra,rc,rfl⟩:=aH ho;have HFy:=ae (show l5 w.heap.size ⟨{y.tocu with dead:=da.getD []},ra,rc⟩ from λhn b hb=>kL S.fr.size ((mH.of (x:=⟨{y.tocu with dead:=da.getD []},ra,rc⟩) ho).2 hn b hb));replace S:=S.uD (y:=⟨{y.tocu with dead:=da.getD []},ra,rc⟩) hb ho;clear hb;refine gM hK ?_;refine bp 8 45 _ ?_;refine bp 9 54 (.slice ra (da.getD []).length rc) ?_;refine bp 10 55 (.int .i64 (codeF 131 da)) ?_;refine bp 11 15 _ ?_;refine bp 12 16 _ ?_;refine uy ?_;cases da with
       | none=>
        obtain rfl:T=(b.t,[],131):=by rw[HRES.o,<-HK.o];rfl
        go_wp2_with (first|(with_reducible refine jr 63 99 3 S 3 HA.o ?_)|with_reducible refine js 99 6 64 S 2 HB.o (aT _) λW S=>?_|(go_at_call 112;refine JZ S (C9.o _ S.b) λW B c HB HC HF S=>?_)|((with_reducible refine aJ ?_);go_must (refine fU S 2 rfl rfl rfl fe rfl ?_;exact⟨_,_,rfl,⟨c,rfl,HC.o,S.dO HF.o⟩,dh.nil _ _,S.b⟩)))
       | some mm=>
        simp only[mb] at S HFy ⊢;simp only at HK;by_cases h4:4000<mm.length
        . obtain rfl:T=(b.t,[],131):=by have h9:=HK.o;rw[bC h4] at h9;rw[HRES.o,<-h9];rfl
          have h5: (4000:Int)< (mm.length:Int):=au
          go_wp2_with (first|(with_reducible refine jr 63 99 3 S 3 HA.o ?_)|with_reducible refine js 99 6 64 S 2 HB.o (aT _) λW S=>?_|(go_at_call 112;refine JZ S (C9.o _ S.b) λW B c HB HC HF S=>?_)|((with_reducible refine aJ ?_);go_must (refine fU S 2 rfl rfl rfl fe rfl ?_;exact⟨_,_,rfl,⟨c,rfl,HC.o,S.dO HF.o⟩,dh.nil _ _,S.b⟩)))
        . have h5: ¬(4000:Int)< (mm.length:Int):=au;rw[bX h4] at HK
          go_wp2_with (first|(with_reducible refine jl 66 97 65 S 1 1 (.slice (s_ g 0) m0.length cc) ?_)|((with_reducible refine aS 107 70 68 ?_);refine Qt S 1 rfl rfl (i*11+10) (v:=.slice ra mm.length rc) (by show i*11+10<m0.length*11;omega) rfl rfl rfl gx λW S=>?_))
          go_roundw
          case rel=>
           obtain⟨y',hy'⟩: ∃y':aZ,y'=⟨{y.tocu with dead:=mm},ra,rc⟩:=⟨_,rfl⟩;have hput: (dR m).set (i*11+10) (.slice ra mm.length rc)=dR (m.set i y'):=pI him2 HY.o 10 au _ y' (λj hj=>by rw[hy'];rcases j with(_|_|_|_|_|_|_|_|_|_|_|j) <;> first | rfl | omega);have hsv:bA (m.set i y')=(bA b.l).set i {x.tocu with dead:=mm}:=by
            have h1:bA (m.set i y')=(bA m).set i y'.tocu:=by unfold bA;rw[map_set]
            rw[h1,HSM.o,set_set,hy'];simp only[HYT.o]
           refine⟨k+1,mm,gn,m.set i y',ga,gc,au,by go_num,rfl,au,by omega,ae ⟨HK.o,by rw[En];exact HMM.o,hsv,λv hv=>?_,?_⟩⟩
           . rcases Hi hv with h | h
             . exact HFM.o v h
             . rw[h,hy'];exact HFy.o
           . have S:=S.pop;simp only at S;rw[hput,<-hy'] at S;refine S.vP (λB w h v hv=>?_) (dF _).fs;rcases Hi hv with h2 | h2
             . exact h.1 v h2
             . rw[h2];exact h.2
          case measure=>exact uO
   . obtain rfl:k=l.length:=au;rw[drop_length] at hkill;obtain rfl:T=(⟨b.next,(bA b.l).set i {x.tocu with dead:=dd}⟩,gn,0):=by rw[HRES.o,<-hkill];rfl
     obtain⟨B4,hB4⟩:=gq B3;have HBM:Hid (B3=ah 2 (bg ⟨b.next,m,s_ g 0,cc⟩)):=ae (by rw[HB3.o];unfold bg bx.sv;simp only[HMM.o]);clear hkill hmm hsm hB4
     go_wp2_with (first|(with_reducible refine jr 72 99 11 S 0 HB3.o ?_)|with_reducible refine js 99 6 72 S 1 HBM.o (aT _) λW S=>?_|((with_reducible refine aJ ?_);go_must (refine fU S 1 rfl rfl rfl fe rfl ?_;exact⟨_,_,rfl,⟨⟨b.next,m,s_ g 0,cc⟩,rfl,by unfold bx.t;rw[HSM.o],⟨by have h9:=S.o1;unfold bx.sv;rw[HMM.o];exact h9,λv hv=>⟨(S.x v hv).1,HFM.o v hv⟩⟩⟩,S.o0,S.b⟩)))
def Wr (l:aK) (n:Nat):Option Nat:=l.findIdx? λx=>decide (x=n)
theorem NF (l:aK)(v:bh)(n:Nat)(hl:l.length<=1000000)(w:aD)(R:ar w 82 1 v l.length (Eb l)):yr 161 #[v,.int .u64 n] w (.int .i64 (fV (Wr l n))):=by
 obtain⟨ao,cap,rfl,hcap,hao⟩:=aR R;have R:=ae R;have hao:=ae hao;have S:=ae (ug w);go_enter func161,ntmps161
 go_upto_region 2 with(fail)
 go_loopw [8] (λi wr=>∃k:Nat,k<=l.length/\i=.int .i64 k/\Hid ((∀(j:Nat) y,l[j]? =some y->j<k->decide (y=n)=false)/\St w none [] [] [] (λ_ _=>True) wr)) (λi _=>l.length - (intOf i).toNat)
 case atStart=>exact⟨0,au,rfl,ae ⟨λj y _ h=>by omega,S.o⟩⟩
 case round=>
  clear S;obtain⟨k,hk,rfl,hS⟩:=hrel;by_cases hlt:k<l.length
  . obtain⟨b,o,rfl⟩:=hao.o au;obtain⟨x,hx⟩: ∃x,l[k]? =some x:=⟨_,j4 hlt⟩;have hA:Hid (∀W,dp w W->W.cell? ⟨b,o+k,none⟩=some (.int .u64 x)):=ae λW hb=>ar.cellAt (R.o.below hb) au (by unfold Eb;rw[tY,hx];rfl);have HX:=ae hx;clear hx;rcases Kl (x=n) with rfl | he
    . go_wp2_with (with_reducible refine jo 15 82 14 (hA.o _ hS.o.2.fr.below) ?_)
      go_ret;have hp:Wr l x=some k:=vj HX.o (ly rfl) hS.o.1;exact⟨by rw[hp];rfl,hS.o.2.fr.below⟩
    . have he2: (((n:Nat):Int)==((x:Nat):Int))=false:=by rw[k'];omega
      go_wp2_with (with_reducible refine jo 15 82 14 (hA.o _ hS.o.2.fr.below) ?_)
      go_roundw
      case rel=>
       refine⟨k+1,au,by go_num,ae ⟨λj y hy hj=>?_,hS.o.2⟩⟩;by_cases hjk:j=k
       . subst hjk;rw[HX.o] at hy;cases hy;exact iE he
       . exact hS.o.1 j y hy au
      case measure=>exact uO
  . obtain rfl:k=l.length:=au;have hp:Hid (Wr l n=none):=ae (vl hS.o.1);go_wp2;go_ret;exact⟨by rw[hp.o];rfl,hS.o.2.fr.below⟩
theorem Cm (p:cu->Bool)(l:List aZ)(v:bh)(hl:l.length<=1000000)(g:Nat)(cb:iw)(w:aD)(eg: ∀args w,(callFunc g args).run prog w=.ok (.enter g args) w)(R:cQ w v l)(hc: ∀(k:Nat) x A W,l[k]? =some x->A=ah 11 (dy x)->dp w W->Calls prog g (#[.agg A]++cb) W λe w'=>e=.returned (.bool (p x.tocu))/\dp W w'):
 yr 162 #[v,.func (.func g) #[] cb] w (.bool ((bA l).any p)):=by
 have C1:=ae (yP p l v hl g cb w eg R hc);clear hc R;have hany: (bA l).any p=((bA l).findIdx? p).isSome:=by rw[findIdx?_isSome]
 rw[hany];obtain⟨r,hr⟩:=cM ((bA l).findIdx? p);rw[hr] at C1 ⊢;clear hany hr eg;rcases r with _ | k;simp only[fV] at C1
 rotate_left
 simp only[fV] at C1;have hk: (0:Int)<=(k:Int):=Int.natCast_nonneg k
 all_goals
  go_enter func162,ntmps162
  go_wp2_with (go_at_call 176;refine C1.o.mono ?_;rintro e W ⟨rfl,hb⟩;have HB:=ae hb)
  go_ret;exact⟨rfl,HB.o⟩
def F3 (id:Nat) (nm:lf) (s:cu):Bool:=s.snap&&decide (s.owner=id)&&decide (s.name=nm)
theorem Ws (s t:lf): (s.toList==t.toList)=decide (s=t):=by
 rw[DX,Em,yy];rw[Iv,Iv];exact⟨λe=>by obtain⟨⟨x⟩⟩:=s;simp_all,λe=>by rw[e]⟩
theorem AS (x y:aZ)(A:iw)(hA:A=ah 11 (dy x))(id E8 EB E15 j:Nat)(b:bx)(w:aD)(h8:ag w E8 82 1 (λ_=>.int .u64 id))(hB:ag w EB 99 2 (bg b))(h15:ag w E15 3 1 (λ_=>.int .i64 j))(R:dN w b)(hy:b.l[j]? =some y)(hlen:b.l.length<=1000000):
 yr 163 #[.agg A,.pointer (some ⟨E8,0,none⟩),.pointer (some ⟨EB,0,none⟩),.pointer (some ⟨E15,0,none⟩)] w (.bool (F3 id y.name x.tocu)):=by
 have HA:=ae hA;have hjl:=(sy.1 hy).1;have hjl2: (j:Int)< (b.l.length:Int):=au;obtain⟨bb,oo,hbo⟩:=uE R au;have HX:=ae ((R.bO hbo).at hy);have HBV:Hid (bg b 1=.slice (some ⟨bb,oo,none⟩) b.l.length b.cap):=ae (by rw[<-hbo];rfl);have H8:=ae h8;have HBX:=ae hB;have H15:=ae h15;obtain⟨T,hT⟩:=cM (F3 id y.name x.tocu);rw[hT];clear hA h8 hB h15 hbo hy;have S:=ug w;unfold F3 at hT;cases hs:x.snap with
 | false=>
  obtain rfl:false=T:=by rw[<-hT,hs];rfl
  have H2:Hid (Value.bool x.snap=.bool false):=ae (by rw[hs]);clear hT hs;go_enter func163,ntmps163
  go_upto_region 1 with(refine ew λW S=>?_)
  refine bL S cm λW S=>?_;refine bp 0 6 (bZ w.heap.size 2) ?_;refine gY 1 7 (.bool false) rfl (gE S 0 (λ_ h=>h) rfl 2 H2.o qv rfl gU) ?_;refine bp 2 8 _ ?_;refine vX 3 9 ?_;refine vX 4 10 ?_;refine vX 5 11 ?_;refine vX 6 12 ?_;refine bp 7 13 (.bool false) ?_;refine bp 8 14 (.bool false) ?_;refine vX 9 15 ?_;refine vX 10 16 ?_;refine vX 11 17 ?_;refine vX 12 18 ?_;refine vX 13 19 ?_;refine vX 14 20 ?_;refine vX 15 21 ?_;refine vX 16 22 ?_;refine vX 17 23 ?_;refine bp 18 24 (.bool false) ?_;refine bp 19 5 _ ?_;refine uy ?_;go_wp2;go_ret;exact⟨rfl,S.b⟩
 | true=>
  have H2:Hid (Value.bool x.snap=.bool true):=ae (by rw[hs]);rw[hs,Bool.true_and] at hT;by_cases ho:x.owner=id
  . rw[ly ho,Bool.true_and] at hT;have HT:Hid ((x.name.toList==y.name.toList)=T):=ae (by rw[Ws];exact hT);have HO:Hid (((x.owner:Nat):Int)==((id:Nat):Int)):=ae (by rw[ho];simp);clear hT hs;subst ho;go_enter func163,ntmps163
    go_upto_region 1 with(refine ew λW S=>?_)
    refine bL S cm λW S=>?_;refine bp 0 6 (bZ w.heap.size 2) ?_;refine gY 1 7 (.bool true) rfl (gE S 0 (λ_ h=>h) rfl 2 H2.o qv rfl gU) ?_;refine bp 2 8 _ ?_;refine bp 3 9 (bZ w.heap.size 3) ?_;refine bp 4 10 (.int .u64 x.owner) ?_;refine gY 5 11 (.int .u64 x.owner) rfl (bP (λw h=>by obtain⟨_,S⟩:=h;exact ag.cell (H8.o.below S.b) (i:=0) au) rfl bF) ?_;refine bp 6 12 (.bool true) ?_;refine bp 7 13 (.bool true) ?_;refine bp 8 14 (.bool true) ?_;refine bp 9 15 (bZ w.heap.size 1) ?_;refine bp 10 16 (.string x.name) ?_;refine bp 11 17 (bZ EB 1) ?_;refine gY 12 18 (.slice (s_ bb oo) b.l.length b.cap) rfl (bP (λw h=>by obtain⟨_,S⟩:=h;rw[ag.cell (HBX.o.below S.b) (i:=1) au];exact iS some HBV.o) rfl fB) ?_;refine gY 13 19 (.int .i64 j) rfl (bP (λw h=>by obtain⟨_,S⟩:=h;exact ag.cell (H15.o.below S.b) (i:=0) au) rfl kX) ?_;refine bp 14 20 (bZ bb (oo+j*11)) ?_;refine bp 15 21 (bZ bb (oo+j*11+1)) ?_;refine gY 16 22 (.string y.name) rfl (bP (λw h=>by obtain⟨_,S⟩:=h;exact(HX.o.below S.b).c1) rfl pY) ?_;refine gY 17 23 (.bool T) rfl (Or.inl ⟨cm,λw hw=>by have h0:=HT.o;go_simp⟩) ?_;refine bp 18 24 (.bool T) ?_;refine bp 19 5 _ ?_;refine uy ?_;go_wp2;go_ret;exact⟨rfl,S.b⟩
  . obtain rfl:false=T:=by rw[<-hT,iE ho];rfl
    have HO:Hid ((((x.owner:Nat):Int)==((id:Nat):Int))=false):=ae (by rw[k'];omega);clear hT hs;go_enter func163,ntmps163
    go_upto_region 1 with(refine ew λW S=>?_)
    refine bL S cm λW S=>?_;refine bp 0 6 (bZ w.heap.size 2) ?_;refine gY 1 7 (.bool true) rfl (gE S 0 (λ_ h=>h) rfl 2 H2.o qv rfl gU) ?_;refine bp 2 8 _ ?_;refine bp 3 9 (bZ w.heap.size 3) ?_;refine bp 4 10 (.int .u64 x.owner) ?_;refine gY 5 11 (.int .u64 id) rfl (bP (λw h=>by obtain⟨_,S⟩:=h;exact ag.cell (H8.o.below S.b) (i:=0) au) rfl bF) ?_;refine gY 6 12 (.bool false) rfl (Or.inl ⟨cm,λw hw=>by have h0:=HO.o;go_simp⟩) ?_;refine bp 7 13 (.bool false) ?_;refine bp 8 14 (.bool false) ?_;refine vX 9 15 ?_;refine vX 10 16 ?_;refine vX 11 17 ?_;refine vX 12 18 ?_;refine vX 13 19 ?_;refine vX 14 20 ?_;refine vX 15 21 ?_;refine vX 16 22 ?_;refine vX 17 23 ?_;refine bp 18 24 (.bool false) ?_;refine bp 19 5 _ ?_;refine uy ?_;go_wp2;go_ret;exact⟨rfl,S.b⟩
theorem Du (l:List cu) (id:Nat): ∀(f:Nat) (chain:aK) (prev:Nat),(∀m∈chain,(cR l m).isSome=true)->∀m∈(xf l id f chain prev).1,(cR l m).isSome=true
 | 0,chain,prev,h=>h
 | f+1,chain,prev,h=>by
  unfold xf;split
  . exact h
  . split
    . exact h
    . next i hi=>
      split
      . refine Du l id f _ _ λm hm=>?_;rcases jn.1 hm with h2 | h2
        . exact h m h2
        . rw[gz.1 h2,hi];rfl
      . exact h
theorem Qv (l:List cu)(id:Nat): ∀m∈(qF l id).1,(cR l m).isSome=true:=by
 grind[qF,Du]
def vq (l:List cu) (id:Nat):aK->List cu->Option (List cu)
 | [],s=>some s
 | m::ms,s=>match cR l m with
  | none=>none
  | some j=>if l.any (F3 id (di l j).name)=true then none else vq l id ms (s.set j {di s j with owner:=id})
def x9 (l:List cu) (o:cu):aK:=(qF l o.owner).1.drop ((Wr (qF l o.owner).1 o.id).getD 0)
def ei (b:cL) (full:lf):cL×Int:=
 match oR b.bO full with
 |(none,c)=>(b,c)
 |(some i,_)=>match cR b.bO (qF b.bO (di b.bO i).id).2 with
  | none=>(b,174)
  | some o=>match vq b.bO (di b.bO i).id (x9 b.bO (di b.bO o)) b.bO with
   | none=>(b,171)
   | some s=>(⟨b.next,s⟩,0)
theorem Dw (l:List cu)(id m:Nat)(ms:aK)(s:List cu):vq l id (m::ms) s=match cR l m with
 | none=>none
 | some j=>if l.any (F3 id (di l j).name)=true then none else vq l id ms (s.set j {di s j with owner:=id}):=rfl
theorem J2 (l:List cu) (id:Nat): ∀(f:Nat) (chain:aK) (prev:Nat),(xf l id f chain prev).1.length<=chain.length+f
 | 0,chain,prev=>eO _
 | f+1,chain,prev=>by
  unfold xf;split
  . grind
  . split
    . grind
    . split
      . have:=J2 l id f (chain++[prev]) (di l (by assumption)).prev;rw[kh] at this;simp only[length_singleton] at this;omega
      grind
theorem Wt (l:List cu)(id:Nat): (qF l id).1.length<=32:=by
 unfold qF;split
 . grind
 . split
   . grind
   grind[J2]
theorem St.NG (S:St w0 d l L (o::O) X w)(R:ar w o.e o.z v n xs)(hv:0<n->v.ownBlock=o.v.ownBlock)(h1:fk o.e=false)(h2:df o.e=false):
 St w0 d l L O (λB w=>X B w/\qC o.e o.z v n xs B w) w:=by
 refine S.P9.yu (cz _ _ _ _ _ h1 h2) ⟨R,λhn b hb hm=>?_⟩;have hob:o.v.ownBlock=some b:=by grind
 have hnd:=S.nd;have he:bE L (o::O)=L.map R4.b++b::O.filterMap O4.ob:=by grind[bE,O4.ob]
 rw[he] at hnd;have hp: (L.map R4.b++b::O.filterMap O4.ob).Perm (b:: (L.map R4.b++O.filterMap O4.ob)):=perm_middle;exact(List.nodup_cons.1 (hp.nodup_iff.1 hnd)).1 hm
theorem Z6:zM prog 78 1:=⟨cm,λW=>by rfl⟩
theorem Ee (b:bx)(A:iw)(hA:A=ah 2 (bg b))(hf:rY b.t)(full:lf)(hfu:full.size<=1000000)(w:aD)(R:dN w b):
 Calls prog 99 #[.agg A,.string full] w λe w'=>∃B,e=.returned (.tuple #[.agg B,.int .i64 (ei b.t full).2])/\gF w' w.heap.size B (ei b.t full).1/\dp w w':=by
 have HA:=ae hA;have HR:=ae R;have C1:=ae λW (hb:dp w W)=>Cj b A hA hf full hfu W (HR.o.below hb);have C2:=ae λid W (hb:dp w W)=>FX b.l b.sv id hf.len W (HR.o.below hb);have C3:=ae λid W (hb:dp w W)=>Dt b.l b.sv id hf.len hf.2 W (HR.o.below hb);have C4:=ae λid W (hb:dp w W)=>JY b.l b.sv id hf.len W (HR.o.below hb);have C6:=ae λid W (hb:dp w W)=>pZ b.l b.sv id hf.len W (HR.o.below hb);have C9:=ae λW (hb:dp w W)=>k7 b A hA hf W (HR.o.below hb);have hd:lS b.l:=hf.2;have hlen:=hf.len;have S:=ug w;clear hA hf;obtain⟨T,HT⟩:=qI (ei b.t full);rw[HT.o];go_enter func99,ntmps99;rcases xk b.t.bO full with⟨cd,hc,hv⟩ | ⟨i,hn,hv⟩
 . obtain rfl: (b.t,cd)=T:=by rw[<-HT.o];unfold ei;rw[hv]
   rw[hv] at C1;clear hv
   go_wp2_with (first|(go_at_call 127;refine je S (C1.o _ S.b) λW S=>?_)|(go_at_call 112;refine JZ S (C9.o _ S.b) λW B c HB HC HF S=>?_)|(refine o7 ?_;exact⟨_,rfl,⟨c,rfl,HC.o,S.dO HF.o⟩,S.b⟩)|refine fN ?_|refine ew λW S=>?_)
 . obtain⟨x,hx⟩:=pH hn;have hil:=(sy.1 hx).1;have hil2: (i:Int)< (b.l.length:Int):=au;have hg:di b.t.bO i=x.tocu:=fW hx;obtain⟨bb,oo,hbo⟩:=uE R au;have R9:=R.bO hbo;have HR9:=ae R9;have HX:=ae (R9.at hx);have HBV:Hid (bg b 1=.slice (some ⟨bb,oo,none⟩) b.l.length b.cap):=ae (by rw[<-hbo];rfl);have hsv:b.sv=.slice (s_ bb oo) b.l.length b.cap:=by unfold bx.sv;rw[hbo]
   rw[hsv] at C2 C3 C4 C6;obtain⟨og,hog⟩:=cM ((qF (bA b.l) x.id).2);have C2:=ae (C2.o x.id);have C3:=ae (C3.o og);rw[hog] at C2;obtain⟨pn,hpn⟩:=cM (cR (bA b.l) og);rw[hpn] at C3;obtain⟨pb,HPB⟩:=qI pn.isSome;rw[HPB.o] at C3;have hres:T=pn.elim (b.t,174) λo=>(vq (bA b.l) x.id (x9 (bA b.l) (di (bA b.l) o)) (bA b.l)).elim (b.t,171) λs=>(⟨b.next,s⟩,0):=by
    rw[<-HT.o,<-hpn,<-hog];unfold ei;rw[hv];simp only[hg];rw[show b.t.bO=bA b.l from rfl];cases cR (bA b.l) (qF (bA b.l) x.id).2 with
    | none=>rfl
    | some o=>simp only[E'];cases vq (bA b.l) x.id (x9 (bA b.l) (di (bA b.l) o)) (bA b.l) <;> rfl
   have HRES:=ae hres;rw[hv] at C1;simp only[fV] at C1;clear hv hn hg hx hbo hpn hres hog hsv
   go_upto_region 5 with(first|(with_reducible first|refine jo 32 82 31 ((HX.o.below S.b).c0) ?_)|((with_reducible refine gT 2 99 0 ?_);refine rQ S rfl HA.o rfl λW1 S=>?_)|(go_at_call 127;refine je S (C1.o _ S.b) λW4 S=>?_)|((with_reducible refine pP ?_);refine O9 S 1 rfl 1 (v:=.slice (s_ bb oo) b.l.length b.cap) HBV.o ?_)|refine fN ?_|refine ew λW S=>?_)
   refine bf S cm [⟨w.heap.size,99,2,bg b⟩,⟨W4.heap.size,82,1,λ_=>.int .u64 x.id⟩] L9 λW S=>?_;refine bp 0 34 (bZ w.heap.size 1) ?_;refine gY 1 35 (.slice (s_ bb oo) b.l.length b.cap) rfl (bP (λw h=>by rw[ag.cell (h.row 0 rfl) (i:=1) qv];exact iS some HBV.o) rfl fB) ?_;refine bp 2 36 (bZ w.heap.size 1) ?_;refine gY 3 37 (.slice (s_ bb oo) b.l.length b.cap) rfl (bP (λw h=>by rw[ag.cell (h.row 0 rfl) (i:=1) qv];exact iS some HBV.o) rfl fB) ?_;refine bp 4 38 (.int .u64 x.id) ?_
   repeat' first|refine Zf ?_|refine qK 7 33 _ ?_|refine qK 8 41 (.agg B) ?_|refine qK 9 42 (.bool pb) ?_|refine qK 12 10 _ ?_|refine JV 5 10 (λK hK=>?_) λK hK=>?_|refine tF 5 λK hK=>?_|refine tF 6 λK hK=>?_|refine tF 11 λK hK=>?_|refine JV 6 10 (λK hK=>?_) λK hK=>?_|refine tF 10 λK hK=>?_|(refine bG S Er cO rfl λE9 W S=>?_;refine gM hK ?_)|(go_wp2_with fail;refine je S (C2.o _ S.b) λW S=>?_;refine gM hK ?_)|(go_wp2_with fail;refine(C3.o _ S.b).mono ?_;rintro e W6 ⟨B,rfl,⟨pv,hB,hpv,hpo⟩,hb⟩;have HB:=ae hB;have HPV:=ae hpv;replace S:=S.below hb;clear hb hB hpv hpo;refine gM hK ?_)|(refine dL S 0 rfl rfl rfl HB.o fQ (cy _) λW S=>?_;refine gM hK ?_)
   all_goals (
    refine ae ?_;cases pb with
    | false=>
     obtain rfl:T=(b.t,174):=by
      have h9:=HRES.o;cases pn with
      | none=>exact h9
      | some j=>exact absurd HPB.o fh
     go_wp2_with (first
   |(go_at_call 112;refine JZ S (C9.o _ S.b) λW B c HB HC HF S=>?_)
   |(refine o7 ?_;exact⟨_,rfl,⟨c,rfl,HC.o,S.dO HF.o⟩,S.b⟩)
   |refine fN ?_
   |refine ew λW S=>?_)
    | true=>
     obtain⟨og2,rfl⟩: ∃j,pn=some j:=by
      cases pn with
      | none=>exact absurd HPB.o fh
      | some j=>exact⟨j,rfl⟩
     have hpt:di (bA b.l) og2=pv.tocu:=HPV.o.symm;obtain⟨ch,hch⟩:=cM ((qF (bA b.l) pv.owner).1);obtain⟨ri,hri⟩:=cM (Wr ch pv.id);obtain⟨kk,hkk⟩:=cM (ri.getD 0);obtain⟨mv,HMV⟩:=qI (ch.drop kk);obtain⟨KT,HKT⟩:=qI (vq (bA b.l) x.id mv (bA b.l));have hres2:T=KT.elim (b.t,171) λs=>(⟨b.next,s⟩,0):=by
      rw[HRES.o,<-HKT.o,<-HMV.o,<-hkk,<-hri,<-hch];unfold x9;rw[E',hpt]
     have hth: ∀m∈mv,(cR (bA b.l) m).isSome=true:=λm hm=>by rw[<-HMV.o] at hm;have:=vF hm;rw[<-hch] at this;exact Qv _ _ m this
     have hcl:ch.length<=32:=by rw[<-hch];exact Wt _ _
     have hkl:kk<=ch.length:=by
      rw[<-hkk];cases ri with
      | none=>exact kf _
      | some q=>exact Nat.le_of_lt (X1.1 hri).1
     have hmax:max (fV ri) 0=((kk:Nat):Int):=by
      rw[<-hkk];cases ri with
      | none=>rfl
      | some q=>exact Int.max_eq_left (Int.natCast_nonneg q)
     have hmvl:ch.length - kk=mv.length:=by rw[<-HMV.o,Ek]
     have hmvb:mv.length<=32:=au;have HRES2:=ae hres2;have HTH:=ae hth;have C4:=ae (C4.o pv.owner);rw[hch] at C4;have C5:=ae λv hl W R=>NF ch v pv.id hl W R;rw[hri] at C5;have hcl2:ch.length<=1000000:=au;clear hpt hch hri hres2 hth hkk
     go_upto_region 12 with(first
   |((with_reducible refine pP ?_);refine O9 S 3 rfl 1 (v:=.slice (s_ bb oo) b.l.length b.cap) HBV.o ?_)
   |(go_at_call 128;refine(C4.o _ S.b).mono ?_;rintro e W ⟨r,rfl,ho,hb⟩;obtain⟨ra,rc,rfl⟩:=aH ho;replace S:=S.cU hb ho rfl rfl;clear hb)
   |(go_at_call 161;refine je S (C5.o _ hcl2 _ S.q0) λW S=>?_)
   |((with_reducible refine ej 58 78 52 ?_);refine qn Z6 rfl rfl hkl ?_;have RD:=ar.vN S.q0 hkl;obtain⟨md,hmd⟩:=cM (fD ra rc kk 1);(try simp only at RD);rw[hmd,hmvl,wy,<-map_drop,HMV.o] at RD;rw[hmd,hmvl];have hob:0<mv.length->Value.ownBlock (.slice md mv.length (rc - kk))=Value.ownBlock (.slice ra ch.length rc):=(λhn=>by obtain⟨g1,c1,e1⟩:=xb S.o0 (by show 0<ch.length;omega);simp only[mA] at e1;obtain⟨rfl,-,rfl⟩:=e1;rw[<-hmd];unfold fD;split <;> simp[Value.ownBlock,Addr.add] <;>(split <;> simp_all));replace S:=S.NG RD hob rfl rfl;clear RD hob hmd)
   |(go_at_call 112;refine(C9.o _ S.b).mono ?_;rintro e W5 ⟨B3,rfl,⟨⟨cn,m0,ca,cc⟩,hB,hc,ho⟩,hb⟩;obtain⟨hcn,hcs⟩:=cL.mk.inj hc;simp only at hcn hcs;subst hcn;have hml:m0.length=b.l.length:=(by have h9:=iS length hcs;rwa [dC,dC] at h9);obtain⟨g,hca⟩:=oS ho (by show 0<m0.length;omega);simp only at hca;subst hca;have HML:=ae hml;have HB3:=ae hB;have HM:=ae hcs;have HF:=ae (S.fresh ho);replace S:=S.bB hb ho;clear hml;change St _ _ _ _ (⟨109,11,.slice (s_ g 0) m0.length cc,m0.length,dR m0⟩::_) _ _ at S;clear hb hB hc hcs)
   |refine fN ?_
   |refine ew λW S=>?_)
     have eg: ∀args w,(callFunc 163 args).run prog w=.ok (.enter 163 args) w:=enters_of func163 cm rfl;have EG:=ae eg;have hsl:=cz 82 1 (Value.slice md mv.length (rc - kk)) mv.length (Eb mv) rfl rfl;have HSL:=ae hsl;have S:=ae S;clear eg hsl hmax hmvl
     go_loopw [63] (λkv wr=>∃(k:Nat) (m:List aZ),k<=mv.length/\kv=.int .i64 k/\Hid (vq (bA b.l) x.id (mv.drop k) (bA m)=KT/\m.length=m0.length/\(∀v∈m,l5 w.heap.size v)/\
      St w none [] [⟨W5.heap.size,99,2,bg ⟨b.next,m0,s_ g 0,cc⟩⟩,⟨E9,109,11,dy pv⟩,⟨W4.heap.size,82,1,λ_=>.int .u64 x.id⟩,⟨W1.heap.size,99,2,bg qO⟩,⟨w.heap.size,99,2,bg b⟩] [⟨109,11,.slice (s_ g 0) m0.length cc,m0.length,dR m⟩] (λB w=>qC 82 1 (Value.slice md mv.length (rc - kk)) mv.length (Eb mv) B w/\jU m B w) wr)) (λkv _=>mv.length - (intOf kv).toNat)
     case atStart=>exact⟨0,m0,au,rfl,ae ⟨by rw[HM.o];exact HKT.o,rfl,HF.o,S.o.vP (λ_ _ h=>⟨h.1.2,h.2⟩) (HSL.o.and (dF m0)).fs⟩⟩
     case round=>
      clear S;obtain⟨k,m,hk,rfl,hS⟩:=hrel;obtain⟨hgo,hmm,hfm,S⟩:=hS.o;clear hS;have HMM:=ae hmm;have HFM:=ae hfm;clear hfm;by_cases hlt:k<mv.length
      . obtain⟨n,hn⟩:=cM (mv[k]);obtain⟨lb,lo,rfl⟩: ∃lb lo,md=s_ lb lo:=by
         obtain⟨_,_,e1,_,h⟩:=aR S.x.1.1
         grind
        have hnk: (Eb mv)[k]? =some (.int .u64 n):=by unfold Eb;rw[tY,j4 hlt,hn];rfl
        obtain⟨j,hj⟩: ∃j,cR (bA b.l) n=some j:=Option.isSome_iff_exists.1 (HTH.o n (hn ▸ tW hlt));obtain⟨hjl,y,hy,-⟩:=fy hj;have hgj:di (bA b.l) j=y.tocu:=fW hy;rw[U9 hlt,hn,Dw,hj] at hgo;simp only[hgj] at hgo;have C7:=ae (C6.o n);rw[hj] at C7;simp only[fV] at C7;obtain⟨an,han⟩:=cM ((bA b.l).any (F3 x.id y.name));rw[show y.tocu.name=y.name from rfl,han] at hgo;have C8:=ae λ(cb:iw) W hR hc=>Cm (F3 x.id y.name) b.l (.slice (s_ bb oo) b.l.length b.cap) hlen 163 cb W EG.o hR hc;rw[han] at C8;have HGO:=ae hgo;have HNK:=ae hnk;have HJY:=ae hy;have hjm: (j:Int)< (m0.length:Int):=by have:=HML.o;omega
        have hjm2:j<m.length:=au;clear hgo hn hnk hj hgj han hy hmm;cases an with
        | true=>
         obtain rfl:T=(b.t,171):=by have h9:=HGO.o;rw[bC rfl] at h9;rw[HRES2.o,<-h9];rfl
         go_wp2_with (first
   |((with_reducible refine pP ?_);first | refine BN (ar.cellAt S.x.1.1 au HNK.o) ?_ | refine O9 S 4 rfl 1 (v:=.slice (s_ bb oo) b.l.length b.cap) HBV.o ?_ | refine O9 S 5 rfl 1 (v:=.slice (s_ bb oo) b.l.length b.cap) HBV.o ?_)
   |(go_at_call 131;refine je S (C7.o _ S.b) λW S=>?_)
   |(go_at_call 162;have hE:=λ(k:Nat) (z:aZ) (A:iw) W' (_:b.l[k]? =some z) (hA:A=ah 11 (dy z)) hb=>AS z y A hA x.id _ _ _ j b W' (ag.below (S.ee (k:=3) rfl) hb) (ag.below (S.ee (k:=5) rfl) hb) (ag.below S.k0 hb) ((HR.o.below S.b).below hb) HJY.o hlen;refine(C8.o #[bZ _ 0,bZ _ 0,bZ _ 0] _ (HR9.o.below S.b) hE).mono ?_;clear hE;rintro e W ⟨rfl,hb⟩;replace S:=S.below hb;clear hb)
   |(go_at_call 112;refine JZ S (C9.o _ S.b) λW B c HB HC HF S=>?_)
   |(refine o7 ?_;exact⟨_,rfl,⟨c,rfl,HC.o,S.dO HF.o⟩,S.b⟩)
   |refine fN ?_
   |refine ew λW S=>?_)
        | false=>
         go_wp2_with (first
   |(with_reducible first|refine jl 78 97 77 S 1 1 (.slice (s_ g 0) m0.length cc) ?_|refine jl 79 3 15 S 0 0 (.int .i64 j) ?_)
   |((with_reducible refine pP ?_);first | refine BN (ar.cellAt S.x.1.1 au HNK.o) ?_ | refine O9 S 4 rfl 1 (v:=.slice (s_ bb oo) b.l.length b.cap) HBV.o ?_ | refine O9 S 5 rfl 1 (v:=.slice (s_ bb oo) b.l.length b.cap) HBV.o ?_)
   |(go_at_call 131;refine je S (C7.o _ S.b) λW S=>?_)
   |(go_at_call 162;have hE:=λ(k:Nat) (z:aZ) (A:iw) W' (_:b.l[k]? =some z) (hA:A=ah 11 (dy z)) hb=>AS z y A hA x.id _ _ _ j b W' (ag.below (S.ee (k:=3) rfl) hb) (ag.below (S.ee (k:=5) rfl) hb) (ag.below S.k0 hb) ((HR.o.below S.b).below hb) HJY.o hlen;refine(C8.o #[bZ _ 0,bZ _ 0,bZ _ 0] _ (HR9.o.below S.b) hE).mono ?_;clear hE;rintro e W ⟨rfl,hb⟩;replace S:=S.below hb;clear hb)
   |((with_reducible refine aS 82 82 80 ?_);refine Qt S 0 rfl rfl (j*11+3) (v:=.int .u64 x.id) (by show j*11+3<m0.length*11;omega) rfl rfl rfl bF λW S=>?_)
   |refine fN ?_
   |refine ew λW S=>?_)
         go_roundw
         case rel=>
          obtain⟨z,hz⟩:=cM (m[j]);obtain⟨y',hy'⟩: ∃y':aZ,y'=⟨{z.tocu with owner:=x.id},z.bI,z.cap⟩:=⟨_,rfl⟩;have hput: (dR m).set (j*11+3) (.int .u64 x.id)=dR (m.set j y'):=pI hjm2 hz 3 au _ y' (λj hj=>by rw[hy'];rcases j with(_|_|_|_|_|_|_|_|_|_|_|j) <;> first | rfl);have hsv:bA (m.set j y')=(bA m).set j {di (bA m) j with owner:=x.id}:=by
           rw[fW (x:=z) (by rw[j4 hjm2,hz]),show bA (m.set j y')=(bA m).set j y'.tocu by unfold bA;rw[map_set],hy']
          have hzm:z∈m:=hz ▸ tW hjm2;have hgo:=HGO.o;rw[bX fh] at hgo;refine⟨k+1,m.set j y',au,by go_num,ae ⟨by rw[hsv];exact hgo,by rw[En];exact HMM.o,λv hv=>?_,?_⟩⟩
          . rcases Hi hv with h | h
            . exact HFM.o v h
            . rw[h,hy'];exact HFM.o z hzm
          . have S:=S.pop;simp only at S;rw[hput] at S;refine S.vP (λB w h=>⟨h.1,λv hv=>?_⟩) (HSL.o.and (dF _)).fs;rcases Hi hv with h2 | h2
            . exact h.2 v h2
            . rw[h2,hy'];exact h.2 z hzm
         case measure=>exact uO
      . obtain rfl:k=mv.length:=au;rw[drop_length] at hgo;obtain rfl:T=(⟨b.next,bA m⟩,0):=by rw[HRES2.o,<-hgo];rfl
        have HBM:Hid (B3=ah 2 (bg ⟨b.next,m,s_ g 0,cc⟩)):=ae (by rw[HB3.o];unfold bg bx.sv;simp only[HMM.o]);clear hgo hmm
        go_wp2_with (first|(refine o7 ?_;exact⟨_,rfl,⟨⟨b.next,m,s_ g 0,cc⟩,rfl,rfl,⟨by have h9:=S.o0;unfold bx.sv;rw[HMM.o];exact h9,λv hv=>⟨(S.x.2 v hv).1,HFM.o v hv⟩⟩⟩,S.b⟩)|refine fN ?_|refine ew λW S=>?_)
   )
def eS (s:cu):Bool:=
 decide (1<=s.id/\s.id<=281474976710655)&&decide (1<=s.owner/\s.owner<=281474976710655)&&decide (s.prev<=281474976710655)&&decide (1<=s.blocks/\s.blocks<=64)&&cq s.name&&fP s.root&& (decide (s.dead.length<=4000)&&kY s.dead)&&
  (if s.snap=true then decide (1<=s.ay/\s.ay<=281474976710655) else decide (s.ay=0/\s.owner=s.id))
theorem ir (h: (1<=s.id/\s.id<=281474976710655)->(1<=s.owner/\s.owner<=281474976710655)->s.prev<=281474976710655->(1<=s.blocks/\s.blocks<=64)->cq s.name=true->fP s.root=true->s.dead.length<=4000->kY s.dead=true->(if s.snap=true then decide (1<=s.ay/\s.ay<=281474976710655) else decide (s.ay=0/\s.owner=s.id))=false):eS s=false:=by
 simp_all[eS]
theorem rz (x:aZ): ∀i,i<3->dy x (7+i)=aN x.root i:=λi hi=>by grind[dy]
theorem AT (x:aZ)(A:iw)(hA:A=ah 11 (dy x))(hx:x.dead.length<=1000000)(w:aD)(R:rV w x):
 yr 198 #[.agg A] w (.bool (eS x.tocu)):=by
 have HA:=ae hA;have HR:=ae R;obtain⟨G,hG⟩:=gq (ah 3 (aN x.root));have C1:=ae λw=>nz x.name w;have C2:=ae (show ∀w,yr 241 #[.agg G] w (.bool (fP x.root)) from λw=>by rw[<-az hG];exact rG x.root w);have C3:=ae λW (hb:dp w W)=>tI x.dead x.dv W au (HR.o.below hb);have HG:=ae hG;have hrt:=rz x;have S:=ug w;obtain⟨T,hT⟩:=cM (eS x.tocu);have HT:=ae hT;rw[hT];clear hA hG hT;go_enter func198,ntmps198;by_cases h1:x.id<1
 case pos=>
  obtain rfl:false=T:=by rw[<-HT.o];exact(ir λg1 _ _ _ _ _ _ _=>absurd g1.1 au).symm
  have ih1: (x.id:Int)<1:=au
  go_wp2_with (first|refine fN ?_|refine ew λW S=>?_)
  go_ret;exact⟨rfl,S.b⟩
 have ih1: ¬((x.id:Int)<1):=au;by_cases h2:281474976710655<x.id
 case pos=>
  obtain rfl:false=T:=by rw[<-HT.o];exact(ir λg1 _ _ _ _ _ _ _=>absurd g1.2 au).symm
  have ih2: (281474976710655:Int)< (x.id:Int):=au
  go_wp2_with (first|(with_reducible first|refine jm 9 82 8 S 0 0 (.int .u64 x.id) ?_)|refine fN ?_|refine ew λW S=>?_)
  go_ret;exact⟨rfl,S.b⟩
 have ih2: ¬((281474976710655:Int)< (x.id:Int)):=au
 go_upto_region 2 with(first|(with_reducible first|refine jm 9 82 8 S 0 0 (.int .u64 x.id) ?_)|refine fN ?_|refine ew λW S=>?_)
 by_cases h3:x.owner<1
 case pos=>
  obtain rfl:false=T:=by rw[<-HT.o];exact(ir λ_ g1 _ _ _ _ _ _=>absurd g1.1 au).symm
  have ih3: (x.owner:Int)<1:=au
  go_wp2_with (refine fN ?_)
  go_ret;exact⟨rfl,S.b⟩
 have ih3: ¬((x.owner:Int)<1):=au;by_cases h4:281474976710655<x.owner
 case pos=>
  obtain rfl:false=T:=by rw[<-HT.o];exact(ir λ_ g1 _ _ _ _ _ _=>absurd g1.2 au).symm
  have ih4: (281474976710655:Int)< (x.owner:Int):=au
  go_wp2_with (first|(with_reducible first|refine jm 17 82 16 S 0 3 (.int .u64 x.owner) ?_)|refine fN ?_)
  go_ret;exact⟨rfl,S.b⟩
 have ih4: ¬((281474976710655:Int)< (x.owner:Int)):=au
 go_upto_region 3 with(first|(with_reducible first|refine jm 17 82 16 S 0 3 (.int .u64 x.owner) ?_)|refine fN ?_)
 by_cases h5:281474976710655<x.prev
 case pos=>
  obtain rfl:false=T:=by rw[<-HT.o];exact(ir λ_ _ g1 _ _ _ _ _=>absurd g1 au).symm
  have ih5: (281474976710655:Int)< (x.prev:Int):=au
  go_wp2_with (refine fN ?_)
  go_ret;exact⟨rfl,S.b⟩
 have ih5: ¬((281474976710655:Int)< (x.prev:Int)):=au
 go_upto_region 4 with(refine fN ?_)
 by_cases h6:x.blocks<1
 case pos=>
  obtain rfl:false=T:=by rw[<-HT.o];exact(ir λ_ _ _ g1 _ _ _ _=>absurd g1.1 au).symm
  have ih6: (x.blocks:Int)<1:=au
  go_wp2_with (refine fN ?_)
  go_ret;exact⟨rfl,S.b⟩
 have ih6: ¬((x.blocks:Int)<1):=au;by_cases h7:64<x.blocks
 case pos=>
  obtain rfl:false=T:=by rw[<-HT.o];exact(ir λ_ _ _ g1 _ _ _ _=>absurd g1.2 au).symm
  have ih7: (64:Int)< (x.blocks:Int):=au
  go_wp2_with (first|(with_reducible first|refine jm 28 3 27 S 0 6 (.int .i64 x.blocks) ?_)|refine fN ?_)
  go_ret;exact⟨rfl,S.b⟩
 have ih7: ¬((64:Int)< (x.blocks:Int)):=au
 go_upto_region 5 with(first|(with_reducible first|refine jm 28 3 27 S 0 6 (.int .i64 x.blocks) ?_)|refine fN ?_)
 cases h8:cq x.name with
 | false=>
  obtain rfl:false=T:=by rw[<-HT.o];exact(ir λ_ _ _ _ g1 _ _ _=>absurd g1 rE).symm
  rw[h8] at C1
  go_wp2_with (first|(go_at_call 126;refine je S (C1.o _) λW S=>?_)|refine fN ?_)
  go_ret;exact⟨rfl,S.b⟩
 | true=>
 rw[h8] at C1
 go_upto_region 6 with(first|(go_at_call 126;refine je S (C1.o _) λW S=>?_)|refine fN ?_)
 cases h9:fP x.root with
 | false=>
  obtain rfl:false=T:=by rw[<-HT.o];exact(ir λ_ _ _ _ _ g1 _ _=>absurd g1 rE).symm
  rw[h9] at C2
  go_wp2_with (first|((with_reducible refine pP ?_);refine oM_ S 0 rfl (o:=7) (m:=3) (aN x.root) hrt HG.o ?_)|(go_at_call 241;refine je S (C2.o _) λW S=>?_))
  go_ret;exact⟨rfl,S.b⟩
 | true=>
 rw[h9] at C2
 go_upto_region 7 with(first|((with_reducible refine pP ?_);refine oM_ S 0 rfl (o:=7) (m:=3) (aN x.root) hrt HG.o ?_)|(go_at_call 241;refine je S (C2.o _) λW S=>?_))
 by_cases h10:4000<x.dead.length
 case pos=>
  obtain rfl:false=T:=by rw[<-HT.o];exact(ir λ_ _ _ _ _ _ g1 _=>absurd g1 au).symm
  have ih10: (4000:Int)< (x.dead.length:Int):=au
  go_wp2_with (refine fN ?_)
  go_ret;exact⟨rfl,S.b⟩
 have ih10: ¬((4000:Int)< (x.dead.length:Int)):=au;cases h11:kY x.dead with
 | false=>
  obtain rfl:false=T:=by rw[<-HT.o];exact(ir λ_ _ _ _ _ _ _ g1=>absurd g1 rE).symm
  rw[h11] at C3
  go_wp2_with (first|(with_reducible first|refine jm 45 107 44 S 0 10 (.slice x.bI x.dead.length x.cap) ?_)|(go_at_call 244;refine je S (C3.o _ S.b) λW S=>?_)|refine fN ?_)
  go_ret;exact⟨rfl,S.b⟩
 | true=>
 rw[h11] at C3
 go_upto_region 9 with(first|(with_reducible first|refine jm 45 107 44 S 0 10 (.slice x.bI x.dead.length x.cap) ?_)|(go_at_call 244;refine je S (C3.o _ S.b) λW S=>?_)|refine fN ?_)
 have hfin:T=(if x.snap=true then decide (1<=x.ay/\x.ay<=281474976710655) else decide (x.ay=0/\x.owner=x.id)):=by
  rw[<-HT.o];unfold eS
  grind
 cases hs:x.snap with
 | true=>
  have H2:Hid (Value.bool x.snap=.bool true):=ae (by rw[hs]);rw[hs,bC rfl] at hfin;have HFIN:=ae hfin;clear hfin hs;by_cases k1:x.ay<1
  . obtain rfl:T=false:=by rw[HFIN.o];grind
    have j1: ¬(1:Int)<=(x.ay:Int):=au
    go_wp2_with (first
   |((with_reducible refine pP ?_);refine O9 S 0 rfl 2 (v:=.bool true) H2.o ?_)
   |refine fN ?_)
    go_ret;exact⟨rfl,S.b⟩
  . have j1: (1:Int)<=(x.ay:Int):=au;by_cases k2:x.ay<=281474976710655
    . obtain rfl:T=true:=by rw[HFIN.o];grind
      have j2: (x.ay:Int)<=281474976710655:=au
      go_wp2_with (first
   |(with_reducible first|refine jm 57 82 56 S 0 5 (.int .u64 x.ay) ?_)
   |((with_reducible refine pP ?_);refine O9 S 0 rfl 2 (v:=.bool true) H2.o ?_)
   |refine fN ?_)
      go_ret;exact⟨rfl,S.b⟩
    . obtain rfl:T=false:=by rw[HFIN.o];grind
      have j2: ¬(x.ay:Int)<=281474976710655:=au
      go_wp2_with (first
   |(with_reducible first|refine jm 57 82 56 S 0 5 (.int .u64 x.ay) ?_)
   |((with_reducible refine pP ?_);refine O9 S 0 rfl 2 (v:=.bool true) H2.o ?_)
   |refine fN ?_)
      go_ret;exact⟨rfl,S.b⟩
 | false=>
  have H2:Hid (Value.bool x.snap=.bool false):=ae (by rw[hs]);rw[hs,bX fh] at hfin;have HFIN:=ae hfin;clear hfin hs;by_cases k1:x.ay=0
  . have j1:Hid (Value.int .u64 x.ay=.int .u64 0):=ae (by rw[k1];rfl);by_cases k2:x.owner=x.id
    . obtain rfl:T=true:=by rw[HFIN.o];grind
      have j2:Hid (Value.int .u64 x.owner=.int .u64 x.id):=ae (by rw[k2]);clear k1 k2
      go_wp2_with (first
   |(with_reducible refine jm 67 82 66 S 0 0 (.int .u64 x.id) ?_)
   |((with_reducible refine pP ?_);first | refine O9 S 0 rfl 2 (v:=.bool false) H2.o ?_ | refine O9 S 0 rfl 5 (v:=.int .u64 0) j1.o ?_ | refine O9 S 0 rfl 3 (v:=.int .u64 x.id) j2.o ?_))
      go_ret;exact⟨rfl,S.b⟩
    . obtain rfl:T=false:=by rw[HFIN.o];grind
      have j2: (((x.owner:Nat):Int)==((x.id:Nat):Int))=false:=by rw[k'];omega
      clear k1
      go_wp2_with (first
   |(with_reducible first|refine jm 65 82 64 S 0 3 (.int .u64 x.owner) ?_|refine jm 67 82 66 S 0 0 (.int .u64 x.id) ?_)
   |((with_reducible refine pP ?_);first | refine O9 S 0 rfl 2 (v:=.bool false) H2.o ?_ | refine O9 S 0 rfl 5 (v:=.int .u64 0) j1.o ?_))
      go_ret;exact⟨rfl,S.b⟩
  . obtain rfl:T=false:=by rw[HFIN.o];grind
    have j1: (((x.ay:Nat):Int)==0)=false:=by rw[k'];omega
    go_wp2_with (first
   |((with_reducible refine pP ?_);refine O9 S 0 rfl 2 (v:=.bool false) H2.o ?_)
   |refine fN ?_)
    go_ret;exact⟨rfl,S.b⟩
section
variable {x:Nat}
theorem x' (s:lf): (lR s).length=s.size:=by grind[lR,size_eq]
theorem NH (w:aD)(e:dD)(s:lf):dp w (bytesWorld w e s):=
 ⟨rfl,rfl,rfl,by rw[bytesWorld_size];omega,λk hk=>bytesWorld_at_old w e s k hk⟩
theorem UP (S:St w0 d l L O X w){s:lf}{dstT:dD}(hx:a.eval (.tmp x)=.string s)(hs:P.underlying src=some .string)(hd:P.underlying dstT=some (.slice 5))(he:P.underlying 5=some (.int .u8))(hm:s.size<=maxLen)(h: ∀g c W,St w0 d l L O (λB w=>X B w/\qC 5 1 (.slice (some ⟨g,0,none⟩) s.size c) s.size (aQ (lR s)) B w) W->K (a.put (some dst) (.slice (some ⟨g,0,none⟩) s.size c)) W):
 Oper.wp P ⟨some dst,.convert src dstT (.tmp x),t2,p,af,none⟩ a w K Q:=by
 have hrun:=Lib.run_convert_string_bytes (P:=P) w src dstT 5 s hs hd he;unfold Oper.wp execOp;simp only[py,hx,hrun,rj];refine h _ _ _ ((S.below (NH w 5 s)).yu (cz 5 1 _ _ _ rfl rfl) ⟨?_,λ_ b hb hm2=>?_⟩)
 . refine⟨by grind[aQ,x'],_,_,rfl,grownCap_ge _ _ _ _,grownCap_le_maxLen _ _ _ _ hm,λ_=>⟨w.heap.size,0,_,_,rfl,bytesWorld_at_new w 5 s,λj u hu=>?_⟩⟩;rw[rC];unfold aQ lR at hu;rw[EV,tY] at hu;unfold bytesCells
   grind
 . cases hb;exact Al _ (S.lt _ hm2)
theorem J3 (S:St w0 d l L O X w){t:dD}(vs:List bh)(hu:P.underlying t=some (.slice e))(hi: (P.info? e).map (λi=>(i.zero,i.size,i.bytes))=some (some zv,1,by'))(h0:0<n)(hn:n<=16777216)(ho:df e=false)(hl:vs.length=n)(h1: ∀v∈vs,v.cells=#[v])(hp:parts.toList.map (λp=>(p.1,a.eval p.2))=(vs.zipIdx 0).map λx=>(x.2,x.1))(h: ∀W,St w0 d l (⟨w.heap.size,e,n,λi=>vs.getD i undef⟩::L) O X W->K (a.put (some dst) (.slice (some ⟨w.heap.size,0,none⟩) n n)) W):
 Oper.wp P ⟨some dst,.buildSlice t n parts,t2,p,af,none⟩ a w K Q:=by
 obtain⟨it,hi1,hz,hz1,hz2⟩:=sC hi;have hA:ah n (λi=>vs.getD i undef)=vs.toArray:=by
  apply ER
  grind[aF]
 refine wp_buildSlice t e n parts rfl (ah n (λi=>vs.getD i undef)) it zv hu hi1 hz rE rE (by rw[hz1];refine(iS (Instr.fill _ _) ((Array.toList_map).trans hp)).trans ?_;grind[Great.fill_flat]) (h _ (S.alloc e rfl ho))
theorem blV (S:St w0 d l L O X w){t:dD}(vs:List bh)(hu:P.underlying t=some (.slice e))(hi: (P.info? e).map (λi=>(i.zero,i.size,i.bytes))=some (some zv,1,by'))(h0:0<n)(hn:n<=16777216)(ho:df e=false)(hl:vs.length=n)(h1: ∀v∈vs,v.cells=#[v])(hp:parts.toList.map (λp=>(p.1,a.eval p.2))=(vs.zipIdx 0).map λx=>(x.2,x.1))(h: ∀W,St w0 d l (⟨w.heap.size,e,n,λi=>vs.getD i undef⟩::L) O X W->wpList P ops Q rest (a.put (some dst) (.slice (some ⟨w.heap.size,0,none⟩) n n)) W):
 wpList P ops Q (⟨some dst,.buildSlice t n parts,t2,p,af,none⟩::rest) a w:=
 sD rfl λ_ hK=>J3 S vs hu hi h0 hn ho hl h1 hp λW hS=>hK _ _ (h W hS)
end
theorem vY: (prog.info? 22).map (λi=>(i.zero,i.size,i.bytes))=some (some (.slice none 0 0),1,24):=cm
theorem ar.iC {w:aD} {T:dD} {v:bh} {n:Nat} {l:aK} (h:ar w T 1 v n (aQ l)) (hl: ∀x∈l,x<256):br .u8 w v (aW l):=by
 have hn:l.length=n:=by have:=h.1;grind[aQ]
 subst hn;exact eX.ints (T:=T) ⟨h,hl⟩
theorem pA (s:lf): ∀x∈lR s,x<256:=λx hx=>by
 unfold lR at hx;obtain⟨q,_,rfl⟩:=lY.1 hx;exact q.toNat_lt
theorem Ah {b:Nat}(h:ag w b 22 n (λi=>vs.getD i undef))(hn:vs.length=n)(ht:ts.length=n)(hk: ∀k (h:k<vs.length) (h':k<ts.length),br .u8 w vs[k] (aW ts[k])/\kV vs[k]):xO w (.slice (some ⟨b,0,none⟩) n n) ts:=by
 subst ht;refine⟨some ⟨b,0,none⟩,ts.length,vs,rfl,hn,eO _,hk,λ_=>⟨b,0,rfl,ag.lt h,λk hk2=>?_⟩⟩;rw[rC,ag.cell h au,DZ,j4 hk2];rfl
def pd:aK:=[8,1,8,8,8,1]
def vr (s:cu):aK:=[s.id,if s.snap=true then 1 else 0,s.owner,s.prev,s.ay,s.blocks]
def k9 (s:cu):Option aK:=if eS s=true then mP [ez pd (vr s)++gZ s.root,lR s.name,pz s.dead] else none
def vt (s:cu):Prop:=bt s.root/\∀q∈s.dead,bt q
theorem xm (h:eS s=true): (1<=s.id/\s.id<=281474976710655)/\(1<=s.owner/\s.owner<=281474976710655)/\s.prev<=281474976710655/\(1<=s.blocks/\s.blocks<=64)/\cq s.name=true/\fP s.root=true/\s.dead.length<=4000/\kY s.dead=true/\s.ay<=281474976710655:=by
 unfold eS at h
 grind
theorem TT (h:eS s=true):mX pd (vr s)=some (ez pd (vr s)):=by
 obtain⟨h1,h2,h3,h4,-,-,-,-,h9⟩:=xm h;unfold mX;rw[bC];refine⟨by decide,rfl,?_⟩
 grind[pd,vr,fitAll]
theorem yb (h: ∀n∈l,n<18446744073709551616): ∀x∈aW l,(Lit.int .u64 x).wf=true:=λx hx=>by
 unfold aW at hx;obtain⟨n,hn,rfl⟩:=lY.1 hx
 grind[Lit.wf,IntKind.min,IntKind.max,IntKind.signed,IntKind.bits]
theorem NI (l:List aq): ∀x∈pz l,x<256:=λx hx=>by
 unfold pz at hx;obtain⟨p,_,h⟩:=List.mem_flatMap.1 hx;exact o5 p x h
theorem Ef {l:List aq}(h1:l.length<=4000)(h2:kY l=true):lB l=some (pz l):=by simp_all[lB]
theorem Qw (x:aZ)(A:iw)(hA:A=ah 11 (dy x))(hx:x.dead.length<=1000000)(hp:vt x.tocu)(w:aD)(R:rV w x):
 Calls prog 243 #[.agg A] w λe w'=>∃r,e=.returned (.tuple #[r,.int .i64 (codeF 151 (k9 x.tocu))])/\gI w' w.heap.size r ((k9 x.tocu).getD [])/\dp w w':=by
 have HA:=ae hA;have HR:=ae R;have C1:=ae λW (hb:dp w W)=>AT x A hA hx W (HR.o.below hb);have S:=ug w;obtain⟨T,HT⟩:=qI (k9 x.tocu);rw[HT.o];cases hr:eS x.tocu with
 | false=>
  obtain rfl:none=T:=by rw[<-HT.o];unfold k9;rw[hr];rfl
  rw[hr] at C1;clear hr hA;go_enter func243,ntmps243
  go_wp2_with (first|(go_at_call 198;refine je S (C1.o _ S.b) λW S=>?_)|refine fN ?_|refine ew λW S=>?_)
  go_ret2;exact⟨_,rfl,ju _ _ _ _,S.b⟩
 | true=>
  obtain⟨g1,g2,g3,g4,g5,g6,g7,g8,g9⟩:=xm hr;obtain⟨sn,hsn⟩: ∃sn:Nat,(if x.snap=true then 1 else 0)=sn:=⟨_,rfl⟩;have hsl:sn<256:=by rw[<-hsn];split <;> omega
  have hnum:vr x.tocu=[x.id,sn,x.owner,x.prev,x.ay,x.blocks]:=by unfold vr;rw[hsn]
  have hput:=TT hr;rw[hnum] at hput;obtain⟨NB,hNB⟩:=cM (ez pd [x.id,sn,x.owner,x.prev,x.ay,x.blocks]);rw[hNB] at hput;have hNBl:NB.length=34:=by rw[<-hNB];exact(oB (ws:=pd) (ns:=[x.id,sn,x.owner,x.prev,x.ay,x.blocks]) rfl).trans rfl
  have hNBlt: ∀y∈NB,y<256:=by rw[<-hNB];exact lj _ _
  have C2:=ae λv u W hv hu=>wi v u pd [x.id,sn,x.owner,x.prev,x.ay,x.blocks] nh W hv hu;rw[hput] at C2;simp only[mb] at C2;have hjoin:mP [NB++gZ x.root,lR x.name,pz x.dead]=T:=by rw[<-HT.o];unfold k9;rw[hr,bC rfl,hnum,hNB]
  have hname:=iq g5;have CJ:=ae λv W hv=>An v [NB++gZ x.root,lR x.name,pz x.dead] fh (λk h=>by
   rcases k with(_|_|_|k)
   . simp[hNBl,ep]
   . simp[x'];have:x.name.size<=24:=hname;omega
   . simp[Ch];have:x.dead.length<=4000:=g7;omega
   . exact absurd h fh) W hv
  rw[hjoin] at CJ;obtain⟨G,hG⟩:=gq (ah 3 (aN x.root));have HG:=ae hG;have hrt:=rz x;have C3:=ae (FQ x.root hp.1 g6 G hG);have C4:=ae λW (hb:dp w W)=>Is x.dead hp.2 x.dv W au (HR.o.below hb);rw[Ef g7 g8] at C4;simp only[mb] at C4;obtain⟨DB,hDB⟩:=cM (pz x.dead);rw[hDB] at C4 CJ;have HDBLT:=ae (show ∀y∈DB,y<256 by rw[<-hDB];exact NI _);have hDBl:DB.length<=64000:=by rw[<-hDB,Ch];have:x.dead.length<=4000:=g7;omega
  clear hDB;rw[hr] at C1;have HNBL:=ae hNBl;have HNBLT:=ae hNBlt;have HW1:=ae (show ∀y∈aW pd,(Lit.int .i64 y).wf=true by decide);have HW2:=ae (yb (l:=[x.id,sn,x.owner,x.prev,x.ay,x.blocks]) (λn hn=>by
   grind))
  have hwb:IntKind.u64.wrap (x.blocks:Int)=(x.blocks:Int):=D4 _ (by have e5:x.blocks<=64:=g4.2;omega);have hcase: (x.snap=false/\sn=0)∨(x.snap=true/\sn=1):=by
   grind
  have hdl:x.dead.length<=4000:=g7;clear hr hA hG hp hput hjoin hnum hNB hNBl hNBlt hsn g1 g2 g3 g4 g5 g6 g7 g8 g9 HT;go_enter func243,ntmps243;rcases hcase with⟨hs,rfl⟩ | ⟨hs,rfl⟩
  all_goals (
   have H2:=ae (iS Value.bool hs);clear hs
   go_upto_region 15 with(first|(go_at_call 198;refine je S (C1.o _ S.b) λW S=>?_)|((with_reducible refine pP ?_);first | refine O9 S 0 rfl 2 H2.o ?_ | refine oM_ S 2 rfl (o:=7) (m:=3) (aN x.root) hrt HG.o ?_)|((with_reducible refine j6 16 81 6 ?_);refine eY S .i64 (aW pd) um lH au au rfl rfl rfl λW S=>?_)|((with_reducible refine j6 29 78 6 ?_);refine eY S .u64 (aW [x.id,_,x.owner,x.prev,x.ay,x.blocks]) Fi oJ au au rfl rfl rfl λW S=>?_)|(go_at_call 73;refine(C2.o _ _ _ (br.row S.k1 rfl (show(6:Nat)<=_ by omega) HW1.o) (br.row S.k0 rfl (show(6:Nat)<=_ by omega) HW2.o)).mono ?_;rintro e W ⟨r,rfl,ho,hb⟩;obtain⟨na,nc,rfl⟩:=aH ho;replace S:=S.cU hb ho rfl rfl;clear hb)|(go_at_call 233;refine(C3.o _).mono ?_;rintro e W ⟨r,rfl,ho,hb⟩;obtain⟨pa,pc,rfl⟩:=aH ho;replace S:=S.cU hb ho rfl rfl;clear hb)|(go_at_call 275;refine(C4.o _ S.b).mono ?_;rintro e W ⟨r,rfl,ho,hb⟩;obtain⟨da,dc,rfl⟩:=aH ho;replace S:=S.cU hb ho rfl rfl;clear hb)|refine fN ?_|refine ew λW S=>?_)
   have hnl:x.name.size<=24:=hname;refine bf S cm [⟨w.heap.size,109,11,dy x⟩] L9 λW S=>?_;refine bp 0 52 _ ?_;refine bp 1 53 _ ?_;refine bp 3 55 (bZ w.heap.size 1) ?_;refine bp 4 56 (.string x.name) ?_;refine bp 6 58 _ ?_
   repeat' first|refine Zf ?_|refine qK 9 51 _ ?_|refine qK 10 61 (r) ?_|refine qK 11 62 (.int .i64 (codeF 21 T)) ?_|refine qK 12 9 _ ?_|refine qK 13 6 _ ?_|refine JV 2 5 (λK hK=>?_) λK hK=>?_|refine tF 2 λK hK=>?_|refine tF 7 λK hK=>?_|refine tF 8 λK hK=>?_|refine tF 5 λK hK=>?_|(refine UP S rfl Hr oC FH BM λgs cs W S=>?_;refine gM hK ?_)|(refine XR S 2 rfl rfl rfl S.q1 mG (vV _) (by simp only[HNBL.o];omega) (by unfold maxLen;simp only[HNBL.o];omega) λga gc W S=>?_;refine gM hK ?_)|(refine J3 S [.slice ga (NB.length+16) gc,.slice (s_ gs 0) x.name.size cs,.slice da DB.length dc] ME vY au au rfl rfl (by intro v hv;simp only[iI,kz,tZ] at hv;rcases hv with rfl | rfl | rfl <;> rfl) rfl λW S=>?_;refine gM hK ?_)|(go_wp2_with fail;refine(CJ.o _ _ (Ah S.k0 rfl rfl (λk h h'=>by rcases k with(_|_|_|k);exact⟨ar.iC (by have h9:=ar.aV S.o2;simp only[<-pt] at h9;exact h9) (λy hy=>by rcases jn.1 hy with h | h;exact HNBLT.o y h;exact o5 x.root y h),fS S.o2⟩;exact⟨ar.iC S.x.2.1 (pA _),by obtain⟨_,_,e1,hle,_⟩:=aR S.x.2.1;simp only[mA] at e1;obtain⟨-,-,rfl⟩:=e1;exact .inr ⟨_,_,_,rfl,hle⟩⟩;exact⟨ar.iC S.q0 HDBLT.o,fS S.o0⟩;exact absurd h fh))).mono ?_;rintro e W ⟨r,rfl,ho,hb⟩;replace S:=S.cU hb ho rfl rfl;clear hb;refine gM hK ?_)
   all_goals (
    refine ae ?_;cases T with
    | none=>
     go_wp2;go_ret2;exact⟨_,rfl,ju _ _ _ _,S.b⟩
    | some bs=>
     go_wp2;go_ret2;exact⟨_,rfl,S.o0,S.b⟩
   )
  )
theorem Wu:qj prog 75 22 1 24:=⟨ME,_,vY,rfl,au⟩
section
theorem St.ti (S:St w0 d l L O X w)(hb:dp w w')(ho:w'.ownsRow w.heap.size e z v n xs)(h1:fk e=false)(h2:df e=false):St w0 d l L O (λB w=>X B w/\qC e z v n xs B w) w':=
 (S.below hb).yu (cz e z v n xs h1 h2) ⟨ar.aV ho,λ_ b hb2 hm=>by have h9:=(ho.lt b hb2).1;have:=S.lt b hm;omega⟩
def mS (ps:List (bh×aK)):aK->aD->Prop:=λB w=>∀p∈ps,qC 5 1 p.1 p.2.length (aQ p.2) B w
theorem ff (ps:List (bh×aK)):Still (mS ps):=uz ps λp _=>cz 5 1 _ _ _ rfl rfl
theorem Dx (hn:ps.length=n)(ho:w.ownsRow base 22 1 v n (ps.map Prod.fst))(hx:mS ps B w)(hsh: ∀p∈ps,kV p.1)(hl: ∀p∈ps,∀y∈p.2,y<256):xO w v (ps.map Prod.snd):=by
 subst hn;have hlen: (ps.map Prod.snd).length=ps.length:=pr _;rcases ho.2 with⟨rfl,h0⟩ | ⟨g,cap,cur,rfl,h2,h3,h4,h5,h6,h7⟩
 . have:ps=[]:=Jp h0;subst this;exact⟨none,0,[],rfl,rfl,eO _,λk h=>absurd h (ES _),λh=>absurd rfl h⟩
 . refine⟨some ⟨g,0,none⟩,cap,ps.map Prod.fst,by rw[hlen],by grind,au,λk h h'=>?_,λ_=>⟨g,0,rfl,(zY.1 h3).1,λk hk=>?_⟩⟩
   . rw[pr] at h;have hm:=tW h;have hp:=(hx _ hm).1
     grind[ar.iC]
   . rw[rC]
     grind[rZ]
end
def iD:List cu->Option (List aK)
 | []=>some []
 | s::l=>match k9 s with
  | none=>none
  | some t=>match iD l with
   | none=>none
   | some ts=>some (t::ts)
theorem IA (l:List cu)(s:cu):iD (l++[s])=match iD l with
 | none=>none
 | some ts=>match k9 s with
  | none=>none
  | some t=>some (ts++[t]):=by
 induction l<;>grind[iD]
theorem IB {l:List cu}(h:iD (l.take k)=none):iD l=none:=by
 rw[<-Sv k l];generalize l.drop k=m;generalize l.take k=n at h
 induction n<;>grind[iD]
def eZ (next:Nat) (l:List cu):Option aK:=
 if 281474976710655<next∨32<l.length then none else match iD l with
  | none=>none
  | some ts=>mP (ez [8] [next]::ts)
theorem F4 (h:mP ts=some r):ts.length<=65535/\(∀t∈ts,t.length<=65535)/\r=qf ts.length++ts.flatMap su:=by
 unfold mP at h
 grind
theorem U3 {n:Nat} (h:n<=65535): ∀y∈qf n,y<256:=λy hy=>by
 unfold qf at hy
 grind
theorem AU (h:mP ts=some r)(hl: ∀t∈ts,∀y∈t,y<256): ∀y∈r,y<256:=by
 obtain⟨h1,h2,rfl⟩:=F4 h
 grind[U3,su]
theorem TU (h:mP ts=some r):r.length<=5000000000:=by
 obtain⟨h1,h2,rfl⟩:=F4 h;have hs: ∀us:List aK,(∀t∈us,t.length<=65535)->(us.flatMap su).length<=us.length*65537:=by
  intro us
  induction us<;>grind[su,qf]
 grind[qf]
theorem AV (h:k9 s=some t):eS s=true/\mP [ez pd (vr s)++gZ s.root,lR s.name,pz s.dead]=some t:=by
 grind[k9]
theorem F5 (h:k9 s=some t): ∀y∈t,y<256:=by
 refine AU (AV h).2 λu hu y hy=>?_;simp only[iI,kz,tZ] at hu;rcases hu with rfl | rfl | rfl
 . rcases jn.1 hy with h1 | h1
   . exact lj _ _ y h1
   . exact o5 _ y h1
 . exact pA _ y hy
 . exact NI _ y hy
theorem AW {l:List cu}(h:iD l=some ts): ∀t∈ts,∃s,k9 s=some t:=by
 induction l generalizing ts with
 | nil=>grind[iD]
 | cons a l ih=>
  unfold iD at h
  grind
theorem xn (next:Nat)(hnx:next<18446744073709551616)(l:List aZ)(v:bh)(hl:l.length<=1000000)(hd: ∀s∈bA l,s.dead.length<=1000000)(hp: ∀s∈bA l,vt s)(w:aD)(R:cQ w v l):
 Calls prog 197 #[.int .u64 next,v] w λe w'=>∃r,e=.returned (.tuple #[r,.int .i64 (codeF 151 (eZ next (bA l)))])/\gI w' w.heap.size r ((eZ next (bA l)).getD [])/\dp w w':=by
 obtain⟨ao,cap,rfl,hcap,hao⟩:=aR R.1;have R:=ae R;have hao:=ae hao;have S:=ug w;obtain⟨T,HT⟩:=qI (eZ next (bA l));rw[HT.o];go_enter func197,ntmps197;by_cases h1:281474976710655<next
 . obtain rfl:none=T:=by rw[<-HT.o];unfold eZ;rw[bC (.inl h1)]
   have i1: (281474976710655:Int)< (next:Int):=au;go_wp2;go_ret2;exact⟨_,rfl,ju _ _ _ _,S.b⟩
 have i1: ¬(281474976710655:Int)< (next:Int):=au;by_cases h2:32<l.length
 . obtain rfl:none=T:=by rw[<-HT.o];unfold eZ;rw[bC (.inr (by rw[dC];exact h2))]
   have i2: (32:Int)< (l.length:Int):=au;go_wp2;go_ret2;exact⟨_,rfl,ju _ _ _ _,S.b⟩
 have i2: ¬(32:Int)< (l.length:Int):=au;have hput:mX [8] [next]=some (ez [8] [next]):=by
  unfold mX;rw[bC];refine⟨by decide,rfl,?_⟩;simp[fitAll];omega
 obtain⟨HD,hHD⟩:=cM (ez [8] [next]);rw[hHD] at hput;have hHDl:HD.length=8:=by rw[<-hHD];rfl
 have hHDlt: ∀y∈HD,y<256:=by rw[<-hHD];exact lj _ _
 have C2:=ae λv u W hv hu=>wi v u [8] [next] nh W hv hu;rw[hput] at C2;simp only[mb] at C2;have hTT: (match iD (bA l) with | none=>none | some ts=>mP (HD::ts))=T:=by rw[<-HT.o,<-hHD];unfold eZ;rw[bX (by rw[dC];omega)]
 have HTT:=ae hTT;have HW1:=ae (show ∀y∈aW [8],(Lit.int .i64 y).wf=true by decide);have HW2:=ae (yb (l:=[next]) (λn hn=>by grind));have HHL:=ae hHDl;have HHLT:=ae hHDlt;clear hput hHD hHDl hHDlt hTT
 go_upto_region 8 with(first|((with_reducible refine j6 22 81 1 ?_);refine eY S .i64 (aW [8]) um lH au au rfl rfl rfl λW S=>?_)|((with_reducible refine j6 24 78 1 ?_);refine eY S .u64 (aW [next]) Fi oJ au au rfl rfl rfl λW S=>?_)|(go_at_call 73;refine(C2.o _ _ _ (br.row S.k1 rfl (show(1:Nat)<=_ by omega) HW1.o) (br.row S.k0 rfl (show(1:Nat)<=_ by omega) HW2.o)).mono ?_;rintro e W ⟨r,rfl,ho,hb⟩;obtain⟨na,nc,rfl⟩:=aH ho;have HSH0:=ae (fS ho);replace S:=S.ti hb ho rfl rfl;clear hb)|((with_reducible refine j6 31 75 1 ?_);refine blV S [.slice na HD.length nc] ME vY au au rfl rfl (by intro v hv;simp only[iI,kz,tZ] at hv;rw[hv];rfl) rfl λW S=>?_;replace S:=S.JU rfl))
 replace S:=S.vP (X':=mS [(.slice na HD.length nc,HD)]) (λB w h p hp=>by rw[gz.1 hp];exact h.2) (ff _).fs;have S:=ae S
 go_loopw [8,34] (λtv kv wr=>∃(k:Nat) (ps:List (bh×aK)) (ta:Option Addr) (tc:Nat),k<=l.length/\kv=.int .i64 k/\ps.length=k/\tv=.slice ta (k+1) tc/\Hid (iD ((bA l).take k)=some (ps.map Prod.snd)/\(∀p∈ps,kV p.1)/\
  ∃L,St w none [] L [⟨22,1,.slice ta (k+1) tc,k+1,((.slice na HD.length nc,HD)::ps).map Prod.fst⟩] (mS ((.slice na HD.length nc,HD)::ps)) wr)) (λ_ kv _=>l.length - (intOf kv).toNat)
 case atStart=>exact⟨0,[],_,1,au,rfl,rfl,rfl,ae ⟨rfl,by simp,_,S.o⟩⟩
 case round=>
  clear S;obtain⟨k,ps,ta,tc,hk,rfl,hpk,rfl,hS⟩:=hrel;obtain⟨hrec,hsh,L,S⟩:=hS.o;clear hS;have HREC:=ae hrec;have HSH:=ae hsh;clear hrec hsh;by_cases hlt:k<l.length
  . obtain⟨b,o,rfl⟩:=hao.o au;obtain⟨x,hx⟩:=cM (l[k]);obtain⟨D,hD⟩:=gq (ah 11 (dy x));have hsub:=ae (iN l hlt (A:=D) (by rw[hx];exact hD));have hm:x∈l:=hx ▸ tW hlt;obtain⟨rc,HRC⟩:=qI (k9 x.tocu);have C5:=ae λW (hb:dp w W)=>Qw x D hD (hd _ (lY.2 ⟨x,hm,rfl⟩)) (hp _ (lY.2 ⟨x,hm,rfl⟩)) W ((R.o.below hb).2 x hm);rw[HRC.o] at C5;have hstep:iD ((bA l).take (k+1))=rc.bind λt=>some (ps.map Prod.snd++[t]):=by
     have h9: (bA l).take (k+1)=(bA l).take k++[x.tocu]:=by
      rw[take_succ,jH,j4 hlt,hx];rfl
     rw[h9,IA,HREC.o,<-HRC.o];grind
    have HSTEP:=ae hstep;have HD1:=ae hD;clear hD hx hm hstep;cases rc with
    | none=>
     obtain rfl:none=T:=by rw[<-HTT.o,IB HSTEP.o]
     go_wp2_with (first
   |((with_reducible refine pP ?_);refine Md (R.o.below S.b).1 hlt (DW HD1) hsub.o ?_)
   |(go_at_call 243;refine(C5.o _ S.b).mono ?_;rintro e W ⟨r,rfl,ho,hb⟩;replace S:=S.below hb;clear hb)
   |refine fN ?_
   |refine ew λW S=>?_)
     go_ret2;exact⟨_,rfl,ju _ _ _ _,S.b⟩
    | some t=>
     simp only[mb] at C5
     go_wp2_with (first
   |((with_reducible refine pP ?_);refine Md (R.o.below S.b).1 hlt (DW HD1) hsub.o ?_)
   |(go_at_call 243;refine(C5.o _ S.b).mono ?_;rintro e W ⟨r,rfl,ho,hb⟩;obtain⟨ra,rc,rfl⟩:=aH ho;have HSR:=ae (fS ho);replace S:=S.ti hb ho rfl rfl;clear hb)
   |((with_reducible refine j6 48 75 1 ?_);refine blV S [.slice ra t.length rc] ME vY au au rfl rfl (by intro v hv;simp only[iI,kz,tZ] at hv;rw[hv];rfl) rfl λW S=>?_;replace S:=S.ld (k:=0) rfl (g:=λ_=>.slice ra t.length rc) (λi hi=>by grind))
   |((with_reducible refine bN 49 46 48 ?_);refine lZ S 0 rfl 0 rfl rfl rfl rfl Wu (λ_=>rfl) JW BM λg9 c9 W S=>?_)
   |refine fN ?_
   |refine ew λW S=>?_)
     go_roundw
     case rel=>
      refine⟨k+1,ps++[(.slice ra t.length rc,t)],s_ g9 0,c9,au,by go_num,by simp[hpk],rfl,ae ⟨by rw[HSTEP.o];simp,λp hp=>?_,L,?_⟩⟩
      . rcases jn.1 hp with h | h
        . exact HSH.o p h
        . rw[gz.1 h];exact HSR.o
      . rw[<-Aj,pt];have S:=S.pop.pop;refine S.vP (λB w h p hp=>?_) (ff _).fs;rcases jn.1 hp with h2 | h2
        . exact h.1 p h2
        . rw[gz.1 h2];exact h.2
     case measure=>exact uO
  . obtain rfl:k=l.length:=au;have hrec:=HREC.o;rw[tX (by rw[dC];exact eO _)] at hrec;have hTJ:mP (HD::ps.map Prod.snd)=T:=by rw[<-HTT.o,hrec]
    have HPL:=ae (show ∀t∈ps.map Prod.snd,t.length<=5000000000/\∀y∈t,y<256 from λt ht=>by obtain⟨s,hs⟩:=AW hrec t ht;exact⟨TU (AV hs).2,F5 hs⟩);have CJ:=ae λv W hv=>An v (HD::ps.map Prod.snd) sp_ (λq h=>by have h8:=tW h;rcases iI.1 h8 with h7 | h7;rw[h7,HHL.o];omega;exact kL (HPL.o _ h7).1 au) W hv;rw[hTJ] at CJ;clear hrec hTJ
    go_upto_region 16 with(go_at_call 75;refine(CJ.o _ _ (Dx (ps:=(.slice na HD.length nc,HD)::ps) (by simp[hpk]) S.o0 S.x (λp hp=>by rcases iI.1 hp with h | h;rw[h];exact HSH0.o;exact HSH.o p h) (λp hp=>by rcases iI.1 hp with h | h;rw[h];exact HHLT.o;exact(HPL.o _ (lY.2 ⟨p,h,rfl⟩)).2))).mono ?_;rintro e W ⟨r,rfl,ho,hb⟩;replace S:=S.cU hb ho rfl rfl;clear hb)
    cases T with
    | none=>
     go_wp2;go_ret2;exact⟨_,rfl,ju _ _ _ _,S.b⟩
    | some bs=>
     go_wp2;go_ret2;exact⟨_,rfl,S.o0,S.b⟩
def vZ (l:aK):lf:=⟨(l.map UInt8.ofNat).toArray⟩
theorem NJ: ∀(l:aK) (r:lf),(aW l).foldl (λr (n:Int)=>r.push (UInt8.ofNat n.toNat)) r=⟨r.data++(l.map UInt8.ofNat).toArray⟩
 | [],r=>by simp[aW]
 | b::l,r=>by
  unfold aW;simp only[map_cons,Hz];have:=NJ l (r.push (UInt8.ofNat ((b:Int)).toNat));unfold aW at this;rw[this];simp[ByteArray.push]
theorem Wv {q:aK}(h:z' bs=some (t,q))(hb: ∀y∈bs,y<256): (∀y∈t,y<256)/\∀y∈q,y<256:=by
 rcases bs with _ | ⟨a,_ | ⟨b,r⟩⟩<;>grind[z']
theorem J4: ∀(k:Nat) {bs:aK} {ts:List aK} {q:aK},lU k bs=some (ts,q)->(∀y∈bs,y<256)->(∀t∈ts,∀y∈t,y<256)/\∀y∈q,y<256
 | 0,bs,ts,q,h,hb=>by
  grind[lU]
 | k+1,bs,ts,q,h,hb=>by
  unfold lU at h;cases hs:lU k bs with
  | none=>rw[hs] at h;cases h
  | some p=>
   obtain⟨us,r⟩:=p;rw[hs] at h;simp only at h;cases ht:z' r with
   | none=>rw[ht] at h;cases h
   | some p2=>
    obtain⟨t,q'⟩:=p2;rw[ht] at h;cases h;have h1:=J4 k hs hb;have h2:=Wv ht h1.2;refine⟨λu hu=>?_,h2.2⟩;rcases jn.1 hu with h3 | h3
    . exact h1.1 u h3
    . rw[gz.1 h3];exact h2.1
theorem rA (h:np bs=some ts)(hb: ∀y∈bs,y<256): ∀t∈ts,∀y∈t,y<256:=by
 rcases bs with _ | ⟨a,_ | ⟨b,r⟩⟩<;>grind[np,J4]
theorem St.J5 (S:St w0 d l L O X w)(hb:dp w w')(ho:CZ w' w.heap.size v ts):
 ∃ps:List (bh×aK),ps.map Prod.snd=ts/\(∀p∈ps,kV p.1/\p.2.length<=65535)/\St w0 d l L O (λB w=>X B w/\(qC 22 1 v ps.length (ps.map Prod.fst) B w/\mS ps B w)) w':=by
 obtain⟨vs,hl,hown,hk⟩:=ho;have h1: (vs.zip ts).map Prod.snd=ts:=map_snd_zip au;have h2: (vs.zip ts).map Prod.fst=vs:=map_fst_zip au;have hlen: (vs.zip ts).length=ts.length:=by grind
 have hp: ∀p∈vs.zip ts,gI w' w.heap.size p.1 p.2/\p.2.length<=65535:=λp hp=>by
  obtain⟨k,hk2,rfl⟩:=Jo.1 hp
  grind
 refine⟨vs.zip ts,h1,λp h=>⟨fS (hp p h).1,(hp p h).2⟩,?_⟩;rw[h2,hlen];refine(S.below hb).yu ((cz 22 1 v _ _ rfl rfl).and (ff _)) ⟨⟨ar.aV hown,λ_ b hb2 hm=>?_⟩,λp h=>⟨ar.aV (hp p h).1,λ_ b hb2 hm=>?_⟩⟩
 . have h9:=(hown.lt b hb2).1;have:=S.lt b hm;omega
 . have h9:=((hp p h).1.lt b hb2).1;have:=S.lt b hm;omega
section
variable {x:Nat}
theorem J6 {w:aD} {T:dD} {v:bh} {n:Nat} {l:aK} (hs:P.underlying src=some (.slice 5)) (he:P.underlying 5=some (.int .u8)) (hd:P.underlying dT=some .string) (R:ar w T 1 v n (aQ l)): (convert src dT v).run P w=.ok (.string (vZ l)) w:=by
 have hn:l.length=n:=by have:=R.1;grind[aQ]
 subst hn;obtain⟨ao,cap,rfl,hcap,hao⟩:=aR R;rcases Hy l.length with h0 | h0
 . obtain rfl:l=[]:=Jp h0;rw[run_convert_bytes_string w src dT 5 ao _ cap hs he hd];cases ao with
   | none=>rfl
   | some b=>
    rfl
 . obtain⟨b,o,rfl⟩:=hao h0;rw[run_convert_bytes_string w src dT 5 _ _ cap hs he hd];rw[run_bytesToString w ⟨b,o,none⟩ l.length cap (aW l) (by
    have h9:=run_loadCells_list (P:=P) (w:=w) ⟨b,o,none⟩ (aQ l) (λj u hj=>by
     rw[show(⟨b,o,none⟩:Addr).add j=⟨b,o+j,none⟩ from by grind[Addr.add]];exact R.cellAt h0 hj)
    simp_all[aQ,aW]),NJ]
   simp[vZ]
theorem Qx (hx:a.eval (.tmp x)=v)(hs:P.underlying src=some (.slice 5))(he:P.underlying 5=some (.int .u8))(hd:P.underlying dT=some .string)(R: ∀w,SS w->ar w T 1 v n (aQ l))(hw:Region.wanted ⟨some dst,.convert src dT (.tmp x),t2,p,af,gd⟩ (yielded ops a.tmps)=true:=by kernel_rfl):
 YieldsIf P ops SS ⟨some dst,.convert src dT (.tmp x),t2,p,af,gd⟩ (.string (vZ l)) a:=by
 refine .inl ⟨hw,λw hw2=>?_⟩
 grind[execOp,Sem.run_bind,J6,Result.andThen_ok,Sem.run_pure]
end
def oT (bs:aK):Option cu:=
 match np bs with
 | some [p0,p1,p2]=>if p0.length<34 then none else match kx pd (p0.take 34) with
  | none=>none
  | some ns=>match ks (p0.drop 34) with
   | none=>none
   | some root=>match gw p2 with
    | none=>none
    | some dd=>some ⟨ns.getD 0 0,vZ p1,decide (ns.getD 1 0=1),ns.getD 2 0,ns.getD 3 0,ns.getD 4 0,ns.getD 5 0,root,dd⟩
 | _=>none
theorem pJ {bs:aK} (hb: ∀y∈bs,y<256):et bs<256 ^ bs.length:=by
 grind[Am]
theorem NK (bs:aK)(hb: ∀y∈bs,y<256)(hl:bs.length=34): ∃n0 n1 n2 n3 n4 n5,kx pd bs=some [n0,n1,n2,n3,n4,n5]/\n0<18446744073709551616/\n1<256/\n2<18446744073709551616/\n3<18446744073709551616/\n4<18446744073709551616/\n5<256:=by
 have hok:kx pd bs=some (getAll pd bs):=by unfold kx;simp_all[okW,pd,nN]
 have h8: ∀(m:Nat) (l:aK),(∀y∈l,y<256)->et ((l.drop m).take 8)<18446744073709551616:=λm l hl2=>by
  have h1:=pJ (bs:=(l.drop m).take 8) λy hy=>hl2 y (vF (rD hy));have h2:256 ^ ((l.drop m).take 8).length<=256 ^ 8:=Sx au rE;omega
 have h1': ∀(m:Nat) (l:aK),(∀y∈l,y<256)->et ((l.drop m).take 1)<256:=λm l hl2=>by
  grind[pJ,length_take]
 refine⟨_,_,_,_,_,_,hok,?_,?_,?_,?_,?_,?_⟩
 . exact h8 0 bs hb
 . grind
 . grind
 . grind
 . grind
 grind
def Z7 (w0:aD) (d:Option Nat) (l:aK) (rs:List R4) (X:aK->aD->Prop):aD->Prop:=λW=>∃L O,St w0 d l L O X W/\∀r∈rs,r∈L
section
variable {W:aD}
theorem Z7.row (h:Z7 w0 d l rs X W)(k:Nat){r:R4}(hk:rs[k]? =some r):ag W r.b r.t r.n r.f:=by
 obtain⟨L,O,S,hr⟩:=h;exact(S.row r (hr r (nf hk))).1
theorem Z7.fr (h:Z7 w0 d l rs X W):Fr d l w0 W:=by
 obtain⟨L,O,S,hr⟩:=h;exact S.fr
theorem Z7.x (h:Z7 w0 d l rs X W): ∃B,X B W:=by
 obtain⟨L,O,S,hr⟩:=h;exact⟨_,S.x⟩
theorem zP (S:St w0 d l L O X w)(hm:P.follows .mixedOrders=true)(rs:List R4)(hr: ∀r∈rs,r∈L)(h: ∀W,St w0 d l L O X W->wpAnyH P .any ops Q (Z7 w0 d l rs X) ops.size (Array.replicate ops.size false) a W): (Code.region id ops true).wp P Q a w:=
 wp_region_held_drew hm ⟨L,O,S.drew,hr⟩ λ_=>h _ S.drew
end
theorem pe:fZ prog 22:=⟨⟨_,oC,rfl⟩,cm⟩
instance in5a1b2 :qD 22:=⟨pe⟩
theorem nC:zM prog 22 1:=⟨cm,λW=>by rfl⟩
theorem lD (h:CZ w base v ts): ∃a c,v=.slice a ts.length c:=by
 obtain⟨vs,hl,hown,_⟩:=h;exact aH hown
theorem Z8 {p0 p1 p2:aK}(h:ps.map Prod.snd=[p0,p1,p2]): ∃v0 v1 v2,ps=[(v0,p0),(v1,p1),(v2,p2)]:=by
 rcases ps with _ | ⟨⟨v0,q0⟩,_ | ⟨⟨v1,q1⟩,_ | ⟨⟨v2,q2⟩,_ | ⟨x,ps⟩⟩⟩⟩ <;> simp at h
 simp_all
theorem od (l:aK)(k:Nat): (aQ l).take k=aQ (l.take k):=by simp_all[aQ]
theorem qt (l:aK)(k:Nat): (aQ l).drop k=aQ (l.drop k):=by simp_all[aQ]
theorem j0 {p:aK}(h:qC 5 1 v p.length (aQ p) B w): ∃a c,v=.slice a p.length c/\p.length<=c:=by
 obtain⟨a,c,e,hc,_⟩:=aR h.1
 grind
theorem TV (bs:aK)(u:bh)(hbl:bs.length<=1000000000)(w:aD)(hu:br .u8 w u (aW bs))(hc:qN u):
 Calls prog 196 #[u] w λe w'=>∃B,e=.returned (.tuple #[.agg B,.int .i64 (codeF 151 (oT bs))])/\rX w' w.heap.size B ((oT bs).getD jN)/\dp w w':=by
 have hby: ∀x∈bs,x<256:=sP (by obtain⟨_,_,_,_,h,_⟩:=hu;exact h);have C1:=ae λW (hb:dp w W)=>xN u bs au W (hu.below hb) hc;have S:=ug w;obtain⟨T,hT⟩:=cM (oT bs);have HT:=ae hT;rw[hT];clear hT hu hc;go_enter func196,ntmps196;cases hts:np bs with
 | none=>
  obtain rfl:none=T:=by rw[<-HT.o];unfold oT;rw[hts]
  rw[hts] at C1;clear hts
  go_wp2_with (first|(go_at_call 28;refine(C1.o _ S.b).mono ?_;rintro e W ⟨r,rfl,ho,hb⟩;replace S:=S.below hb;clear hb ho)|(refine o7 ?_;exact⟨_,rfl,kB _ _,S.b⟩)|refine fN ?_|refine ew λW S=>?_)
 | some ts=>
  have hlt:=rA hts hby;rw[hts] at C1;simp only[mb] at C1;by_cases hl3:ts.length=3
  case neg=>
   obtain rfl:none=T:=by
    rw[<-HT.o];unfold oT;rw[hts];rcases ts with _ | ⟨a,_ | ⟨b,_ | ⟨c,_ | ⟨e,ts⟩⟩⟩⟩ <;> first | rfl | exact absurd rfl hl3
   have i3: ((ts.length:Int) != 3)=true:=by rw[lh];omega
   clear hts
   go_wp2_with (first|(go_at_call 28;refine(C1.o _ S.b).mono ?_;rintro e W ⟨r,rfl,ho,hb⟩;obtain⟨ra,rc,rfl⟩:=lD ho;replace S:=S.below hb;clear hb ho)|(refine o7 ?_;exact⟨_,rfl,kB _ _,S.b⟩)|refine fN ?_|refine ew λW S=>?_)
  obtain⟨p0,p1,p2,rfl⟩: ∃p0 p1 p2,ts=[p0,p1,p2]:=by
   rcases ts with _ | ⟨a,_ | ⟨b,_ | ⟨c,_ | ⟨e,ts⟩⟩⟩⟩ <;> first | exact⟨_,_,_,rfl⟩ | simp at hl3
  have hb0:=hlt p0 fh;have hb1:=hlt p1 fh;have hb2:=hlt p2 fh;have hTT: (if p0.length<34 then none else match kx pd (p0.take 34) with | none=>none | some ns=>match ks (p0.drop 34) with | none=>none | some root=>match gw p2 with | none=>none | some dd=>some (⟨ns.getD 0 0,vZ p1,decide (ns.getD 1 0=1),ns.getD 2 0,ns.getD 3 0,ns.getD 4 0,ns.getD 5 0,root,dd⟩:cu))=T:=by
   rw[<-HT.o];unfold oT;rw[hts]
  clear hts hlt hl3
  go_upto_region 2 with(first|(go_at_call 28;refine(C1.o _ S.b).mono ?_;rintro e W ⟨r,rfl,ho,hb⟩;obtain⟨ra,rc,rfl⟩:=lD ho;obtain⟨ps,hps,hsh,S9⟩:=S.J5 hb ho;replace S:=S9;clear S9 hb ho;obtain⟨v0,v1,v2,rfl⟩:=Z8 hps;obtain⟨rb,ro,rfl⟩: ∃rb ro,ra=s_ rb ro:=(by obtain⟨_,_,e1,_,h⟩:=aR S.x.2.1.1;grind);have hpp:p2.length<=65535:=(hsh (v2,p2) fh).2;clear hps hsh;obtain⟨a0,c0,rfl,hc0⟩:=j0 (p:=p0) (S.x.2.2 (v0,p0) fh);obtain⟨a1,c1,rfl,hc1⟩:=j0 (p:=p1) (S.x.2.2 (v1,p1) fh);obtain⟨a2,c2,rfl,hc2⟩:=j0 (p:=p2) (S.x.2.2 (v2,p2) fh);replace S:=S.vP (X':=λB w=>qC 22 1 (.slice (s_ rb ro) 3 rc) 3 [.slice a0 p0.length c0,.slice a1 p1.length c1,.slice a2 p2.length c2] B w/\mS [(.slice a0 p0.length c0,p0),(.slice a1 p1.length c1,p1),(.slice a2 p2.length c2,p2)] B w) (λB w h=>h.2) ((cz _ _ _ _ _ rfl rfl).and (ff _)).fs;simp only[o8,we,rC,reduceAdd])|refine ew λW S=>?_)
  by_cases h34:p0.length<34
  . obtain rfl:none=T:=by rw[<-hTT,bC h34]
    have i34: (p0.length:Int)<34:=au
    go_wp2_with (first|((with_reducible refine pP ?_);refine BN (ar.cellAt S.x.1.1 (j:=0) au rfl) ?_)|(refine o7 ?_;exact⟨_,rfl,kB _ _,S.b⟩)|refine fN ?_|refine ew λW S=>?_)
  have i34: ¬(p0.length:Int)<34:=au;rw[bX h34] at hTT;have hb34: ∀y∈p0.take 34,y<256:=λy hy=>hb0 y (rD hy);have hb35: ∀y∈p0.drop 34,y<256:=λy hy=>hb0 y (vF hy);obtain⟨n0,n1,n2,n3,n4,n5,hgs,b0,b1,b2,b3,b4,b5⟩:=NK (p0.take 34) hb34 (by rw[pM];omega);have C2:=ae λv u W hv hu hc=>yC v u pd (p0.take 34) nh W hv hu hc;rw[hgs] at hTT C2;simp only[mb] at C2;obtain⟨rp,hrp⟩:=cM (ks (p0.drop 34));obtain⟨rd,hrd⟩:=cM (gw p2);obtain⟨G,hG⟩:=gq (ah 3 (aN (rp.getD hole)));have C3:=ae λu W hu hc=>qg u (p0.drop 34) W hu hc;have C4:=ae λv W hu hc=>KW p2 v W au hu hc;rw[hrp,az hG] at C3;rw[hrd] at C4;rw[hrp,hrd] at hTT;have HTT:=ae hTT;have HG:=ae hG;have HB:=ae (And.intro hb34 (And.intro hb35 (And.intro hb1 hb2)));have HW1:=ae (show ∀y∈aW pd,(Lit.int .i64 y).wf=true by decide);have h34c:34<=c0:=au;have h34l:34<=p0.length:=au;clear hTT hrp hrd hG hgs hb34 hb35 hb0 hb1 hb2
  go_upto_region 8 with(first|((with_reducible refine pP ?_);first | refine BN (ar.cellAt S.x.1.1 (j:=0) au rfl) ?_ | refine BN (ar.cellAt S.x.1.1.1 (j:=0) au rfl) ?_)|((with_reducible refine j6 30 81 6 ?_);refine eY S .i64 (aW pd) um lH au au rfl rfl rfl λW S=>?_)|((with_reducible refine ej 34 22 33 ?_);refine Nr nC rfl rfl h34c ?_)|(go_at_call 29;refine(C2.o _ _ _ (br.row S.k0 rfl (show(6:Nat)<=_ by omega) HW1.o) (ar.iC (by have h9:=ar.take (S.x.2 (.slice a0 p0.length c0,p0) fh).1 h34l;rw[wy,od] at h9;exact h9) HB.o.1) ⟨_,_,_,rfl,h34c⟩).mono ?_;rintro e W ⟨r,rfl,ho,hb⟩;obtain⟨na,nc,rfl⟩:=aH ho;replace S:=S.ti hb ho rfl rfl;clear ho hb)|((with_reducible refine ej 45 22 44 ?_);refine qn nC rfl rfl h34l ?_)|(go_at_call 195;refine je S (C3.o _ _ (ar.iC (by have h9:=ar.vN (S.x.1.2 (.slice a0 p0.length c0,p0) fh).1 h34l;rw[wy,qt] at h9;exact h9) HB.o.2.1) ⟨_,_,_,rfl,au⟩) λW7 S=>?_)|refine ew λW S=>?_)
  cases rp with
  | none=>
   obtain rfl:none=T:=HTT.o
   go_wp2_with (first|(refine o7 ?_;exact⟨_,rfl,kB _ _,S.b⟩)|refine fN ?_|refine ew λW S=>?_)
  | some root=>
   simp only[mb] at HG S
   go_upto_region 11 with(first|((with_reducible refine pP ?_);refine BN (ar.cellAt S.x.1.1.1 (j:=2) au rfl) ?_)|(go_at_call 242;refine(C4.o _ _ (ar.iC (S.x.1.2 (.slice a2 p2.length c2,p2) fh).1 HB.o.2.2.2) ⟨_,_,_,rfl,hc2⟩).mono ?_;rintro e W ⟨r,rfl,ho,hb⟩;obtain⟨da,dc,rfl⟩:=aH ho;replace S:=S.cU hb ho rfl rfl;clear ho hb))
   cases rd with
   | none=>
    obtain rfl:none=T:=HTT.o
    go_wp2_with (first
   |(refine o7 ?_;exact⟨_,rfl,kB _ _,S.b⟩)
   |refine fN ?_
   |refine ew λW S=>?_)
   | some dd=>
    simp only[mb] at S ⊢;obtain⟨sb,hsb⟩:=cM (decide (n1=1));have hsb2: ((n1:Int)==1)=sb:=by
     rw[<-hsb];by_cases h:n1=1
     . rw[h];rfl
     . rw[iE h,k'];omega
    have HSB:=ae hsb2;obtain⟨ty,hty⟩: ∃t:cu,t=⟨n0,vZ p1,sb,n2,n3,n4,n5,root,dd⟩:=⟨_,rfl⟩;obtain rfl:some ty=T:=by rw[<-HTT.o,hty,<-hsb];rfl
    obtain⟨D,hD⟩:=gq (ah 11 (dy ⟨ty,da,dc⟩));have hD2:D=ah 11 (dy ⟨⟨n0,vZ p1,sb,n2,n3,n4,n5,root,dd⟩,da,dc⟩):=by rw[hD,hty]
    have HD:=ae hD;have HD2:=ae hD2;have HTY:=ae hty;have hwb:IntKind.i64.wrap (n5:Int)=(n5:Int):=mT _ au;obtain⟨nb,no,rfl⟩: ∃nb no,na=s_ nb no:=by
     obtain⟨_,_,e1,_,h⟩:=aR S.x.2.1
     grind
    clear hD hD2 hsb hsb2 hty HTT
    go_upto_region 13 with(fail)
    refine zP S cm [⟨W7.heap.size,106,3,aN root⟩] L9 λW S=>?_;refine bp 0 62 _ ?_;refine bp 1 63 (bZ nb (no+0)) ?_;refine gY 2 64 (.int .u64 n0) rfl (bP (λw h=>by obtain⟨_,hx⟩:=h.x;exact ar.cellAt hx.2.1 (j:=0) fh rfl) rfl bF) ?_;refine bp 3 65 _ ?_;refine bp 4 66 (bZ rb (ro+1)) ?_;refine gY 5 67 (.slice a1 p1.length c1) rfl (bP (λw h=>by obtain⟨_,hx⟩:=h.x;exact ar.cellAt hx.1.1.1 (j:=1) au rfl) rfl pe) ?_;refine gY 6 68 (.string (vZ p1)) rfl (Qx rfl oC FH Hr (λw h=>by obtain⟨_,hx⟩:=h.x;exact(hx.1.2 (.slice a1 p1.length c1,p1) fh).1)) ?_;refine bp 7 69 _ ?_;refine bp 8 70 (bZ nb (no+1)) ?_;refine gY 9 71 (.int .u64 n1) rfl (bP (λw h=>by obtain⟨_,hx⟩:=h.x;exact ar.cellAt hx.2.1 (j:=1) fh rfl) rfl bF) ?_;refine gY 10 72 (.bool sb) rfl (Or.inl ⟨cm,λw hw=>by have h0:=HSB.o;go_simp⟩) ?_;refine bp 11 73 _ ?_;refine bp 12 74 (bZ nb (no+2)) ?_;refine gY 13 75 (.int .u64 n2) rfl (bP (λw h=>by obtain⟨_,hx⟩:=h.x;exact ar.cellAt hx.2.1 (j:=2) fh rfl) rfl bF) ?_;refine bp 14 76 _ ?_;refine bp 15 77 (bZ nb (no+3)) ?_;refine gY 16 78 (.int .u64 n3) rfl (bP (λw h=>by obtain⟨_,hx⟩:=h.x;exact ar.cellAt hx.2.1 (j:=3) fh rfl) rfl bF) ?_;refine bp 17 79 _ ?_;refine bp 18 80 (bZ nb (no+4)) ?_;refine gY 19 81 (.int .u64 n4) rfl (bP (λw h=>by obtain⟨_,hx⟩:=h.x;exact ar.cellAt hx.2.1 (j:=4) fh rfl) rfl bF) ?_;refine bp 20 82 _ ?_;refine bp 21 83 (bZ nb (no+5)) ?_;refine gY 22 84 (.int .u64 n5) rfl (bP (λw h=>by obtain⟨_,hx⟩:=h.x;exact ar.cellAt hx.2.1 (j:=5) fh rfl) rfl bF) ?_;refine bp 23 85 (.int .i64 n5) ?_;refine gY 24 86 (.agg G) rfl (lq (λw h=>h.row 0 rfl) rfl HG.o bd) ?_;refine bp 25 87 _ ?_;refine gY 26 88 (.agg D) rfl (pf rfl (by rw[HD2.o,HG.o];kernel_rfl)) ?_;refine mO 27 λK hK=>?_;refine dL S 2 rfl rfl rfl HD.o fQ (cy _) λW S=>?_;refine gM hK ?_;clear hK K;refine bp 28 3 _ ?_;refine uy ?_
    go_wp2_with (refine o7 ?_;exact⟨_,rfl,⟨⟨ty,da,dc⟩,rfl,rfl,by have h9:=S.o0;unfold aZ.dv;rw[HTY.o];exact h9⟩,S.b⟩)
theorem abd (dst:Nat)(src dT:dD)(x:Nat)(h:wpList P ops Q (⟨some dst,.convert src dT (.tmp x),t2,p,af,none⟩::rest) a w):wpList P ops Q (⟨some dst,.convert src dT (.tmp x),t2,p,af,none⟩::rest) a w:=h
theorem Zp {x:Nat}(hx:a.eval (.tmp x)=v)(hs:P.underlying src=some (.slice 5))(he:P.underlying 5=some (.int .u8))(hd:P.underlying dT=some .string)(R:ar w T 1 v n (aQ l))(h:wpList P ops Q rest (a.put (some dst) (.string (vZ l))) w):wpList P ops Q (⟨some dst,.convert src dT (.tmp x),t2,p,af,none⟩::rest) a w:=by
 refine sD rfl λK hK=>?_;unfold Oper.wp execOp;simp only[hx,py,J6 hs he hd R,rj];exact hK _ _ h
theorem YH {m:aK}(hl: ∀y∈l,y<256)(hm: ∀y∈m,y<256)(h:vZ l=vZ m):l=m:=by
 unfold vZ at h;have h1:l.map UInt8.ofNat=m.map UInt8.ofNat:=by
  grind
 have h2: (l.map UInt8.ofNat).map UInt8.toNat=(m.map UInt8.ofNat).map UInt8.toNat:=by rw[h1]
 have h3: ∀k:aK,(∀y∈k,y<256)->(k.map UInt8.ofNat).map UInt8.toNat=k:=λk hk=>by
  rw[EV]
  conv=>rhs;rw[<-map_id k]
  grind[map_congr_left,UInt8.toNat_ofNat']
 rwa [h3 l hl,h3 m hm] at h2
theorem r5 (v u:bh)(l m:aK)(T1 T2:dD)(n1 n2:Nat)(hl: ∀y∈l,y<256)(hm: ∀y∈m,y<256)(w:aD)(R1:ar w T1 1 v n1 (aQ l))(R2:ar w T2 1 u n2 (aQ m)):Calls prog 32 #[v,u] w λe w'=>e=.returned (.bool (decide (l=m)))/\w=w':=by
 have he: ((vZ l).toList==(vZ m).toList)=decide (l=m):=by
  rw[Ws];by_cases h:l=m
  . rw[h];simp
  . rw[iE h,iE (λe=>h (YH hl hm e))]
 have HE:=ae he;clear he;have R1:=ae R1;have R2:=ae R2;go_enter func32,ntmps32
 go_wp2_with (first|((with_reducible refine abd 6 22 9 5 ?_);refine Zp rfl oC FH Hr R1.o ?_)|((with_reducible refine abd 8 22 9 7 ?_);refine Zp rfl oC FH Hr R2.o ?_))
 go_ret;exact⟨by rw[HE.o];rfl,rfl⟩
def gV:List aK->Option (List cu)
 | []=>some []
 | t::ts=>match oT t with
  | none=>none
  | some s=>match gV ts with
   | none=>none
   | some l=>some (s::l)
theorem IC (l:List aK)(t:aK):gV (l++[t])=match gV l with
 | none=>none
 | some ss=>match oT t with
  | none=>none
  | some s=>some (ss++[s]):=by
 induction l<;>grind[gV]
theorem ID {l:List aK}(h:gV (l.take k)=none):gV l=none:=by
 rw[<-Sv k l];generalize l.drop k=m;generalize l.take k=n at h
 induction n<;>grind[gV]
theorem K5 {l:List aq}(hb: ∀y∈bs,y<256)(h:nQ k bs=some l): ∀q∈l,bt q:=by
 induction k generalizing l<;>grind[nQ,ql]
theorem yQ {l:List aq}(h:gw bs=some l):nQ (bs.length / 16) bs=some l/\bs.length<=64000/\kY l=true:=by
 grind[gw]
theorem F6 {bs:aK} {l:List aq} (hb: ∀y∈bs,y<256) (h:gw bs=some l): ∀q∈l,bt q:=K5 hb (yQ h).1
theorem K6 {bs:aK} {l:List aq} (h:gw bs=some l):l.length<=4000:=by
 obtain⟨h1,h2,_⟩:=yQ h
 grind[Ql]
theorem AX {bs:aK} {s:cu} (hb: ∀y∈bs,y<256) (h:oT bs=some s):vt s/\s.dead.length<=4000:=by
 unfold oT at h;split at h
 . next p0 p1 p2 hs=>
   have hlt:=rA hs hb;split at h
   . cases h
   . split at h
     . cases h
     . next ns hn=>
       split at h
       . cases h
       . next root hr=>
         split at h
         . cases h
         . next dd hd=>
           cases h;refine⟨⟨ql (λy hy=>hlt p0 fh y (vF hy)) hr,λq hq=>?_⟩,?_⟩
           . grind[F6]
           grind[K6]
 . cases h
end Go.Proofs.YtklligbjoplbgaaGreat
