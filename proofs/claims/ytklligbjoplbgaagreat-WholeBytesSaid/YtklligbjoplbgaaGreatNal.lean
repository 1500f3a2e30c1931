/- Part 12 of 15 of the proof of WholeBytes; no conditions. -/
import Derived.Test.YtklligbjoplbgaaGreatNak
namespace Go.Proofs.YtklligbjoplbgaaGreat
set_option linter.all false
set_option maxRecDepth 100000
set_option maxHeartbeats 64000000
open Go.RowKit Lib List Nat _root_.Go.Proofs.Tryz Go.Shelf
variable {a:Act}{g:Addr}{listed:Array Bool}{ops:Array Oper}{Q:Exit->Act->aD->Prop}{B b bs ns p4:aK}{X:aK->aD->Prop}{ps:List (bh×aK)}{l:List Bool}{ts:List aK}{O:List O4}{m:List qw}{L:List R4}{xs:List bh}{base c fuel k:Nat}{x y:qw}{d:Option Nat}{P:pw}{s:sH}{e:dD}{v:bh}{w w' w0:aD}{SS:aD->Prop}
theorem all_false {l:List qw}(hx:l[k]? =some x)(h:kJ x.toxH=false): (yx l).all kJ=false:=by
 rw[all_eq_false];exact⟨x.toxH,lY.2 ⟨x,nf hx,rfl⟩,by grind⟩
theorem BG (s:q8)(A:iw)(hA:A=ah 2 (uM s))(hl:s.l.length<=1000000)(w:aD)(R:oZ w s.sv s.l):
 yr 69 #[.agg A] w (.bool (lu s.t)):=by
 obtain⟨gj,l,ao,cap⟩:=s;change oZ w (.slice ao l.length cap) l at R;simp only at hl;obtain⟨ao',cap',he,hcap,hao⟩:=aR R.1.1;simp only[mA] at he;obtain⟨rfl,-,rfl⟩:=he;have R:=ae R;have HA:=ae hA;have hao:=ae hao;have S:=ug w;obtain⟨T,hT⟩:=cM (lu (q8.t ⟨gj,l,ao,cap⟩));have HT:=ae (show(decide (64<=gj/\gj<=1024/\(yx l).length<=200)&& (yx l).all kJ)=T from hT);rw[q9] at HT;rw[hT];clear hA hT;go_enter func69,ntmps69;by_cases h1:gj<64
 rotate_left
 by_cases h2:1024<gj
 rotate_left
 by_cases h3:200< (l.length:Int)
 rotate_left
 . have HT2:=ae (show(yx l).all kJ=T by rw[<-HT.o,ly au];rfl);clear HT
   go_upto_region 4 with(first|(with_reducible first|refine jl 5 3 4 S 0 0 (.int .i64 gj) ?_|refine jm 9 3 8 S 0 0 (.int .i64 gj) ?_|refine jm 14 30 13 S 0 1 (.slice ao l.length cap) ?_|refine jl 19 30 18 S 0 1 (.slice ao l.length cap) ?_)|refine ew λW S=>?_)
   have S:=ae S
   go_loopw [21] (λi wr=>∃k:Nat,k<=l.length/\i=.int .i64 k/\Hid ((∀(j:Nat) y,l[j]? =some y->j<k->kJ y.toxH=true)/\St w none [] [⟨w.heap.size,32,2,uM ⟨gj,l,ao,cap⟩⟩] [] (λ_ _=>True) wr)) (λi _=>l.length - (intOf i).toNat)
   case atStart=>exact⟨0,au,rfl,ae ⟨λj y _ h=>by omega,S.o⟩⟩
   case round=>
    clear S;obtain⟨k,hk,rfl,hS⟩:=hrel;obtain⟨hall,S⟩:=hS.o;clear hS;have HALL:=ae hall;clear hall;by_cases hlt:k<l.length
    . obtain⟨b,o,rfl⟩:=hao.o au;obtain⟨x,hx⟩: ∃x,l[k]? =some x:=⟨_,j4 hlt⟩;have HX:=ae hx;have C1:=ae λW (hb:dp w W)=>Oy x b (o+k*6) W ((R.o.below hb).at HX.o);obtain⟨q,HQ⟩:=qI (kJ x.toxH);rw[HQ.o] at C1;clear hx;cases q with
      | false=>
       obtain rfl:false=T:=by rw[<-HT2.o,all_false HX.o HQ.o]
       go_wp2_with (first
   |(with_reducible refine jl 25 30 24 S 0 1 (.slice (s_ b o) l.length cap) ?_)
   |(go_at_call 137;refine je S (C1.o _ S.b) λW S=>?_))
       go_ret;exact⟨rfl,S.b⟩
      | true=>
       go_wp2_with (first
   |(with_reducible refine jl 25 30 24 S 0 1 (.slice (s_ b o) l.length cap) ?_)
   |(go_at_call 137;refine je S (C1.o _ S.b) λW S=>?_))
       go_roundw
       case rel=>
        refine⟨k+1,au,by go_num,ae ⟨λj y hy hj=>?_,S⟩⟩;by_cases hjk:j=k
        . subst hjk;rw[HX.o] at hy;cases hy;exact HQ.o
        . exact HALL.o j y hy au
       case measure=>exact uO
    . obtain rfl:k=l.length:=au;obtain rfl:true=T:=by
       rw[<-HT2.o,Eq.comm,Ak];intro o ho;obtain⟨x,hx,rfl⟩:=lY.1 ho;obtain⟨j,hj,rfl⟩:=Jo.1 hx;exact HALL.o j _ (j4 hj) hj
      go_wp2;go_ret;exact⟨rfl,S.b⟩
 all_goals
  obtain rfl:false=T:=by rw[<-HT.o,iE au];rfl
  go_wp2_with (first|(with_reducible first|refine jl 5 3 4 S 0 0 (.int .i64 gj) ?_|refine jm 9 3 8 S 0 0 (.int .i64 gj) ?_|refine jm 14 30 13 S 0 1 (.slice ao l.length cap) ?_)|(with_reducible refine jl 5 3 4 S 0 0 (.int .i64 gj) ?_)|refine ew λW S=>?_)
  go_ret;exact⟨rfl,S.b⟩
theorem abA (n:Nat)(it:TypeInfo)(zv:bh)(h:prog.info? 5=some it)(h2:it.zero=some zv): (madeCells zv.cells (n*1)).toList=aQ (replicate n 0):=by
 have hi: (prog.info? 5).map (λi=>i.zero)=some (some (.int .u8 0)):=cm;rw[h] at hi;simp only[Va,h2,EZ] at hi;subst hi;apply EU;intro t;rw[wy];unfold aQ;rw[map_replicate,getElem?_replicate];unfold madeCells;rw[qx,Array.getElem?_map];split
 . simp_all[Value.cells,mod_one]
 . grind
def uf (l:List Bool) (k:Nat):aK:=xC (l.take k)++replicate (l.length - k) 0
theorem QX (l:List Bool):uf l 0=replicate l.length 0:=by rfl
theorem Uz (l:List Bool):uf l l.length=xC l:=by simp_all[uf]
theorem OA (h:l[k]? =some false):uf l (k+1)=uf l k:=by
 have hk:=(sy.1 h).1;unfold uf xC;rw[take_succ,h,pt,Hh];congr 1;rw[show l.length - k=(l.length - (k+1))+1 by omega,replicate_succ];rfl
theorem QY (h:l[k]? =some true):aQ (uf l (k+1))=(aQ (uf l k)).set k (.int .u8 1):=by
 have hk:=(sy.1 h).1;have e:uf l (k+1)=(uf l k).set k 1:=by
  unfold uf xC;rw[take_succ,h,pt,Hh,show l.length - k=(l.length - (k+1))+1 by omega,replicate_succ,set_append,bX rE,pr,pM,show k - min k l.length=0 by omega];rfl
 grind[aQ,map_set]
theorem BH {z n:Nat}(h:ar w e z (.slice (some g) n c) n xs):kV (.slice (some g) n c):=by
 obtain⟨_,_,e1,hle,_⟩:=aR h;simp only[mA] at e1;obtain⟨-,-,rfl⟩:=e1;exact .inr ⟨_,_,_,rfl,hle⟩
theorem DU {b o:Nat}(h:w.cell? ⟨b,o,none⟩=some v)(hb:dp w w'):w'.cell? ⟨b,o,none⟩=some v:=(hb.cell (p:=⟨b,o,none⟩) (vG h)).trans h
theorem aaq:fZ prog 5:=⟨⟨_,FH,rfl⟩,cm⟩
instance in6ae8b :qD 5:=⟨aaq⟩
theorem OB (x:qw)(hx:EI x.toxH)(hd:q7 x)(b o:Nat)(w:aD)(h:tS w b o x)(hl:XP x [] w):
 Calls prog 74 #[.pointer (some ⟨b,o,none⟩)] w λe w'=>∃r,e=.returned (.tuple #[r,.int .i64 0])/\gI w' w.heap.size r (kd x.toxH)/\dp w w':=by
 obtain⟨x,da,dc,ka,kc⟩:=x;simp only at hx;have h0:=h.c0;have h1:=h.c1;have h2:=h.c2;have h3:=h.c3;have h4:=h.c4;have h5:=h.c5;simp only at h0 h1 h2 h3 h4 h5;have HL:Hid (ar w 5 1 (.slice da x.data.length dc) x.data.length (aQ x.data)):=ae hl.1.1;have hk9:ar w 4 1 (.slice ka x.bS.length kc) x.bS.length (rJ x.bS):=hl.2.1;have HK:=ae hk9;obtain⟨ka',kc',he,hcap,hao⟩:=aR hk9;simp only[mA] at he;obtain⟨rfl,-,rfl⟩:=he;have hao:=ae hao;have HD:Hid (kV (.slice da x.data.length dc)/\∀y∈x.data,y<256):=ae hd;have S:=ug w;have hput:=Uy hx;have hjoin:=BF hx;have hfew:=xD hx;have hname:x.name.size<=60:=hx.name;have htoN:x.BE.size<=60:=hx.BE;have hdata:x.data.length<=129:=hx.data;have hkeep:x.bS.length<=64:=hx.bS;have hkk:0<=x.kind/\x.kind<=12:=hx.kind;have hnn: -1<=x.n/\x.n<=65534:=hx.n;obtain⟨T,hT⟩:=cM (kd x);rw[hT] at hjoin;simp only[hT];unfold tt at hjoin hfew;obtain⟨HE,hHE⟩:=cM (opHead x);have hHEl:HE.length=3:=by rw[<-hHE];exact GL _
 have hHElt: ∀y∈HE,y<256:=by rw[<-hHE];exact lj _ _
 rw[hHE] at hput hjoin hfew;obtain⟨kn,hkn⟩: ∃kn:Nat,x.kind=(kn:Int):=⟨x.kind.toNat,au⟩;obtain⟨N,hN⟩:=cM (Es x.n);rw[hN,show x.kind.toNat=kn by omega] at hput;have C2:=ae λv u W hv hu=>wi v u [1,2] [kn,N] nh W hv hu;rw[hput] at C2;simp only[mb] at C2;have CJ:=ae λv W hv=>An v [HE,lR x.name,lR x.BE,x.data,xC x.bS] fh (λk h=>by have h9:=hfew _ (tW h);omega) W hv;rw[hjoin] at CJ;simp only[mb] at CJ;have hwk:IntKind.u64.wrap (kn:Int)=(kn:Int):=D4 _ au;obtain⟨nn,hnv⟩: ∃nn:Int,x.n=nn:=⟨_,rfl⟩;rw[hnv] at h3 hN hnn;have hcase: (0<=nn/\IntKind.u64.wrap nn=(N:Int))∨(¬0<=nn/\N=65535):=by
  by_cases h9:0<=nn
  . left;refine⟨h9,?_⟩;rw[<-hN];unfold Es;rw[bC h9,Int.toNat_of_nonneg h9];exact D4 _ au
  . right;refine⟨h9,?_⟩;rw[<-hN];unfold Es;rw[bX h9]
 have HW1:=ae (show ∀y∈aW [1,2],(Lit.int .i64 y).wf=true by decide);have hN2:N<=65535:=by rw[<-hN];unfold Es;split <;> omega
 have HW2:=ae (yb (l:=[kn,N]) (λn hn=>by grind));rw[hkn] at h0;have H0:=ae h0;have H1:=ae h1;have H2:=ae h2;have H3:=ae h3;have H4:=ae h4;have H5:=ae h5;have HHLT:=ae hHElt;clear hput hjoin hfew hHE hHEl hHElt hT hN hx hd h hl hkn h0 h1 h2 h3 h4 h5 hk9 hnv;go_enter func74,ntmps74;rcases hcase with⟨hcn,hwn⟩ | ⟨hcn,rfl⟩
 all_goals (
  go_upto_region 9 with(first|(with_reducible first|refine jo 13 3 12 (DU H3.o S.b) ?_|refine jo 18 3 17 (DU H3.o S.b) ?_|refine jo 25 3 24 (DU H0.o S.b) ?_|refine jo 38 39 37 (DU H5.o S.b) ?_|refine jo 44 39 43 (DU H5.o S.b) ?_)|((with_reducible refine j6 21 81 2 ?_);refine eY S .i64 (aW [1,2]) um lH au au rfl rfl rfl λW S=>?_)|((with_reducible refine j6 28 78 2 ?_);refine eY S .u64 (aW [kn,_]) Fi oJ au au rfl rfl rfl λW S=>?_)|(go_at_call 73;refine(C2.o _ _ _ (br.row S.k1 rfl (show(2:Nat)<=_ by omega) HW1.o) (br.row S.k0 rfl (show(2:Nat)<=_ by omega) HW2.o)).mono ?_;rintro e W ⟨r,rfl,ho,hb⟩;obtain⟨na,nc,rfl⟩:=aH ho;replace S:=S.cU hb ho rfl rfl)|((with_reducible refine qm 40 22 ?_);refine Wo S (n:=x.bS.length) mG rfl rfl au BM rfl rfl (abA x.bS.length) λg W S=>?_))
  rw[<-QX] at S;have S:=ae S
  go_loopw [46] (λi wr=>∃k:Nat,k<=x.bS.length/\i=.int .i64 k/\Hid (∃L,St w none [] L [⟨5,1,.slice (s_ g 0) x.bS.length x.bS.length,x.bS.length,aQ (uf x.bS k)⟩,⟨5,1,.slice na HE.length nc,HE.length,aQ HE⟩] (λ_ _=>True) wr)) (λi _=>x.bS.length - (intOf i).toNat)
  case atStart=>exact⟨0,au,rfl,ae ⟨_,S.o⟩⟩
  case round=>
   clear S;obtain⟨k,hk,rfl,hS⟩:=hrel;obtain⟨L,S⟩:=hS.o;clear hS;by_cases hlt:k<x.bS.length
   . obtain⟨b2,o2,rfl⟩:=hao.o au;obtain⟨q,hq⟩: ∃q,x.bS[k]? =some q:=⟨_,j4 hlt⟩;have HQ:=ae hq;have HC:=ae (show(rJ x.bS)[k]? =some (.bool q) by unfold rJ;rw[tY,hq];rfl);have hpos:0<x.bS.length:=au;clear hq;cases q with
     | false=>
      go_wp2_with (with_reducible refine jo 50 4 49 (ar.cellAt (HK.o.below S.b) hpos HC.o) ?_)
      go_roundw
      case rel=>exact⟨k+1,au,by go_num,ae ⟨L,by rw[OA HQ.o];exact S⟩⟩
      case measure=>exact uO
     | true=>
      go_wp2_with (first
   |(with_reducible refine jo 50 4 49 (ar.cellAt (HK.o.below S.b) hpos HC.o) ?_)
   |((with_reducible refine fE 5 54 ?_);refine Qt S 0 rfl rfl k (by show k<x.bS.length*1;omega) rfl rfl rfl aaq λW S=>?_))
      go_roundw
      case rel=>exact⟨k+1,au,by go_num,ae ⟨L,by rw[QY HQ.o];exact S⟩⟩
      case measure=>exact uO
   . obtain rfl:k=x.bS.length:=au;rw[Uz] at S
     go_upto_region 14 with(fail)
     refine bf S cm [] (by intro r hr;cases hr) λW S=>?_;refine bp 0 56 _ ?_;refine bp 1 57 _ ?_;refine bp 2 58 (bZ b o) ?_;refine bp 3 59 (bZ b (o+1)) ?_;refine gY 4 60 (.string x.name) rfl (bP (λw h=>DU H1.o h.fr.below) rfl pY) ?_;refine bp 6 62 _ ?_;refine bp 7 63 (bZ b o) ?_;refine bp 8 64 (bZ b (o+2)) ?_;refine gY 9 65 (.string x.BE) rfl (bP (λw h=>DU H2.o h.fr.below) rfl pY) ?_;refine bp 11 67 _ ?_;refine bp 12 68 (bZ b o) ?_;refine bp 13 69 (bZ b (o+4)) ?_;refine gY 14 70 (.slice da x.data.length dc) rfl (bP (λw h=>DU H4.o h.fr.below) rfl pe) ?_;refine bp 15 71 _ ?_
     all_goals (first |(refine JV 5 10 (λK hK=>?_) λK hK=>?_))
     all_goals (first|(refine UP S (s:=x.name) rfl Hr oC FH BM λg1 c1 W S=>?_;refine hK.out _ _ ⟨_,_,_,S,(by intro r hr;cases hr)⟩ λ_=>?_;try simp only[ax])|(refine UP S (s:=x.BE) rfl Hr oC FH BM λg2 c2 W S=>?_;refine hK.out _ _ ⟨_,_,_,S,(by intro r hr;cases hr)⟩ λ_=>?_;try simp only[ax]))
     all_goals (clear hK K)
     all_goals (first |(refine tF 10 λK hK=>?_) |(refine tF 5 λK hK=>?_))
     all_goals (first|(refine UP S (s:=x.BE) rfl Hr oC FH BM λg2 c2 W S=>?_;refine hK.out _ _ ⟨_,_,_,S,(by intro r hr;cases hr)⟩ λ_=>?_;try simp only[ax])|(refine UP S (s:=x.name) rfl Hr oC FH BM λg1 c1 W S=>?_;refine hK.out _ _ ⟨_,_,_,S,(by intro r hr;cases hr)⟩ λ_=>?_;try simp only[ax]))
     all_goals (clear hK K)
     all_goals (first |(refine tF 16 λK hK=>?_))
     all_goals (first|(refine J3 S [.slice na HE.length nc,.slice (s_ g1 0) x.name.size c1,.slice (s_ g2 0) x.BE.size c2,.slice da x.data.length dc,.slice (s_ g 0) x.bS.length x.bS.length] ME vY au au rfl rfl (by intro v hv;simp only[iI,kz,tZ] at hv;rcases hv with rfl | rfl | rfl | rfl | rfl <;> rfl) rfl λW S=>?_;refine hK.out _ _ ⟨_,_,_,S,(by intro r hr;cases hr)⟩ λ_=>?_;try simp only[ax]))
     all_goals (clear hK K)
     all_goals (first |(refine tF 17 λK hK=>?_))
     all_goals (first|(go_wp2_with fail;refine(CJ.o _ _ (Ah S.k0 rfl rfl (λk h h'=>by rcases k with(_|_|_|_|_|k);exact⟨ar.iC S.q1 HHLT.o,fS S.o1⟩;(first | exact⟨ar.iC S.x.2.1 (pA _),BH S.x.2.1⟩ | exact⟨ar.iC S.x.1.2.1 (pA _),BH S.x.1.2.1⟩);(first | exact⟨ar.iC S.x.2.1 (pA _),BH S.x.2.1⟩ | exact⟨ar.iC S.x.1.2.1 (pA _),BH S.x.1.2.1⟩);exact⟨ar.iC (HL.o.below S.b) HD.o.2,HD.o.1⟩;exact⟨ar.iC S.q0 (Sc _),fS S.o0⟩;exact absurd h fh))).mono ?_;rintro e W ⟨r,rfl,ho,hb⟩;replace S:=S.cU hb ho rfl rfl;refine hK.out _ _ ⟨_,_,_,S,(by intro r hr;cases hr)⟩ (λ_=>?_)))
     all_goals (clear hK K)
     all_goals (refine bp 18 74 (r) ?_)
     all_goals (refine bp 19 75 (.int .i64 (codeF 21 (some T))) ?_)
     all_goals (refine bp 20 2 _ ?_)
     all_goals (refine bp 21 3 _ ?_)
     all_goals (refine uy ?_)
     all_goals (
      go_wp2;go_ret2;exact⟨_,rfl,S.o0,S.b⟩
     ))
theorem YY (l:List qw)(k:Nat): (yx l)[k]? =l[k]?.map qw.toxH:=by grind[yx]
theorem LO (s:q8)(A:iw)(hA:A=ah 2 (uM s))(hl:s.l.length<=1000000)(hd: ∀x∈s.l,q7 x)(w:aD)(R:oZ w s.sv s.l):
 Calls prog 31 #[.agg A] w λe w'=>∃r,e=.returned (.tuple #[r,.int .i64 (codeF 231 (iQ s.t))])/\gI w' w.heap.size r ((iQ s.t).getD [])/\dp w w':=by
 have C1:=ae λW (hb:dp w W)=>BG s A hA hl W (R.below hb);obtain⟨gj,l,ao,cap⟩:=s;change oZ w (.slice ao l.length cap) l at R;simp only at hl hd;obtain⟨ao',cap',he,hcap,hao⟩:=aR R.1.1;simp only[mA] at he;obtain⟨rfl,-,rfl⟩:=he;have R:=ae R;have HA:=ae hA;have hao:=ae hao;have S:=ug w;obtain⟨T,HTT⟩:=qI (iQ (q8.t ⟨gj,l,ao,cap⟩));rw[HTT.o];obtain⟨q,hq⟩:=cM (lu (q8.t ⟨gj,l,ao,cap⟩));rw[hq] at C1;clear hA;go_enter func31,ntmps31;cases q with
 | false=>
  obtain rfl:none=T:=by rw[<-HTT.o];unfold iQ;rw[hq];rfl
  clear hq
  go_wp2_with (first|(go_at_call 69;refine je S (C1.o _ S.b) λW S=>?_)|refine fN ?_|refine ew λW S=>?_)
  go_ret2;exact⟨_,rfl,ju _ _ _ _,S.b⟩
 | true=>
  have hok:=om hq;have hsec:64<=gj/\gj<=1024:=hok.gj;have hfew:l.length<=200:=by have h9:=hok.mZ;unfold q8.t at h9;simp only[q9] at h9;exact h9
  obtain⟨m,rfl⟩: ∃m:Nat,gj=(m:Int):=⟨gj.toNat,au⟩;obtain⟨r0,hr0⟩:=GN hq;obtain rfl:some r0=T:=by rw[<-HTT.o,hr0]
  have hjs:mP (ez [2] [m]:: (yx l).map kd)=some r0:=by
   rw[<-hr0];unfold iQ;rw[bC hq];rfl
  have HOK:=ae (show ∀x∈l,EI x.toxH from λx hx=>tT (hok.op _ (lY.2 ⟨x,hx,rfl⟩)));have hput:mX [2] [m]=some (ez [2] [m]):=by
   unfold mX;rw[bC];refine⟨by decide,rfl,?_⟩;simp[fitAll];omega
  obtain⟨HD,hHD⟩:=cM (ez [2] [m]);rw[hHD] at hput hjs;have hHDl:HD.length=2:=by rw[<-hHD];exact(oB (ws:=[2]) (ns:=[m]) rfl).trans rfl
  have hHDlt: ∀y∈HD,y<256:=by rw[<-hHD];exact lj _ _
  have C2:=ae λv u W hv hu=>wi v u [2] [m] nh W hv hu;rw[hput] at C2;simp only[mb] at C2;have HW1:=ae (show ∀y∈aW [2],(Lit.int .i64 y).wf=true by decide);have HW2:=ae (yb (l:=[m]) (λn hn=>by grind));have hwm:IntKind.u64.wrap (m:Int)=(m:Int):=D4 _ au;have HHL:=ae hHDl;have HHLT:=ae hHDlt;have HJS:=ae hjs;have HDA:=ae hd;clear hput hHD hHDl hHDlt hjs hr0 hq hok hd HTT
  go_upto_region 8 with(first|(with_reducible first|refine jl 17 3 16 S 1 0 (.int .i64 m) ?_|refine jl 28 30 27 S 2 1 (.slice ao l.length cap) ?_)|(go_at_call 69;refine je S (C1.o _ S.b) λW S=>?_)|((with_reducible refine j6 15 81 1 ?_);refine eY S .i64 (aW [2]) um lH au au rfl rfl rfl λW S=>?_)|((with_reducible refine j6 19 78 1 ?_);refine eY S .u64 (aW [m]) Fi oJ au au rfl rfl rfl λW S=>?_)|(go_at_call 73;refine(C2.o _ _ _ (br.row S.k1 rfl (show(1:Nat)<=_ by omega) HW1.o) (br.row S.k0 rfl (show(1:Nat)<=_ by omega) HW2.o)).mono ?_;rintro e W ⟨r,rfl,ho,hb⟩;obtain⟨na,nc,rfl⟩:=aH ho;have HSH0:=ae (fS ho);replace S:=S.ti hb ho rfl rfl;clear hb)|((with_reducible refine j6 26 75 1 ?_);refine blV S [.slice na HD.length nc] ME vY au au rfl rfl (by intro v hv;simp only[iI,kz,tZ] at hv;rw[hv];rfl) rfl λW S=>?_;replace S:=S.JU rfl)|refine fN ?_|refine ew λW S=>?_)
  replace S:=S.vP (X':=mS [(.slice na HD.length nc,HD)]) (λB w h p hp=>by rw[gz.1 hp];exact h.2) (ff _).fs;have S:=ae S
  go_loopw [6,30] (λtv kv wr=>∃(k:Nat) (ps:List (bh×aK)) (ta:Option Addr) (tc:Nat) (r1 r2:R4),k<=l.length/\kv=.int .i64 k/\ps.length=k/\tv=.slice ta (k+1) tc/\Hid (ps.map Prod.snd=((yx l).take k).map kd/\(∀p∈ps,kV p.1)/\
   St w none [] [r1,r2,⟨w.heap.size,32,2,uM ⟨m,l,ao,cap⟩⟩] [⟨22,1,.slice ta (k+1) tc,k+1,((.slice na HD.length nc,HD)::ps).map Prod.fst⟩] (mS ((.slice na HD.length nc,HD)::ps)) wr)) (λ_ kv _=>l.length - (intOf kv).toNat)
  case atStart=>exact⟨0,[],_,1,_,_,au,rfl,rfl,rfl,ae ⟨rfl,by simp,S.o⟩⟩
  case round=>
   clear S;obtain⟨k,ps,ta,tc,r1,r2,hk,rfl,hpk,rfl,hS⟩:=hrel;obtain⟨hrec,hsh,S⟩:=hS.o;clear hS;have HREC:=ae hrec;have HSH:=ae hsh;clear hrec hsh;by_cases hlt:k<l.length
   . obtain⟨b,o,rfl⟩:=hao.o au;obtain⟨x,hx⟩: ∃x,l[k]? =some x:=⟨_,j4 hlt⟩;have hm:x∈l:=nf hx;have HX:=ae hx;have C5:=ae λW (hb:dp w W)=>OB x (HOK.o x hm) (HDA.o x hm) b (o+k*6) W ((R.o.below hb).at HX.o) ((R.o.below hb).2 x hm);obtain⟨t,ht⟩:=cM (kd x.toxH);rw[ht] at C5;have HSTEP:=ae (show((yx l).take (k+1)).map kd=((yx l).take k).map kd++[t] by rw[take_succ,YY,hx,pt,<-ht];rfl);clear hx hm ht
     go_wp2_with (first
   |(with_reducible refine jl 35 30 34 S 2 1 (.slice (s_ b o) l.length cap) ?_)
   |(go_at_call 74;refine(C5.o _ S.b).mono ?_;rintro e W ⟨r,rfl,ho,hb⟩;obtain⟨ra,rc,rfl⟩:=aH ho;have HSR:=ae (fS ho);replace S:=S.ti hb ho rfl rfl;clear hb)
   |((with_reducible refine j6 45 75 1 ?_);refine blV S [.slice ra t.length rc] ME vY au au rfl rfl (by intro v hv;simp only[iI,kz,tZ] at hv;rw[hv];rfl) rfl λW S=>?_;replace S:=S.ld (k:=0) rfl (g:=λ_=>.slice ra t.length rc) (λi hi=>by have hi:i<1:=hi;obtain rfl:i=0:=au;rfl))
   |((with_reducible refine bN 46 43 45 ?_);refine lZ S 0 rfl 0 rfl rfl rfl rfl Wu (λ_=>rfl) JW BM λg9 c9 W S=>?_))
     go_roundw
     case rel=>
      refine⟨k+1,ps++[(.slice ra t.length rc,t)],s_ g9 0,c9,r1,r2,au,by go_num,by simp[hpk],rfl,ae ⟨by rw[HSTEP.o,<-HREC.o];simp,λp hp=>?_,?_⟩⟩
      . rcases jn.1 hp with h | h
        . exact HSH.o p h
        . rw[gz.1 h];exact HSR.o
      . rw[<-Aj,pt];have S:=S.pop;refine S.vP (λB w h p hp=>?_) (ff _).fs;rcases jn.1 hp with h2 | h2
        . exact h.1 p h2
        . rw[gz.1 h2];exact h.2
     case measure=>exact uO
   . obtain rfl:k=l.length:=au;have hrec:=HREC.o;rw[tX (by rw[q9];exact eO _)] at hrec;have hTJ:mP (HD::ps.map Prod.snd)=some r0:=by rw[hrec];exact HJS.o
     have HPL:=ae (show ∀t∈ps.map Prod.snd,t.length<=700/\∀y∈t,y<256 from λt ht=>by
      rw[hrec] at ht;obtain⟨o,ho,rfl⟩:=lY.1 ht;obtain⟨x,hx,rfl⟩:=lY.1 ho;exact⟨DT (HOK.o x hx),GM (HOK.o x hx) (HDA.o x hx).2⟩)
     have CJ:=ae λv W hv=>An v (HD::ps.map Prod.snd) sp_ (λq h=>by have h8:=tW h;rcases iI.1 h8 with h7 | h7;rw[h7,HHL.o];omega;exact kL (HPL.o _ h7).1 au) W hv;rw[hTJ] at CJ;simp only[mb] at CJ;clear hrec hTJ
     go_wp2_with (go_at_call 75;refine(CJ.o _ _ (Dx (ps:=(.slice na HD.length nc,HD)::ps) (by simp[hpk]) S.o0 S.x (λp hp=>by rcases iI.1 hp with h | h;rw[h];exact HSH0.o;exact HSH.o p h) (λp hp=>by rcases iI.1 hp with h | h;rw[h];exact HHLT.o;exact(HPL.o _ (lY.2 ⟨p,h,rfl⟩)).2))).mono ?_;rintro e W ⟨r,rfl,ho,hb⟩;replace S:=S.cU hb ho rfl rfl;clear hb)
     go_ret2;exact⟨_,rfl,S.o0,S.b⟩
theorem St.GO {l:aK}(S:St w0 d l L O X w)(hb:dp w w')(ho:CZ w' w.heap.size v ts):
 ∃ps:List (bh×aK),ps.map Prod.snd=ts/\(∀p∈ps,kV p.1/\p.2.length<=65535/\∀b,p.1.ownBlock=some b->w0.heap.size<=b)/\St w0 d l L O (λB w=>X B w/\(qC 22 1 v ps.length (ps.map Prod.fst) B w/\mS ps B w)) w':=by
 obtain⟨vs,hl,hown,hk⟩:=ho;have h1: (vs.zip ts).map Prod.snd=ts:=map_snd_zip au;have h2: (vs.zip ts).map Prod.fst=vs:=map_fst_zip au;have hlen: (vs.zip ts).length=ts.length:=by grind
 have hp: ∀p∈vs.zip ts,gI w' w.heap.size p.1 p.2/\p.2.length<=65535:=λp hp=>by
  obtain⟨k,hk2,rfl⟩:=Jo.1 hp
  grind
 refine⟨vs.zip ts,h1,λp h=>⟨fS (hp p h).1,(hp p h).2,λb hb2=>by have h9:=((hp p h).1.lt b hb2).1;have:=S.fr.size;omega⟩,?_⟩;rw[h2,hlen];refine(S.below hb).yu ((cz 22 1 v _ _ rfl rfl).and (ff _)) ⟨⟨ar.aV hown,λ_ b hb2 hm=>?_⟩,λp h=>⟨ar.aV (hp p h).1,λ_ b hb2 hm=>?_⟩⟩
 . have h9:=(hown.lt b hb2).1;have:=S.lt b hm;omega
 . have h9:=((hp p h).1.lt b hb2).1;have:=S.lt b hm;omega
theorem aar {p0 p1 p2 p3:aK}(h:ps.map Prod.snd=[p0,p1,p2,p3,p4]): ∃v0 v1 v2 v3 v4,ps=[(v0,p0),(v1,p1),(v2,p2),(v3,p3),(v4,p4)]:=by
 rcases ps with _ | ⟨⟨v0,q0⟩,_ | ⟨⟨v1,q1⟩,_ | ⟨⟨v2,q2⟩,_ | ⟨⟨v3,q3⟩,_ | ⟨⟨v4,q4⟩,_ | ⟨x,ps⟩⟩⟩⟩⟩⟩ <;> simp at h
 simp_all
theorem abB (hb: ∀y∈bs,y<256)(h:kx [1,2] bs=some ns): ∃k n:Nat,ns=[k,n]/\k<256/\n<65536:=by
 unfold kx at h;split at h
 . cases h;refine⟨_,_,rfl,?_,?_⟩
   . grind[pJ,length_take]
   . have h1:=pJ (bs:=(bs.drop 1).take 2) λy hy=>hb y (vF (rD hy));have h2:256 ^ ((bs.drop 1).take 2).length<=256 ^ 2:=Sx au rE;omega
 . cases h
theorem Zy: (prog.info? 4).map (λi=>(i.zero,i.size,i.bytes))=some (some (.bool false),1,1):=cm
theorem aas:qj prog 39 4 1 1:=⟨underlying39,_,Zy,rfl,au⟩
def Cu (p4:aK):List Bool:=p4.map λk=>decide (k=1)
theorem aat {y:Nat}(h:p4[k]? =some y)(hy:1<y):p4.all (λk=>decide (k<=1))=false:=by
 rw[all_eq_false];exact⟨y,nf h,by simp;omega⟩
theorem QZ (bs:aK)(u:bh)(hbl:bs.length<=1000000000)(w:aD)(hu:br .u8 w u (aW bs))(hc:qN u):
 Calls prog 30 #[u] w λe w'=>∃B,e=.returned (.tuple #[.agg B,.int .i64 (codeF 231 (mW bs))])/\Zx w' w.heap.size B ((mW bs).getD Eh.toxH)/\dp w w':=by
 have hby: ∀x∈bs,x<256:=sP (by obtain⟨_,_,_,_,h,_⟩:=hu;exact h);have C1:=ae λW (hb:dp w W)=>xN u bs au W (hu.below hb) hc;have S:=ug w;obtain⟨T,HT⟩:=qI (mW bs);rw[HT.o];clear hu hc;go_enter func30,ntmps30;cases hts:np bs with
 | none=>
  obtain rfl:none=T:=by rw[<-HT.o];unfold mW;rw[hts]
  rw[hts] at C1;clear hts
  go_wp2_with (first|(go_at_call 28;refine(C1.o _ S.b).mono ?_;rintro e W ⟨r,rfl,ho,hb⟩;replace S:=S.below hb;clear hb)|(refine o7 ?_;exact⟨_,rfl,sj _ _,S.b⟩)|refine fN ?_|refine ew λW S=>?_)
 | some ts=>
  have hlt:=rA hts hby;rw[hts] at C1;simp only[mb] at C1;by_cases hl3:ts.length=5
  case neg=>
   obtain rfl:none=T:=by
    rw[<-HT.o];unfold mW;rw[hts];rcases ts with _ | ⟨a,_ | ⟨b,_ | ⟨c,_ | ⟨e,_ | ⟨f,_ | ⟨g,ts⟩⟩⟩⟩⟩⟩ <;> first | rfl | exact absurd rfl hl3
   have i3: ((ts.length:Int) != 5)=true:=by rw[lh];omega
   clear hts
   go_wp2_with (first|(go_at_call 28;refine(C1.o _ S.b).mono ?_;rintro e W ⟨r,rfl,ho,hb⟩;obtain⟨ra,rc,rfl⟩:=lD ho;replace S:=S.below hb;clear hb)|(refine o7 ?_;exact⟨_,rfl,sj _ _,S.b⟩)|refine fN ?_|refine ew λW S=>?_)
  obtain⟨p0,p1,p2,p3,p4,rfl⟩: ∃p0 p1 p2 p3 p4,ts=[p0,p1,p2,p3,p4]:=by
   rcases ts with _ | ⟨a,_ | ⟨b,_ | ⟨c,_ | ⟨e,_ | ⟨f,_ | ⟨g,ts⟩⟩⟩⟩⟩⟩ <;> first | exact⟨_,_,_,_,_,rfl⟩ | simp at hl3
  have hb0:=hlt p0 fh;have hb1:=hlt p1 fh;have hb2:=hlt p2 fh;have hb3:=hlt p3 fh;have hb4:=hlt p4 fh;have hTT: (match kx [1,2] p0 with | none=>none | some ns=>if p4.length<=64 then(if p4.all (λk=>decide (k<=1))=true then some (abz ns p1 p2 p3 p4) else none) else none)=T:=by
   rw[<-HT.o];unfold mW;rw[hts];dsimp only;cases kx [1,2] p0 <;> rfl
  clear hts hlt hl3;have C2:=ae λv u W hv hu hc=>yC v u [1,2] p0 nh W hv hu hc;have HB0:=ae hb0;have HB3:=ae hb3;have HW1:=ae (show ∀y∈aW [1,2],(Lit.int .i64 y).wf=true by decide);obtain⟨g0,HG0⟩:=qI (kx [1,2] p0);rw[HG0.o] at hTT C2;have HTT:=ae hTT;clear hTT
  go_upto_region 5 with(first|(go_at_call 28;refine(C1.o _ S.b).mono ?_;rintro e W ⟨r,rfl,ho,hb⟩;obtain⟨ra,rc,rfl⟩:=lD ho;obtain⟨ps,hps,hsh,S9⟩:=S.GO hb ho;replace S:=S9;clear S9 hb;obtain⟨v0,v1,v2,v3,v4,rfl⟩:=aar hps;obtain⟨rb,ro,rfl⟩: ∃rb ro,ra=s_ rb ro:=(by obtain⟨_,_,e1,_,h⟩:=aR S.x.2.1.1;grind);have hpp:p4.length<=65535:=(hsh (v4,p4) fh).2.1;have hpq:p3.length<=65535:=(hsh (v3,p3) fh).2.1;have HSH:=ae (hsh (v3,p3) fh);clear hps hsh;obtain⟨a0,c0,rfl,hc0⟩:=j0 (p:=p0) (S.x.2.2 (v0,p0) fh);obtain⟨a1,c1,rfl,hc1⟩:=j0 (p:=p1) (S.x.2.2 (v1,p1) fh);obtain⟨a2,c2,rfl,hc2⟩:=j0 (p:=p2) (S.x.2.2 (v2,p2) fh);obtain⟨a3,c3,rfl,hc3⟩:=j0 (p:=p3) (S.x.2.2 (v3,p3) fh);obtain⟨a4,c4,rfl,hc4⟩:=j0 (p:=p4) (S.x.2.2 (v4,p4) fh);replace S:=S.vP (X':=λB w=>qC 22 1 (.slice (s_ rb ro) 5 rc) 5 [.slice a0 p0.length c0,.slice a1 p1.length c1,.slice a2 p2.length c2,.slice a3 p3.length c3,.slice a4 p4.length c4] B w/\mS [(.slice a0 p0.length c0,p0),(.slice a1 p1.length c1,p1),(.slice a2 p2.length c2,p2),(.slice a3 p3.length c3,p3),(.slice a4 p4.length c4,p4)] B w) (λB w h=>h.2) ((cz _ _ _ _ _ rfl rfl).and (ff _)).fs;simp only[o8,we,rC,reduceAdd])|((with_reducible refine j6 24 81 2 ?_);refine eY S .i64 (aW [1,2]) um lH au au rfl rfl rfl λW S=>?_)|((with_reducible refine pP ?_);refine BN (ar.cellAt S.x.1.1 (j:=0) au rfl) ?_)|(go_at_call 29;refine(C2.o _ _ _ (br.row S.k0 rfl (show(2:Nat)<=_ by omega) HW1.o) (ar.iC (S.x.2 (.slice a0 p0.length c0,p0) fh).1 HB0.o) ⟨_,_,_,rfl,hc0⟩).mono ?_;rintro e W ⟨r,rfl,ho,hb⟩;obtain⟨na,nc,rfl⟩:=aH ho;replace S:=S.ti hb ho rfl rfl;clear hb)|refine ew λW S=>?_)
  cases g0 with
  | none=>
   obtain rfl:none=T:=HTT.o
   go_wp2_with (first|(refine o7 ?_;exact⟨_,rfl,sj _ _,S.b⟩)|refine fN ?_|refine ew λW S=>?_)
  | some ns=>
   obtain⟨kn,nn,rfl,hk1,hn1⟩:=abB HB0.o HG0.o;clear HG0;simp only[mb,o8,we,rC,reduceAdd] at S ⊢;obtain⟨nb,no,rfl⟩: ∃nb no,na=s_ nb no:=by
    obtain⟨_,_,e1,_,h⟩:=aR S.x.2.1
    grind
   have hwk:IntKind.i64.wrap (kn:Int)=(kn:Int):=mT _ au;have hwn:IntKind.i64.wrap (nn:Int)=(nn:Int):=mT _ au;obtain⟨nv,hnv⟩: ∃nv:Int,(if nn=65535 then(-1:Int) else(nn:Int))=nv:=⟨_,rfl⟩;obtain⟨D,HD⟩:=BU (ah 6 (O6 ⟨⟨(kn:Int),vZ p1,vZ p2,-1,p3,[]⟩,a3,c3,none,0⟩));have HNV:=ae hnv
   go_upto_region 7 with(fail)
   refine zP S cm [] (by intro r hr;cases hr) λW S=>?_;refine bp 0 34 _ ?_;refine bp 1 35 (bZ nb (no+0)) ?_;refine gY 2 36 (.int .u64 kn) rfl (bP (λw h=>by obtain⟨_,hx⟩:=h.x;exact ar.cellAt hx.2.1 (j:=0) fh rfl) rfl bF) ?_;refine bp 3 37 (.int .i64 kn) ?_;refine bp 4 38 _ ?_;refine bp 5 39 (bZ rb (ro+1)) ?_;refine gY 6 40 (.slice a1 p1.length c1) rfl (bP (λw h=>by obtain⟨_,hx⟩:=h.x;exact ar.cellAt hx.1.1.1 (j:=1) au rfl) rfl pe) ?_;refine gY 7 41 (.string (vZ p1)) rfl (Qx rfl oC FH Hr (λw h=>by obtain⟨_,hx⟩:=h.x;exact(hx.1.2 (.slice a1 p1.length c1,p1) fh).1)) ?_;refine bp 8 42 _ ?_;refine bp 9 43 (bZ rb (ro+2)) ?_;refine gY 10 44 (.slice a2 p2.length c2) rfl (bP (λw h=>by obtain⟨_,hx⟩:=h.x;exact ar.cellAt hx.1.1.1 (j:=2) au rfl) rfl pe) ?_;refine gY 11 45 (.string (vZ p2)) rfl (Qx rfl oC FH Hr (λw h=>by obtain⟨_,hx⟩:=h.x;exact(hx.1.2 (.slice a2 p2.length c2,p2) fh).1)) ?_;refine bp 12 46 _ ?_;refine bp 13 47 (bZ rb (ro+3)) ?_;refine gY 14 48 (.slice a3 p3.length c3) rfl (bP (λw h=>by obtain⟨_,hx⟩:=h.x;exact ar.cellAt hx.1.1.1 (j:=3) au rfl) rfl pe) ?_;refine gY 15 49 (.agg D) rfl (pf rfl (by rw[HD.o];kernel_rfl)) ?_;refine mO 16 λK hK=>?_;refine wj S zeroValue41 vf rfl λW S=>?_;refine gM hK ?_;refine mO 17 λK hK=>?_;refine dL S 0 rfl rfl rfl HD.o Xr (ui _) λW S=>?_;refine gM hK ?_;refine uy ?_;have hcase: (((nn:Int) != 65535)=false/\(-1:Int)=nv)∨(((nn:Int) != 65535)=true/\(nn:Int)=nv):=by
    grind
   have HTU:=ae (show(if p4.length<=64 then(if p4.all (λk=>decide (k<=1))=true then some (⟨(kn:Int),vZ p1,vZ p2,nv,p3,Cu p4⟩:xH) else none) else none)=T by rw[<-HTT.o,<-HNV.o];rfl);clear HTT HNV;rcases hcase with⟨hq1,hv⟩ | ⟨hq1,hv⟩
   all_goals (
    clear hv;by_cases h64: (64:Int)< (p4.length:Int)
    . obtain rfl:none=T:=by rw[<-HTU.o,bX au]
      go_wp2_with (first
   |((with_reducible refine pP ?_);first | refine BN (ar.cellAt S.x.2.1 (j:=1) fh rfl) ?_ | refine BN (ar.cellAt S.x.1.1.1 (j:=4) au rfl) ?_)
   |((with_reducible refine aS 3 58 57 ?_);refine gu S 0 rfl 3 (O6 ⟨⟨(kn:Int),vZ p1,vZ p2,(nn:Int),p3,[]⟩,a3,c3,none,0⟩) (λj hj=>by have hj:j<6:=hj;rcases j with(_|_|_|_|_|_|j) <;> first | rfl) qv rfl rfl rfl kX λW S=>?_)
   |(refine o7 ?_;exact⟨_,rfl,sj _ _,S.b⟩)
   |refine fN ?_
   |refine ew λW S=>?_)
    have HTV:=ae (show(if p4.all (λk=>decide (k<=1))=true then some _ else none)=T by rw[<-HTU.o,bC (show p4.length<=64 by omega)]);have hp64:p4.length<=64:=au;clear HTU;replace S:=S.yK 4 1 rfl rfl
    go_upto_region 13 with(first
   |((with_reducible refine pP ?_);first | refine BN (ar.cellAt S.x.2.1 (j:=1) fh rfl) ?_ | refine BN (ar.cellAt S.x.1.1.1 (j:=4) au rfl) ?_)
   |((with_reducible refine aS 3 58 57 ?_);refine gu S 0 rfl 3 (O6 ⟨⟨(kn:Int),vZ p1,vZ p2,(nn:Int),p3,[]⟩,a3,c3,none,0⟩) (λj hj=>by have hj:j<6:=hj;rcases j with(_|_|_|_|_|_|j) <;> first | rfl) qv rfl rfl rfl kX λW S=>?_))
    replace S:=S.ld (k:=0) rfl (g:=O6 ⟨⟨(kn:Int),vZ p1,vZ p2,nv,p3,[]⟩,a3,c3,none,0⟩) (λj hj=>by grind);replace S:=S.vP (X':=λB w=>qC 5 1 (.slice a3 p3.length c3) p3.length (aQ p3) B w/\qC 5 1 (.slice a4 p4.length c4) p4.length (aQ p4) B w) (λB w h=>⟨h.1.2 (.slice a3 p3.length c3,p3) fh,h.1.2 (.slice a4 p4.length c4,p4) fh⟩) ((cz _ _ _ _ _ rfl rfl).and (cz _ _ _ _ _ rfl rfl)).fs;simp only[E0] at S;obtain⟨ob,hob⟩:=S.nm;rw[hob] at S ⊢;clear hob;have S:=ae S
    go_loopw [69] (λi wr=>∃(m:List Bool) (ka:Option Addr) (kc:Nat),m.length<=p4.length/\i=.int .i64 m.length/\Hid (m=(Cu p4).take m.length/\(∀(j:Nat) y,p4[j]? =some y->j<m.length->y<=1)/\∃r,St w none [] [⟨ob,41,6,O6 ⟨⟨(kn:Int),vZ p1,vZ p2,nv,p3,m⟩,a3,c3,ka,kc⟩⟩,r,⟨w.heap.size,41,6,O6 Eh⟩] [⟨4,1,.slice ka m.length kc,m.length,rJ m⟩] (λB w=>qC 5 1 (.slice a3 p3.length c3) p3.length (aQ p3) B w/\qC 5 1 (.slice a4 p4.length c4) p4.length (aQ p4) B w) wr)) (λi _=>p4.length - (intOf i).toNat)
    case atStart=>exact⟨[],none,0,by simp,rfl,ae ⟨rfl,(λj y _ h=>absurd h (ES j)),_,S.o⟩⟩
    case round=>
     clear S;obtain⟨m,ka,kc,hm,rfl,hS⟩:=hrel;obtain⟨hmk,hall,r1,S⟩:=hS.o;clear hS;have HMK:=ae hmk;have HALL:=ae hall;clear hmk hall;by_cases hlt:m.length<p4.length
     . obtain⟨fb,fo,rfl⟩: ∃fb fo,a4=s_ fb fo:=by
        obtain⟨_,_,e1,_,h⟩:=aR S.x.2.1
        grind
       obtain⟨y,hy⟩: ∃y,p4[m.length]? =some y:=⟨_,j4 hlt⟩;have HY:=ae hy;have HC:=ae (show(aQ p4)[m.length]? =some (.int .u8 y) by unfold aQ;rw[tY,hy];rfl);have hpos:0<p4.length:=au;have HMT:=ae (show(Cu p4).take (m.length+1)=m++[decide (y=1)] by
        rw[take_succ,<-HMK.o];unfold Cu;rw[tY,hy];rfl)
       clear hy;by_cases hy1: (1:Int)< (y:Int)
       . obtain rfl:none=T:=by rw[<-HTV.o,aat HY.o au];rfl
         go_wp2_with (first
   |((with_reducible refine pP ?_);refine BN (ar.cellAt S.x.2.1 hpos HC.o) ?_)
   |(refine o7 ?_;exact⟨_,rfl,sj _ _,S.b⟩)
   |refine fN ?_
   |refine ew λW S=>?_)
       obtain⟨q,hq⟩:=cM (decide (y=1));have hq2: ((y:Int)==1)=q:=by
        rw[<-hq]
        grind
       rw[hq] at HMT;clear hq
       go_wp2_with (first
   |(with_reducible refine jl 77 39 76 S 0 5 (.slice ka m.length kc) ?_)
   |((with_reducible refine pP ?_);refine BN (ar.cellAt S.x.2.1 hpos HC.o) ?_)
   |((with_reducible refine j6 80 39 1 ?_);refine blV S [.bool q] underlying39 Zy au au rfl rfl (by intro v hv;simp only[iI,kz,tZ] at hv;rw[hv];rfl) rfl λW S=>?_;replace S:=S.ld (k:=0) rfl (g:=λ_=>.bool q) (λi hi=>by have hi:i<1:=hi;obtain rfl:i=0:=au;rfl))
   |((with_reducible refine bN 81 77 80 ?_);refine lZ S 0 rfl 0 rfl rfl rfl rfl aas (λ_=>rfl) JW BM λg9 c9 W S=>?_)
   |((with_reducible refine aS 39 82 81 ?_);refine gu S 1 rfl 5 (O6 ⟨⟨(kn:Int),vZ p1,vZ p2,nv,p3,m++[q]⟩,a3,c3,s_ g9 0,c9⟩) (λj hj=>by have hj:j<6:=hj;rcases j with(_|_|_|_|_|_|j) <;> first | rfl | omega |(show Value.slice _ _ _=Value.slice _ _ _;simp)) qv rfl rfl rfl Zw λW S=>?_))
       go_roundw
       case rel=>
        refine⟨m++[q],s_ g9 0,c9,by rw[kh];exact hlt,by rw[kh];go_num,ae ⟨?_,λj z hz hj=>?_,r1,?_⟩⟩
        . rw[kh];exact HMT.o.symm
        . rw[kh] at hj;have hj:j<m.length+1:=hj;by_cases hjk:j=m.length
          . subst hjk;rw[HY.o] at hz;cases hz;omega
          . exact HALL.o j z hz au
        . rw[kh,show rJ (m++[q])=rJ m++[.bool q] by unfold rJ;rw[pt];rfl];exact S.pop
       case measure=>exact uO
     . have hml:m.length=p4.length:=au;have hme:m=Cu p4:=by rw[HMK.o,hml,tX];unfold Cu;rw[pr];exact eO _
       have hT9:some (⟨(kn:Int),vZ p1,vZ p2,nv,p3,m⟩:xH)=T:=by
        rw[<-HTV.o,bC,hme];refine Ak.2 λy hy=>ly ?_;obtain⟨j,hj,rfl⟩:=Jo.1 hy;exact HALL.o j _ (j4 hj) au
       obtain rfl:=hT9;have hge: ¬m.length<p4.length:=hlt;clear hml hme HMK HALL;obtain⟨RR,HRR⟩:=BU (ah 6 (O6 ⟨⟨(kn:Int),vZ p1,vZ p2,nv,p3,m⟩,a3,c3,ka,kc⟩))
       go_wp2_with (first|(refine o7 ?_;exact⟨_,rfl,⟨_,rfl,rfl,⟨⟨⟨S.x.1.1,λ_ _ _=>by simp⟩,⟨S.q0,λ_ _ _=>by simp⟩⟩,λ_ b hb=>HSH.o.2.2 b hb,λ_ b hb=>(S.o0.lt b hb).1⟩,HSH.o.1,HB3.o⟩,S.b⟩)|refine fN ?_|refine ew λW S=>?_)
   )
section
variable {l:aK}
theorem St.aau (S:St w0 d l L O X w)(hb:dp w w')(hy:Et w' w.heap.size y):St w0 d l L O (λB w=>X B w/\XP y B w) w':=
 (S.below hb).yu (si y) (hy.x λb h=>S.lt b h)
end
def Q0 (base:Nat) (x:qw):Prop:=(0<x.data.length->∀b,x.dv.ownBlock=some b->base<=b)/\(0<x.bS.length->∀b,x.kv.ownBlock=some b->base<=b)
def UA (m:List qw):aK->aD->Prop:=λB w=>∀x∈m,XP x B w
theorem Ki (m:List qw):Still (UA m):=uz m λx _=>si x
theorem UA.own (h:UA m B w)(hf: ∀x∈m,Q0 base x): ∀x∈m,Et w base x:=λx hx=>⟨(si x).mono (h x hx) fh,hf x hx⟩
theorem Xt (m:List qw)(x:qw):yx (m++[x])=yx m++[x.toxH]:=by grind[yx]
theorem acr (hb: ∀y∈bs,y<256)(h:kx [2] bs=some ns): ∃n:Nat,n<65536/\ns=[n]:=by
 unfold kx at h;split at h
 . cases h;refine⟨_,?_,rfl⟩;have h1:=pJ (bs:=bs.take 2) λy hy=>hb y (rD hy);have h2:256 ^ (bs.take 2).length<=256 ^ 2:=Sx au rE;omega
 . cases h
theorem OC (h:iQ s=some b)(hd: ∀o∈s.ops,∀y∈o.data,y<256): ∀y∈b,y<256:=by
 unfold iQ at h;split at h
 . next hr=>
   have hk:=om hr;refine AU h λt ht=>?_;rcases iI.1 ht with rfl | ht
   . exact lj _ _
   . obtain⟨o,ho,rfl⟩:=lY.1 ht;exact GM (tT (hk.op o ho)) (hd o ho)
 . cases h
theorem DV (bs:aK)(u:bh)(hbl:bs.length<=1000000000)(hby: ∀y∈bs,y<256)(w:aD)(R:ar w 5 1 u bs.length (aQ bs)):
 Calls prog 8 #[u] w λe w'=>∃B,e=.returned (.tuple #[.agg B,.int .i64 (codeF 231 (mN bs))])/\Xs w' w.heap.size B ((mN bs).getD zt.t)/\dp w w':=by
 obtain⟨ua,uc,rfl,huc,-⟩:=aR R;have HR:=ae R;have C1:=ae λW (hb:dp w W)=>xN _ bs au W (ar.iC (HR.o.below hb) hby) ⟨_,_,_,rfl,huc⟩;have S:=ug w;obtain⟨T,hT⟩:=cM (mN bs);have HT:=ae hT;rw[hT];clear hT;go_enter func8,ntmps8;cases hts:np bs with
 | none=>
  obtain rfl:none=T:=by rw[<-HT.o];unfold mN;rw[hts]
  rw[hts] at C1;clear hts
  go_wp2_with (first|(with_reducible first|refine jb 2 32 S Oz mh λW S=>?_|refine js 32 2 30 S 0 mh (kS _) λW S=>?_)|(go_at_call 28;refine(C1.o _ S.b).mono ?_;rintro e W ⟨r,rfl,ho,hb⟩;replace S:=S.below hb;clear hb ho)|((with_reducible refine aY 30 32 ?_);refine ku uh ?_)|((with_reducible refine aJ ?_);go_must (refine bj S 0 rfl rfl rfl LN rfl ?_;exact⟨_,rfl,mu _ _,S.b⟩)))
 | some ts=>
  have hlt:=rA hts hby;rw[hts] at C1;simp only[mb] at C1;by_cases h1:ts.length<1
  . obtain rfl:none=T:=by rw[<-HT.o];unfold mN;rw[hts];simp only[h1,true_or,wz]
    have i1: (ts.length:Int)<1:=au;clear hts
    go_wp2_with (first|(with_reducible first|refine jb 2 32 S Oz mh λW S=>?_|refine js 32 2 30 S 0 mh (kS _) λW S=>?_)|(go_at_call 28;refine(C1.o _ S.b).mono ?_;rintro e W ⟨r,rfl,ho,hb⟩;obtain⟨ra,rc,rfl⟩:=lD ho;replace S:=S.below hb;clear hb ho)|((with_reducible refine aY 30 32 ?_);refine ku uh ?_)|((with_reducible refine aJ ?_);go_must (refine bj S 0 rfl rfl rfl LN rfl ?_;exact⟨_,rfl,mu _ _,S.b⟩)))
  have i1: ¬(ts.length:Int)<1:=au;by_cases h2:201<ts.length
  . obtain rfl:none=T:=by rw[<-HT.o];unfold mN;rw[hts];simp only[h2,or_true,wz]
    have i2: (201:Int)< (ts.length:Int):=au;clear hts
    go_wp2_with (first|(with_reducible first|refine jb 2 32 S Oz mh λW S=>?_|refine js 32 2 30 S 0 mh (kS _) λW S=>?_)|(go_at_call 28;refine(C1.o _ S.b).mono ?_;rintro e W ⟨r,rfl,ho,hb⟩;obtain⟨ra,rc,rfl⟩:=lD ho;replace S:=S.below hb;clear hb ho)|((with_reducible refine aY 30 32 ?_);refine ku uh ?_)|((with_reducible refine aJ ?_);go_must (refine bj S 0 rfl rfl rfl LN rfl ?_;exact⟨_,rfl,mu _ _,S.b⟩)))
  have i2: ¬(201:Int)< (ts.length:Int):=au;have hTT: (match kx [2] (ts.headD []) with | none=>none | some ns=>match iZ (ts.drop 1) with | none=>none | some ops=>match iQ ⟨((ns.getD 0 0:Nat):Int),ops⟩ with | none=>none | some b=>if b=bs then some (⟨((ns.getD 0 0:Nat):Int),ops⟩:sH) else none)=T:=by
   rw[<-HT.o];unfold mN;rw[hts];dsimp only;rw[bX au];first | rfl
  obtain⟨gn,hgn⟩:=cM (kx [2] (ts.headD []));have C2:=ae λv u W hv hu hc=>yC v u [2] (ts.headD []) (by decide) W hv hu hc;rw[hgn] at hTT C2;have hgs: ∀ns,gn=some ns->∃n0,n0<65536/\ns=[n0]:=λns h=>acr (λy hy=>by
   rcases ts with _ | ⟨t,ts⟩
   . cases hy
   . exact hlt t (D0 ..) y hy) (hgn.trans h)
  have HGS:=ae hgs;have HTT:=ae hTT;have HLT:=ae hlt;have HW1:=ae (show ∀y∈aW [2],(Lit.int .i64 y).wf=true by decide);clear hts hlt hTT hgn hgs
  go_upto_region 5 with(first|with_reducible refine jb 2 32 S Oz mh λW S=>?_|(go_at_call 28;refine(C1.o _ S.b).mono ?_;rintro e W ⟨r,rfl,ho,hb⟩;obtain⟨ra,rc,rfl⟩:=lD ho;obtain⟨ps,hps,hsh,S9⟩:=S.GO hb ho;replace S:=S9;clear S9 hb ho;have hpl:ps.length=ts.length:=(by rw[<-hps,pr]);replace S:=S.vP (X':=λB w=>qC 22 1 (.slice ra ts.length rc) ts.length (ps.map Prod.fst) B w/\mS ps B w) (λB w h=>(by rw[<-hpl];rw[<-hpl] at h;exact h.2)) ((cz _ _ _ _ _ rfl rfl).and (ff _)).fs;have HPS:=ae hps;have HSH:=ae hsh;have HPL:=ae hpl;clear hps hsh hpl;obtain⟨rb,ro,rfl⟩: ∃rb ro,ra=some ⟨rb,ro,none⟩:=(by obtain⟨_,_,e1,_,h⟩:=aR S.x.1.1;simp only[mA] at e1;obtain⟨q1,q2,q3⟩:=h au;exact⟨q1,q2,by rw[e1.1];exact q3⟩);obtain⟨v0,p0,qs,hq⟩: ∃v0 p0 qs,ps=(v0,p0)::qs:=(by have:=HPL.o;rcases ps with _ | ⟨⟨v0,p0⟩,qs⟩;simp at this;omega;exact⟨v0,p0,qs,rfl⟩);have HQ:=ae hq;obtain⟨a0,c0,rfl,hc0⟩:=j0 (p:=p0) (S.x.2 (v0,p0) (by rw[hq];simp));clear hq)|((with_reducible refine j6 32 81 1 ?_);refine eY S .i64 (aW [2]) um lH au au rfl rfl rfl λW S=>?_)|((with_reducible refine pP ?_);refine BN (ar.cellAt S.x.1.1 (j:=0) au (by rw[HQ.o];rfl)) ?_)|(go_at_call 29;refine(C2.o _ _ _ (br.row S.k0 rfl (show(1:Nat)<=_ by omega) HW1.o) (by have h9:=ar.iC (S.x.2 (.slice a0 p0.length c0,p0) (by rw[HQ.o];simp)).1 (HLT.o p0 (by rw[<-HPS.o,HQ.o];simp));rw[<-HPS.o,HQ.o];exact h9) ⟨_,_,_,rfl,hc0⟩).mono ?_;rintro e W ⟨r,rfl,ho,hb⟩;obtain⟨na,nc,rfl⟩:=aH ho;replace S:=S.ti hb ho rfl rfl;clear ho hb))
  cases gn with
  | none=>
   obtain rfl:none=T:=HTT.o
   go_wp2_with (first|with_reducible refine js 32 2 41 S 1 mh (kS _) λW S=>?_|((with_reducible refine aY 41 32 ?_);refine ku uh ?_)|((with_reducible refine aJ ?_);go_must (refine bj S 1 rfl rfl rfl LN rfl ?_;exact⟨_,rfl,mu _ _,S.b⟩)))
  | some ns=>
   obtain⟨n0,hn0,rfl⟩:=HGS.o ns rfl;simp only[mb] at S ⊢;have hN:ts.length - 1=qs.length:=by have:=HPL.o;rw[HQ.o] at this;simp at this;omega
   have hq32:qs.length<=200:=au;have h1l:1<=ts.length:=au;have hdr: (ts.drop 1)=qs.map Prod.snd:=by rw[<-HPS.o,HQ.o];rfl
   have hTT2: (match iZ (qs.map Prod.snd) with | none=>none | some ops=>match iQ ⟨(n0:Int),ops⟩ with | none=>none | some b=>if b=bs then some (⟨(n0:Int),ops⟩:sH) else none)=T:=by
    rw[<-hdr];exact HTT.o
   have HTT2:=ae hTT2;have HTS:=ae (show ∀p∈qs,kV p.1/\p.2.length<=65535/\(∀y∈p.2,y<256) from λp hp=>by
    have h9:p∈ps:=by rw[HQ.o];exact yz _ hp
    exact⟨(HSH.o p h9).1,(HSH.o p h9).2.1,HLT.o p.2 (by rw[<-HPS.o];exact lY.2 ⟨p,h9,rfl⟩)⟩)
   obtain⟨nb,no,rfl⟩: ∃nb no,na=some ⟨nb,no,none⟩:=by
    obtain⟨_,_,e1,_,h⟩:=aR S.x.2.1;simp only[mA] at e1;obtain⟨q1,q2,q3⟩:=h fh;exact⟨q1,q2,by rw[e1.1];exact q3⟩
   have hwn:IntKind.i64.wrap (n0:Int)=(n0:Int):=mT _ au;clear hdr hTT2
   go_upto_region 9 with(first|(with_reducible first|refine jb 7 32 S Oz mh λW S=>?_|refine js 32 7 46 S 0 rfl (kS _) λW S=>?_)|((with_reducible refine pP ?_);refine BN (ar.cellAt S.x.2.1 (j:=0) fh rfl) ?_)|((with_reducible refine aY 46 32 ?_);refine eW (cells:=ah 2 (uM ⟨(n0:Int),[],none,0⟩)) rfl cm ?_)|((with_reducible refine ej 48 75 47 ?_);refine qn Ww rfl rfl h1l ?_;obtain⟨md,hmd⟩:=cM (fD (some ⟨rb,ro,none⟩) rc 1 1);replace S:=S.vP (X':=λB w=>(qC 22 1 (.slice md qs.length (rc - 1)) qs.length (qs.map Prod.fst) B w/\mS qs B w)/\UA [] B w) (λB w h=>⟨⟨by have h9:=NL h.1.1 h1l;rw[hmd,hN,HQ.o] at h9;exact h9,λp hp=>h.1.2 p (by rw[HQ.o];exact yz _ hp)⟩,λx hx=>by cases hx⟩) (((cz _ _ _ _ _ rfl rfl).and (ff _)).and (Ki _)).fs;rw[hmd,hN];clear hmd))
   simp only[E0] at S;replace S:=S.yK 41 6 rfl rfl;obtain⟨SB,hSB⟩:=S.nm;rw[hSB] at S ⊢;clear hSB;have HST:=ae ((cz 22 1 (.slice md qs.length (rc - 1)) qs.length (qs.map Prod.fst) rfl rfl).and (ff qs));have S:=ae S;clear hN
   go_loopw [50] (λkv wr=>∃(k:Nat) (m:List qw) (oa:Option Addr) (oc:Nat),k<=qs.length/\kv=.int .i64 k/\Hid (iZ ((qs.map Prod.snd).take k)=some (yx m)/\m.length=k/\(∀x∈m,Q0 w.heap.size x)/\(∀x∈m,q7 x)/\
    ∃r1,St w none [] [⟨SB,32,2,uM ⟨(n0:Int),m,oa,oc⟩⟩,r1,⟨w.heap.size,32,2,uM zt⟩] [⟨41,6,.slice oa m.length oc,m.length,YX m⟩] (λB w=>(qC 22 1 (.slice md qs.length (rc - 1)) qs.length (qs.map Prod.fst) B w/\mS qs B w)/\UA m B w) wr)) (λkv _=>qs.length - (intOf kv).toNat)
   case atStart=>exact⟨0,[],none,0,au,rfl,ae ⟨rfl,rfl,(by intro x hx;cases hx),(by intro x hx;cases hx),_,S.o⟩⟩
   case round=>
    clear S;obtain⟨k,m,oa,oc,hk,rfl,hS⟩:=hrel;obtain⟨hpa,hmk,hfm,hdm,r1,S⟩:=hS.o;clear hS;have HPA:=ae hpa;have HFM:=ae hfm;have HDM:=ae hdm;have HMK:=ae hmk;have hm32:m.length<=200:=au;clear hpa hfm hdm hmk;by_cases hlt:k<qs.length
    . obtain⟨⟨vk,pk⟩,hpk⟩: ∃p,qs[k]? =some p:=⟨_,j4 hlt⟩;have hmem:=nf hpk;obtain⟨hs1,hs2,hs3⟩:=HTS.o _ hmem;simp only at hs1 hs2 hs3;obtain⟨ak,ck,rfl,hck⟩:=j0 (p:=pk) (S.x.1.2 (vk,pk) hmem);obtain⟨lb,lo,rfl⟩: ∃lb lo,md=some ⟨lb,lo,none⟩:=by
       obtain⟨_,_,e1,_,h⟩:=aR S.x.1.1.1;simp only[mA] at e1;obtain⟨q1,q2,q3⟩:=h au;exact⟨q1,q2,by rw[e1.1];exact q3⟩
      have HCELL:Hid ((qs.map Prod.fst)[k]? =some (.slice ak pk.length ck)):=ae (by rw[tY,hpk];rfl);obtain⟨rp,hrp⟩:=cM (mW pk);have C5:=ae λu W hu hc=>QZ pk u au W hu hc;rw[hrp] at C5;have hstep:iZ ((qs.map Prod.snd).take (k+1))=rp.bind λs=>some (yx m++[s]):=by
       have h9: (qs.map Prod.snd).take (k+1)=(qs.map Prod.snd).take k++[pk]:=by
        rw[take_succ,tY,hpk];rfl
       rw[h9,I3,HPA.o,<-hrp];simp only;cases mW pk <;> rfl
      have HSTEP:=ae hstep;have HS3:=ae hs3;have HMEM:=ae hmem;clear hstep hrp hpk hs1 hs3 hmem;cases rp with
      | none=>
       obtain rfl:none=T:=by rw[<-HTT2.o,I4 HSTEP.o]
       go_wp2_with (first|(with_reducible first|refine jb 10 41 S zeroValue41 vf λW S=>?_|refine js 41 10 57 S 0 HB.o (ui _) λW S=>?_|refine js 32 2 61 S 3 mh (kS _) λW S=>?_)|((with_reducible refine pP ?_);refine BN (ar.cellAt S.x.1.1.1 au HCELL.o) ?_)|(go_at_call 30;refine(C5.o _ _ (ar.iC (S.x.1.2 (.slice ak pk.length ck,pk) HMEM.o).1 HS3.o) ⟨_,_,_,rfl,hck⟩).mono ?_;rintro e W ⟨B,rfl,⟨y,hB,hy,ho,hd⟩,hb⟩;have HB:=ae hB;replace S:=S.below hb;clear hb hB hy ho hd)|((with_reducible refine aY 61 32 ?_);refine ku uh ?_)|((with_reducible refine aJ ?_);go_must (refine bj S 3 rfl rfl rfl LN rfl ?_;exact⟨_,rfl,mu _ _,S.b⟩)))
      | some s=>
       simp only[mb] at C5
       go_wp2_with (first|(with_reducible first|refine jl 63 30 62 S 1 1 (.slice oa m.length oc) ?_|refine jr 64 41 10 S 0 HB.o ?_)|(with_reducible first|refine jb 10 41 S zeroValue41 vf λW S=>?_|refine js 41 10 57 S 0 HB.o (ui _) λW S=>?_)|((with_reducible refine pP ?_);refine BN (ar.cellAt S.x.1.1.1 au HCELL.o) ?_)|(go_at_call 30;refine(C5.o _ _ (ar.iC (S.x.1.2 (.slice ak pk.length ck,pk) HMEM.o).1 HS3.o) ⟨_,_,_,rfl,hck⟩).mono ?_;rintro e W ⟨B,rfl,⟨y,hB,hy,ho,hd⟩,hb⟩;have HB:=ae hB;have HY:=ae hy;have HDY:=ae hd;have HFy:=ae (show Q0 w.heap.size y from⟨λhn b hb=>kL S.fr.size (ho.2.1 hn b hb),λhn b hb=>kL S.fr.size (ho.2.2 hn b hb)⟩);replace S:=S.aau hb ho;clear hb hB hy ho hd)|((with_reducible refine jZ 65 30 64 ?_);refine rR S rfl HB.o TG au rfl λW S=>?_)|((with_reducible refine bN 66 63 65 ?_);refine lZ S 0 rfl 0 rfl rfl rfl rfl TG (ui _) JW BM λg9 c9 W S=>?_)|((with_reducible refine aS 30 67 66 ?_);refine gu S 2 rfl 1 (uM ⟨(n0:Int),m++[y],some ⟨g9,0,none⟩,c9⟩) (λj hj=>by have hj:j<2:=hj;rcases j with(_|_|j) <;> first | rfl | omega |(show Value.slice _ _ _=Value.slice _ _ _;simp)) qv rfl rfl rfl Ht λW S=>?_))
       go_roundw
       case rel=>
        refine⟨k+1,m++[y],some ⟨g9,0,none⟩,c9,au,by go_num,ae ⟨?_,by rw[kh,HMK.o];rfl,λx hx=>?_,λx hx=>?_,r1,?_⟩⟩
        . rw[HSTEP.o,Xt,HY.o];rfl
        . rcases jn.1 hx with h | h
          . exact HFM.o x h
          . rw[gz.1 h];exact HFy.o
        . rcases jn.1 hx with h | h
          . exact HDM.o x h
          . rw[gz.1 h];exact HDY.o
        . rw[kh,Xq];have S:=S.pop.pop;refine S.vP (λB w h=>⟨h.1.1,λx hx=>?_⟩) (HST.o.and (Ki _)).fs;rcases jn.1 hx with h2 | h2
          . exact h.1.2 x h2
          . rw[gz.1 h2];exact h.2
       case measure=>simp[intOf];omega
    . obtain rfl:k=qs.length:=au;have hpa:=HPA.o;rw[tX (by rw[pr];exact eO _)] at hpa;obtain⟨eb,heb⟩:=cM (iQ ⟨(n0:Int),yx m⟩);have hT3: (eb.bind λb=>if b=bs then some (⟨(n0:Int),yx m⟩:sH) else none)=T:=by rw[<-HTT2.o,hpa,<-heb];simp only;cases iQ ⟨(n0:Int),yx m⟩ <;> rfl
      obtain⟨A,hA⟩:=gq (ah 2 (uM ⟨(n0:Int),m,oa,oc⟩));have C6:=ae λW R=>LO ⟨(n0:Int),m,oa,oc⟩ A hA (show m.length<=1000000 by omega) HDM.o W R;rw[show(q8.t ⟨(n0:Int),m,oa,oc⟩)=⟨(n0:Int),yx m⟩ from rfl,heb] at C6;have HT3:=ae hT3;have HA:=ae hA;have HEB:=ae (show ∀b,eb=some b->∀y∈b,y<256 from λb hb=>OC (heb.trans hb) λo ho y hy=>by obtain⟨x,hx,rfl⟩:=lY.1 ho;exact(HDM.o x hx).2 y hy);clear hpa heb hT3 hA;cases eb with
      | none=>
       obtain rfl:none=T:=HT3.o
       go_wp2_with (first|(with_reducible refine jr 70 32 7 S 0 HA.o ?_)|with_reducible refine js 32 2 82 S 2 mh (kS _) λW S=>?_|(go_at_call 31;refine(C6.o _ ⟨⟨S.q0,λ_ _ _=>by simp⟩,λx hx=>(si x).mono (S.x.2 x hx) fh⟩).mono ?_;rintro e W ⟨r,rfl,ho,hb⟩;replace S:=S.below hb;clear hb ho)|((with_reducible refine aY 82 32 ?_);refine ku uh ?_)|((with_reducible refine aJ ?_);go_must (refine bj S 2 rfl rfl rfl LN rfl ?_;exact⟨_,rfl,mu _ _,S.b⟩)))
      | some b=>
       have C7:=ae λv W R1 R2=>r5 v (.slice ua bs.length uc) b bs 5 5 b.length bs.length (HEB.o b rfl) hby W R1 R2;obtain⟨eq,heq⟩:=cM (decide (b=bs));rw[heq] at C7;have HEQ:=ae heq;clear heq;cases eq with
       | false=>
        obtain rfl:none=T:=by rw[<-HT3.o];simp only[EX];rw[bX (wx HEQ.o)]
        go_wp2_with (first|(with_reducible refine jr 70 32 7 S 0 HA.o ?_)|with_reducible refine js 32 2 82 S 2 mh (kS _) λW S=>?_|(go_at_call 31;refine(C6.o _ ⟨⟨S.q0,λ_ _ _=>by simp⟩,λx hx=>(si x).mono (S.x.2 x hx) fh⟩).mono ?_;rintro e W ⟨r,rfl,ho,hb⟩;replace S:=S.cU hb ho rfl rfl;clear hb ho)|(go_at_call 32;refine(C7.o _ _ S.q0 (HR.o.below S.b)).mono ?_;rintro e W ⟨rfl,rfl⟩)|((with_reducible refine aY 82 32 ?_);refine ku uh ?_)|((with_reducible refine aJ ?_);go_must (refine bj S 2 rfl rfl rfl LN rfl ?_;exact⟨_,rfl,mu _ _,S.b⟩)))
       | true=>
        obtain rfl:some (⟨(n0:Int),yx m⟩:sH)=T:=by rw[<-HT3.o];simp only[EX];rw[bC (lK HEQ.o)]
        go_wp2_with (first|(with_reducible first|refine jr 70 32 7 S 0 HA.o ?_|refine jr 83 32 7 S 0 HA.o ?_)|with_reducible refine js 32 2 83 S 2 HA.o (kS _) λW S=>?_|(go_at_call 31;refine(C6.o _ ⟨⟨S.q0,λ_ _ _=>by simp⟩,λx hx=>(si x).mono (S.x.2 x hx) fh⟩).mono ?_;rintro e W ⟨r,rfl,ho,hb⟩;replace S:=S.cU hb ho rfl rfl;clear hb ho)|(go_at_call 32;refine(C7.o _ _ S.q0 (HR.o.below S.b)).mono ?_;rintro e W ⟨rfl,rfl⟩)|((with_reducible refine aJ ?_);go_must (refine bj S 2 rfl rfl rfl LN rfl ?_;exact⟨_,rfl,⟨⟨(n0:Int),m,oa,oc⟩,rfl,rfl,S.o1,λx hx=>⟨UA.own S.x.2 HFM.o x hx,HDM.o x hx⟩⟩,S.b⟩)))
theorem rd3 {i j:Nat}{o o' o2:Oper}(hr:Region.ready .any ops listed=[i,j,k])(ho:ops[i]? =some o)(ho':ops[j]? =some o')(ho2:ops[k]? =some o2)(hw:Region.wanted o (yielded ops a.tmps)=true)(hw':Region.wanted o' (yielded ops a.tmps)=true)(hw2:Region.wanted o2 (yielded ops a.tmps)=true)(h: ∀K,Shut (∀a w,SS w->(SS w->wpAnyH P .any ops Q SS fuel (listed.setIfInBounds i true) a w)->K a w)->o.wp P a w K Q)(h': ∀K,Shut (∀a w,SS w->(SS w->wpAnyH P .any ops Q SS fuel (listed.setIfInBounds j true) a w)->K a w)->o'.wp P a w K Q)(h2: ∀K,Shut (∀a w,SS w->(SS w->wpAnyH P .any ops Q SS fuel (listed.setIfInBounds k true) a w)->K a w)->o2.wp P a w K Q):wpAnyH P .any ops Q SS (fuel+1) listed a w:=
 wpAnyH_ready hr fh (AllReadyH.cons ho (λK hK=>by grind) (AllReadyH.cons ho' (λK hK=>by grind) (AllReadyH.cons ho2 (λK hK=>by grind) .nil)))
theorem UB (G D M:Nat)(g:dK)(s:Pl)(ht:ct g.b.t)(full:lf)(hfu:full.size<=1000000)(c1:Nat)(w:aD)(h:bw w G g D M s)(hc1:ag w c1 9 1 (λ_=>.string full)):
 Calls prog 100 (#[.agg (ah 1 λ_=>.pointer (some ⟨G,0,none⟩))]++ #[.pointer (some ⟨c1,0,none⟩)]) w λe w'=>sd w w' G D M g (zi full (g.gt s)) e:=by
 show Calls prog 100 #[.agg (ah 1 λ_=>bZ G 0),bZ c1 0] w _;obtain⟨A,hA⟩:=gq (ah 1 (λ_=>bZ G 0));rw[<-hA];have HA:=ae hA;have S:=St.start w (some D) [G,M,g.P] (c8 G g D M s) h.x;have C2:=ae λW (X:bw W G g D M s)=>gh G D M g s ht.fit W X;have C3:=ae λ(c:bx) (B:iw) (hB:B=ah 2 (bg c)) (hc:c.t=g.b.t) W (R:dN W c)=>(show Calls prog 101 #[.agg B,.string full] W λe w'=>∃B D,e=.returned (.tuple #[.agg B,.agg D,.int .i64 (jE g.b.t full).2.2])/\gF w' W.heap.size B (jE g.b.t full).1/\rX w' W.heap.size D (jE g.b.t full).2.1/\dp W w' from by rw[<-hc];exact K3 c B hB (by rw[hc];exact ht.fit) full hfu W R);obtain⟨htr,hts⟩:=zd ht full;have HK:=ae (show zi full (g.gt s)=xz (g.gt s) (jE g.b.t full) from rfl);obtain⟨T,hT⟩:=cM (zi full (g.gt s));obtain⟨r,hr⟩:=cM (jE g.b.t full);rw[hT,hr] at HK;rw[hT];rw[hr] at C3 htr hts;obtain⟨b2,t2,c⟩:=r;simp only at C3 htr hts;unfold xz at HK;simp only at HK;have C4:=ae λ(c2:bx) (B:iw) (hB:B=ah 2 (bg c2)) (hc:c2.t=b2) (y:aZ) (A9:iw) (hA9:A9=ah 11 (dy y)) (hy:y.tocu=t2) W X R=>zj G D M g s ht c2 B hB (by rw[hc];exact htr.fit) y A9 hA9 (by have h1:=hts.2.2.1;rw[<-hy] at h1;exact h1) A hA W X R;have Hc1:=ae hc1;clear h hA ht hT hr htr hts hc1;go_enter func100,ntmps100
 go_upto_region 1 with(refine ew λW S=>?_)
 refine bf S cm [⟨w.heap.size,118,1,λ_=>bZ G 0⟩] L9 λW S=>?_;refine bp 0 8 (bZ w.heap.size 0) ?_;refine bp 1 9 (bZ G 0) ?_;refine gY 3 11 (.string full) rfl (bP (λw h=>ag.cell (ag.fr Hc1.o h.fr (.inr rfl) (.inl rfl)) (i:=0) au) rfl pY) ?_
 all_goals (first |(refine rd3 (i:=2) (j:=9) (k:=10) dk_ rfl rfl rfl cm cm cm (λK hK=>?_) (λK hK=>?_) (λK hK=>?_)))
 all_goals (first|(go_wp2_with fail;refine JZ S (C2.o _ S.x.at) λW B c1 HB HC _ S=>?_;refine gM hK ?_)|(refine bG S yo dM rfl λE4 W S=>?_;refine gM hK ?_)|(refine bG S Er cO rfl λE5 W S=>?_;refine gM hK ?_))
 all_goals (clear hK K)
 all_goals (first |(refine rd3 (i:=4) (j:=9) (k:=10) dk_ rfl rfl rfl cm cm cm (λK hK=>?_) (λK hK=>?_) (λK hK=>?_)) |(refine JV 2 10 (λK hK=>?_) λK hK=>?_) |(refine JV 2 9 (λK hK=>?_) λK hK=>?_))
 all_goals (first|(go_wp2_with fail;refine(C3.o c1 B HB.o HC.o _ ⟨S.q0,λx hx=>(S.x.2 x hx).1⟩).mono ?_;rintro e W ⟨B2,D2,rfl,⟨c2,hB,hc,ho⟩,⟨y2,hD,hy,-⟩,hb⟩;have HB2:=ae hB;have HC2:=ae hc;have HD2:=ae hD;have HY2:=ae hy;replace S:=S.bB hb ho;clear hB hc hD hy;refine gM hK ?_)|(refine bG S yo dM rfl λE4 W S=>?_;refine gM hK ?_)|(refine bG S Er cO rfl λE5 W S=>?_;refine gM hK ?_)|(go_wp2_with fail;refine JZ S (C2.o _ S.x.at) λW B c1 HB HC _ S=>?_;refine gM hK ?_))
 all_goals (clear hK K)
 all_goals (try (refine qK 5 7 _ ?_))
 all_goals (try (refine qK 6 13 (.agg B2) ?_))
 all_goals (try (refine qK 7 14 (.agg D2) ?_))
 all_goals (try (refine qK 8 15 (.int .i64 c) ?_))
 all_goals (first |(refine JV 9 10 (λK hK=>?_) λK hK=>?_) |(refine JV 4 10 (λK hK=>?_) λK hK=>?_) |(refine JV 4 9 (λK hK=>?_) λK hK=>?_) |(refine tF 2 λK hK=>?_))
 all_goals (first|(refine bG S yo dM rfl λE4 W S=>?_;refine gM hK ?_)|(refine bG S Er cO rfl λE5 W S=>?_;refine gM hK ?_)|(go_wp2_with fail;refine(C3.o c1 B HB.o HC.o _ ⟨S.q0,λx hx=>(S.x.2 x hx).1⟩).mono ?_;rintro e W ⟨B2,D2,rfl,⟨c2,hB,hc,ho⟩,⟨y2,hD,hy,-⟩,hb⟩;have HB2:=ae hB;have HC2:=ae hc;have HD2:=ae hD;have HY2:=ae hy;replace S:=S.bB hb ho;clear hB hc hD hy;refine gM hK ?_)|(go_wp2_with fail;refine JZ S (C2.o _ S.x.at) λW B c1 HB HC _ S=>?_;refine gM hK ?_))
 all_goals (clear hK K)
 all_goals (try (refine qK 5 7 _ ?_))
 all_goals (try (refine qK 6 13 (.agg B2) ?_))
 all_goals (try (refine qK 7 14 (.agg D2) ?_))
 all_goals (try (refine qK 8 15 (.int .i64 c) ?_))
 all_goals (first |(refine tF 10 λK hK=>?_) |(refine tF 9 λK hK=>?_) |(refine tF 4 λK hK=>?_))
 all_goals (first|(refine bG S Er cO rfl λE5 W S=>?_;refine gM hK ?_)|(refine bG S yo dM rfl λE4 W S=>?_;refine gM hK ?_)|(go_wp2_with fail;refine(C3.o c1 B HB.o HC.o _ ⟨S.q0,λx hx=>(S.x.2 x hx).1⟩).mono ?_;rintro e W ⟨B2,D2,rfl,⟨c2,hB,hc,ho⟩,⟨y2,hD,hy,-⟩,hb⟩;have HB2:=ae hB;have HC2:=ae hc;have HD2:=ae hD;have HY2:=ae hy;replace S:=S.bB hb ho;clear hB hc hD hy;refine gM hK ?_))
 all_goals (clear hK K)
 all_goals (try (refine qK 5 7 _ ?_))
 all_goals (try (refine qK 6 13 (.agg B2) ?_))
 all_goals (try (refine qK 7 14 (.agg D2) ?_))
 all_goals (try (refine qK 8 15 (.int .i64 c) ?_))
 all_goals (first |(refine tF 11 λK hK=>?_))
 all_goals (first|((first |(refine dL S 0 rfl rfl rfl HB2.o fe (aT _) λW S=>?_) |(refine dL S 1 rfl rfl rfl HB2.o fe (aT _) λW S=>?_));refine gM hK ?_))
 all_goals (clear hK K)
 all_goals (first |(refine tF 12 λK hK=>?_))
 all_goals (first|((first |(refine dL S 0 rfl rfl rfl HD2.o fQ (cy _) λW S=>?_) |(refine dL S 1 rfl rfl rfl HD2.o fQ (cy _) λW S=>?_));refine gM hK ?_))
 all_goals (clear hK K)
 all_goals (refine bp 13 6 _ ?_)
 all_goals (refine uy ?_)
 all_goals (
  first |(replace S:St w (some D) [G,M,g.P] [⟨E5,109,11,dy y2⟩,⟨E4,99,2,bg c2⟩,⟨w.heap.size,118,1,λ_=>bZ G 0⟩] _ _ _:=S) |(replace S:St w (some D) [G,M,g.P] [⟨E5,109,11,dy y2⟩,⟨E4,99,2,bg c2⟩,⟨w.heap.size,118,1,λ_=>bZ G 0⟩] _ _ _:=S.WM)
  by_cases g2:c=0
  case neg=>
   have g3: (c != 0)=true:=lh.2 g2;rw[bC g2] at HK;clear g2;go_wp2;go_ret;rw[HK.o];exact⟨g,s,rfl,rfl,S.x.1.1.at,rfl,id,S.fr⟩
  subst g2;rw[bX (show ¬((0:Int)≠0) from λh=>h rfl),<-HC2.o,<-HY2.o] at HK
  go_wp2_with (first|(go_at_call 65;refine(C4.o c2 B2 HB2.o HC2.o y2 D2 HD2.o HY2.o _ S.x.1.1.at ⟨S.q0,λx hx=>(S.x.2 x hx).1⟩).mono ?_;rintro e W hK;have HKR:=ae hK;clear hK;obtain⟨g3,s3,rfl,hP,hg,hgt3,hpp,hf⟩:=HKR.o;clear HKR;have hF:=S.fr.step hf (λD e=>e) (λk hk=>.inl hk);have HR:=ae (And.intro hP (And.intro hg (And.intro hgt3 hpp)));clear hP hg hgt3 hpp;rw[<-HK.o])|refine fN ?_)
  go_ret;obtain⟨hP,hg,hgt3,hpp⟩:=HR.o;rw[<-HK.o] at hgt3;exact⟨g3,s3,rfl,hP,hg,hgt3,hpp,hF⟩)
end Go.Proofs.YtklligbjoplbgaaGreat
