/- Part 4 of the proof of WholeReturns. No conditions. -/
import Derived.Test.YtklligbjoplbgaaGreatNac
import Derived.Deep.DeepMust
import Derived.BigRegion
import Derived.Deep.MidRow
import Derived.Deep.QuietTactic
import Derived.BigQuiet
import Derived.DeepKeys
set_option linter.all false
namespace Go.Proofs.YtklligbjoplbgaaGreat
set_option maxRecDepth 100000
set_option maxHeartbeats 64000000
open Go.RowKit Lib List Nat _root_.Go.Proofs.Tryz
variable {A:fJ}{a:Act}{af:Array Edge}{ops:Array Oper}{ts:Array dC}{R:Ending->cB->Prop}{Q:Exit->Act->cB->Prop}{fn:Func}{h h5:Head}{B bs l2 s:cD}{X X':cD->cB->Prop}{ps:List (Nat×cD)}{fV:List Bool}{rest:List Oper}{xs xs':List cI}{D E M b base c i j k m n o size sz z:Nat}{nw:Nat->cD}{mp rm st:Nat->Nat}{l:Nat->cy}{f g:Nat->cI}{op:Oper}{q:Operand}{d d2:Option Nat}{P:kS}{cz:cy}{p:String}{T e t t2:dC}{α:Type}{v v':cI}{w w' w0 w5:cB}{S:cB->Prop}
def wE.ahL{st e c:Nat->cD}{d:List (Nat×cD)}(m:wE w5 D h h5 st nw ps w)(a:mV w D h e c d){l:List Bool}(i:KH w v l):KH w5 v l:=
 cK.fV i λb f=>m.oQ.block b (gr f) λg=>by
  have⟨t,ht,hd⟩:=a.abn b g;rw[f] at ht;cases ht;exact absurd hd jR
theorem wE.Vh{st:Nat->cD}(m:wE w5 D h h5 st nw ps w)(c:h.sb≠h.nb):
 wE (w5.setRow h.nb (ct (h.n*128) (Du st))) D h h5 st st ps w:=by have a:iU h.nb w5 (w5.setRow h.nb (ct (h.n*128) (Du st))):=⟨ae,ae,ae,by simp_all,λk d b=>setRow_other w5 h.nb k _ b⟩;refine⟨?_,?_,cu.setRow m.kz _,?_,?_,m.dns,m.dnn,m.pnn⟩;unfold jJ cu;rw[a.block D m.head.lt m.dnn];exact m.head;unfold jS cu;rw[a.block h.sb m.ki.lt c];exact m.ki;exact pL m.vj (qU m.vj (cu.ty m.kz) jR) a;exact⟨a.os.trans m.oQ.os,a.tape.trans m.oQ.tape,a.output.trans m.oQ.output,gO m.oQ.size a.size,λk d b=>(a.block k (oS d m.oQ.size) (λe=>b (by grind[fi]))).trans (m.oQ.block k d b)⟩
def Vp(v:cI)(l:List Int)(w:cB)(K:dR .i64 w v l):
 CP_ 91 #[v] w λe w'=>∃v',e=.returned v'/\mT w' w.heap.size v' (gG (nA l))/\dz w w':=by
 obtain⟨L,cap,rfl,y,_,hc⟩:=K;have z:=cq hc;clear hc;have g:=cu.alloc w 249 4096 (gF λ_=>false);rw[<-Xf] at g;have p:dz w (w.alloc (.cells zeroCells249 249)):=(fO _ _).alloc (dK _) _;go_enter func91,ntmps91;go_wp2_with (fail);have⟨W,hW⟩:=eW (w.alloc (.cells zeroCells249 249));rw[<-hW] at g p|-;have J:W.heap.size=w.heap.size+1:=by rw[hW];simp
 have D:Below (w.heap.size+1) W W:=fO _ _;clear hW
 go_loopw [8] (λi wr=>∃(k:Nat),k<=l.length/\i=.int .i64 k/\cu wr w.heap.size 249 4096 (gF (nA (l.take k)))/\dz w wr)
  (λi _=>l.length-(intOf i).toNat)
 exact⟨0,fN _,ae,g.congr (λi _=>by simp[gF,nA]),p⟩;obtain⟨k,N,rfl,a,hbel⟩:=hrel;by_cases d:k<l.length
 . obtain⟨b,o,rfl,s,c⟩:=z.o (by intro h;simp[h] at d);have C:=Yq s c hbel d;clear c;by_cases f:0<=l[k]/\l[k]<4096
   . obtain⟨n,x⟩:∃n:Nat,l[k]=(n:Int):=⟨l[k].toNat,cw⟩;have A:=cq x;rw[x] at C f;clear x;have t:=a.cell (i:=n) cw;have E:=a.frozen n;simp only[gF] at t;have G:(n:Int)<(4096:Int):=cw;have F:(0:Int)<=(n:Int):=cw;go_wp2;go_roundw;refine⟨k+1,cw,by go_num,a.Fl n true (λj u=>?_),hbel.setCell (dK _) _⟩;rw[Eo d,A.o];by_cases q:j=n;subst q;simp;rw[cM q,iC cw,Bool.or_false];exact oV
   . (have m:Hid (∀j,j<4096->nA (l.take (k+1)) j=nA (l.take k) j):=by intro j u;rw[Eo d,iC cw,Bool.or_false]);by_cases B:0<=l[k];have M:¬l[k]<4096:=λh=>f ⟨B,h⟩;rotate_left
     all_goals
      clear f;go_wp2;go_roundw
      case rel=>exact⟨k+1,cw,by go_num,a.congr (λj u=>by simp only[gF];rw[m.o j u]),hbel⟩
      case measure=>exact oV
 . have H:Hid (l.take k=l):=nz cw;rw[H.o] at a;go_wp2_with (go_at_call 158;refine(NX _ _ _ a).mono ?_;rintro e O ⟨v',rfl,I,r⟩);go_ret;exact⟨_,ae,I.mono hbel.size,Below.step hbel hbel.size r⟩
section
attribute[local irreducible]wpList Code.wp Calls Oper.wp wpAnyH
def YS(D:Nat)(h:Head)(st nw:Nat->cD)(ps:List (Nat×cD))(fV:List Bool)(v:cI)(e4:ps.length<=1000000000)(w:cB)(a:mV w D h st nw ps)(hv:KH w v fV):
 CP_ 16 #[.pointer (some ⟨D,0,none⟩),v] w λe w'=>e=.returned (.tuple #[])/\mV w' D {h with pv:=.slice none 0 0,left:=-1,cO:=false} (rh st fV 0 ps) (rh st fV 0 ps) []/\sI w.heap.size (fi D h) w w':=by
 obtain⟨bo,e5,rfl,O,b7,-⟩:=cK.form hv;have hm:=a.mid a.head (iU.refl D w) ae;obtain⟨ao,cap,d2,b8,e2⟩:=Oc hm.vj;have c2:=hm.head.cells.2.2.1;rw[d2] at c2;obtain⟨y,d5⟩:=c8 h.sb;obtain⟨H,d1⟩:=c8 h.nb;obtain⟨f,a8⟩:=c8 h.n;obtain⟨L,hL⟩:=c8 ps.length;obtain⟨M,hM⟩:=c8 fV.length;rw[hL] at c2 b8 e4;rw[hM] at O b7;have b9:=a.pK;rw[a8] at b9;have t:=cq d5;clear d5;have N:=cq d1;clear d1;have n:=cq a8;clear a8;have X:=cq hL;clear hL;rw[hM];have Y:=cq hM;clear hM;unfold maxLen at b7;go_enter func16,ntmps16
 go_wp2_with fail
 go_loopw [11] (λc wr=>∃k:Nat,k<=L/\c=.int .i64 k/\Hid (wE wr D h h (rh st fV 0 (ps.take k)) nw ps w)) (λc _=>L-(intOf c).toNat)
 case atStart=>exact⟨0,fN _,ae,hm⟩
 case round=>
  obtain⟨k,hk,rfl,hrel⟩:=hrel;by_cases c6:k<L
  . obtain⟨g,hg⟩:=e2 k (by rw[X.o];exact c6);subst hg;have a6:k<ps.length:=by rw[X.o];exact c6
    obtain⟨p,hp⟩:=c8 (ps[k]);have x:=hrel.o.vj;rw[d2] at x;have G:=KG x a6;have m:=Vg st fV ps a6;have a5:=a.inside p (by rw[<-hp];exact lU a6);rw[hp] at G m;rw[n.o] at a5;obtain⟨i,s⟩:=p;simp only at G m a5;have a2:=cq m;clear m;clear hp x;obtain⟨A,hA⟩:=eW (ct 129 (Ro i s));rw[<-hA] at G;have b4:A.toList.length=129:=by rw[hA,mq,cF]
    have b1:=cq hA;clear hA;have a1:=cq G;clear G;have l:=cq b4;clear b4;obtain⟨W6,h6⟩:=eW ((wr.alloc (.cells zeroCells129 129)).setRow wr.heap.size A);have Q:cu W6 wr.heap.size 129 129 (Ro i s):=by
     rw[h6,b1.o];exact setRow_heap _ _ _ _ _ _ (zq _ _)
    have d8:dz wr W6:=by rw[h6];exact alb
    have H6:=cq h6;clear h6;have F:=hrel.o.cx d8;have b3:=F.head.cells.1;rw[t.o,n.o] at b3;have d4:y≠wr.heap.size:=by have:=hrel.o.ki.lt;rw[t.o] at this;omega
    have a9:=F.ki.there (q:=i) (by rw[n.o];exact a5);rw[t.o] at a9;have d7:=cq a9;clear a9;have e3:=F.ahL a hv;have I:=cq F;clear F;have b5:A.all (·.oneCell')=true:=by rw[b1.o];exact nu _ (Xm i s)
    obtain⟨C,hC⟩:=eW (ct 128 (cN s));have a3:C.size=128:=by rw[hC,cF]
    have b6:C.all (·.oneCell')=true:=by rw[hC];exact nu _ (λ_=>ae)
    have HC:=cq hC;clear hC;have d6:=cq b6;clear b6;have V:=cq b5;clear b5;obtain⟨E,hE⟩:=c8 wr.heap.size;rw[hE] at Q d4;have HE:=cq hE;have f6:(0:Int)<=(i:Int):=cw;have f7:(i:Int)<(f:Int):=cw;have f3:D≠E:=by have:=hrel.o.head.lt;rw[<-hE];omega
    have d9:D≠y:=by have:=hrel.o.dns;rw[t.o] at this;exact this
    have e7:(k:Int)<9223372036854775807:=cw;clear hE;by_cases c3:k<M
    . obtain⟨e8,e6,e,-,-,u⟩:=cK.form e3;cases e;obtain⟨b,o,rfl,-,-,u⟩:=u k (by rw[Y.o];exact c3);have ck:=u k _ (YR (by rw[Y.o];exact c3));have Z:=cq Q;clear Q;have b2:=cq (And.intro b3 Z.o);obtain⟨q,hq⟩:=c8 (fV.getD k false);rw[hq] at ck;have HQ:=cq hq;clear hq;rcases q with _|_;have r:=a2.o;rw[HQ.o,cM dU] at r;have j:=I.o;rw[<-r] at j;have J:=cq j;clear j
      rotate_left
      go_upto_region 4 with(first|(refine wpList_load_mid (op:=⟨some 15,.load 129 (.tmp 14),_,_,_,none⟩) ae 129 (.tmp 14) ae g (k*129) ae A.toList _ a1.o underlying129 ae akv ?_;rw[tO])|(refine KF (o:=⟨none,.store 129 (.tmp 5) (.tmp 15),_,_,_,none⟩) ae 129 (.tmp 5) (.tmp 15) ae wr.heap.size A ae ae 129 zeroCells129 (zq _ _) akg akc V.o ?_;rw[<-H6.o]))
      simp only[HE.o];refine wp_region_held_drew (S:=λW=>W.cell? ⟨D,0,none⟩=some (.slice (s_ y 0) f f)/\cu W E 129 129 (Ro i s)) cX b2.o (λd=>?_);refine Fh 0 26 (cZ D 0) d ?_;refine Fh 1 27 (cZ D 0) d ?_;refine Fh 2 28 (cZ D 0) d ?_;refine YH 3 29 (.slice (s_ y 0) f f) ae (Or.inl ⟨cX,λw R=>by have h1:=R.1;go_simp⟩) d ?_;refine Fh 4 30 (cZ E 0) d ?_;refine YH 5 31 (.int .i64 i) ae (Or.inl ⟨cX,λw R=>by have h1:w.cell? ⟨E,0,none⟩=some (.int .i64 i):=cu.cell R.2 (i:=0) cw;go_simp⟩) d ?_;refine Fh 6 32 (cZ E 1) d ?_;refine YH 7 33 (.agg C) ae (uP cX 36 (.tmp 32) mB E 1 mB C _ (λw R=>Od R.2 HC.o) uu ae (by rw[a3];exact oc)) d ?_;refine Fh 8 34 (cZ y (i*128)) d ?_;refine wpAnyH_ready (rs:=[9]) cX dU ?_;refine AllReadyH.cons (o:=⟨none,Op.store 36 (Operand.tmp 34) (Operand.tmp 33),0,_,_,none⟩) mB (λK hK=>uR ae ?_) AllReadyH.nil;refine wp_store_mid 36 (.tmp 34) (.tmp 33) mB y (i*128) C mB mB (by rw[a3];exact d7.o) (by rw[a3];exact oc) d6.o ?_;have O:=iU.setCells y C.toList (i*128) W6.drew;have a4:(W6.drew.setCells y (i*128) C.toList).cell? ⟨D,0,none⟩=some (.slice (s_ y 0) f f)/\cu (W6.drew.setCells y (i*128) C.toList) E 129 129 (Ro i s):=
       ⟨by rw[xp (w:=W6.drew) (O.block D I.o.head.lt d9)];exact b2.o.1,by unfold cu;rw[O.block E (cu.lt Z.o) (oU d4)];exact Z.o⟩
      refine hK.out _ _ a4 (λe1=>?_);refine wpAnyH_done cX ?_ _;have j:=(I.o.drew).Oe a.apart i s;rw[t.o,<-HC.o] at j;have r:=a2.o;rw[HQ.o,cL ae] at r;rw[<-r] at j;have J:=cq j;clear j;generalize W6.drew.setCells y (i*128) C.toList=w7 at*
      all_goals
       go_wp2_with first|(refine wpList_load_mid (op:=⟨some 15,.load 129 (.tmp 14),_,_,_,none⟩) ae 129 (.tmp 14) ae g (k*129) ae A.toList _ a1.o underlying129 ae akv ?_;rw[tO])|(refine KF (o:=⟨none,.store 129 (.tmp 5) (.tmp 15),_,_,_,none⟩) ae 129 (.tmp 5) (.tmp 15) ae wr.heap.size A ae ae 129 zeroCells129 (zq _ _) akg akc V.o ?_;rw[<-H6.o])
       go_roundw
       case rel=>exact⟨k+1,cw,by go_num,J.o⟩
       case measure=>exact oV
    . have r:=a2.o;have hq:fV.getD k false=false:=by rw[tY,getElem?_eq_none (by rw[Y.o];omega)];rfl
      rw[hq,cM dU] at r;have j:=I.o;rw[<-r] at j;clear hq Q;have J:=cq j;clear j
      go_wp2_with (first|(refine wpList_load_mid (op:=⟨some 15,.load 129 (.tmp 14),_,_,_,none⟩) ae 129 (.tmp 14) ae g (k*129) ae A.toList _ a1.o underlying129 ae akv ?_;rw[tO])|(refine KF (o:=⟨none,.store 129 (.tmp 5) (.tmp 15),_,_,_,none⟩) ae 129 (.tmp 5) (.tmp 15) ae wr.heap.size A ae ae 129 zeroCells129 (zq _ _) akg akc V.o ?_;rw[<-H6.o]))
      go_roundw
      case rel=>exact⟨k+1,cw,by go_num,J.o⟩
      case measure=>exact oV
  . obtain rfl:k=L:=cw;have f1:=hrel.o.head.cells.2.2.1;have f2:=cu.frozen hrel.o.head 2;have a7:=hrel.o.J1 2 (.slice none 0 0) (h6:={h with pv:=.slice none 0 0}) (ps':=[]) (PI h _) aj0;rw[nz (by rw[X.o];exact dK _)] at a7;have z:=cq a7;clear a7;clear c2
    go_upto_region 7 with(fail)
    generalize wr.setCell ⟨D,2,none⟩ (.slice none 0 0)=w8 at*;have c0:=z.o.head.cells.1;have c1:=z.o.head.cells.2.1;simp only[t.o,n.o] at c0;simp only[N.o,n.o] at c1;refine wp_region_held_drew (S:=λW=>W.cell? ⟨D,0,none⟩=some (.slice (s_ y 0) f f)/\W.cell? ⟨D,1,none⟩=some (.slice (s_ H 0) f f)) cX ⟨c0,c1⟩ (λd=>?_);refine Fh 0 39 (cZ D 0) d ?_;refine Fh 1 40 (cZ D 0) d ?_;refine Fh 2 41 (cZ D 1) d ?_;refine YH 3 42 (.slice (s_ H 0) f f) ae (Or.inl ⟨cX,λw R=>by have h1:=R.2;go_simp⟩) d ?_;refine Fh 4 43 (cZ D 0) d ?_;refine Fh 5 44 (cZ D 0) d ?_;refine Fh 6 45 (cZ D 0) d ?_;refine YH 7 46 (.slice (s_ y 0) f f) ae (Or.inl ⟨cX,λw R=>by have h1:=R.1;go_simp⟩) d ?_;refine wpAnyH_ready (rs:=[8]) cX dU ?_;refine AllReadyH.cons (o:=⟨some 47,Op.call {callee:=Callee.builtin Builtin.copy,args:=#[Operand.tmp 42,Operand.tmp 46],argTypes:=#[124,124]},3,_,_,none⟩) mB (λK hK=>uR ae ?_) AllReadyH.nil;have d3:=z.o.ki;have c9:=z.o.kz;rw[t.o,n.o] at d3;rw[N.o,n.o] at c9;refine MZ (.tmp 42) (.tmp 46) 124 124 mB 36 underlying124 128 oc H f f y f mB mB 36 36 (Du nw) (Du (rh st fV 0 ps)) c9 d3 (λ_=>ae) ?_;simp only[MH];have a4:(w8.drew.setRow H (ct (f*128) (Du (rh st fV 0 ps)))).cell? ⟨D,0,none⟩=some (.slice (s_ y 0) f f)/\(w8.drew.setRow H (ct (f*128) (Du (rh st fV 0 ps)))).cell? ⟨D,1,none⟩=some (.slice (s_ H 0) f f):=by
     have hD:D≠H:=by have:=z.o.dnn;rw[N.o] at this;exact this
     have e:=setRow_other w8.drew H D (ct (f*128) (Du (rh st fV 0 ps))) hD;rw[xp (w:=w8.drew) (a:=⟨D,0,none⟩) e,xp (w:=w8.drew) (a:=⟨D,1,none⟩) e];exact⟨c0,c1⟩
    refine hK.out _ _ a4 (λe1=>?_);refine wpAnyH_done cX ?_ _;have B:=(z.o.drew).Vh a.apart;have e9:w8.drew.setRow h.nb (ct (h.n*128) (Du (rh st fV 0 ps)))=w8.drew.setRow H (ct (f*128) (Du (rh st fV 0 ps))):=by rw[N.o,n.o]
    rw[e9] at B;have c4:=B.head.cells.2.2.2.2.1;have f4:=cu.frozen B.head 4;have c5:=B.head.cells.2.2.2.2.2;have f5:=cu.frozen B.head 5;have c7:=B.J1 4 (.int .i64 (-1)) (h6:={h with pv:=.slice none 0 0,left:=-1}) (ps':=[]) (N9 {h with pv:=.slice none 0 0} (-1)) cj;have U:=c7.J1 5 (.bool false) (h6:={h with pv:=.slice none 0 0,left:=-1,cO:=false}) (ps':=[]) (N' {h with pv:=.slice none 0 0,left:=-1} false) cj;have T:=cq U;clear U;generalize w8.drew.setRow H (ct (f*128) (Du (rh st fV 0 ps)))=w9 at*;go_wp2
    go_end0
    exact⟨ae,T.o.fin ⟨ae,ae,ae⟩ a.apart a.pK dU,T.o.oQ⟩
def BL:List cI->Nat->List cI->List cI
 |xs,_,[]=>xs
 |xs,o,v::r=>BL (xs.set o v) (o+1) r
theorem yz:∀(a:List cI)(xs:List cI)(o:Nat),(BL xs o a).length=xs.length
 | [],_,_=>rfl
 |v::r,xs,o=>by unfold BL;rw[yz r];simp
theorem xD:∀(a:List cI)(xs:List cI)(o j:Nat),o+a.length<=xs.length->(BL xs o a)[j]?=if o<=j/\j<o+a.length then a[j-o]? else xs[j]?
 | [],xs,o,j,_=>by simp_all[cM,BL]
 |v::r,xs,o,j,h=>by
  simp only[kr] at h|-;unfold BL;rw[xD r (xs.set o v) (o+1) j az]
  grind
theorem rI{base e size n cap g:Nat}:∀(a:List cI)(o:Nat){w:cB}{xs:List cI},w.ownsRow base e size (.slice (some ⟨g,0,none⟩) n cap) n xs->
 (w.setCells g o a).ownsRow base e size (.slice (some ⟨g,0,none⟩) n cap) n (BL xs o a)
 | [],_,_,_,h=>h
 |v::r,o,w,xs,h=>by
  rw[World.setCells];unfold BL;exact rI r (o+1) (h.stored o v).1
theorem YT{st:Nat->cD}(h:∀i,iY (st i))(a:∀p∈ps,iY p.2):∀i,iY (rz st ps i):=by unfold rz;induction ps generalizing st with|nil=>exact h|cons p ps ih=>simp_all[Hc]
theorem Se(a:∀p∈ps,iY p.2):∀{st:Nat->cD}(k:Nat),(∀i,iY (st i))->∀i,iY (rh st fV k ps i):=by induction ps with|nil=>simp[rh]|cons p ps ih=>intro st k h;refine ih (λq b=>a q (jI _ b)) (k+1) ?_;grind[Hc]
theorem Fx{a:Head}{B:Nat}(e:a.sb=h.sb/\a.nb=h.nb)(d:∀b,a.pv.ownBlock=some b->h.pv.ownBlock=some b∨B<=b):∀k∈fi D a,k∈fi D h∨B<=k:=by intro k c;simp only[fi,ib] at c|-;grind
theorem abr(D:Nat)(d:Dv)(l:cD)(ho:d.ops<=1000000000)(w:cB)(a:xA w D d l):
 CP_ 226 #[.pointer (some ⟨D,0,none⟩)] w λe w'=>e=.returned (.int .i64 (gZ d).2)/\sY w w' D (gZ d).1 l:=by obtain⟨f,h,g,pv,m,rfl⟩:=a;have n:=f.pK;have c:=Ob (CX f);have⟨e1,e2,e3,e4,e5⟩:=vq (eG d);obtain⟨t,u,p,v,_,_⟩:=vm d;have o:=IM (eG d) h g pv;rw[yx] at o;by_cases x:(iZ (eG d)).2=true;(have k:gZ d=({(iZ (eG d)).1 with st:=rz d.st d.ps,ps:=[]},0):=by simp_all[gZ]);(rw[k];refine(MY D (d.head h g pv) d.st d.nw d.ps f.left cw w m iG).mono ?_;rintro e w' ⟨s,j,i⟩;rw[<-o.1] at j;refine⟨s,⟨⟨_,⟨⟨YT f.st f.ps,c.nw,by simp,fN _,c.ops,c.left⟩,h,g,.slice none 0 0,?_,ae⟩,Fx ⟨ae,ae⟩ (by intro b r;cases r)⟩,i⟩⟩;have q:d.nw=(iZ (eG d)).1.nw:=by rw[e3,p]);rw[q] at j;exact j;(have k:gZ d=((iZ (eG d)).1,42):=by simp_all[gZ]);rw[k];refine(PJ D (d.head h g pv) f.left w m.head iG).mono ?_;grind[sY.JZ]
def abt(D:Nat)(d:Dv)(l:cD)(ho:d.ops<=1000000000)(v:cI)(fV:List Bool)(w:cB)(a:xA w D d l)(g:KH w v fV):
 CP_ 16 #[.pointer (some ⟨D,0,none⟩),v] w λe w'=>e=.returned (.tuple #[])/\sY w w' D (wD d fV) l:=by
 obtain⟨c,k,j,pv,m,rfl⟩:=a;have h:=c.pK;refine(YS D (d.head k j pv) d.st d.nw d.ps fV v cw w m g).mono ?_;rintro e w' ⟨o,g,f⟩;have i:=Se (fV:=fV) c.ps 0 c.st;exact⟨o,⟨⟨_,⟨⟨i,i,by simp[wD],fN _,c.ops,by simp[wD]⟩,k,j,.slice none 0 0,g,ae⟩,Fx ⟨ae,ae⟩ (by intro b n;cases n)⟩,f⟩⟩
def dX(l:Nat->cy):Nat->cI:=λi=>c7 (l (i/3)) (i%3)
theorem mM(l:Nat->cy):∀i,(dX l i).oneCell'=true:=λ_=>df _ _
def abu(l:Nat->cy):cI:=.agg (ct 24 (dX l))
def yA:(prog.info? 191).map (·.size)=some 24:=cX
theorem KI(n:Nat)(l:Nat->cy)(k:Nat)(b:k*3+3<=n):(ct n (dX l)).extract (k*3) (k*3+3)=ct 3 (c7 (l k)):=by apply xb;intro j;rw[cU,Array.getElem?_extract];by_cases a:j<3;rw[cL aD,cL a,cU,cL cw];grind[dX];grind
theorem PK:prog.underlying 191=some (.array 8 106):=by rfl
theorem uS(h:(P.info? t).map (·.size)=some n):∃a,P.info? t=some a/\a.size=n:=by simp_all
theorem At(l:Nat->cy)(k:Nat)(b:k<8)(W:cB):(Instr.index 191 (.agg (ct 24 (dX l))) (.int .i64 k)).run prog W=.ok (.agg (ct 3 (c7 (l k)))) W:=by
 have a:(part 106 (ct 24 (dX l)) (k*3)).run prog W=.ok (.agg (ct 3 (c7 (l k)))) W:=by have⟨it,hi,hs⟩:=uS jD;simp[part,isAgg106,sizeOf,typeInfo,hi,hs,KI 24 l k cw]
 have⟨it,hi,hs⟩:=uS jD;simp_all[Instr.index,asIntOf]
theorem Of(b c a:Nat)(d:c<=a)(i:a<=128)(j:c<128)(W:cB):(Instr.sliceAt 36 (.pointer (some ⟨b,0,none⟩)) (some (.int .i64 c)) (some (.int .i64 a)) none).run prog W=.ok (.slice (some ⟨b,c,none⟩) (a-c) (128-c)) W:=by
 have k:prog.underlying 36=some (.array 128 5):=uu;have⟨it,hi5,hs5⟩:=uS Ba;have f:(Instr.sliceBound (.int .i64 a) 128 .sliceAlen).run prog W=.ok a W:=by have e:(0:Int)<=(a:Int)/\(a:Int)<=(128:Nat):=cw;simp_all[Instr.sliceBound,asIntOf]
 have g:(Instr.sliceBound (.int .i64 c) a .sliceB).run prog W=.ok c W:=by simp[Instr.sliceBound,asIntOf,d]
 have h:¬128=c:=cw;simp_all[Instr.sliceAt,Instr.sureAddr,Instr.sliceBounds,Addr.add]
def YU(b:Nat)(W:cB):(Instr.sliceAt 36 (.pointer (some ⟨b,0,none⟩)) none none none).run prog W=.ok (.slice (some ⟨b,0,none⟩) 128 128) W:=by rfl
def lH(l:Nat->cy)(k:Nat):cD:=(range k).flatMap λi=>gK (l i)
def JE(l:Nat->cy)(k:Nat):Bool:=(range k).all λi=>fY (l i)
def lZ(l:Nat->cy):Option cD:=if JE l 8=true then some (lH l 8) else none
theorem IN(l:Nat->cy)(k:Nat):lH l (k+1)=lH l k++gK (l k):=by grind[lH,range_succ]
theorem pM(l:Nat->cy)(k:Nat):(lH l k).length=k*16:=by induction k<;>grind[IN,ff,lH]
theorem YV(l:Nat->cy)(k:Nat):∀x∈lH l k,x<256:=by intro x a;unfold lH at a;obtain⟨i,_,h⟩:=By.1 a;exact oE _ x h
theorem YW(l:Nat->cy)(k:Nat):JE l (k+1)=(JE l k&&fY (l k)):=by grind[JE]
theorem aep(h:k<n)(a:fY (l k)=false):JE l n=false:=by grind[JE]
theorem abv{l:Nat->cy}:iY ((lZ l).getD eP):=by grind[lZ,pM,YV,iY,eP]
theorem yU(s b:cD)(e:s.length+b.length<=128):
 (splice (ct 128 (cN s)).toList s.length (b.map λ(x:Nat)=>Value.int .u8 (x:Int))).toArray=ct 128 (cN (s++b)):=by
 apply xb;intro j;rw[Kc,cU];unfold splice;have a:(ct 128 (cN s)).toList.length=128:=by grind[cF]
 by_cases c:j<s.length;rw[GR iG,getElem?_take,cL c,mj (xs:=ct 128 (cN s)),cU,cL cw,cL cw];grind[cN];rw[GO iG,kL,a,tW cw];by_cases d:j<s.length+b.length;rw[GR iG,ql,cL cw,iz cw];grind[cN];rw[GO iG,lV,getElem?_drop,mj (xs:=ct 128 (cN s)),cU,show s.length+b.length+(j-s.length-b.length)=j from by omega];simp_all[cN]
theorem PL:zeroCells36=ct 128 (cN []):=by rfl
def Hd:(#[Value.int .i64 0,.int .u64 0,.int .u32 0]:fJ).size=3:=rfl
def DJ(l:Nat->cy)(hl:∀i,i<8->cY (l i))(w:cB):
 CP_ 185 #[abu l] w λe w'=>∃A,e=.returned (.tuple #[.agg A,.int .i64 (fp 51 (lZ l))])/\A=ct 128 (cN ((lZ l).getD eP))/\dz w w':=by
 unfold abu;have⟨N,hN⟩:=eW (ct 24 (dX l));rw[<-hN];have⟨W0,hW0⟩:=eW (((w.alloc (.cells N 191)).alloc (.cells zeroCells36 36)).alloc (.cells zeroCells36 36));have s1:(w.alloc (.cells N 191)).heap.size=w.heap.size+1:=by simp
 have s2:((w.alloc (.cells N 191)).alloc (.cells zeroCells36 36)).heap.size=w.heap.size+1+1:=by simp
 have d8:W0.heap.size=w.heap.size+1+1+1:=by rw[hW0];simp
 have a3:cu W0 w.heap.size 191 24 (dX l):=by rw[hW0,hN];exact ak7
 have a4:cu W0 (w.heap.size+1) 36 128 (cN eP):=by rw[hW0,uq,<-s1];exact cu.alloc_old (cu.alloc _ _ _ _) _
 have a5:cu W0 (w.heap.size+1+1) 36 128 (cN (lH l 0)):=by rw[hW0,<-s2,PL];exact bg
 have T:dz w W0:=by rw[hW0];exact akO
 have f:∀k,k<8->∀W:cB,(Instr.index 191 (.agg N) (.int .i64 (k:Nat))).run prog W=.ok (.agg (ct 3 (c7 (l k)))) W:=λk hk W=>by rw[hN];exact At l k hk W
 have⟨E2,D⟩:=eW (w.heap.size+1);have⟨E4,E⟩:=eW (w.heap.size+1+1);have⟨E1,C⟩:=eW w.heap.size;have g1:w.heap.size+1<=E2:=cw;have g2:E2<E4:=cw;have g3:w.heap.size<=E4:=cw;have g4:E4<W0.heap.size:=cw;rw[<-C] at a3;rw[<-D] at a4;rw[<-E] at a5;have HE:=cq (And.intro C (And.intro D E));clear C D E s1 s2 d8;have b1:=cq f;clear f;have c9:N.toList.length=24:=by rw[hN,mq,cF]
 have d7:W0.rangeAt E1 0 N.toList:=by rw[hN];exact od a3
 have HN:=cq hN;clear hN;have b9:=cq hW0;clear hW0;have HL:=cq hl;clear hl;have Q:=cq (And.intro a4 (And.intro a5 (fO E4 W0)));have M:=cq T;clear T;go_enter func185,ntmps185
 go_upto_region 2 with(fail)
 rw[<-b9.o,<-HE.o.2.2,<-HE.o.2.1,<-HE.o.1]
 go_wp2_with ((refine wpList_load_mid (op:=⟨some 9,Op.load 191 (Operand.tmp 1),191,_,_,none⟩) ae 191 (.tmp 1) ae E1 0 ae N.toList _ d7 EF ae (by rw[c9];exact yA) ?_;rw[tO]))
 go_loopw [10] (λc wr=>∃k:Nat,k<=8/\c=.int .i64 k/\Hid (JE l k=true/\cu wr E2 36 128 (cN eP)/\cu wr E4 36 128 (cN (lH l k))/\Below E4 W0 wr)) (λc _=>8-(intOf c).toNat)
 case atStart=>exact⟨0,fN _,ae,ae,Q.o⟩
 case round=>
  obtain⟨k,hk,rfl,hrel⟩:=hrel;by_cases H:k<8
  . have hp:=HL.o k H;have b:=wC (l k) hp;have⟨A,hA⟩:=eW (ct 3 (c7 (l k)));have K:lT (l k)=.agg A:=by rw[hA];exact(Fs _).symm
    rw[K] at b;have f:=b1.o k H;rw[<-hA] at f;have c6:A.size=3:=by rw[hA,cF]
    have c5:A.all (·.oneCell')=true:=by rw[hA];exact nu _ (df _)
    have HA:=cq hA;clear hA;have z:=cq (And.intro c6 c5);have a9:=cq f;clear f;have HC:=cq b;clear b;have a7:(wr.alloc (.cells A 106)).rangeAt wr.heap.size 0 A.toList:=by
     have:=od (cu.alloc wr 106 3 (c7 (l k)));rw[<-HA.o] at this;exact this
    have b4:=cq a7;clear a7;have d1:Below E4 W0 (wr.alloc (.cells A 106)):=hrel.o.2.2.2.alloc (by have:=cu.lt hrel.o.2.2.1;omega) _;have s:cu (wr.alloc (.cells A 106)) E4 36 128 (cN (lH l k)):=cu.alloc_old hrel.o.2.2.1 _;have c2:cu (wr.alloc (.cells A 106)) E2 36 128 (cN eP):=cu.alloc_old hrel.o.2.1 _;have t:=cq (And.intro d1 (And.intro s c2));clear s
    go_wp2_with (first|(refine Fw (o:=⟨some 13,Op.index 191 (Operand.tmp 9) (Operand.tmp 10),106,_,_,none⟩) ae 191 (.tmp 9) (.tmp 10) ae (.agg A) (a9.o _) ?_)|(refine As (o:=⟨none,Op.store 106 (Operand.tmp 6) (Operand.tmp 13),0,_,_,none⟩) ae 106 (.tmp 6) (.tmp 13) ae #[Value.int .i64 0,.int .u64 0,.int .u32 0] A 3 ae ae jD Hd z.o.1 z.o.2 ?_)|(refine wpList_load_mid (op:=⟨some 15,Op.load 106 (Operand.tmp 6),106,_,_,none⟩) ae 106 (.tmp 6) ae wr.heap.size 0 ae A.toList _ b4.o yS ae (by rw[mq,z.o.1];exact jD) ?_;rw[tO]))
    refine(HC.o _).mono ?_;have⟨q,hq⟩:=c8 (fY (l k));rw[hq];have HQ:=cq hq;clear hq;rintro e w5 ⟨r,rfl,s,F⟩;have e3:E4<(wr.alloc (.cells A 106)).heap.size:=cu.lt t.o.2.1;have d2:Below E4 W0 w5:=t.o.1.trans (F.mono cw);have a6:cu w5 E4 36 128 (cN (lH l k)):=cu.cx t.o.2.1 F;have c3:cu w5 E2 36 128 (cN eP):=cu.cx t.o.2.2 F;have d3:E4<w5.heap.size:=cu.lt a6;have h:=cq (And.intro d2 (And.intro a6 c3));have b2:=cq s;clear s;cases q with
    |false=>
     have a1:lZ l=none:=by unfold lZ;rw[cM];rw[aep H HQ.o];simp
     have O:=cq a1;clear a1
     go_wp2_with (first|refine wpList_store_row (o:=⟨none,Op.store 36 (Operand.tmp 2) (Operand.tmp 21),0,_,_,none⟩) ae 36 (.tmp 2) (.tmp 21) ae E2 ae 128 (cN eP) zeroCells36 ae uq 36 (cN eP) h.o.2.2 oc (iJ _) ?_)
     refine gE (lG (p:=2) (q:=3) (ty:=36) ae ae (cu.setRow h.o.2.2 (cN eP)) uu ae oc) ae<|⟨_,by rw[O.o];rfl,by rw[O.o];rfl,?_⟩;exact below_setRow (M.o.trans (h.o.1.mono g3)) cw _
    |true=>
     have a:=b2.o;rw[cL ae] at a;obtain⟨bo,n,d6⟩:∃bo n,r=.slice bo 16 n:=by
      rcases a.2 with⟨L,R⟩|⟨g,cap,c1,L,_⟩
      . rw[ff] at R;cases R
      . rw[ff] at L;exact⟨_,_,L⟩
     subst d6;obtain⟨B,d⟩:∃B:List cI,B=(gK (l k)).map (λ(x:Nat)=>Value.int .u8 (x:Int)):=⟨_,ae⟩;have X:B.length=16:=by rw[d,lV,ff]
     have d4:∀v∈B,v.oneCell'=true:=by
      intro v K;rw[d] at K;obtain⟨x,_,rfl⟩:=fM.1 K;rfl
     have a2:∃ad,bo=some ad/\∀j v,B[j]?=some v->w5.cell? (ad.add j)=some v:=by
      rcases a.2 with⟨L,R⟩|⟨g,cap,c1,L,_⟩
      . rw[ff] at R;cases R
      . cases L;refine⟨_,ae,λj v K=>?_⟩;rw[d] at K;exact a.cells (g:=g) ae j v K
     have Z:k*16+B.length<=(ct 128 (cN (lH l k))).toList.length:=by rw[X,mq,cF];omega
     have Y:w5.heap[E4]?=some (.cells (ct 128 (cN (lH l k))).toList.toArray 36 (0,0)):=by rw[tO];exact h.o.2.1
     have I:=Of E4 (k*16) ((k+1)*16) cw cw cw;have e1:(((k*16:Nat)):Int)=(k:Int)*16:=cw;have e2:((((k+1)*16:Nat)):Int)=((k:Int)+1)*16:=cw;rw[e1,e2,show(k+1)*16-k*16=16 from by omega] at I;have b6:=cq I;clear I;have V:JE l (k+1)=true:=by rw[YW,hrel.o.1,HQ.o];rfl
     have J:=yU (lH l k) (gK (l k)) (by rw[pM,ff];omega);rw[pM,<-d,<-IN] at J;have b7:=cq J;clear J;have m:=cq (And.intro X (And.intro d4 (And.intro a2 (And.intro Z Y))));have e6:=cq d;clear d a;have a8:=cq V;clear V;have e4:(0:Int)<=(k:Int)*16:=cw
     go_wp2_with (first|((with_reducible refine Xj ⟨some 27,Op.slice 36 (Operand.tmp 4) (some (Operand.tmp 23)) (some (Operand.tmp 26)) none,22,_,_,none⟩ ?_);refine mD (o:=⟨some 27,Op.slice 36 (Operand.tmp 4) (some (Operand.tmp 23)) (some (Operand.tmp 26)) none,22,_,_,none⟩) ae 36 (.tmp 4) (some (.tmp 23)) (some (.tmp 26)) none ae (.slice (s_ E4 (k*16)) 16 (128-k*16)) (b6.o _) ?_)|(refine wpList_copy_splice (o:=⟨some 29,Op.call {callee:=Callee.builtin Builtin.copy,args:=#[Operand.tmp 27,Operand.tmp 28],argTypes:=#[22,22]},3,_,_,none⟩) ae (.tmp 27) (.tmp 28) 22 22 ae 5 nK Ba (s_ E4 (k*16)) bo 16 (128-k*16) 16 n ae ae E4 (k*16) (ct 128 (cN (lH l k))).toList 36 m.o.2.2.2.2 B (by rw[m.o.1];rfl) (λ_=>⟨ae,m.o.2.2.1⟩) m.o.2.2.2.1 m.o.2.1 E4 W0 h.o.1 (dK _) ?_;intro w8 d9 G))
     have d5:cu w8 E4 36 128 (cN (lH l (k+1))):=by
      have:=d9.o;rw[b7.o] at this;exact this
     have e5:Below E4 W0 w8:=G;have c4:cu w8 E2 36 128 (cN eP):=by
      have h0:cu W0 E2 36 128 (cN eP):=Q.o.1;exact cu.Ek h0 G cw
     have b3:=cq (And.intro a8.o (And.intro c4 (And.intro d5 G)));go_wp2;go_roundw
     case rel=>exact⟨k+1,cw,by go_num,b3.o⟩
     case measure=>exact oV
  . obtain rfl:k=8:=cw;have y:lZ l=some (lH l 8):=by unfold lZ;rw[cL hrel.o.1]
    have u:=cq y;clear y;have⟨S,hS⟩:=eW (ct 128 (cN (lH l 8)));have a:wr.rangeAt E4 0 S.toList:=by rw[hS];exact od hrel.o.2.2.1
    have U:S.toList.length=128:=by rw[hS,mq,cF]
    have b8:=cq U;clear U;have b5:=cq a;clear a
    go_wp2_with (first|(refine wpList_load_mid (op:=⟨some 31,Op.load 36 (Operand.tmp 4),36,_,_,none⟩) ae 36 (.tmp 4) ae E4 0 ae S.toList _ b5.o uu ae (by rw[b8.o];exact oc) ?_;rw[tO])|refine wpList_store_row (o:=⟨none,Op.store 36 (Operand.tmp 2) (Operand.tmp 31),0,_,_,none⟩) ae 36 (.tmp 2) (.tmp 31) ae E2 ae 128 (cN (lH l 8)) S ae hS 36 (cN eP) hrel.o.2.1 oc (iJ _) ?_)
    refine gE (lG (p:=2) (q:=3) (ty:=36) ae ae (cu.setRow hrel.o.2.1 (cN (lH l 8))) uu ae oc) ae<|⟨_,by rw[u.o];rfl,by rw[u.o];rfl,?_⟩;exact below_setRow (M.o.trans (hrel.o.2.2.2.mono g3)) cw _
theorem CZ:(#[Value.int .i64 0,.int .u64 0,.int .u32 0,Value.int .i64 0,.int .u64 0,.int .u32 0,Value.int .i64 0,.int .u64 0,.int .u32 0,Value.int .i64 0,.int .u64 0,.int .u32 0,Value.int .i64 0,.int .u64 0,.int .u32 0,Value.int .i64 0,.int .u64 0,.int .u32 0,Value.int .i64 0,.int .u64 0,.int .u32 0,Value.int .i64 0,.int .u64 0,.int .u32 0]:fJ)=ct 24 (dX λ_=>cH):=rfl
def yB(s:cD)(i:Nat):cD:=(s.drop (i*16)).take 16
def okN(s:cD)(k:Nat):Bool:=(range k).all λi=>(mU (yB s i)).isSome
def Dw(s:cD)(k:Nat):Nat->cy:=λi=>if i<k then zy (yB s i) else cH
def oF(s:cD):Option (Nat->cy):=if okN s 8=true then some (Dw s 8) else none
theorem abw(s:cD)(k:Nat):okN s (k+1)=(okN s k&& (mU (yB s k)).isSome):=by grind[okN]
theorem agi(h:k<n)(a:mU (yB s k)=none):okN s n=false:=by grind[okN]
theorem YX(s:cD)(k:Nat):Dw s (k+1)=λi=>if i=k then zy (yB s k) else Dw s k i:=by funext i;unfold Dw;grind
def PM(h:iY s)(a:k<8):(yB s k).length=16:=by unfold yB;rw[kL,r8,h.1];omega
theorem abx(h:cu w E 36 128 (cN s))(a:iY s)(c:k<8):
 dR .u8 w (.slice (some ⟨E,k*16,none⟩) 16 (128-k*16)) (dh (yB s k)):=by have d:=PM a c;refine⟨_,_,by rw[cV,d],by grind[cV],?_,λ_=>⟨E,k*16,ae,cu.lt h,?_⟩⟩;intro x b;unfold dh at b;obtain⟨y,e,rfl⟩:=fM.1 b;have:=a.2 y (mR (lu e));grind[Lit.wf,IntKind.min,IntKind.max,IntKind.signed,IntKind.bits];grind[cV,cu.cell,rG,cN,yB]
theorem aby(h:cu w E 191 24 (dX l))(c:k<8)(p:cy):
 cu (w.setCells E (k*3) (ct 3 (c7 p)).toList) E 191 24 (dX λi=>if i=k then p else l i):=by
 refine cu.congr (cu.setCells (ct 3 (c7 p)).toList (k*3) h) λj b=>?_;unfold KC dX;rw[mq,cF];by_cases a:k*3<=j/\j<k*3+3;rw[cL a];simp only[show j/3=k from by omega,nI];rw[show j%3=j-k*3 from by omega];show(ct 3 (c7 p)).toList.getD (j-k*3) (.int .u8 0)=_;rw[tY,mj,cU,cL cw];rfl
 grind
theorem Vi(h:cu w E 191 24 (dX l))(b:k<8):w.there E (k*3) 3:=λj a=>
 ⟨by grind[cu.cell],cu.frozen h _⟩
theorem xE(E k:Nat)(b:k<8)(W:cB):(Instr.indexAt 191 (.pointer (some ⟨E,0,none⟩)) (.int .i64 k)).run prog W=.ok (.pointer (some ⟨E,k*3,none⟩)) W:=by have⟨it,hi,hs⟩:=uS jD;have a:(k:Int)<8:=cw;simp[Instr.indexAt,asIntOf,xC PK,Instr.sureAddr,sizeOf,typeInfo,hi,hs,Addr.add];grind
theorem YY{p:cy}(h:mU bs=some p):p=zy bs:=by grind[mU]
def Au(s:cD)(hs:iY s)(A:fJ)(hA:A=ct 128 (cN s))(w:cB):
 CP_ 207 #[.agg A] w λe w'=>∃N,e=.returned (.tuple #[.agg N,.int .i64 (fp 51 (oF s))])/\N=ct 24 (dX ((oF s).getD λ_=>cH))/\dz w w':=by
 have⟨W0,hW0⟩:=eW (((w.alloc (.cells A 36)).alloc (.cells (#[Value.int .i64 0,.int .u64 0,.int .u32 0,Value.int .i64 0,.int .u64 0,.int .u32 0,Value.int .i64 0,.int .u64 0,.int .u32 0,Value.int .i64 0,.int .u64 0,.int .u32 0,Value.int .i64 0,.int .u64 0,.int .u32 0,Value.int .i64 0,.int .u64 0,.int .u32 0,Value.int .i64 0,.int .u64 0,.int .u32 0,Value.int .i64 0,.int .u64 0,.int .u32 0]:fJ) 191)).alloc (.cells (#[Value.int .i64 0,.int .u64 0,.int .u32 0,Value.int .i64 0,.int .u64 0,.int .u32 0,Value.int .i64 0,.int .u64 0,.int .u32 0,Value.int .i64 0,.int .u64 0,.int .u32 0,Value.int .i64 0,.int .u64 0,.int .u32 0,Value.int .i64 0,.int .u64 0,.int .u32 0,Value.int .i64 0,.int .u64 0,.int .u32 0,Value.int .i64 0,.int .u64 0,.int .u32 0]:fJ) 191));have s1:(w.alloc (.cells A 36)).heap.size=w.heap.size+1:=by simp
 have s2:((w.alloc (.cells A 36)).alloc (.cells (#[Value.int .i64 0,.int .u64 0,.int .u32 0,Value.int .i64 0,.int .u64 0,.int .u32 0,Value.int .i64 0,.int .u64 0,.int .u32 0,Value.int .i64 0,.int .u64 0,.int .u32 0,Value.int .i64 0,.int .u64 0,.int .u32 0,Value.int .i64 0,.int .u64 0,.int .u32 0,Value.int .i64 0,.int .u64 0,.int .u32 0,Value.int .i64 0,.int .u64 0,.int .u32 0]:fJ) 191)).heap.size=w.heap.size+1+1:=by simp
 have b7:W0.heap.size=w.heap.size+1+1+1:=by rw[hW0];simp
 have g:cu W0 w.heap.size 36 128 (cN s):=by rw[hW0,hA];exact ak7
 have I:cu W0 (w.heap.size+1) 191 24 (dX λ_=>cH):=by rw[hW0,CZ,<-s1];exact cu.alloc_old (cu.alloc _ _ _ _) _
 have z:cu W0 (w.heap.size+1+1) 191 24 (dX λ_=>cH):=by rw[hW0,<-s2,CZ];exact bg
 have R:dz w W0:=by rw[hW0];exact akO
 have⟨E2,F⟩:=eW (w.heap.size+1);have⟨E4,G⟩:=eW (w.heap.size+1+1);have⟨E1,E⟩:=eW w.heap.size;have g1:w.heap.size+1<=E2:=cw;have g2:E2<E4:=cw;have g3:w.heap.size<=E4:=cw;have g4:E4<W0.heap.size:=cw;have g5:E1<E4:=cw;rw[<-E] at g;rw[<-F] at I;rw[<-G] at z;have e0:Dw s 0=λ_=>cH:=by funext i;unfold Dw;rw[cM cw]
 rw[<-e0] at z;clear e0;have HE:=cq (And.intro E (And.intro F G));clear E F G s1 s2 b7;have b5:=cq hW0;clear hW0;have HS:=cq hs;clear hs;have v:=cq (And.intro g (And.intro I (And.intro z (fO E4 W0))));clear g I z;have L:=cq R;clear R;clear hA;go_enter func207,ntmps207
 go_upto_region 2 with(fail)
 rw[<-b5.o,<-HE.o.2.2,<-HE.o.2.1,<-HE.o.1]
 go_wp2_with (fail)
 go_loopw [8] (λc wr=>∃k:Nat,k<=8/\c=.int .i64 k/\Hid (okN s k=true/\cu wr E4 191 24 (dX (Dw s k))/\Below E4 W0 wr)) (λc _=>8-(intOf c).toNat)
 case atStart=>exact⟨0,fN _,ae,ae,v.o.2.2⟩
 case round=>
  obtain⟨k,hk,rfl,hrel⟩:=hrel;by_cases u:k<8
  . have g:cu wr E1 36 128 (cN s):=cu.Ek v.o.1 hrel.o.2.2 g5;have l:cu wr E2 191 24 (dX λ_=>cH):=cu.Ek v.o.2.1 hrel.o.2.2 g2;have hu:=abx g HS.o u;have d:=vh _ _ wr hu ⟨_,_,_,ae,cw⟩;have⟨q,hq⟩:=c8 (mU (yB s k));rw[hq] at d;have HQ:=cq hq;clear hq hu g;have HC:=cq d;clear d;have H2:=cq l;clear l;have J:=Of E1 (k*16) ((k+1)*16) cw cw cw;have e1:(((k*16:Nat)):Int)=(k:Int)*16:=cw;have e2:((((k+1)*16:Nat)):Int)=((k:Int)+1)*16:=cw;rw[e1,e2,show(k+1)*16-k*16=16 from by omega] at J;have b2:=cq J;clear J e1 e2;have b8:(0:Int)<=(k:Int)*16:=cw
    go_wp2_with (first|((with_reducible refine Xj ⟨some 17,Op.slice 36 (Operand.tmp 1) (some (Operand.tmp 13)) (some (Operand.tmp 16)) none,22,_,_,none⟩ ?_);refine mD (o:=⟨some 17,Op.slice 36 (Operand.tmp 1) (some (Operand.tmp 13)) (some (Operand.tmp 16)) none,22,_,_,none⟩) ae 36 (.tmp 1) (some (.tmp 13)) (some (.tmp 16)) none ae (.slice (s_ E1 (k*16)) 16 (128-k*16)) (b2.o _) ?_))
    refine ah HC.o λw5 x=>?_;have T:E4<wr.heap.size:=cu.lt hrel.o.2.1;have V:Below E4 W0 w5:=hrel.o.2.2.trans (x.mono cw);have a1:cu w5 E4 191 24 (dX (Dw s k)):=cu.cx hrel.o.2.1 x;have O:cu w5 E2 191 24 (dX λ_=>cH):=cu.cx H2.o x;have f:=cq (And.intro V (And.intro a1 O));clear V a1 O x T;cases q with
    |none=>
     have Y:oF s=none:=by unfold oF;rw[cM];rw[agi u HQ.o];simp
     have M:=cq Y;clear Y;have⟨A5,hA5⟩:=eW (ct 3 (c7 cH));have hv:lT ((none:Option cy).getD cH)=.agg A5:=by rw[hA5];exact(Fs _).symm
     rw[hv];have n:A5.size=3:=by rw[hA5,cF]
     have m:A5.all (·.oneCell')=true:=by rw[hA5];exact nu _ (df _)
     have b:=cq (And.intro n m);clear n m hv hA5;have Q:cu (w5.alloc (.cells A5 106)) E2 191 24 (dX λ_=>cH):=cu.alloc_old f.o.2.2 _;have K:=cq Q;clear Q;have a:Below E4 W0 (w5.alloc (.cells A5 106)):=f.o.1.alloc alp _;have a5:=cq a;clear a;have h:fp 51 (none:Option cy)=51:=rfl;rw[h];clear h
     go_wp2_with (first|(refine As (o:=⟨none,Op.store 106 (Operand.tmp 6) (Operand.tmp 19),0,_,_,none⟩) ae 106 (.tmp 6) (.tmp 19) ae #[Value.int .i64 0,.int .u64 0,.int .u32 0] A5 3 ae ae jD Hd b.o.1 b.o.2 ?_)|refine wpList_store_row (o:=⟨none,Op.store 191 (Operand.tmp 2) (Operand.tmp 23),0,_,_,none⟩) ae 191 (.tmp 2) (.tmp 23) ae E2 ae 24 (dX λ_=>cH) (#[Value.int .i64 0,.int .u64 0,.int .u32 0,Value.int .i64 0,.int .u64 0,.int .u32 0,Value.int .i64 0,.int .u64 0,.int .u32 0,Value.int .i64 0,.int .u64 0,.int .u32 0,Value.int .i64 0,.int .u64 0,.int .u32 0,Value.int .i64 0,.int .u64 0,.int .u32 0,Value.int .i64 0,.int .u64 0,.int .u32 0,Value.int .i64 0,.int .u64 0,.int .u32 0]:fJ) ae CZ 191 (dX λ_=>cH) K.o yA (mM _) ?_)
     refine gE (lG (p:=2) (q:=3) (ty:=191) ae ae (cu.setRow K.o (dX λ_=>cH)) EF ae yA) ae<|⟨_,by rw[M.o];rfl,by rw[M.o];rfl,?_⟩;exact below_setRow (L.o.trans (a5.o.mono g3)) cw _
    |some p=>
     have H:=YY HQ.o;have⟨A5,hA5⟩:=eW (ct 3 (c7 p));have hv:lT ((some p:Option cy).getD cH)=.agg A5:=by rw[hA5];exact(Fs _).symm
     rw[hv];have h:fp 51 (some p:Option cy)=0:=rfl;rw[h];clear h;have n:A5.size=3:=by rw[hA5,cF]
     have m:A5.all (·.oneCell')=true:=by rw[hA5];exact nu _ (df _)
     have b:=cq (And.intro n m);clear n m hv;have a2:(w5.alloc (.cells A5 106)).rangeAt w5.heap.size 0 A5.toList:=by
      have:=od (cu.alloc w5 106 3 (c7 p));rw[<-hA5] at this;exact this
     have a8:=cq a2;clear a2;have D:cu (w5.alloc (.cells A5 106)) E4 191 24 (dX (Dw s k)):=cu.alloc_old f.o.2.1 _;have a:Below E4 W0 (w5.alloc (.cells A5 106)):=f.o.1.alloc alp _;have a4:=Vi D u;have y:=aby D u p;rw[H,<-YX,<-H,<-hA5] at y;have r:Below E4 W0 ((w5.alloc (.cells A5 106)).setCells E4 (k*3) A5.toList):=by
      have t:=iU.setCells E4 A5.toList (k*3) (w5.alloc (.cells A5 106));exact⟨t.os.trans a.os,t.tape.trans a.tape,t.output.trans a.output,gO a.size t.size,λj hj=>(t.block j (by have:=a.size;omega) cw).trans (a.block j hj)⟩
     have Z:okN s (k+1)=true:=by rw[abw,hrel.o.1,HQ.o];rfl
     have b4:=cq a4;clear a4 D a H hA5;have⟨W9,hW9⟩:=eW ((w5.alloc (.cells A5 106)).setCells E4 (k*3) A5.toList);rw[<-hW9] at y r;have b6:=cq hW9;clear hW9;have a7:=cq (And.intro Z (And.intro y r));clear Z y r;have X:∀W:cB,(Instr.indexAt 191 (cZ E4 0) (.int .i64 k)).run prog W=.ok (cZ E4 (k*3)) W:=λW=>xE E4 k u W;have a6:=cq X;clear X
     go_wp2_with (first|(refine As (o:=⟨none,Op.store 106 (Operand.tmp 6) (Operand.tmp 19),0,_,_,none⟩) ae 106 (.tmp 6) (.tmp 19) ae #[Value.int .i64 0,.int .u64 0,.int .u32 0] A5 3 ae ae jD Hd b.o.1 b.o.2 ?_)|(refine wpList_load_mid (op:=⟨some 25,Op.load 106 (Operand.tmp 6),106,_,_,none⟩) ae 106 (.tmp 6) ae w5.heap.size 0 ae A5.toList _ a8.o yS ae (by rw[mq,b.o.1];exact jD) ?_;rw[tO])|(refine ux (o:=⟨some 26,Op.indexAddr 191 (Operand.tmp 4) (Operand.tmp 24),0,_,_,none⟩) ae 191 (.tmp 4) (.tmp 24) ae (cZ E4 (k*3)) (a6.o _) ?_)|(refine wpList_store_mid (op:=⟨none,Op.store 106 (Operand.tmp 26) (Operand.tmp 25),0,_,_,none⟩) ae 106 (.tmp 26) (.tmp 25) ae E4 (k*3) A5 ae ae (by rw[b.o.1];exact b4.o) (by rw[b.o.1];exact jD) b.o.2 ?_;rw[<-b6.o]))
     go_roundw
     case rel=>exact⟨k+1,cw,by go_num,a7.o⟩
     case measure=>exact oV
  . obtain rfl:k=8:=cw;have C:oF s=some (Dw s 8):=by unfold oF;rw[cL hrel.o.1]
    have B:=cq C;clear C;have l:cu wr E2 191 24 (dX λ_=>cH):=cu.Ek v.o.2.1 hrel.o.2.2 g2;have⟨S,hS⟩:=eW (ct 24 (dX (Dw s 8)));have a3:wr.rangeAt E4 0 S.toList:=by rw[hS];exact od hrel.o.2.1
    have U:S.toList.length=24:=by rw[hS,mq,cF]
    have b1:=cq hS;clear hS;have b3:=cq U;clear U;have a9:=cq a3;clear a3;have H2:=cq l;clear l
    go_wp2_with (first|(refine wpList_load_mid (op:=⟨some 28,Op.load 191 (Operand.tmp 4),191,_,_,none⟩) ae 191 (.tmp 4) ae E4 0 ae S.toList _ a9.o EF ae (by rw[b3.o];exact yA) ?_;rw[tO])|refine wpList_store_row (o:=⟨none,Op.store 191 (Operand.tmp 2) (Operand.tmp 28),0,_,_,none⟩) ae 191 (.tmp 2) (.tmp 28) ae E2 ae 24 (dX (Dw s 8)) S ae b1.o 191 (dX λ_=>cH) H2.o yA (mM _) ?_)
    refine gE (lG (p:=2) (q:=3) (ty:=191) ae ae (cu.setRow H2.o (dX (Dw s 8))) EF ae yA) ae<|⟨_,by rw[B.o];rfl,by rw[B.o];rfl,?_⟩;exact below_setRow (L.o.trans (hrel.o.2.2.mono g3)) cw _
def C'(h:cu w b 206 1040 (rY st rm))(q r:Nat)(v:Int)(a:v=(r:Int)):
 cu (w.setCell ⟨b,1024+q,none⟩ (.int .i64 v)).drew b 206 1040 (rY st (λk=>if k=q then r else rm k)):=by subst a;exact(cu.set h (1024+q) (.int .i64 r)).congr λj _=>YN st rm q r j
theorem Fy(h:cu w b 206 1040 (rY st rm))(c:i<1024)(v:Nat):
 cu (w.setCell ⟨b,i,none⟩ (.int .u8 v)) b 206 1040 (rY (jP st i v) rm):=by refine(cu.set h i (.int .u8 v)).congr λj _=>?_;by_cases a:j=i;subst a;rw[cL ae,KB _ _ c,G9];simp_all[rY,EA]
theorem BM(h:cu w b 206 1040 (rY st rm))(c:∀k,k<16->rm k=jt st k):eE w b st:=by refine cu.congr h λj a=>?_;unfold rY;grind
theorem Og(h:cu w b 206 1040 (rY st rm))(a:i<1024):w.cell? ⟨b,i,none⟩=some (.int .u8 (st i:Nat)):=by grind[cu.cell,KB]
theorem Sf(h:cu w b 206 1040 (rY st rm))(a:k<16):w.cell? ⟨b,1024+k,none⟩=some (.int .i64 (rm k:Nat)):=by grind[cu.cell,N8]
theorem Vj(st:Nat->Nat){a:Nat}(k:Nat):jt (jP st i a) k=if k=i/64 then jt st (i/64)-(if st i=1 then 1 else 0)+(if a=1 then 1 else 0) else jt st k:=by by_cases h:k=i/64;subst h;rw[cL ae];have b:=YL st (i:=i) (k:=i/64) a ae;have c:st i=1->0<jt st (i/64):=λh=>G' cw cw h;grind;rw[cM h];grind[MU]
theorem J2(b:Nat)(st:Nat->Nat)(i f:Nat)(B:i<1024)(w:cB)(t:eE w b st):
 CP_ 146 #[.pointer (some ⟨b,0,none⟩),.int .i64 i,.int .u8 f] w λe w'=>e=.returned (.tuple #[])/\eE w' b (jP st i f)/\iU b w w':=by
 have hc:=t.state B;have E:=t.room (k:=i/64) cw;have F:=cu.frozen t i;have H:=cu.frozen t (1024+i/64);have K:=R6 st (i/64);have g:st i=1->1<=jt st (i/64):=λh=>G' cw cw h;have M:(0:Int)<=(i:Int):=cw;have N:(i:Int)<1024:=cw;have O:(0:Int)<=(i:Int)/64:=cw;have Q:(i:Int)/64<16:=cw;have I:Hid (∀k,jt (jP st i f) k=if k=i/64 then jt st (i/64)-(if st i=1 then 1 else 0)+(if f=1 then 1 else 0) else jt st k):=Vj st;have⟨x,HX⟩:=q8 (st i);have⟨r,HR⟩:=q8 (jt st (i/64));rw[HX.o] at hc g;rw[HR.o] at E K g;have J:Hid (iU b w w):=iU.refl b w;by_cases q:x=1
 . by_cases s:f=1
   . (have y:((x:Int)==1)=true:=by rw[yl];omega);(have g:=g q;have D:(x:Int)=1:=cw;have z:((f:Int)==1)=true:=by rw[yl];omega);have m:=cq q;clear q;have n:=cq s;clear s;clear D;go_enter func146,ntmps146;go_wp2_with fail;go_region;(have⟨w1,hw1⟩:=eW ((w.setCell ⟨b,1024+i/64,none⟩ (.int .i64 ((r:Int)-1))).drew);rw[<-hw1];have l:cu w1 b 206 1040 (rY st (λk=>if k=i/64 then r-1 else jt st k)):=by rw[hw1];exact C' t (i/64) (r-1) _ cw);(have o:iU b w w1:=by rw[hw1];exact(J.o.setCell _ _).drew);clear hw1;have F:=cu.frozen l i;have u:=cq o;clear o;have hc:=Og l B;rw[HX.o] at hc;go_wp2_with fail;(have⟨w2,hw2⟩:=eW (w1.setCell ⟨b,i,none⟩ (.int .u8 (f:Int)));rw[<-hw2];have a:=Fy l B f;have c:iU b w w2:=by rw[hw2];exact u.o.setCell _ _);(rw[<-hw2] at a;clear hw2;have E:=Sf a (k:=i/64) cw;have H:=cu.frozen a (1024+i/64);simp only[nI] at E;have v:=cq c;clear c;obtain⟨r',C⟩:∃r',r-1=r':=⟨_,ae⟩;rw[C] at E;have L:r'<=64:=by have:=C;omega);go_wp2_with fail;go_region;have⟨w3,hw3⟩:=eW ((w2.setCell ⟨b,1024+i/64,none⟩ (.int .i64 ((r':Int)+1))).drew);rw[<-hw3];have p:=C' a (i/64) (r'+1) ((r':Int)+1) cw;have A:iU b w w3:=by rw[hw3];exact(v.o.setCell _ _).drew
     rw[<-hw3] at p;have d:eE w3 b (jP st i f):=BM p (λk _=>by
      rw[I.o k,HX.o,HR.o];have:=m.o;have:=n.o;have:=C;by_cases G:k=i/64
      . subst G;simp[*]<;>first|rfl|omega|exact HR.o
      . simp[G])
     have j:=cq A;go_wp2;go_end0;exact⟨ae,d,j.o⟩
   . (have y:((x:Int)==1)=true:=by rw[yl];omega);(have g:=g q;have D:(x:Int)=1:=cw;have z:((f:Int)==1)=false:=by rw[lx];omega);have m:=cq q;clear q;have n:=cq s;clear s;clear D;go_enter func146,ntmps146;go_wp2_with fail;go_region;(have⟨w1,hw1⟩:=eW ((w.setCell ⟨b,1024+i/64,none⟩ (.int .i64 ((r:Int)-1))).drew);rw[<-hw1];have l:cu w1 b 206 1040 (rY st (λk=>if k=i/64 then r-1 else jt st k)):=by rw[hw1];exact C' t (i/64) (r-1) _ cw);(have o:iU b w w1:=by rw[hw1];exact(J.o.setCell _ _).drew);clear hw1;have F:=cu.frozen l i;have u:=cq o;clear o;have hc:=Og l B;rw[HX.o] at hc;go_wp2_with fail;have⟨w2,hw2⟩:=eW (w1.setCell ⟨b,i,none⟩ (.int .u8 (f:Int)));rw[<-hw2];have a:=Fy l B f;have c:iU b w w2:=by rw[hw2];exact u.o.setCell _ _
     rw[<-hw2] at a;clear hw2;have d:eE w2 b (jP st i f):=BM a (λk _=>by
      rw[I.o k,HX.o,HR.o]
      grind)
     have j:=cq c;clear c;go_wp2;go_end0;exact⟨ae,d,j.o⟩
 . by_cases s:f=1
   . (have y:((x:Int)==1)=false:=by rw[lx];omega);(have z:((f:Int)==1)=true:=by rw[yl];omega);have m:=cq q;clear q;have n:=cq s;clear s;go_enter func146,ntmps146;go_wp2_with fail;(have⟨w2,hw2⟩:=eW (w.setCell ⟨b,i,none⟩ (.int .u8 (f:Int)));rw[<-hw2];have a:=Fy t B f;have c:iU b w w2:=by rw[hw2];exact J.o.setCell _ _);rw[<-hw2] at a;clear hw2;have E:=Sf a (k:=i/64) cw;have H:=cu.frozen a (1024+i/64);rw[HR.o] at E;have v:=cq c;clear c;go_wp2_with fail;go_region;have⟨w3,hw3⟩:=eW ((w2.setCell ⟨b,1024+i/64,none⟩ (.int .i64 ((r:Int)+1))).drew);rw[<-hw3];have p:=C' a (i/64) (r+1) ((r:Int)+1) cw;have A:iU b w w3:=by rw[hw3];exact(v.o.setCell _ _).drew
     rw[<-hw3] at p;have d:eE w3 b (jP st i f):=BM p (λk _=>by
      rw[I.o k,HX.o,HR.o]
      grind)
     have j:=cq A;go_wp2;go_end0;exact⟨ae,d,j.o⟩
   . (have y:((x:Int)==1)=false:=by rw[lx];omega);(have z:((f:Int)==1)=false:=by rw[lx];omega);have m:=cq q;clear q;have n:=cq s;clear s;go_enter func146,ntmps146;go_wp2_with fail;have⟨w2,hw2⟩:=eW (w.setCell ⟨b,i,none⟩ (.int .u8 (f:Int)));rw[<-hw2];have a:=Fy t B f;have c:iU b w w2:=by rw[hw2];exact J.o.setCell _ _
     rw[<-hw2] at a;clear hw2;have d:eE w2 b (jP st i f):=BM a (λk _=>by
      rw[I.o k,HX.o,HR.o];have:=m.o;have:=n.o;by_cases G:k=i/64
      . subst G;simp[*]<;>first|omega|exact HR.o
      . simp[G])
     have j:=cq c;clear c;go_wp2;go_end0;exact⟨ae,d,j.o⟩
def isB(st:Nat->Nat)(i:Int)(s:Nat):Bool:=decide (0<=i/\i<1024/\st i.toNat=s)
def tQ(st:Nat->Nat)(i:Int)(s v:Nat):Nat->Nat:=if isB st i s=true then jP st i.toNat v else st
def DK(st:Nat->Nat)(i:Int)(s:Nat):Int:=if isB st i s=true then 0 else 72
def EH(b:Nat)(st:Nat->Nat)(i:Int)(s v:Nat)(p:ee i)(w:cB)(q:eE w b st):
 CP_ 173 #[.pointer (some ⟨b,0,none⟩),.int .i64 i,.int .u8 s,.int .u8 v] w λe w'=>e=.returned (.int .i64 (DK st i s))/\eE w' b (tQ st i s v)/\iU b w w':=by
 have⟨r,hr⟩:=c8 (isB st i s);have h:=cq q;clear q;have o:=cq p;clear p;have a:=cq hr;clear hr;have m:Hid (decide (0<=i/\i<1024/\st i.toNat=s)=r):=a.o;cases r with
 |false=>
  have c:DK st i s=72:=by unfold DK;rw[a.o];rfl
  have d:tQ st i s v=st:=by unfold tQ;rw[a.o];rfl
  rw[c,d];clear c d;go_enter func173,ntmps173;go_wp2_with fail;refine(BK b st i s _ h.o o.o).mono ?_;rw[m.o];rintro e u ⟨rfl,rfl⟩;go_wp2;go_ret;exact⟨ae,h.o,iU.refl _ _⟩
 |true=>
  have c:DK st i s=0:=by unfold DK;rw[a.o];rfl
  have d:tQ st i s v=jP st i.toNat v:=by unfold tQ;rw[a.o];rfl
  rw[c,d];clear c d;have t:=lr m.o;obtain⟨k,rfl⟩:∃k:Nat,i=(k:Int):=⟨i.toNat,cw⟩;have n:k<1024:=cw;rw[sO];clear t;go_enter func173,ntmps173;go_wp2_with fail;refine(BK b st k s _ h.o o.o).mono ?_;rw[m.o];rintro e u ⟨rfl,rfl⟩;go_wp2_with fail;refine ah (J2 b st k v n _ h.o) λx⟨g,f⟩=>?_;have l:=cq g;clear g;have j:=cq f;clear f;go_wp2;go_ret;exact⟨ae,l.o,j.o⟩
def abz(b:Nat)(st:Nat->Nat)(i:Int)(g:ee i)(w:cB)(h:eE w b st):
 CP_ 124 #[.pointer (some ⟨b,0,none⟩),.int .i64 i] w λe w'=>e=.returned (.int .i64 (DK st i 1))/\eE w' b (tQ st i 1 2)/\iU b w w':=by have k:=cq h;clear h;have j:=cq g;clear g;go_enter func124,ntmps124;go_wp2_with fail;refine ah (EH b st i 1 2 j.o _ k.o) λl⟨c,a⟩=>?_;have f:=cq c;clear c;have d:=cq a;clear a;go_wp2;go_ret;exact⟨ae,f.o,d.o⟩
def Sg(b:Nat)(st:Nat->Nat)(i:Int)(g:ee i)(w:cB)(h:eE w b st):
 CP_ 179 #[.pointer (some ⟨b,0,none⟩),.int .i64 i] w λe w'=>e=.returned (.int .i64 (DK st i 2))/\eE w' b (tQ st i 2 1)/\iU b w w':=by have k:=cq h;clear h;have j:=cq g;clear g;go_enter func179,ntmps179;go_wp2_with fail;refine ah (EH b st i 2 1 j.o _ k.o) λl⟨c,a⟩=>?_;have f:=cq c;clear c;have d:=cq a;clear a;go_wp2;go_ret;exact⟨ae,f.o,d.o⟩
def YZ(b:Nat)(st:Nat->Nat)(i:Int)(g:ee i)(w:cB)(h:eE w b st):
 CP_ 180 #[.pointer (some ⟨b,0,none⟩),.int .i64 i] w λe w'=>e=.returned (.int .i64 (DK st i 2))/\eE w' b (tQ st i 2 3)/\iU b w w':=by have k:=cq h;clear h;have j:=cq g;clear g;go_enter func180,ntmps180;go_wp2_with fail;refine ah (EH b st i 2 3 j.o _ k.o) λl⟨c,a⟩=>?_;have f:=cq c;clear c;have d:=cq a;clear a;go_wp2;go_ret;exact⟨ae,f.o,d.o⟩
def EI(st:Nat->Nat):Nat->cI:=λk=>.int .i64 (jt st k:Nat)
def IP(h:eE w b st):w.rangeAt b 1024 (ct 16 (EI st)).toList:=by
 intro j v a;rw[mj,cU] at a;split at a;next hj=>cases a;exact h.room hj
 cases a
theorem Sh(A:fJ)(k:Nat)(r:Int)(a:k<16)(h:A[k]?=some (.int .i64 r))(w:cB):
 (Instr.index 204 (.agg A) (.int .i64 k)).run prog w=.ok (.int .i64 r) w:=by simp_all[Instr.index,asIntOf,part]
def Xn:(prog.info? 204).map (·.size)=some 16:=cX
theorem count_map(b:Nat)(st:Nat->Nat)(w:cB)(p:eE w b st):
 CP_ 61 #[.pointer (some ⟨b,0,none⟩)] w λe w'=>e=.returned (.int .i64 (eF st:Nat))/\w=w':=by
 have h:=IP p;have d:=cq h;clear h p;have m:∀k,k<16->(ct 16 (EI st))[k]?=some (.int .i64 (jt st k:Nat)):=by intro k o;rw[cU,cL o];rfl
 have c:(ct 16 (EI st)).size=16:=cF _ _;have⟨A,hAA⟩:=eW (ct 16 (EI st));rw[<-hAA] at d m c;clear hAA;have f:A.toList.toArray=A:=by simp
 have q:=cq m;clear m;go_enter func61,ntmps61;go_wp2_with (refine wpList_load_mid (op:=⟨some 9,.load 204 (.tmp 8),_,_,_,none⟩) ae 204 (.tmp 8) ae b 1024 ae A.toList _ d.o underlying204 ae (by rw[mq,c];exact Xn) ?_;rw[f]);clear c f
 go_loop [3,10] (λv i=>∃(k s:Nat),k<=16/\i=.int .i64 k/\v=.int .i64 s/\Hid (s=Ft st k))
  (λ_ i=>16-(intOf i).toNat)
 exact⟨0,0,cw,ae,ae,ae⟩;obtain⟨k,s,o,rfl,rfl,j⟩:=hrel;by_cases g:k<16
 . (have t:(k:Int)<16:=cw;have x:s<=1024:=by have y:=j.o;have z:=R8 st k;omega);(have n:=R6 st k;have a:=q.o k g;have l:Hid (s+jt st k=Ft st (k+1)):=by unfold Hid;rw[j.o];rfl);have⟨r,hr⟩:=c8 (jt st k);rw[hr] at a l n;clear hr;have u:=Sh A k r g a;clear a;go_wp2;go_round;grind;exact oV
 . obtain rfl:k=16:=cw;go_wp2;go_ret;exact⟨by rw[j.o];rfl,ae⟩
def KJ(st:Nat->Nat):Int:=match mC st with|some i=>(i:Nat)|none=>0
def KK(st:Nat->Nat):Int:=match mC st with|some _=>0|none=>71
def KL(st:Nat->Nat):Nat->Nat:=match mC st with|some i=>jP st i 2|none=>st
theorem EJ(h:mC st=some i):KJ st=(i:Nat)/\KK st=0/\KL st=jP st i 2:=by unfold KJ KK KL;grind
theorem KM(h:mC st=none):KJ st=0/\KK st=71/\KL st=st:=by unfold KJ KK KL;grind
theorem Oh(b:Nat)(st:Nat->Nat)(w:cB)(Q:eE w b st):
 CP_ 183 #[.pointer (some ⟨b,0,none⟩)] w λe w'=>e=.returned (.tuple #[.int .i64 (KJ st),.int .i64 (KK st)])/\eE w' b (KL st)/\iU b w w':=by
 have m:=cq Q;have F:=IP Q;have o:=cq F;clear F Q;have M:∀k,k<16->(ct 16 (EI st))[k]?=some (.int .i64 (jt st k:Nat)):=by intro k Z;rw[cU,cL Z];rfl
 have f:(ct 16 (EI st)).size=16:=cF _ _;have⟨A,hAA⟩:=eW (ct 16 (EI st));rw[<-hAA] at o M f;clear hAA;have u:A.toList.toArray=A:=by simp
 have H:=cq M;clear M;have⟨R,hR⟩:=c8 (mC st);have G:=cq hR;clear hR;go_enter func183,ntmps183;go_wp2_with (refine wpList_load_mid (op:=⟨some 11,.load 204 (.tmp 10),_,_,_,none⟩) ae 204 (.tmp 10) ae b 1024 ae A.toList _ o.o underlying204 ae (by rw[mq,f];exact Xn) ?_;rw[u]);clear f u
 go_loop [4,12] (λv i=>∃(k s:Nat),k<=16/\i=.int .i64 k/\v=.int .i64 s/\s<16/\Hid (s=ry st k))
  (λ_ i=>16-(intOf i).toNat)
 exact⟨0,0,cw,ae,ae,cw,ae⟩;obtain⟨k,s,Z,rfl,rfl,F,X⟩:=hrel;by_cases z:k<16
 . (have I:(k:Int)<16:=cw;have I:(s:Int)<16:=cw;have I:(0:Int)<=(s:Int):=cw;have a:=H.o k z;have hc:=eE.room m.o F;have d:Hid (ry st (k+1)=if jt st s<jt st k then k else s):=by unfold Hid;rw[X.o];rfl);have⟨r,hr⟩:=c8 (jt st k);have⟨q,hq⟩:=c8 (jt st s);rw[hr,hq] at d;rw[hr] at a;rw[hq] at hc;clear hr hq;have H:=Sh A k r z a;clear a;by_cases D:q<r
   . (have E:(q:Int)<(r:Int):=cw;have t:Hid (k=ry st (k+1)):=by unfold Hid;rw[d.o,cL D]);go_wp2;go_round;grind;simp[intOf];omega
   . (have E:¬(q:Int)<(r:Int):=cw;have t:Hid (s=ry st (k+1)):=by unfold Hid;rw[d.o,cM D]);go_wp2;go_round;exact⟨k+1,s,cw,by go_num,ae,F,t.o⟩;simp[intOf];omega
 . obtain rfl:k=16:=cw;have l:Hid (s=Ky st):=X.o;have F:¬((16:Nat):Int)<16:=cw;go_wp2_with fail
   go_loop [7] (λi=>∃(p j:Nat),p=64*s+j/\j<=64/\i=.int .i64 p/\Hid (∀j',j'<j->st (64*s+j')≠1))
    (λi=>64*s+64-(intOf i).toNat)
   exact⟨64*s,0,ae,cw,by go_num,λj' h=>absurd h (u' _)⟩;obtain⟨p,j,T,F,rfl,K⟩:=hrel;by_cases O:j<64
   . (have U:(p:Int)<((s:Int)+1)*64:=cw;have V:p<1024:=cw;have n:=cq T;clear T;have C:ee (p:Int):=by unfold ee;omega);by_cases g:st p=1
     . (have c:Hid (R=some p):=by unfold Hid;rw[<-G.o,n.o];unfold mC;rw[<-l.o];exact Pv K.o (by rw[<-n.o];exact g) 64 O);have y:decide (0<=(p:Int)/\(p:Int)<1024/\st (p:Int).toNat=1)=true:=fQ ⟨cw,cw,by rw[sO];exact g⟩;have I:=cq y;clear y g;go_wp2_with fail;refine(BK b st p 1 _ m.o C).mono ?_;rw[I.o];rintro e Y ⟨rfl,rfl⟩;go_wp2_with fail
       refine ah (J2 b st p 2 V _ m.o) λF⟨B,x⟩=>?_;have J:=cq B;clear B;have H:=cq x;clear x;go_wp2;refine gE (v:=.tuple #[.int .i64 p,.int .i64 0]) (by simp[results,results183,go_sem]) ae (by
        have⟨e1,e2,e3⟩:=EJ (G.o.trans c.o);rw[e1,e2,e3];exact⟨ae,J.o,H.o⟩)
     . (have y:decide (0<=(p:Int)/\(p:Int)<1024/\st (p:Int).toNat=1)=false:=iC (by rw[sO];exact λh=>g h.2.2);have I:=cq y;clear y;have L:Hid (∀j',j'<j+1->st (64*s+j')≠1):=by intro j' F;by_cases N:j'=j;subst N;rw[<-n.o];exact g;exact K.o j' cw);clear g;go_wp2_with fail;refine(BK b st p 1 _ m.o C).mono ?_;rw[I.o];rintro e Y ⟨rfl,rfl⟩;go_wp2;go_round;exact⟨p+1,j+1,by have:=n.o;omega,cw,by go_num,L.o⟩;simp[intOf];have:=n.o;omega
   . have Y:j=64:=cw;have U:¬(p:Int)<((s:Int)+1)*64:=cw;have c:Hid (R=none):=by unfold Hid;rw[<-G.o];unfold mC;rw[<-l.o];exact Pw (λj' h=>K.o j' cw)
     clear T;go_wp2;refine gE (v:=.tuple #[.int .i64 0,.int .i64 71]) (by simp[results,results183,go_sem]) ae (by
      have⟨e1,e2,e3⟩:=KM (G.o.trans c.o);rw[e1,e2,e3];exact⟨ae,m.o,iU.refl _ _⟩)
theorem Y0(st rm:Nat):ct 1040 (rY (λ_=>st) (λ_=>rm))=Array.replicate 1024 (.int .u8 st)++Array.replicate 16 (.int .i64 rm):=by apply xb;intro j;rw[cU,Array.getElem?_append];simp only[Array.size_replicate,Array.getElem?_replicate];unfold rY;grind
theorem Xo:zeroCells206=ct 1040 (rY (λ_=>0) (λ_=>0)):=by rw[Y0];kernel_rfl
def Xp:(prog.info? 206).map (·.size)=some 1040:=cX
theorem Vk(st:Nat->Nat)(s k:Nat)(h:∀i,st i≠1):oX st s k=0:=by induction k with|zero=>rfl|succ k ih=>simp_all[Ao]
def BN(k:Nat):Nat->Nat:=λi=>if 4<=i/\i<k then 1 else 0
theorem Vl:BN 4=λ_=>0:=by funext i;simp_all[BN]
theorem Vm(h:4<=k):jP (BN k) k 1=BN (k+1):=by funext i;unfold jP BN;grind
theorem Y1{T:Int}(b:4<=k)(d:k<=1024)(c:(k:Int)<=T∨k=4)(a:T<=(k:Int)∨1024<=k):BN k=qR T:=by funext i;unfold BN qR;grind
def Vn(w:cB):eE (w.alloc (.cells zeroCells206 206)) w.heap.size (BN 4):=by rw[Vl,Xo];exact BM (cu.alloc w 206 1040 (rY (λ_=>0) (λ_=>0))) (λk _=>(Vk _ _ _ (λ_=>by decide)).symm)
def PN(T:Int)(v:ee T)(w:cB):
 CP_ 86 #[.int .i64 T] w λe w'=>e=.returned (.pointer (some ⟨w.heap.size,0,none⟩))/\eE w' w.heap.size (qR T)/\Below w.heap.size w w':=by
 unfold ee at v;have⟨w0,hw0⟩:=eW (w.alloc (.cells zeroCells206 206));have g:eE w0 w.heap.size (BN 4):=by rw[hw0];exact Vn w
 have c:Below w.heap.size w w0:=by rw[hw0];exact aN
 go_enter func86,ntmps86
 go_wp2_with fail
 rw[<-hw0];clear hw0;have⟨B,hB⟩:=eW w.heap.size;rw[<-hB] at g c|-;have p:=cq hB;clear hB
 go_loopw [4] (λi wr=>∃(k:Nat),4<=k/\k<=1024/\i=.int .i64 k/\Hid ((k:Int)<=T∨k=4)/\eE wr B (BN k)/\Below B w wr)
  (λi _=>1024-(intOf i).toNat)
 case atStart=>exact⟨4,cw,by omega,ae,.inr ae,g,c⟩
 case round=>
  clear g c;obtain⟨k,r,x,rfl,u,s,hbel⟩:=hrel;have q:=cq s;clear s;rcases Int.lt_or_le 1024 T with hT1|hT1
  all_goals
   by_cases f:(k:Int)<T/\k<1024
   . have b:(k:Int)<if(1024:Int)<T then 1024 else T:=by split<;>omega
     have o:k<1024:=f.2;have m:Hid (((k+1:Nat):Int)<=T∨k+1=4):=.inl cw;clear f
     go_wp2_with fail
     refine(J2 B _ k 1 o _ q.o).mono ?_;rw[Vm r];rintro e y ⟨rfl,j,h⟩;have d:=hbel.trans (h.cx (dK _) (by rw[p.o];exact hbel.size));have l:=cq j;clear j;clear h b;go_wp2;go_roundw
     case rel=>exact⟨k+1,cw,by omega,by go_num,m.o,l.o,d⟩
     case measure=>simp[intOf];omega
   . have b:¬(k:Int)<if(1024:Int)<T then 1024 else T:=by split<;>omega
     have a:BN k=qR T:=Y1 r x u.o cw;have t:=cq a;clear a f;go_wp2;go_ret;have n:=p.o;subst n;exact⟨ae,by rw[<-t.o];exact q.o,hbel⟩
def lI(st:Nat->Nat)(k:Nat):Nat->Nat:=λi=>if i<k/\st i=3 then 1 else st i
theorem M4(st:Nat->Nat):lI st 0=st:=by rfl
theorem IQ(st:Nat->Nat)(k:Nat):lI st k k=st k:=by simp_all[lI]
theorem PO(h:st k=3):jP (lI st k) k 1=lI st (k+1):=by funext i;unfold jP lI;grind
theorem Si(h:st k≠3):lI st k=lI st (k+1):=by funext i;unfold lI;grind
theorem PQ(h:eE w b (lI st 1024)):eE w b (lY st):=by
 have a:∀i,i<1024->lI st 1024 i=lY st i:=by simp_all[lI,lY]
 have g:∀k,k<16->jt (lI st 1024) k=jt (lY st) k:=λk f=>IK λi c d=>a i cw;refine cu.congr h λj e=>?_;unfold rY;grind
def Vo(b:Nat)(st:Nat->Nat)(w:cB)(s:eE w b st):
 CP_ 228 #[.pointer (some ⟨b,0,none⟩)] w λe w'=>e=.returned (.tuple #[])/\eE w' b (lY st)/\iU b w w':=by
 have p:eE w b (lI st 0):=by rw[M4];exact s
 clear s;have l:=cq p;clear p;have m:=iU.refl b w;go_enter func228,ntmps228
 go_wp2_with fail
 go_loopw [3] (λi wr=>∃(k:Nat),k<=1024/\i=.int .i64 k/\Hid (eE wr b (lI st k))/\iU b w wr)
  (λi _=>1024-(intOf i).toNat)
 case atStart=>exact⟨0,cw,ae,l,m⟩
 case round=>
  clear l m;obtain⟨k,x,rfl,j,c⟩:=hrel;by_cases r:k<1024
  . have u:(k:Int)<1024:=cw;have o:ee (k:Int):=by unfold ee;omega
    by_cases g:st k=3
    . have n:decide (0<=(k:Int)/\(k:Int)<1024/\lI st k (k:Int).toNat=3)=true:=fQ ⟨cw,cw,by rw[sO,IQ];exact g⟩;have q:=cq n;clear n;have t:=cq g;clear g
      go_wp2_with fail
      refine(BK b _ k 3 _ j.o o).mono ?_;rw[q.o];rintro e v ⟨rfl,rfl⟩
      go_wp2_with fail
      refine(J2 b _ k 1 r _ j.o).mono ?_;rw[PO t.o];rintro e y ⟨rfl,a,f⟩;have f:=c.trans f;have d:=cq a;clear a;go_wp2;go_roundw
      case rel=>exact⟨k+1,cw,by go_num,d.o,f⟩
      case measure=>exact oV
    . have n:decide (0<=(k:Int)/\(k:Int)<1024/\lI st k (k:Int).toNat=3)=false:=iC (by rw[sO,IQ];exact λh=>g h.2.2);have q:=cq n;clear n;have a:=j.o;rw[Si g] at a;have d:=cq a;clear a g
      go_wp2_with fail
      refine(BK b _ k 3 _ j.o o).mono ?_;rw[q.o];rintro e v ⟨rfl,rfl⟩;go_wp2;go_roundw
      case rel=>exact⟨k+1,cw,by go_num,d.o,c⟩
      case measure=>exact oV
  . obtain rfl:k=1024:=cw;go_wp2
    go_end0
    exact⟨ae,PQ j.o,c⟩
def abA(st rm:Nat->Nat):∀i,(rY st rm i).oneCell'=true:=by intro i;unfold rY;split<;>rfl
def abB(b:Nat)(st:Nat->Nat)(w:cB)(i:eE w b st):
 CP_ 118 #[.pointer (some ⟨b,0,none⟩)] w λe w'=>e=.returned (.pointer (some ⟨w.heap.size,0,none⟩))/\eE w' w.heap.size st/\dz w w':=by
 have⟨w0,hw0⟩:=eW (w.alloc (.cells zeroCells206 206));have c:cu w0 w.heap.size 206 1040 (rY (λ_=>0) (λ_=>0)):=by rw[hw0,Xo];exact bg
 have a:cu (w.alloc (.cells zeroCells206 206)) w.heap.size 206 1040 (rY (λ_=>0) (λ_=>0)):=by rw[<-hw0];exact c
 have h:dz w w0:=by rw[hw0];exact aN
 unfold eE at i;have j:=cq i;clear i;have f:=cq a;clear a;have g:=cq hw0;clear hw0;go_enter func118,ntmps118;have⟨A,hA⟩:=eW (ct 1040 (rY st (jt st)));have d:=cq hA;clear hA;go_wp2_with (first|(refine rT (o:=⟨some 6,.load 206 (.tmp 5),_,_,_,none⟩) ae 206 (.tmp 5) ae b ae 1040 206 _ j.o _ underlying206 ae Xp ?_;rw[<-d.o])|(refine wpList_store_row (o:=⟨none,.store 206 (.tmp 3) (.tmp 6),_,_,_,none⟩) ae 206 (.tmp 3) (.tmp 6) ae w.heap.size ae 1040 (rY st (jt st)) A ae d.o 206 (rY (λ_=>0) (λ_=>0)) f.o Xp (abA _ _) ?_;rw[<-g.o,<-d.o]));go_ret;refine⟨ae,?_,?_⟩;rw[d.o];exact cu.setRow c (rY st (jt st));exact Below.setRow h (dK _) _
theorem mT.but{w w':cB}{base b:Nat}{v:cI}{l:List (Int×Int)}{st:Nat->Nat}(h:mT w base v l)(d:eE w b st)(c:iU b w w'):mT w' base v l:=by
 refine⟨h.1,h.2.imp id λ⟨g,cap,cur,h1,h2,hg,r⟩=>⟨g,cap,cur,h1,h2,?_,r⟩⟩;have a:g≠b:=by rintro rfl;grind[eE,cu]
 rw[c.block g (qj.1 hg).1 a];exact hg
def kA(st:Nat->Nat)(s:Nat):List (Int×Int):=gG λn=>decide (n<1024/\st n=s)
def KN{s:Nat}(h:mT w base v (kA st s)):eD w v (kA st s):=mT.sl h
theorem Y2(st:Nat->Nat)(s:Nat):gG (nA (kX (λn=>st n==s) 1024))=kA st s:=by unfold kA;refine rE λn a=>?_;unfold nA;rw[wg,pG,pG,uf];grind
theorem Vq{a:Nat->Nat}{s s':Nat}(h:∀n,n<1024->(st n=s↔a n=s')):kA st s=kA a s':=by unfold kA;grind
def eE.Ek{B:Nat}(h:eE w b st)(c:Below B w w')(a:b<B):eE w' b st:=cu.Ek h c a
theorem eE.lt{b:Nat}{w:cB}{st:Nat->Nat}(h:eE w b st):b<w.heap.size:=cu.lt h
def aer(b:Nat)(st:Nat->Nat)(s:Nat)(w:cB)(H:eE w b st):
 CP_ 68 #[.pointer (some ⟨b,0,none⟩),.int .u8 s] w λe w'=>∃r,e=.returned r/\mT w' w.heap.size r (kA st s)/\dz w w':=by
 have⟨i0,hi,hz0,hz1',hz2⟩:=nB JW;have G:=cq H;clear H;have d:=gz w w.heap.size 3 1;obtain⟨f,E⟩:∃f:Nat->Bool,f=λn=>st n==s:=⟨_,ae⟩;have t:gG (nA (kX f 1024))=kA st s:=by rw[E];exact Y2 st s
 have A:=cq t;clear t;have K:Hid (∀k:Nat,k<1024->decide (0<=(k:Int)/\(k:Int)<1024/\st (k:Int).toNat=s)=f k):=by
  intro k O;rw[E,wg,pG,sO,yl];constructor
  . exact λh=>h.2.2
  . exact λh=>⟨cw,cw,h⟩
 clear E;go_enter func68,ntmps68
 go_wp2_with fail
 go_loopw [5,7] (λv i wr=>∃(k:Nat),k<=1024/\i=.int .i64 k/\wr.ownsRow w.heap.size 3 1 v (kX f k).length ((kX f k).map (Value.int .i64))/\dz w wr)
  (λ_ i _=>1024-(intOf i).toNat)
 case atStart=>exact⟨0,cw,ae,d,fO _ _⟩
 case round=>
  clear d;obtain⟨k,O,rfl,a,hbel⟩:=hrel;have x:=hbel.size;by_cases F:k<1024
  . have N:(k:Int)<1024:=cw;have u:ee (k:Int):=by unfold ee;omega
    have o:=K.o k F;have p:=cq (G.o.Ek hbel G.o.lt);have Q:=qN f k;by_cases c:f k=true
    . rw[c] at o;have g:Hid (kX f (k+1)=kX f k++[(k:Int)]):=by unfold Hid;rw[yo,cL c]
      have z:=cq o;clear o c;have B:=cq a.lt
      go_wp2_with fail
      refine(BK b st k s _ p.o u).mono ?_;rw[z.o];rintro e R ⟨rfl,rfl⟩
      go_wp2_with (first|(at_builtin;refine xq _ ae (.tmp 14) (.tmp 16) 81 ae w.heap.size 3 i0 (.int .i64 0) 1 8 oW hi hz0 hz1' hz2 ae jR _ _ _ ae (a.alloc _) ⟨wr.heap.size,0,none⟩ 1 1 [.int .i64 k] ae ae (cell_one_new _ _ _) a8 aI cw az ?_;intro v' T m l _))
      go_roundw
      case rel=>
       refine⟨k+1,cw,by go_num,?_,(hbel.alloc cw _).grown l az (λj h=>(B.o j h).1)⟩;rw[g.o,ik,mI];exact m
      case measure=>exact oV
    . have q:f k=false:=by simpa using c
      rw[q] at o;have g:Hid (kX f (k+1)=kX f k):=by unfold Hid;rw[yo,cM c]
      have z:=cq o;clear o q c
      go_wp2_with fail
      refine(BK b st k s _ p.o u).mono ?_;rw[z.o];rintro e R ⟨rfl,rfl⟩;go_wp2;go_roundw
      case rel=>exact⟨k+1,cw,by go_num,by rw[g.o];exact a,hbel⟩
      case measure=>exact oV
  . obtain rfl:k=1024:=cw;have I:=pJ a (NU f 1024 cw) (gO (qN f 1024) cw);have L:=cq I;clear a I
    go_wp2_with fail
    refine(Vp _ _ _ L.o).mono ?_;rw[A.o];rintro e w5 ⟨y,rfl,J,D⟩;have C:=Below.step hbel x D;have M:=cq J;clear J;go_wp2;go_ret;exact⟨y,ae,M.o.mono x,C⟩
def He(b:Nat)(st:Nat->Nat)(w:cB)(c:eE w b st):
 CP_ 26 #[.pointer (some ⟨b,0,none⟩)] w λe w'=>∃r,e=.returned r/\mT w' w.heap.size r (kA st 2)/\dz w w':=by have f:=cq c;clear c;go_enter func26,ntmps26;go_wp2_with fail;refine ag (aer b st 2 _ f.o) λy h⟨d,a⟩=>?_;have g:=cq d;clear d;go_wp2;go_ret;exact⟨y,ae,g.o,a⟩
theorem abC(d:e≠206)(h:w.ownsRow base e size v n xs)(f:eE w b st)(c:iU b w w'):w'.ownsRow base e size v n xs:=by
 refine⟨h.1,h.2.imp id λ⟨g,cap,cur,h1,h2,hg,r⟩=>⟨g,cap,cur,h1,h2,?_,r⟩⟩;have a:g≠b:=by rintro rfl;grind[eE,cu]
 rw[c.block g (qj.1 hg).1 a];exact hg
theorem iU.grown{b:Nat}{w wr f:cB}{row:Option Nat}(h:iU b w wr)(a:wr.grownBy f row)(g:∀k,row=some k->w.heap.size<=k):iU b w f:=
 ⟨a.os.trans h.os,a.tape.trans h.tape,a.output.trans h.output,gO h.size a.size,λk d c=>
  (a.block k (oS d h.size) (λe=>absurd (g k e.symm) cw)).trans (h.block k d c)⟩
theorem iU.alloc{b:Nat}{w wr:cB}(h:iU b w wr)(o:Obj):iU b w (wr.alloc o):=h.trans (iU.sX ((fO _ _).alloc (dK _) o))
def Xq(l:cD):List cI:=l.map λi=>.int .i64 (i:Nat)
def Bc(st:Nat->Nat)(n:Int):Option (cD×(Nat->Nat)):=if n<=(eF st:Nat) then some (il st n.toNat) else none
def ahM:cI->Nat
 | .slice _ n _=>n
 |_=>0
def Sj{α:Type}(o:Option α):Int:=if o.isSome=true then 0 else 71
def xF(st:Nat->Nat)(n:Int):cD:=((Bc st n).map (·.1)).getD []
def BO(st:Nat->Nat)(n:Int):Nat->Nat:=((Bc st n).map (·.2)).getD st
theorem abD(st:Nat->Nat)(k:Nat):∀i∈(il st k).1,i<1024:=by induction k with|zero=>intro i a;cases a|succ k ih=>cases b:mC (il st k).2 with|none=>rw[show il st (k+1)=(match mC (il st k).2 with|some i=>((il st k).1++[i],jP (il st k).2 i 2)|none=>il st k) from ae,b];exact ih|some j=>rw[Ap st b];intro i a;simp only[fL,eV] at a;rcases a with a|rfl;grind;exact(oY b).1
def abE(b:Nat)(st:Nat->Nat)(n:Int)(G:ee n)(w:cB)(F:eE w b st):
 CP_ 223 #[.pointer (some ⟨b,0,none⟩),.int .i64 n] w λe w'=>∃v,e=.returned (.tuple #[v,.int .i64 (Sj (Bc st n))])/\w'.ownsRow w.heap.size 3 1 v (xF st n).length (Xq (xF st n))/\eE w' b (BO st n)/\iU b w w':=by
 have⟨i0,hi,hz0,hz1',hz2⟩:=nB JW;unfold ee at G;have G:=F.lt;have T:=cq F;clear F;have J:eF st<=1024:=by rw[CM];exact Kz _ _ _
 have f:=gz w w.heap.size 3 1;by_cases m:¬n<=(eF st:Nat)
 . (have l:Bc st n=none:=cM m;have u:xF st n=[]:=by unfold xF;rw[l];rfl);(have G:BO st n=st:=by unfold BO;rw[l];rfl);rw[l,u,G];have hc:Sj (none:Option (cD×(Nat->Nat)))=71:=rfl;rw[hc];clear l u G hc;have y:((eF st:Nat):Int)<n:=cw;have⟨C,HC⟩:=q8 (eF st);rw[HC.o] at y m J;go_enter func223,ntmps223;go_wp2_with fail;refine(count_map b st _ T.o).mono ?_;rw[HC.o];rintro e K ⟨rfl,rfl⟩;go_wp2;refine gE (v:=.tuple #[.slice none 0 0,.int .i64 71]) (by simp[results,results223,go_sem]) ae ⟨_,ae,f,T.o,iU.refl _ _⟩
 have Q:n<=(eF st:Nat):=cw;have l:Bc st n=some (il st n.toNat):=cL Q;have u:xF st n=(il st n.toNat).1:=by unfold xF;rw[l];rfl
 have G:BO st n=(il st n.toNat).2:=by unfold BO;rw[l];rfl
 rw[l,u,G];have hc:Sj (some (il st n.toNat))=0:=rfl;rw[hc];clear l u G hc m;have⟨N,hN⟩:=c8 n.toNat;rw[hN];have F:N<=eF st:=cw;have H:∀k:Nat,k<=N->((k:Int)<n↔k<N):=by intro k _;omega
 have D:=cq H;clear H;have R:¬((eF st:Nat):Int)<n:=cw;have⟨C,HC⟩:=q8 (eF st);rw[HC.o] at R Q J F;have I:=iU.refl b w;have B:Hid (eE w b (il st 0).2):=T.o;clear hN;go_enter func223,ntmps223;go_wp2_with fail;refine(count_map b st _ T.o).mono ?_;rw[HC.o];rintro e K ⟨rfl,rfl⟩;go_wp2_with fail
 go_loopw [6] (λv wr=>∃(k c:Nat)(a:Option Addr),k<=N/\v=.slice a k c/\wr.ownsRow w.heap.size 3 1 (.slice a k c) k (Xq (il st k).1)/\Hid (eE wr b (il st k).2)/\iU b w wr)
  (λv _=>N-ahM v)
 exact⟨0,0,none,fN _,ae,f,B,I⟩;clear f I B;obtain⟨k,c,a,H,rfl,i,t,o⟩:=hrel;have F:=o.size;by_cases K:k<N
 . have L:(k:Int)<n:=(D.o k H).2 K;obtain⟨l,u⟩:=yv st (k:=k) akw;obtain⟨j,U⟩:=EC (st:=(il st k).2) akw;have s:=Ap st U;have⟨e1,e2,e3⟩:=EJ U;have F:=(oY U).1;have F:=cq s;clear s;have V:=cq e1;clear e1;have X:=cq e2;clear e2;have Y:=cq e3;clear e3;clear l u U;go_wp2_with fail;refine(Oh b _ _ t.o).mono ?_;rw[V.o,X.o,Y.o];rintro e I ⟨rfl,M,x⟩;have q:=abC jR i t.o x;have p:=o.trans x;have Z:=cq M;clear M x i;have G:=p.size;have A:=cq q.lt;go_wp2_with (first|(at_builtin;refine xq _ ae (.tmp 25) (.tmp 27) 81 ae w.heap.size 3 i0 (.int .i64 0) 1 8 oW hi hz0 hz1' hz2 ae jR _ _ _ ae (q.alloc _) ⟨I.heap.size,0,none⟩ 1 1 [.int .i64 j] ae ae (cell_one_new _ _ _) a8 aI cw az ?_;intro v' I r d _))
   have z:=(p.alloc (.cells #[.int .i64 j] 3)).grown d (λk h=>(A.o k h).1);have O:eE I b (jP (il st k).2 j 2):=cu.grown (cu.alloc_old Z.o _) d (by
    intro h;have:=(A.o b h).1;omega)
   (have G:=cq O;clear O d;obtain⟨J,U,rfl⟩:∃a c,v'=.slice a (k+1) c:=by rcases Em r with⟨_,V⟩|⟨g,cap,h,_⟩;omega;exact⟨_,_,h⟩);go_roundw;refine⟨k+1,U,J,cw,ae,?_,?_,z⟩;rw[F.o];(show I.ownsRow w.heap.size 3 1 _ _ (Xq ((il st k).1++[j]));unfold Xq;rw[mI];exact r);rw[F.o];exact G;simp[ahM];omega
 . obtain rfl:k=N:=cw;have L:¬(k:Int)<n:=λh=>K ((D.o k H).1 h);have F:Hid ((il st k).1.length=k):=(yv st (k:=k) akw).2;have E:=cq i;clear i;go_wp2;refine gE (v:=.tuple #[.slice a k c,.int .i64 0]) (by simp[results,results223,go_sem]) ae ⟨_,ae,by rw[F.o];exact E.o,t.o,o⟩
def kZ(w:cB)(T:dC)(v:cI)(l:cD):Prop:=cK w T 1 v l.length (l.map λ(x:Nat)=>Value.int .u8 (x:Int))/\∀x∈l,x<256
theorem kZ.ints{l:cD}(h:kZ w T v l):dR .u8 w v (dh l):=by obtain⟨⟨p,e,cap,rfl,q,r,i⟩,h5⟩:=h;refine⟨e,cap,by grind[dh],by grind[cV,maxLen],?_,λn=>?_⟩;intro x d;unfold dh at d;obtain⟨y,s,rfl⟩:=fM.1 d;grind[Lit.wf,IntKind.min,IntKind.max,IntKind.signed,IntKind.bits];(have m:0<l.length:=by rcases l with _|⟨a,l⟩;exact absurd ae n;simp);obtain⟨b,o,f,g,rfl,c,h6⟩:=i m;refine⟨b,o,ae,(qj.1 c).1,λj k=>?_⟩;rw[cV] at k;rw[cell_of_row w b (o+j) f T g c,rG];grind
theorem kZ.cap{l:cD}(h:kZ w T v l):yr v:=by obtain⟨⟨_,b,cap,rfl,a,_⟩,_⟩:=h;exact⟨_,_,_,ae,a⟩
theorem kZ.fr{d:Option Nat}{l:cD}{w w':cB}{T:dC}{v:cI}{bs:cD}(h:kZ w T v bs)(s:Fr d l w w')(a:d=none∨kO T=false)(b:fT T=false):kZ w' T v bs:=⟨h.1.fr s a b,h.2⟩
theorem kZ.own{l:cD}(h:lS w base v l)(a:∀x∈l,x<256):kZ w 5 v l:=⟨cK.iW h,a⟩
theorem kZ.sec(h:cu w E 36 128 (cN s))(a:iY s):kZ w 36 (.slice (some ⟨E,0,none⟩) 128 128) s:=by refine⟨⟨by grind,_,_,by rw[a.1],by rw[a.1];omega,by grind[maxLen],λ_=>⟨E,0,_,_,ae,h,λj u b=>?_⟩⟩,a.2⟩;rw[ql] at b;cases c:s[j]? with|none=>grind|some x=>rw[c] at b;cases b;have d:=(mQ.1 c).1;rw[a.1] at d;simp_all[cU,cN]
structure Pl where
 dv:Dv
 mp:Nat->Nat
 cA:Nat
 base:Nat
def IS(D M s b:Nat):Nat->cI:=λi=>if i=0 then .pointer (some ⟨D,0,none⟩) else if i=1 then .pointer (some ⟨M,0,none⟩) else if i=2 then .int .u64 s else .int .u64 b
def k7(w:cB)(P D M s b:Nat):Prop:=cu w P 147 4 (IS D M s b)
theorem k7.cells{P s:Nat}(h:k7 w P D M s b):w.cell? ⟨P,0,none⟩=some (.pointer (some ⟨D,0,none⟩))/\w.cell? ⟨P,1,none⟩=some (.pointer (some ⟨M,0,none⟩))/\w.cell? ⟨P,2,none⟩=some (.int .u64 s)/\w.cell? ⟨P,3,none⟩=some (.int .u64 b):=
 ⟨cu.cell h (i:=0) cw,cu.cell h (i:=1) cw,cu.cell h (i:=2) cw,cu.cell h (i:=3) cw⟩
def gU(x:Nat):Prop:=x<18446744073709551616
structure ej(w:cB)(P D M:Nat)(s:Pl):Prop where
 row:k7 w P D M s.cA s.base
 dev:iK w D s.dv
 map:eE w M s.mp
 ok:gU s.cA/\gU s.base
theorem ej.fr{l:cD}{w w':cB}{P D M:Nat}{s:Pl}(h:ej w P D M s)(f:Fr none l w w')(b:P∉l)(a:M∉l):ej w' P D M s:=
 ⟨cu.fr h.row f ax (.inr b),h.dev.fr f,h.map.fr f a,h.ok⟩
theorem ej.cx{P:Nat}{s:Pl}(h:ej w P D M s)(b:dz w w'):ej w' P D M s:=h.fr (Fr.CU b []) dU dU
theorem ej.tyM{P:Nat}{s:Pl}(h:ej w P D M s):gx w M=some 206:=cu.ty h.map
theorem ej.tyP{P:Nat}{s:Pl}(h:ej w P D M s):gx w P=some 147:=cu.ty h.row
theorem ahO{a:Nat}{u:dC}(c:gx w a=some t)(d:gx w b=some u)(h:t≠u):a≠b:=by grind
theorem ej.ne{P:Nat}{s:Pl}(h:ej w P D M s):P≠M:=ahO h.tyP h.tyM jR
theorem ej.agl{P:Nat}{s:Pl}{l:cD}(h:ej w P D M s)(a:iU b w w')(c:xA w D s.dv l)(g:b∉l)(d:b≠P)(e:b≠M):ej w' P D M s:=by refine⟨?_,?_,eE.qt h.map a (oU e),h.ok⟩;unfold k7 cu;rw[a.block P (cu.lt h.row) (oU d)];exact h.row;exact(c.oQ (sI.qt (l:=[b]) a (dK _) aV) (λk f=>⟨c.lt k f,by grind⟩)).shut
theorem ej.but{w w':cB}{P D M b:Nat}{s:Pl}{t:dC}(h:ej w P D M s)(d:iU b w w')(a:gx w b=some t)(g:kO t=false)(c:fT t=false):ej w' P D M s:=by have⟨l,hl⟩:=h.dev.open;refine h.agl d hl (λf=>?_) (λe=>?_) (λe=>?_);have⟨u,hu,hd⟩:=hl.ty b f;grind;rw[e,h.tyP] at a;cases a;cases c;rw[e,h.tyM] at a;cases a;cases c
theorem aes(b:Nat)(w:cB)(a:fJ):iU b w (w.setRow b a):=
 ⟨ae,ae,ae,by simp_all,λk _ c=>setRow_other w b k a c⟩
def ej.xG{P:Nat}{s:Pl}(h:ej w P D M s)(b:eE w' M mp)(a:iU M w w'):ej w' P D M {s with mp:=mp}/\Fr none [M] w w':=by have f:Fr none [M] w w':=Fr.qt a h.tyM ae dU;exact⟨⟨cu.fr h.row f ax (.inr (by simp[h.ne])),h.dev.fr f,b,h.ok⟩,f⟩
def ej.dlt{P:Nat}{s:Pl}(h:ej w P D M s):∀a,some D=some a->gx w a=some 127:=λa e=>by cases e;exact h.dev.UG
def oe(b:cD):cD:=b++replicate (128-b.length) 0
theorem Fz{b:cD}(h:b.length<=128)(a:∀x∈b,x<256):iY (oe b):=by grind[oe,iY]
theorem Sk{b:cD}:ct 128 (cN b)=ct 128 (cN (oe b)):=by refine IB λi a=>?_;grind[cN,oe]
theorem Hf{b:cD}(h:b.length=128):oe b=b:=by simp_all[oe]
def jE(s:Pl)(i:Int)(b:cD):Pl×(cy×Int):=
 ({s with dv:=(gu s.dv i (oe b)).1},if(gu s.dv i (oe b)).2=0 then((i.toNat,s.cA,j9 (oe b)),0) else(cH,(gu s.dv i (oe b)).2))
def rJ(s:Pl)(b:cD):Pl×(cy×Int):=
 if b.length>128 then(s,(cH,92)) else
 match mC s.mp with
 |none=>(s,(cH,71))
 |some i=>
  if(jE s i b).2.2=0 then({(jE s i b).1 with mp:=jP s.mp i 2},(jE s i b).2)
  else((jE s i b).1,(cH,(jE s i b).2.2))
def dY(s:Pl)(i:Int)(b:cD):Pl×(cy×Int):=
 if b.length>128 then(s,(cH,92)) else
 if 0<=i/\i<1024/\s.mp i.toNat=2 then jE s i b else(s,(cH,72))
def fD(s:Pl)(q:cy):Pl×(cD×Int):=
 if q=cH then(s,(eP,0)) else
 ({s with dv:=(fZ s.dv q.1).1},
  if(fZ s.dv q.1).2.2=41 then(eP,91) else
  if(fZ s.dv q.1).2.2≠0 then(eP,(fZ s.dv q.1).2.2) else
  if j9 (fZ s.dv q.1).2.1≠q.2.2 then(eP,91) else((fZ s.dv q.1).2.1,0))
def oG(s:Pl)(q:cy):Pl×Int:=
 if q=cH then(s,0) else
 if q.2.1>s.base then({s with mp:=tQ s.mp q.1 2 1},DK s.mp q.1 2) else({s with mp:=tQ s.mp q.1 2 3},DK s.mp q.1 2)
def iA(s:Nat):Nat:=(s+1)%18446744073709551616
def sZ(s:Pl):Pl:={s with cA:=iA s.cA}
def nM(s:Pl):Pl:={s with mp:=lY s.mp,base:=s.cA,cA:=iA s.cA}
theorem Y3(D M s b:Nat):(#[Value.pointer (some ⟨D,0,none⟩),.pointer (some ⟨M,0,none⟩),.int .u64 s,.int .u64 b]:fJ)=ct 4 (IS D M s b):=by rfl
theorem k7.of{P s:Nat}(h:w.heap[P]?=some (.cells #[.pointer (some ⟨D,0,none⟩),.pointer (some ⟨M,0,none⟩),.int .u64 s,.int .u64 b] 147 (0,0))):k7 w P D M s b:=by grind[k7,cu,Y3]
def yC(D M s b:Nat)(w:cB):
 CP_ 85 #[.pointer (some ⟨D,0,none⟩),.pointer (some ⟨M,0,none⟩),.int .u64 s,.int .u64 b] w λe w'=>e=.returned (.pointer (some ⟨w.heap.size,0,none⟩))/\k7 w' w.heap.size D M s b/\dz w w':=by have a:=k7.of (zq w (.cells #[cZ D 0,cZ M 0,.int .u64 s,.int .u64 b] 147));have d:=cq a;clear a;have c:dz w (w.alloc (.cells #[cZ D 0,cZ M 0,.int .u64 s,.int .u64 b] 147)):=(fO _ _).alloc (dK _) _;have f:=cq c;clear c;go_enter func85,ntmps85;go_wp2;go_ret;exact⟨ae,d.o,f.o⟩
def mK(P D M s b:Nat)(w:cB)(h:k7 w P D M s b):CP_ 106 #[.pointer (some ⟨P,0,none⟩)] w λe w'=>e=.returned (.pointer (some ⟨D,0,none⟩))/\w=w':=by obtain⟨a,-,-,-⟩:=h.cells;clear h;go_enter func106,ntmps106;go_wp2;go_ret;exact ay
def nN(P D M s b:Nat)(w:cB)(h:k7 w P D M s b):CP_ 25 #[.pointer (some ⟨P,0,none⟩)] w λe w'=>e=.returned (.pointer (some ⟨M,0,none⟩))/\w=w':=by obtain⟨-,a,-,-⟩:=h.cells;clear h;go_enter func25,ntmps25;go_wp2;go_ret;exact ay
def uT(P D M s b:Nat)(w:cB)(h:k7 w P D M s b):CP_ 52 #[.pointer (some ⟨P,0,none⟩)] w λe w'=>e=.returned (.int .u64 s)/\w=w':=by obtain⟨-,-,a,-⟩:=h.cells;clear h;go_enter func52,ntmps52;go_wp2;go_ret;exact ay
def PR(P D M s b:Nat)(w:cB)(h:k7 w P D M s b):CP_ 119 #[.pointer (some ⟨P,0,none⟩)] w λe w'=>e=.returned (.int .u64 b)/\w=w':=by obtain⟨-,-,-,a⟩:=h.cells;clear h;go_enter func119,ntmps119;go_wp2;go_ret;exact ay
theorem KO(D M s b x:Nat):∀j,j<4->(if j=2 then(.int .u64 x:cI) else IS D M s b j)=IS D M x b j:=by grind[IS]
theorem Y4(D M s b x:Nat):∀j,j<4->(if j=3 then(.int .u64 x:cI) else IS D M s b j)=IS D M s x j:=by intro j a;unfold IS;grind
def uU(s:Nat):IntKind.u64.wrap ((s:Int)+1)=(((s+1)%18446744073709551616:Nat):Int):=by rfl
theorem BP(s:Nat):gU (iA s):=by grind[gU,iA]
def PT(P D M s b:Nat)(w:cB)(h:k7 w P D M s b):CP_ 56 #[.pointer (some ⟨P,0,none⟩)] w λe w'=>e=.returned (.tuple #[])/\k7 w' P D M (iA s) b/\iU P w w':=by obtain⟨-,-,g,-⟩:=h.cells;have i:=cu.frozen h 2;have d:k7 (w.setCell ⟨P,2,none⟩ (.int .u64 (iA s:Nat))) P D M (iA s) b:=(cu.set h 2 (.int .u64 (iA s:Nat))).congr (KO D M s b (iA s));have c:=cq d;clear d h;have a:=cq (qS P w 2 (.int .u64 (iA s:Nat)));have f:IntKind.u64.wrap ((s:Int)+1)=((iA s:Nat):Int):=uU s;have⟨x,hx⟩:=c8 (iA s);rw[hx] at f c a|-;clear hx;go_enter func56,ntmps56;go_wp2;go_end0;exact⟨ae,c.o,a.o⟩
def KP(P D M:Nat)(s:Pl)(w:cB)(h:ej w P D M s):CP_ 171 #[.pointer (some ⟨P,0,none⟩)] w λe w'=>e=.returned (.tuple #[])/\ej w' P D M (nM s)/\Fr none [P,M] w w':=by
 obtain⟨-,v,-,-⟩:=h.row.cells;have H:=cq h;clear h;have⟨x,hx⟩:=c8 (iA s.cA);have C:IntKind.u64.wrap ((s.cA:Int)+1)=((x:Nat):Int):=by rw[<-hx];exact uU s.cA
 have n:nM s= {s with mp:=lY s.mp,base:=s.cA,cA:=x}:=by unfold nM;rw[hx]
 rw[n];have o:gU x:=by rw[<-hx];exact BP _
 have u:=cq o;clear hx n o;go_enter func171,ntmps171;go_wp2_with fail
 refine ah (Vo M s.mp _ H.o.map) λa⟨j,i⟩=>?_;have⟨hp1,hf1⟩:=H.o.xG j i;obtain⟨-,-,r,z⟩:=hp1.row.cells;have A:=cu.frozen hp1.row 2;have B:=cu.frozen hp1.row 3;have q:k7 (a.setCell ⟨P,3,none⟩ (.int .u64 s.cA)) P D M s.cA s.cA:=(cu.set hp1.row 3 (.int .u64 s.cA)).congr (Y4 D M s.cA s.base s.cA);have m:k7 ((a.setCell ⟨P,3,none⟩ (.int .u64 s.cA)).setCell ⟨P,2,none⟩ (.int .u64 x)) P D M x s.cA:=(cu.set q 2 (.int .u64 x)).congr (KO D M s.cA s.cA x);have c:iU P a ((a.setCell ⟨P,3,none⟩ (.int .u64 s.cA)).setCell ⟨P,2,none⟩ (.int .u64 x)):=(qS P a 3 _).setCell 2 _;have d:Fr none [P,M] a ((a.setCell ⟨P,3,none⟩ (.int .u64 s.cA)).setCell ⟨P,2,none⟩ (.int .u64 x)):=Fr.qt c hp1.tyP ae dU;have l:=H.o.ok;have b:ej ((a.setCell ⟨P,3,none⟩ (.int .u64 s.cA)).setCell ⟨P,2,none⟩ (.int .u64 x)) P D M {s with mp:=lY s.mp,base:=s.cA,cA:=x}:=
  ⟨m,hp1.dev.fr d,eE.qt hp1.map c (oU hp1.ne),u.o,l.1⟩
 have p:=cq (And.intro b ((hf1.mono (d':=none) aH aH (λk t=>.inl (by simp at t;simp[t]))).trans d));clear b hf1 d c m l hp1 j i;have f:=(k7.cells q).2.2.1;have g:=cu.frozen q 2;clear q;have⟨y,HY⟩:=q8 s.cA;rw[HY.o] at r f g C p;clear v;go_upto_region 2 with(fail);clear r z A B;have⟨w2,hw2⟩:=c8 (a.setCell ⟨P,3,none⟩ (.int .u64 y));rw[hw2] at f g p|-;clear hw2;go_wp2;go_end0;exact⟨ae,by rw[HY.o];exact p.o.1,p.o.2⟩
theorem PU{d:Dv}{i:Int}(h:(gu d i s).2=0):0<=i/\i<(d.n:Int):=by by_cases a:PG d i=true;exact lr a;simp_all[gu]
theorem kZ.form{b:cD}(h:kZ w T v b):∃a cap,v=.slice a b.length cap/\b.length<=cap/\b.length<=9223372036854775807:=by obtain⟨⟨_,a,cap,rfl,c,d,_⟩,_⟩:=h;exact⟨a,cap,ae,c,by grind[maxLen]⟩
theorem Y5(h:st i=1):jP (jP st i 2) i 1=st:=by grind[YK,YJ]
theorem Y6(st:Nat->Nat)(s:Nat)(i:Int):Pk (kA st s) i=decide (0<=i/\i<1024/\st i.toNat=s):=by unfold Pk;rw[wg,pG,pG];have a:fS (kA st s)=true:=rD _;have e:ox (kA st s)=mh (kA st s):=Ad a;rw[e,ue];unfold kA;rw[BD];grind
structure ajp(W:cB)(P D M:Nat)(s:Pl)(d:cD)(w:cB)(E3 E4 E6:Nat)(q:cy)(rs:cD):Prop where
 pl:ej W P D M s
 dv:∃l,xA W D s.dv l/\E4∉l/\E6∉l
 r3:DF W E3 q
 r4:cu W E4 36 128 (cN eP)
 r6:cu W E6 36 128 (cN rs)
 fr:Fr (some D) [] w W
 o4:w.heap.size<=E4
 o6:w.heap.size<=E6
 n46:E4≠E6
def rA(h:bodyPost P fn R .ret a w):bodyPost P fn R .ret a w:=h
def PV:prog.built 36 []=some zeroCells36:=cX
theorem agm{cells:fJ}(h:P.built t []=some cells)(f:Nat×Operand->Nat×cI):P.built t (Array.map f #[]).toList=some cells:=by grind
def xH{P:kS}(w:cB)(d:Nat)(e:dC)(sz:Nat)(xs g:fJ)(f:Nat->Bool):∀(c:cD),
 (∀i∈c,∃a b,(part e xs (i*sz)).run P w=.ok a w/\(part e g (i*sz)).run P w=.ok b w/\(Op.equalIn d e a b).run P w=.ok (f i) w)->(Op.eqItems d e sz xs g c).run P w=.ok (c.all f) w
 | [],_=>by rfl
 |i::c,h=>by
  have⟨a,b,p1,p2,p3⟩:=h i lW;have l:=xH w d e sz xs g f c (λj k=>h j (jI _ k));simp only[Op.eqItems,kj,p1,p2,p3,mS,all_cons];cases f i
  . simp
  . simpa using l
def Sl(l:Nat->cy)(k:Nat)(a:k<8)(W:cB):(part 106 (ct 24 (dX l)) (k*3)).run prog W=.ok (.agg (ct 3 (c7 (l k)))) W:=by have⟨it,hi,hs⟩:=uS jD;simp[part,isAgg106,sizeOf,typeInfo,hi,hs,KI 24 l k cw]
def Xr(l m:Nat->cy):Bool:=(range 8).all λi=>decide (l i=m i)
def abF(l m:Nat->cy)(w:cB):(Op.equal 191 (.agg (ct 24 (dX l))) (.agg (ct 24 (dX m)))).run prog w=.ok (Xr l m) w:=by have⟨it,a,hs⟩:=uS jD;have hc:prog.cellsOf 106=3:=cX;unfold Op.equal Op.maxDepth;rw[run_equalIn_array w 9999 _ _ PK a,hc];refine xH w 9999 106 3 _ _ _ (range 8) λi a=>?_;rw[wZ] at a;refine⟨_,_,Sl l i a w,Sl m i a w,?_⟩;have:=Kw (l i).1 (l i).2.1 (l i).2.2 (m i).1 (m i).2.1 (m i).2.2 w 9997;rw[U7] at this;exact this
theorem agn(l m:Nat->cy)(r:Bool)(h:Xr l m=r)(w:cB):(binOp .eql 191 (.agg (ct 24 (dX l))) (.agg (ct 24 (dX m)))).run prog w=.ok (.bool r) w:=by have a:=abF l m w;simp_all[binOp]
theorem Oi(s:cD)(k:Nat)(a:k<128)(W:cB):(part 5 (ct 128 (cN s)) (k*1)).run prog W=.ok (cN s k) W:=by have h5:(isAgg 5).run prog W=.ok false W:=isAgg5 W;simp_all[part,cU]
def Oj(s t:cD):Bool:=(range 128).all λi=>decide (s.getD i 0=t.getD i 0)
theorem Y7{t:cD}(b:iY s)(c:iY t):Oj s t=decide (s=t):=by unfold Oj;rw[wg,pG,qk];constructor;intro h;apply wm;intro i;by_cases a:i<128;have:=h i (wZ.2 a);rw[pG,tY,tY,iz (by rw[b.1];exact a),iz (by rw[c.1];exact a)] at this;grind;rw[getElem?_eq_none (by rw[b.1];omega),getElem?_eq_none (by rw[c.1];omega)];grind
theorem ago:prog.underlying 36=some (.array 128 5):=by rfl
def aet(s t:cD)(w:cB):(Op.equal 36 (.agg (ct 128 (cN s))) (.agg (ct 128 (cN t)))).run prog w=.ok (Oj s t) w:=by have⟨it,a,hs⟩:=uS Ba;have hc:prog.cellsOf 5=1:=cX;unfold Op.equal Op.maxDepth;rw[run_equalIn_array w 9999 _ _ ago a,hc];unfold Oj;refine xH w 9999 5 1 (ct 128 (cN s)) (ct 128 (cN t)) (λi=>decide (s.getD i 0=t.getD i 0)) (range 128) (λi a=>?_);rw[wZ] at a;refine⟨_,_,Oi s i a w,Oi t i a w,?_⟩;unfold cN;rw[G3 w 9998 5 .u8 .u8 _ _ xI];congr 1;rw[wg];simp;omega
theorem ahP(s t:cD)(r:Bool)(h:Oj s t=r)(w:cB):(binOp .neq 36 (.agg (ct 128 (cN s))) (.agg (ct 128 (cN t)))).run prog w=.ok (.bool !r) w:=by have a:=aet s t w;simp_all[binOp]
theorem gQ:(#[Value.int .i64 0,.int .u64 0,.int .u32 0]:fJ)=ct 3 (c7 cH):=rfl
theorem cu.but{w w':cB}{b c:Nat}{t:dC}{n:Nat}{f:Nat->cI}(h:cu w b t n f)(d:iU c w w')(a:b≠c):cu w' b t n f:=by unfold cu;rw[d.block b (cu.lt h) a];exact h
theorem Av(h:cu w b t n f)(a:A=ct n f):w.rangeAt b 0 A.toList:=by grind[od]
def PY(h:k∉nL w D)(b:dz w w')(a:gx w D=some 127):k∉nL w' D:=by rw[qT (b.block D (gr a))];exact h
def KQ{l:cD}(h:k∉nL w D)(b:Fr none l w w')(a:gx w D=some 127):k∉nL w' D:=by rw[qT (b.fV a ax ax)];exact h
def l6:Nat->cy:=λ_=>cH
theorem BQ{s:Pl}(h:pH s.dv)(q:cy):iY (fD s q).2.1:=by grind[fD,vr,Hb]
def cQ(s:Pl)(q:cy):Pl×((Nat->cy)×Int):=
 if(fD s q).2.2≠0 then((fD s q).1,(l6,(fD s q).2.2)) else
 match oF (fD s q).2.1 with
 |none=>((fD s q).1,(l6,91))
 |some l=>((fD s q).1,(l,0))
def eH(s:Pl)(l:Nat->cy):Pl×(cy×Int):=
 match lZ l with
 |none=>(s,(cH,51))
 |some b=>rJ s b
theorem EK{b:cD}(h:lZ l=some b):iY b:=by grind[abv]
structure Way where
 first:Nat->cy
 lJ:Nat->cy
 block:cy
def Ol:Way:=⟨l6,l6,cH⟩
def mN(a:Way):Nat->cI:=λi=>if i<24 then dX a.first i else if i<48 then dX a.lJ (i-24) else c7 a.block (i-48)
theorem abG(a:Way):∀i,(mN a i).oneCell'=true:=by grind[mN,mM,df]
def aeu:(prog.info? 193).map (·.size)=some 51:=cX
def aev:(#[Value.int .i64 0,.int .u64 0,.int .u32 0,Value.int .i64 0,.int .u64 0,.int .u32 0,Value.int .i64 0,.int .u64 0,.int .u32 0,Value.int .i64 0,.int .u64 0,.int .u32 0,Value.int .i64 0,.int .u64 0,.int .u32 0,Value.int .i64 0,.int .u64 0,.int .u32 0,Value.int .i64 0,.int .u64 0,.int .u32 0,Value.int .i64 0,.int .u64 0,.int .u32 0,Value.int .i64 0,.int .u64 0,.int .u32 0,Value.int .i64 0,.int .u64 0,.int .u32 0,Value.int .i64 0,.int .u64 0,.int .u32 0,Value.int .i64 0,.int .u64 0,.int .u32 0,Value.int .i64 0,.int .u64 0,.int .u32 0,Value.int .i64 0,.int .u64 0,.int .u32 0,Value.int .i64 0,.int .u64 0,.int .u32 0,Value.int .i64 0,.int .u64 0,.int .u32 0,Value.int .i64 0,.int .u64 0,.int .u32 0]:fJ)=ct 51 (mN Ol):=rfl
theorem mO{w:cB}{b:Nat}{t:dC}{m:Nat}{f:Nat->cI}(h:cu w b t m f){o n:Nat}(c:o+n<=m):w.there b o n:=λj a=>
 ⟨by grind[cu.cell],cu.frozen h _⟩
theorem FA(n:Nat)(g:Nat->cI)(j o:Nat)(h:o<=j/\j<o+n):(λi=>(ct n g).toList.getD i (.int .u8 0)) (j-o)=g (j-o):=by show(ct n g).toList.getD (j-o) (.int .u8 0)=_;rw[tY,mj (xs:=ct n g),cU,cL cw];rfl
theorem Y8{a:Way}(h:cu w E 193 51 (mN a))(l:Nat->cy):cu (w.setCells E 0 (ct 24 (dX l)).toList) E 193 51 (mN {a with first:=l}):=by refine cu.congr (cu.setCells _ 0 h) λj c=>?_;unfold KC;rw[mq,cF];by_cases b:0<=j/\j<0+24;rw[cL b,FA 24 _ j 0 b];simp_all[mN];simp_all[cM,mN]
theorem Vr{a:Way}(h:cu w E 193 51 (mN a))(l:Nat->cy):cu (w.setCells E 24 (ct 24 (dX l)).toList) E 193 51 (mN {a with lJ:=l}):=by refine cu.congr (cu.setCells _ 24 h) λj c=>?_;unfold KC;rw[mq,cF];by_cases b:24<=j/\j<24+24;rw[cL b,FA 24 _ j 24 b];simp_all[mN,cM];rw[cM b];unfold mN;grind
theorem Y9{a:Way}(h:cu w E 193 51 (mN a))(q:cy):cu (w.setCells E 48 (ct 3 (c7 q)).toList) E 193 51 (mN {a with block:=q}):=by refine cu.congr (cu.setCells _ 48 h) λj c=>?_;unfold KC;rw[mq,cF];by_cases b:48<=j/\j<48+3;rw[cL b,FA 3 _ j 48 b];unfold mN;grind;simp_all[cM,mN]
theorem PZ{a:Way}(h:cu w E 193 51 (mN a))(d:k<8)(c:A=ct 3 (c7 (a.first k))):w.rangeAt E (k*3) A.toList:=by
 intro j v b;rw[c,mj (xs:=ct 3 _),cU] at b;split at b;next hj=>cases b;rw[cu.cell h (i:=k*3+j) cw];unfold mN dX;grind
 cases b
theorem P0(E o k:Nat)(b:k<8)(W:cB):(Instr.indexAt 191 (.pointer (some ⟨E,o,none⟩)) (.int .i64 k)).run prog W=.ok (.pointer (some ⟨E,o+k*3,none⟩)) W:=by have⟨it,hi,hs⟩:=uS jD;have a:(k:Int)<8:=cw;simp[Instr.indexAt,asIntOf,xC PK,Instr.sureAddr,sizeOf,typeInfo,hi,hs,Addr.add];grind
theorem yD(a:iY s)(h:oF s=some l):∀i,cY (l i):=by intro i;unfold oF at h;split at h;cases h;unfold Dw;split;exact Ez λx b=>a.2 x (mR (lu b));grind[cY,cH];cases h
theorem dA:cY cH:=⟨by decide,by decide,by decide⟩
theorem xJ{s:Pl}(h:pH s.dv)(q:cy):∀i,cY ((cQ s q).2.1 i):=by intro i;unfold cQ;split;exact dA;cases a:oF (fD s q).2.1 with|none=>exact dA|some l=>exact yD (BQ h q) a i
def eB(s:Pl)(cz:cy)(i:Nat):Pl×(Way×Int):=
 if(cQ s cz).2.2≠0 then((cQ s cz).1,(Ol,(cQ s cz).2.2)) else
 if(cQ (cQ s cz).1 ((cQ s cz).2.1 (i/8))).2.2≠0 then((cQ (cQ s cz).1 ((cQ s cz).2.1 (i/8))).1,(Ol,(cQ (cQ s cz).1 ((cQ s cz).2.1 (i/8))).2.2)) else
 ((cQ (cQ s cz).1 ((cQ s cz).2.1 (i/8))).1,
   (⟨(cQ s cz).2.1,(cQ (cQ s cz).1 ((cQ s cz).2.1 (i/8))).2.1,(cQ (cQ s cz).1 ((cQ s cz).2.1 (i/8))).2.1 (i%8)⟩,0))
theorem P4{a:Way}(h:cu w E 193 51 (mN a))(c:A=ct 3 (c7 a.block)):w.rangeAt E 48 A.toList:=by
 intro j v b;rw[c,mj (xs:=ct 3 _),cU] at b;split at b;next hj=>cases b;rw[cu.cell h (i:=48+j) cw];unfold mN;grind
 cases b
theorem abH{s:Pl}(h:pH s.dv)(q:cy):pH (fD s q).1.dv:=by unfold fD;split;exact h;exact CX h
theorem Sm{s:Pl}(h:pH s.dv)(q:cy):pH (cQ s q).1.dv:=by grind[cQ,abH]
theorem qv{s:Pl}(h:pH s.dv)(q:cy)(i:Nat):(∀k,cY ((eB s q i).2.1.first k))/\(∀k,cY ((eB s q i).2.1.lJ k))/\cY (eB s q i).2.1.block:=by unfold eB;split;exact⟨λ_=>dA,λ_=>dA,dA⟩;split;exact⟨λ_=>dA,λ_=>dA,dA⟩;grind[xJ,Sm]
def l7(i:Int):Bool:=decide (0<=i/\i<64)
theorem EL(i:Int)(w:cB):CP_ 108 #[.int .i64 i] w λe w'=>e=.returned (.bool (l7 i))/\w=w':=by
 by_cases b:0<=i;have a:l7 i=decide (i<64):=by unfold l7;grind
 rw[a];have c:decide (0<=i)=true:=fQ b;clear a;have⟨r,a⟩:=c8 (decide (i<64));rw[a];rotate_left;have a:l7 i=false:=iC (λx=>b x.1);rw[a];have c:decide (0<=i)=false:=iC b;clear a
 all_goals
  go_enter func108,ntmps108;go_wp2;go_ret;exact ay
def py(s:Pl)(cz:cy)(i:Int):Pl×(cD×Int):=
 if l7 i=false then(s,(eP,111)) else
 if(eB s cz i.toNat).2.2≠0 then((eB s cz i.toNat).1,(eP,(eB s cz i.toNat).2.2)) else
 fD (eB s cz i.toNat).1 (eB s cz i.toNat).2.1.block
def Xs:(prog.info? 106).map (λi=>(i.zero,i.size,i.bytes))=some (some (.agg #[.int .i64 0,.int .u64 0,.int .u32 0]),3,24):=cX
def gY(l:List cy):List cI:=l.flatMap λp=>(ct 3 (c7 p)).toList
theorem xK(l:List cy):(gY l).length=l.length*3:=by unfold gY;induction l<;>grind[cF]
theorem im(l m:List cy):gY (l++m)=gY l++gY m:=by grind[gY]
theorem oH(p:cy):gY [p]=(ct 3 (c7 p)).toList:=by rfl
def nG(l:List cy):∀u∈gY l,u.oneCell'=true:=by intro u a;unfold gY at a;obtain⟨p,_,h⟩:=By.1 a;rw[yu] at h;simp at h;rcases h with rfl|rfl|rfl<;>rfl
def gg(w:cB)(base:Nat)(v:cI)(l:List cy):Prop:=w.ownsRow base 106 3 v l.length (gY l)
def gg.nil(w:cB)(base:Nat):gg w base (.slice none 0 0) []:=gz _ _ _ _
def ko(w:cB)(v:cI)(l:List cy):Prop:=cK w 106 3 v l.length (gY l)
theorem gg.sl{l:List cy}(h:gg w base v l):ko w v l:=cK.iW h
theorem Vs(c:Region.wanted op (yielded ops a.tmps)=true)(t:dC)(b:Array (Nat×Operand))(ho:op.op=.build t b)(cells:fJ)(d:P.built t (b.map λ(i,x)=>(i,a.eval x)).toList=some cells):YieldsIf P ops S op (.agg cells) a:=by refine .inl ⟨c,λw _=>?_⟩;simp_all[execOp,run_build]
def aew:(prog.info? 278).map (λi=>(i.zero,i.size,i.bytes))=some (some (.agg #[.int .i64 0,.int .u64 0,.int .u32 0,.int .i64 0,.int .u64 0,.int .u32 0,.int .i64 0,.int .u64 0,.int .u32 0]),9,72):=cX
def abI(p q r:cy):prog.built 278 [(0,.agg (ct 3 (c7 p))),(1,.agg (ct 3 (c7 q))),(2,.agg (ct 3 (c7 r)))]=some (ct 9 (dX λi=> [p,q,r].getD i cH)):=by
 have⟨it,h1,h2,h3,h4⟩:=nB aew;have⟨ie,i1,i2,i3,i4⟩:=nB Xs;have b:prog.underlying 278=some (.array 3 106):=underlying278;unfold Program.built;rw[h1,b];simp only[h2,i1,i3];have c:=Great.fill_whole (s:=3) cw [Value.agg (ct 3 (c7 p)),.agg (ct 3 (c7 q)),.agg (ct 3 (c7 r))]
  (Value.agg #[.int .i64 0,.int .u64 0,.int .u32 0,.int .i64 0,.int .u64 0,.int .u32 0,.int .i64 0,.int .u64 0,.int .u32 0]).cells
  (by intro v a;simp at a;rcases a with rfl|rfl|rfl<;>exact cF _ _) ae
 refine(show _=_ from c).trans ?_;congr 1
theorem Sp(l:Nat->cy)(k:Nat)(b:k<3)(W:cB):(Instr.index 278 (.agg (ct 9 (dX l))) (.int .i64 k)).run prog W=.ok (.agg (ct 3 (c7 (l k)))) W:=by
 have c:prog.underlying 278=some (.array 3 106):=underlying278;have⟨it,hi,hs⟩:=uS jD;have a:(part 106 (ct 9 (dX l)) (k*3)).run prog W=.ok (.agg (ct 3 (c7 (l k)))) W:=by simp[part,isAgg106,sizeOf,typeInfo,hi,hs,KI 9 l k cw]
 simp_all[Instr.index,asIntOf]
theorem KR(b:Region.wanted op (yielded ops a.tmps)=true)(t:dC)(x i:Operand)(ho:op.op=.indexAddr t x i)(v:cI)(c:∀w,(Instr.indexAt t (a.eval x) (a.eval i)).run P w=.ok v w):YieldsIf P ops S op v a:=by refine .inl ⟨b,λw _=>?_⟩;simp_all[execOp]
def kH(a:Way)(q:cy)(i:Nat):List cy:=[a.block,a.first (i/8),q].filter λp=>decide (p≠cH)
theorem yE(f:α->Bool)(l:List α)(a:k<l.length):(l.take (k+1)).filter f=(l.take k).filter f++if f l[k]=true then [l[k]] else []:=by grind[take_succ_eq_append_getElem]
theorem Hg(s:Pl)(q:cy):(fD s q).1.dv.ops<=s.dv.ops+1:=by unfold fD;split;grind;show(eG s.dv).ops<=_;unfold eG;grind
theorem wF(s:Pl)(q:cy):(cQ s q).1.dv.ops<=s.dv.ops+1:=by grind[cQ,Hg]
theorem s6(s:Pl)(q:cy)(i:Nat):(eB s q i).1.dv.ops<=s.dv.ops+2:=by grind[eB,wF]
theorem yF(d:Dv)(i:Int)(b:cD):(gu d i b).1.ops<=d.ops+1:=by
 have h:(eG d).ops<=d.ops+1:=by unfold eG;grind
 grind[gu,iZ]
theorem Hh(s:Pl)(b:cD):(rJ s b).1.dv.ops<=s.dv.ops+1:=by unfold rJ;split;grind;cases mC s.mp with|none=>grind|some i=>simp only;split<;>exact yF _ _ _
theorem mE(s:Pl)(l:Nat->cy):(eH s l).1.dv.ops<=s.dv.ops+1:=by unfold eH;cases lZ l with|none=>grind|some b=>exact Hh s b
theorem BR(b:cD)(h:∀x∈b,x<256):j9 b<4294967296:=Kv 0 b jR h
theorem IT{s:Pl}(h:gU s.cA)(b:cD)(c:∀x∈b,x<256):cY (rJ s b).2.1:=by unfold rJ;split;exact dA;next hl=>cases a:mC s.mp with|none=>exact dA|some i=>have d:=(oY a).1;simp only;split;unfold jE;simp only;split;exact⟨by grind,h,BR _ (Fz cw c).2⟩;exact dA;exact dA
theorem mW{s:Pl}(h:gU s.cA)(l:Nat->cy):cY (eH s l).2.1:=by unfold eH;cases a:lZ l with|none=>exact dA|some b=>exact IT h b (EK a).2
def ig(l:Nat->cy)(k:Nat)(p:cy):Nat->cy:=λi=>if i=k then p else l i
theorem uz{p:cy}(a:∀i,cY (l i))(b:cY p):∀i,cY (ig l k p i):=by grind[ig]
def kh(s:Pl)(cz:cy)(i:Int)(b:cD):Pl×(cy×List cy×Int):=
 if l7 i=false then(s,(cz,[],111)) else
 if 128<b.length then(s,(cz,[],92)) else
 let w:=eB s cz i.toNat
 if w.2.2≠0 then(w.1,(cz,[],w.2.2)) else
 if eF w.1.mp<3 then(w.1,(cz,[],71)) else
 let p:=rJ w.1 b
 if p.2.2≠0 then(p.1,(cz,[],p.2.2)) else
 let u:=eH p.1 (ig w.2.1.lJ (i.toNat%8) p.2.1)
 if u.2.2≠0 then(u.1,(cz,[],u.2.2)) else
 let t:=eH u.1 (ig w.2.1.first (i.toNat/8) u.2.1)
 if t.2.2≠0 then(t.1,(cz,[],t.2.2)) else
 (t.1,(t.2.1,kH w.2.1 cz i.toNat,0))
theorem KS(s:Pl)(q:cy):(cQ s q).1.cA=s.cA:=by grind[cQ,fD]
theorem s7(s:Pl)(q:cy)(i:Nat):(eB s q i).1.cA=s.cA:=by grind[eB,KS]
theorem BS(s:Pl)(b:cD):(rJ s b).1.cA=s.cA:=by unfold rJ;split;rfl;cases mC s.mp with|none=>rfl|some i=>simp only;split<;>rfl
theorem mX(s:Pl)(l:Nat->cy):(eH s l).1.cA=s.cA:=by grind[eH,BS]
def qw(l:Nat->cy):Bool:=Xr l l6
def DL(l:Nat->cy)(N:fJ)(i:N=ct 24 (dX l))(w:cB):
 rF 159 #[.agg N] w (.bool (qw l)):=by
 have⟨b,hb⟩:=c8 (qw l);have e:=agn l l6 b hb;rw[<-i] at e;have k:∀W,(binOp .eql 191 (.agg N) (.agg (#[Value.int .i64 0,.int .u64 0,.int .u32 0,Value.int .i64 0,.int .u64 0,.int .u32 0,Value.int .i64 0,.int .u64 0,.int .u32 0,Value.int .i64 0,.int .u64 0,.int .u32 0,Value.int .i64 0,.int .u64 0,.int .u32 0,Value.int .i64 0,.int .u64 0,.int .u32 0,Value.int .i64 0,.int .u64 0,.int .u32 0,Value.int .i64 0,.int .u64 0,.int .u32 0]:fJ))).run prog W=.ok (.bool b) W:=e;clear e;rw[hb];clear hb;have h:=cq i;clear i;have a:=cq (Fr.refl none [] w aH);have⟨W1,HW1⟩:=xm (w.alloc (.cells N 191));have c:dz w W1:=by rw[HW1.o];exact aN
 have d:cu W1 w.heap.size 191 24 (dX l):=by rw[HW1.o,h.o];exact bg
 have f:=cq (Fr.abl a.o c);have j:=cq ((show w.heap.size<=w.heap.size from a.o.size));have g:=cq (d);clear d c;go_enter func159,ntmps159;go_upto_region 1 with(fail);rw[<-HW1.o];go_wp2_with (first|((with_reducible refine Xj ⟨some 3,Op.load 191 (Operand.tmp 1),191,_,_,none⟩ ?_);refine wpList_load_mid (op:=⟨some 3,Op.load 191 (Operand.tmp 1),191,_,_,none⟩) ae 191 (.tmp 1) ae w.heap.size 0 ae N.toList _ (Av (g.o) h.o) EF ae (by rw[mq,h.o,cF];exact yA) ?_;rw[tO]));clear a;try go_ret
 exact⟨ae,(f.o).cx⟩
end
def Sq{o o':Oper}(b:Region.wanted o (yielded ops a.tmps)=true)(ho:o'= {o with guard:=none})(h:wpList P ops Q (o'::rest) a w):wpList P ops Q (o::rest) a w:=by subst ho;unfold wpList at h|-;rw[cL b];rw[cL mB] at h;exact h
def mY(s:Pl)(y:Way)(cz:cy)(i:Nat):Pl×(cy×List cy×Int):=
 let b:=ig y.lJ (i%8) cH
 let a:=ig y.first (i/8) cH
 let jn:=if qw b=true then(if qw a=true then 0 else 1) else 2
 if eF s.mp<jn then(s,(cz,[],71)) else
 let u:=if jn=2 then eH s b else(s,(cH,0))
 if u.2.2≠0 then(u.1,(cz,[],u.2.2)) else
 let t:=if 0<jn then eH u.1 (ig a (i/8) u.2.1) else(u.1,(cH,0))
 if t.2.2≠0 then(t.1,(cz,[],t.2.2)) else(t.1,(t.2.1,kH y cz i,0))
def gC(s:Pl)(cz:cy)(i:Int):Pl×(cy×List cy×Int):=
 if l7 i=false then(s,(cz,[],111)) else
 let w:=eB s cz i.toNat
 if w.2.2≠0 then(w.1,(cz,[],w.2.2)) else
 if w.2.1.block=cH then(w.1,(cz,[],0)) else
 mY w.1 w.2.1 cz i.toNat
theorem Y'(l:Nat->cy)(k:Nat)(p q:cy):ig (ig l k p) k q=ig l k q:=by grind[ig]
theorem abJ{s:Pl}{y:Way}(b:qw (ig y.lJ (i%8) cH)=true)(a:qw (ig y.first (i/8) cH)=true):mY s y cz i=(s,(cH,kH y cz i,0)):=by grind[mY]
theorem abK{s:Pl}{y:Way}(b:qw (ig y.lJ (i%8) cH)=true)(a:qw (ig y.first (i/8) cH)=false):
 mY s y cz i=if eF s.mp<1 then(s,(cz,[],71)) else
  if(eH s (ig y.first (i/8) cH)).2.2≠0 then((eH s (ig y.first (i/8) cH)).1,(cz,[],(eH s (ig y.first (i/8) cH)).2.2)) else
  ((eH s (ig y.first (i/8) cH)).1,((eH s (ig y.first (i/8) cH)).2.1,kH y cz i,0)):=by grind[mY,Y']
theorem abL{s:Pl}{y:Way}(a:qw (ig y.lJ (i%8) cH)=false):
 mY s y cz i=if eF s.mp<2 then(s,(cz,[],71)) else
  let u:=eH s (ig y.lJ (i%8) cH)
  if u.2.2≠0 then(u.1,(cz,[],u.2.2)) else
  let t:=eH u.1 (ig (ig y.first (i/8) cH) (i/8) u.2.1)
  if t.2.2≠0 then(t.1,(cz,[],t.2.2)) else
  (t.1,(t.2.1,kH y cz i,0)):=by
 grind[mY]
def Vt(a:w.grownBy w' (some b)):iU b w w':=⟨a.os,a.tape,a.output,a.size,λk c d=>a.block k c iG⟩
def Vu(a:w.grownBy w' none):dz w w':=⟨a.os,a.tape,a.output,a.size,λk b=>a.block k b dU⟩
section
end
theorem mml:(∀(a b:α)(l:List α),(a∈b::l)=(a=b∨a∈l))/\(∀a:α,(a∈([]:List α))=False)/\
 (∀(p q:α->Prop)(a:α),(∀x,x=a∨q x->p x)=(p a/\∀x,q x->p x))/\(∀(p:α->Prop)(a:α),(∀x,x=a->p x)=p a)/\
 (∀(x y:α)(l:List α),(x::l).set 0 y=y::l)/\(∀(x y:α)(l:List α)(n:Nat),(x::l).set (n+1) y=x::l.set n y):=
 by grind
theorem mmp:(∀p:Prop,(p∨False)=p)/\(∀p:Prop,(False∨p)=p)/\(∀p:Prop,(True∨p)=True)/\(∀p:Prop,(p∨True)=True)/\(∀p:Prop,(p/\p)=p)/\(∀p:Prop,(p/\True)=p):=
 by grind
structure R4 where
 b:Nat
 t:dC
 n:Nat
 f:Nat->cI
structure O4 where
 e:dC
 z:Nat
 v:cI
 n:Nat
 xs:List cI
def O4.ob(o:O4):Option Nat:=o.v.ownBlock
def dM(L:List R4)(O:List O4):cD:=L.map R4.b++O.filterMap O4.ob
structure kK(d:Option Nat)(X:cD->cB->Prop):Prop where
 cx:∀{B w w'},X B w->dz w w'->X B w'
 add:∀{B w b},X B w->w.heap.size<=b->X (b::B) w
 mono:∀{B B' w},X B w->(∀k∈B',k∈B)->X B' w
 but:∀{B w w' b t},X B w->b∈B->iU b w w'->gx w b=some t->fT t=false->(kO t=false∨∀D,d=some D->b∉nL w D)->X B w'
 dev:∀{B w D},X B w->d=some D->gx w D=some 127/\∀k∈nL w D,k<w.heap.size
structure St(w0:cB)(d:Option Nat)(l:cD)(L:List R4)(O:List O4)(X:cD->cB->Prop)(w:cB):Prop where
 fr:Fr d l w0 w
 row:∀r∈L,cu w r.b r.t r.n r.f/\fT r.t=false/\(kO r.t=false∨∀D,d=some D->r.b∉nL w D)
 own:∀o∈O,w.ownsRow w0.heap.size o.e o.z o.v o.n o.xs/\fT o.e=false/\kO o.e=false
 lo:∀b∈dM L O,w0.heap.size<=b
 nd:(dM L O).Nodup
 x:X (dM L O) w
 k8:kK d X
section
variable {l:cD}{L:List R4}{O:List O4}
theorem Om{w:cB}{D:Nat}(h:gx w D=some 127):D∈nL w D:=by grind[nL,gx]
theorem gy{k:Nat}:k∈dM L O↔(∃r∈L,r.b=k)∨∃o∈O,o.v.ownBlock=some k:=by grind[dM,O4.ob]
theorem St.lt(h:St w0 d l L O X w):∀k∈dM L O,k<w.heap.size:=by intro k a;rcases gy.1 a with⟨r,b,rfl⟩|⟨o,ho,e⟩;exact cu.lt (h.row r b).1;exact((h.own o ho).1.lt k e).2
def St.start(w:cB)(d:Option Nat)(l:cD)(a:kK d X)(b:X [] w):St w d l [] [] X w:=
 ⟨Fr.refl d l w λD e=>(a.dev b e).1,by simp,by simp,by simp[dM],by simp[dM],b,a⟩
theorem St.UG(h:St w0 d l L O X w):∀D,d=some D->gx w D=some 127:=λD e=>(h.k8.dev h.x e).1
theorem St.cx(h:St w0 d l L O X w)(a:dz w w'):St w0 d l L O X w':=
 ⟨h.fr.abl a,λr b=>⟨cu.cx (h.row r b).1 a,(h.row r b).2.1,(h.row r b).2.2.imp id λf D e=>PY (f D e) a (h.UG D e)⟩,
  λo ho=>⟨kY (h.own o ho).1 a,(h.own o ho).2⟩,h.lo,h.nd,h.k8.cx h.x a,h.k8⟩
theorem St.drew(h:St w0 d l L O X w):St w0 d l L O X w.drew:=h.cx ((fO _ _).drew)
theorem St.alloc(h:St w0 d l L O X w){A:fJ}{n:Nat}{f:Nat->cI}(t:dC)(m:A=ct n f)(ho:fT t=false):
 St w0 d l (⟨w.heap.size,t,n,f⟩::L) O X (w.alloc (.cells A t)):=by have i:dz w (w.alloc (.cells A t)):=(fO _ _).alloc (dK _) _;have g:=h.cx i;have k:w.heap.size∉dM L O:=λc=>tP _ (h.lt _ c);refine⟨g.fr,λr j=>?_,g.own,λb a=>?_,?_,h.k8.cx (h.k8.add h.x (dK _)) i,h.k8⟩;rcases ib.1 j with rfl|j;refine⟨by grind[cu.alloc],ho,.inr λD e c=>?_⟩;rw[qT (i.block D (gr (h.UG D e)))] at c;exact tP _ ((h.k8.dev h.x e).2 _ c);exact g.row r j;rcases ib.1 (show b∈w.heap.size::dM L O from a) with rfl|a;exact h.fr.size;exact h.lo b a;exact vP.2 ⟨k,h.nd⟩
theorem DM{L:List R4}{r r':R4}(b:L[k]?=some r)(a:r'.b=r.b):(L.set k r').map R4.b=L.map R4.b:=by apply wm;grind
theorem St.modify(h:St w0 d l L O X w){r:R4}(x:L[k]?=some r)(j:Nat->cI)(p:iU r.b w w')(E:cu w' r.b r.t r.n j):St w0 d l (L.set k ⟨r.b,r.t,r.n,j⟩) O X w':=by
 have t:r∈L:=kt x;have n:=h.row r t;have g:=cu.ty n.1;have b:r.b∈dM L O:=gy.2 (.inl ⟨r,t,ae⟩);have a:dM (L.set k ⟨r.b,r.t,r.n,j⟩) O=dM L O:=fK (· ++O.filterMap O4.ob) (DM (r':=⟨r.b,r.t,r.n,j⟩) x ae);have y:∀D,d=some D->w'.heap[D]?=w.heap[D]?:=λD e=>p.block D (gr (h.UG D e)) (by
  rintro rfl;have:=h.UG _ e;rcases n.2.2 with m|m
  . rw[ve (g.symm.trans this)] at m;exact absurd m jR
  grind[Om])
 refine⟨?_,λq A=>?_,λo ho=>?_,by rw[a];exact h.lo,by rw[a];exact h.nd,by rw[a];exact h.k8.but h.x b p g n.2.1 n.2.2,h.k8⟩;exact h.fr.PF (h.lo _ b) p;rcases List.mem_iff_getElem?.1 A with⟨i,s⟩;rw[z8] at s;by_cases c:k=i;subst c;rw[cL ae] at s;grind[qT];(rw[cM c] at s;have u:q∈L:=kt s;have C:=h.row q u;have z:q.b≠r.b:=by(have f:(L.map R4.b).Nodup:=(xj.1 h.nd).1;intro e;have m:(L.map R4.b)[k]?=some r.b:=by grind);(have B:(L.map R4.b)[i]?=some r.b:=by grind);grind[getElem?_inj]);grind[cu.but,qT];have v:=h.own o ho;refine⟨pL v.1 (λe=>?_) p,v.2⟩;have f:=(xj.1 h.nd).2.2;exact f r.b (fM.2 ⟨r,t,ae⟩) r.b (GU.2 ⟨o,ho,e⟩) ae
theorem St.oh(h:St w0 d l L O X w){r:R4}(a:L[k]?=some r):cu w r.b r.t r.n r.f:=(h.row r (kt a)).1
theorem St.s8(h:St w0 d l L O X w){o:O4}(a:O[k]?=some o):w.ownsRow w0.heap.size o.e o.z o.v o.n o.xs:=(h.own o (kt a)).1
theorem St.cell(h:St w0 d l L O X w){k:Nat}{r:R4}(b:L[k]?=some r){i:Nat}(a:i<r.n):w.cell? ⟨r.b,i,none⟩=some (r.f i):=cu.cell (h.oh b) a
theorem St.set(h:St w0 d l L O X w){r:R4}(b:L[k]?=some r)(a:Nat->cI):St w0 d l (L.set k ⟨r.b,r.t,r.n,a⟩) O X (w.setRow r.b (ct r.n a)):=
 h.modify b a (aes _ _ _) (cu.setRow (h.oh b) a)
theorem St.put(h:St w0 d l L O X w){r:R4}(a:L[k]?=some r)(i:Nat)(v:cI):St w0 d l (L.set k ⟨r.b,r.t,r.n,λj=>if j=i then v else r.f j⟩) O X (w.setCell ⟨r.b,i,none⟩ v):=
 h.modify a _ (qS _ _ _ _) (cu.set (h.oh a) i v)
theorem St.call(h:St w0 d l L O X w)(f:Fr d2 l2 w w')(b:∀D,d2=some D->d=some D)(i:∀k∈l2,k∈l∨w0.heap.size<=k)(m:kK d X')(n:∀B,X B w->X' B w'):St w0 d l L O X' w':=by
 refine⟨h.fr.step f b i,λr j=>?_,λo ho=>?_,h.lo,h.nd,n _ h.x,m⟩
 . have a:=h.row r j;cases c:d2 with
   |none=>subst c;exact akI
   |some D=>
    subst c;rcases a.2.2 with h1|h1
    . grind[cu.fr]
    . exact⟨cu.frX a.1 f (h1 D (b D ae)) (.inl a.2.1),a.2.1,.inr λp e=>by
       rcases ve (e.symm.trans (b D ae)) with rfl
       grind[Fr.abm,cu.lt]⟩
 have q:=h.own o ho;grind[Aq]
theorem St.take(h:St w0 d l L O X w)(a:St w0 d l L O X' w')(ho:w'.ownsRow w.heap.size e z v n xs)(s:fT e=false)(t:kO e=false)(r:∀B,X B w->X' B w'):St w0 d l L (⟨e,z,v,n,xs⟩::O) X' w':=by
 have u:w0.heap.size<=w.heap.size:=h.fr.size;have c:∀k,v.ownBlock=some k->dM L (⟨e,z,v,n,xs⟩::O)=L.map R4.b++k::O.filterMap O4.ob:=by grind[dM,O4.ob]
 cases m:v.ownBlock with
 |none=>
  have:dM L (⟨e,z,v,n,xs⟩::O)=dM L O:=by grind[dM,O4.ob]
  refine⟨a.fr,a.row,λo f=>?_,by rw[this];exact a.lo,by rw[this];exact a.nd,by rw[this];exact a.x,a.k8⟩;rcases ib.1 f with rfl|f;grind[Ar];exact a.own o f
 |some g=>
  have p:=ho.lt g m;have q:g∉dM L O:=λf=>by have:=h.lt g f;omega
  refine⟨a.fr,a.row,λo f=>?_,λb i=>?_,?_,?_,a.k8⟩;rcases ib.1 f with rfl|f;grind[Ar];exact a.own o f;rw[c g m] at i;simp only[fL,ib] at i;rcases i with i|rfl|i;exact a.lo b (fL.2 (.inl i));omega;exact a.lo b (fL.2 (.inr i));rw[c g m];have:=a.nd;unfold dM at this q;grind;refine a.k8.mono (r _ (h.k8.add h.x p.1)) λk j=>?_;rw[c g m] at j;simp only[fL,ib] at j;rcases j with j|rfl|j;grind[dM];grind;grind[dM]
theorem St.grow(h:St w0 d l L O X w){o:O4}(s:O[k]?=some o){g C:Nat}(x:w.grownBy w' o.v.ownBlock)(hn:w'.ownsRow w0.heap.size o.e o.z v' C xs')(I:v'.ownBlock=some g)(p:o.v.ownBlock=some g∨g=w.heap.size):St w0 d l L (O.set k ⟨o.e,o.z,v',C,xs'⟩) X w':=by
 have R:o∈O:=kt s;have A:=h.own o R;have a1:k<O.length:=(mQ.1 s).1
 -- the new blocks:g,and the old ones but o's
 have u:∀b∈dM L (O.set k ⟨o.e,o.z,v',C,xs'⟩),b∈g::dM L O:=by
  intro b n;rcases gy.1 n with⟨r,J,e⟩|⟨q,t,e⟩
  . grind[gy]
  . rcases wq t with m|rfl
    . grind[gy]
    grind
 have F:w0.heap.size<=g:=(hn.lt g I).1;have Q:∀b∈dM L (O.set k ⟨o.e,o.z,v',C,xs'⟩),w0.heap.size<=b:=λb n=>by
  rcases ib.1 (u b n) with rfl|m
  . exact F
  . exact h.lo b m
 have a6:∀r∈L,some r.b≠o.v.ownBlock:=λr J e=>
  (xj.1 h.nd).2.2 r.b (fM.2 ⟨r,J,ae⟩) r.b (GU.2 ⟨o,R,e.symm⟩) ae
 have a4:∀i q,O[i]?=some q->i≠k->∀b,q.v.ownBlock=some b->o.v.ownBlock≠some b:=by
  intro i q y a3 b n v;have j:(O.filterMap O4.ob).Nodup:=(xj.1 h.nd).2.1;have:∀(O:List O4)(i k:Nat)(q o:O4),(O.filterMap O4.ob).Nodup->O[i]?=some q->O[k]?=some o->i<k->q.v.ownBlock=some b->o.v.ownBlock=some b->False:=by
   intro O
   induction O with
   |nil=>grind
   |cons a O ih=>
    intro i k q o j y s a2 n v;cases k with
    |zero=>omega
    |succ k=>
     cases i with
     |zero=>
      simp only[getElem?_cons_zero,xk] at y;subst y;rw[filterMap_cons_some (f:=O4.ob) n,vP] at j;exact j.1 (GU.2 ⟨o,kt (by simpa using s),v⟩)
     |succ i=>
      refine ih i k q o ?_ iG iG cw n v;cases E:a.v.ownBlock with
      |none=>grind[filterMap_cons_none,O4.ob]
      |some c=>simp_all[O4.ob]
  grind
 have Y:∀D,d=some D->w'.heap[D]?=w.heap[D]?:=λD e=>x.block D (gr (h.UG D e)) (λV=>by
  have m:=uQ A.1 V.symm;have z:=A.2.2;rw[<-ve ((h.UG D e).symm.trans m)] at z;exact absurd z jR)
 refine⟨h.fr.grown x λb e=>(A.1.lt b e).1,λr J=>?_,λq t=>?_,Q,?_,?_,h.k8⟩
 . have hR:=h.row r J
   grind[cu.grown,qT]
 . rcases List.mem_iff_getElem?.1 t with⟨i,y⟩;rw[z8] at y;by_cases N:k=i
   . grind
   . rw[cM N] at y;have U:=h.own q (kt y);refine⟨U.1.kept x ?_,U.2⟩;cases a5:q.v.ownBlock<;>grind
 . -- no block twice
   have j:=h.nd;unfold dM at j|-;have H:∀(O:List O4)(k:Nat),O[k]?=some o->(O.filterMap O4.ob).Nodup->(∀q∈O,q.v.ownBlock=some g->o.v.ownBlock=some g)->
    ((O.set k ⟨o.e,o.z,v',C,xs'⟩).filterMap O4.ob).Nodup:=by
    intro O
    induction O with
    |nil=>grind
    |cons a O ih=>
     intro k s j t;cases k with
     |zero=>
      simp only[getElem?_cons_zero,xk] at s;subst s;rw[z',filterMap_cons_some (f:=O4.ob) (a:=⟨a.e,a.z,v',C,xs'⟩) I,vP]
      grind[O4.ob]
     |succ k=>
      have G:O[k]?=some o:=by grind
      rw[Eh];cases E:a.v.ownBlock with
      |none=>
       grind[O4.ob]
      |some c=>
       rw[filterMap_cons_some (f:=O4.ob) E,vP] at j|-;refine⟨λT=>?_,ih k G j.2 λq m=>t q (jI _ m)⟩;have⟨q,m,z⟩:=GU.1 T;rcases wq m with h3|rfl
       . grind
       . rw[show(Value.ownBlock v')=some c from z] at I;cases I;have:=t a (lW ..) E;exact j.1 (GU.2 ⟨o,kt G,this⟩)
   rw[xj] at j|-;have M:∀q∈O,q.v.ownBlock=some g->o.v.ownBlock=some g:=λq t e=>by
    rcases p with m|m
    . exact m
    . have:=h.lt g (gy.2 (.inr ⟨q,t,e⟩));omega
   refine⟨j.1,H O k s j.2.1 M,λa E b n=>?_⟩;have⟨q,m,z⟩:=GU.1 n;rcases wq m with h3|rfl
   . grind
   . have Z:g=b:=ve (I.symm.trans z);rcases p with h4|h4
     . grind
     . have:=h.lt a (fL.2 (.inl E));omega
 . -- what else is known
   refine h.k8.mono (B:=g::dM L O) ?_ u;cases n:o.v.ownBlock with
   |none=>
    rw[n] at x;refine h.k8.cx ?_ (Vu x);rcases p with m|m
    . grind
    . exact h.k8.add h.x cw
   |some b=>
    rw[n] at x;have K:b∈dM L O:=gy.2 (.inr ⟨o,R,n⟩);have hx:X (g::dM L O) w:=by
     rcases p with m|m
     . rw[n] at m;cases m;exact h.k8.mono h.x λk s=>by
        grind
     . exact h.k8.add h.x cw
    exact h.k8.but hx (jI _ K) (Vt x) (uQ A.1 n) A.2.1 (.inl A.2.2)
end
/-! ### What else is known -/
def vt:kK none (λ_ _=>True):=⟨λ_ _=>gI,λ_ _=>gI,λ_ _=>gI,λ_ _ _ _ _ _=>gI,λ_ e=>by cases e⟩
theorem abM{w:cB}{D:Nat}{v:Dv}(h:iK w D v):gx w D=some 127/\∀k∈nL w D,k<w.heap.size:=by refine⟨h.UG,λk a=>?_⟩;have⟨l,hl⟩:=h.open;rw[hl.nL] at a;exact hl.lt k a
theorem ej.agp{P:Nat}{s:Pl}(h:ej w P D M s)(c:iU b w w')(a:gx w b=some t)(ho:fT t=false)(d:kO t=false∨b∉nL w D):ej w' P D M s:=by rcases d with h1|h1;grind[ej.but];have⟨l,hl⟩:=h.dev.open;rw[hl.nL] at h1;refine h.agl c hl h1 (λe=>?_) (λe=>?_);rw[e,h.tyP] at a;cases a;cases ho;rw[e,h.tyM] at a;cases a;cases ho
def Bq(P D M:Nat)(s:Pl):cD->cB->Prop:=λ_ w=>ej w P D M s
def dw(P D M:Nat)(s:Pl):kK (some D) (Bq P D M s):=
 ⟨λh a=>ej.cx h a,λh _=>h,λh _=>h,λh _ a c ho b=>ej.agp h a c ho (b.imp id λf=>f D ae),fun {B w D'} (h:ej w P D M s) e=>by cases e;exact abM h.dev⟩
def xL(e:dC)(z:Nat)(v:cI)(n:Nat)(xs:List cI):cD->cB->Prop:=λB w=>cK w e z v n xs/\(0<n->∀b,v.ownBlock=some b->b∉B)
def On(h:xL e z v n xs B w)(a:dz w w'):xL e z v n xs B w':=⟨h.1.cx a,h.2⟩
def cK.aiV(h:cK w T sz v n xs)(s:iU c w w')(hc:0<n->∀b,v.ownBlock=some b->b≠c):cK w' T sz v n xs:=by obtain⟨i,e,cap,rfl,j,k,l⟩:=h;refine⟨i,e,cap,ae,j,k,λd=>?_⟩;obtain⟨b,o,f,g,rfl,a,m⟩:=l d;exact⟨b,o,f,g,ae,by rw[s.block b (qj.1 a).1 (hc d b ae)];exact a,m⟩
def Xt(h:xL e z v n xs B w)(d:b∈B)(a:iU b w w'):xL e z v n xs B w':=
 ⟨h.1.aiV a λf c hc e=>h.2 f c hc (e▸d),h.2⟩
def Xu(h:xL e z v n xs B w)(f:w.heap.size<=b):xL e z v n xs (b::B) w:=
 ⟨h.1,λd c hc a=>by
  rcases ib.1 a with rfl|a
  . have:=gr (h.1.ty hc d);omega
  . exact h.2 d c hc a⟩
def Sr{a:cD}(h:xL e z v n xs B w)(f:∀k∈a,k∈B):xL e z v n xs a w:=⟨h.1,λd c hc b=>h.2 d c hc (f c b)⟩
def abN{l:cD}(h:xL e z v n xs B w)(f:Fr d l w w')(a:kO e=false)(b:fT e=false):xL e z v n xs B w':=⟨h.1.fr f (.inr a) b,h.2⟩
theorem kK.sl(h:kK d X)(e:dC)(z:Nat)(v:cI)(n:Nat)(xs:List cI):kK d (λB w=>X B w/\xL e z v n xs B w):=
 ⟨λa b=>⟨h.cx a.1 b,On a.2 b⟩,λa b=>⟨h.add a.1 b,Xu a.2 b⟩,λa b=>⟨h.mono a.1 b,Sr a.2 b⟩,λa b c t u v=>⟨h.but a.1 b c t u v,Xt a.2 b c⟩,λa e=>h.dev a.1 e⟩
/-! ### Types of rows -/
def jF(P:kS)(ty:dC)(n:Nat):Prop:=(∃d,P.underlying ty=some d/\d.isRow=true)/\(P.info? ty).map (·.size)=some n
def kB(P:kS)(ty:dC):Prop:=(∃d,P.underlying ty=some d/\d.isRow=false)/\(P.info? ty).map (·.size)=some 1
section
def vS(dst:Nat)(ty:dC)(x:Nat)(h:wpList P ops Q (⟨some dst,.load ty (.tmp x),t2,p,af,none⟩::rest) a w):wpList P ops Q (⟨some dst,.load ty (.tmp x),t2,p,af,none⟩::rest) a w:=h
def uV(ty:dC)(x y:Nat)(h:wpList P ops Q (⟨none,.store ty (.tmp x) (.tmp y),t2,p,af,none⟩::rest) a w):wpList P ops Q (⟨none,.store ty (.tmp x) (.tmp y),t2,p,af,none⟩::rest) a w:=h
def abO(ty:dC)(x:Nat){c:cI}(h:wpList P ops Q (⟨none,.store ty (.tmp x) (.const c),t2,p,af,none⟩::rest) a w):wpList P ops Q (⟨none,.store ty (.tmp x) (.const c),t2,p,af,none⟩::rest) a w:=h
def Xv(dst:Nat)(ty:dC)(x:Nat)(h:wpList P ops Q (⟨some dst,.box ty (.tmp x),t2,p,af,none⟩::rest) a w):wpList P ops Q (⟨some dst,.box ty (.tmp x),t2,p,af,none⟩::rest) a w:=h
def J3(dst:Nat)(ty:dC)(h:wpList P ops Q (⟨some dst,.alloc ty,t2,p,af,none⟩::rest) a w):wpList P ops Q (⟨some dst,.alloc ty,t2,p,af,none⟩::rest) a w:=h
def aiJ(dst:Nat)(ty:dC)(x i:Nat)(h:wpList P ops Q (⟨some dst,.index ty (.tmp x) (.tmp i),t2,p,af,none⟩::rest) a w):wpList P ops Q (⟨some dst,.index ty (.tmp x) (.tmp i),t2,p,af,none⟩::rest) a w:=h
def ahy(dst:Nat)(ty:dC)(x:Nat)(h:wpList P ops Q (⟨some dst,.buildSlice ty 1 #[(0,.tmp x)],t2,p,af,none⟩::rest) a w):wpList P ops Q (⟨some dst,.buildSlice ty 1 #[(0,.tmp x)],t2,p,af,none⟩::rest) a w:=h
def abP(dst:Nat)(x y:Nat)(h:wpList P ops Q (⟨some dst,.call {callee:=.builtin .append,args:=#[.tmp x,.tmp y],argTypes:=ts},t2,p,af,none⟩::rest) a w):wpList P ops Q (⟨some dst,.call {callee:=.builtin .append,args:=#[.tmp x,.tmp y],argTypes:=ts},t2,p,af,none⟩::rest) a w:=h
variable {l:cD}{L:List R4}{O:List O4}{dst x y:Nat}{ty:dC}
def Oo(S:St w0 d l L O X w)(k:Nat){r:R4}(c:L[k]?=some r)(f:a.eval (.tmp x)=.pointer (some ⟨r.b,0,none⟩))(b:A=ct r.n r.f)(e:jF P ty r.n)(h:wpList P ops Q rest (a.put (some dst) (.agg A)) w):wpList P ops Q (⟨some dst,.load ty (.tmp x),t2,p,af,none⟩::rest) a w:=by have⟨⟨dd,hu,hd⟩,hi⟩:=e;have:=wpList_load_mid (op:=⟨some dst,.load ty (.tmp x),t2,p,af,none⟩) (ops:=ops) (rest:=rest) (Q:=Q) ae ty (.tmp x) ae r.b 0 f A.toList dd (Av (S.oh c) b) hu hd aD;rw[tO] at this;exact this h
theorem Aw(h:cu w b t n f)(d:o+m<=n)(c:∀i,i<m->f (o+i)=g i)(a:A=ct m g):w.rangeAt b o A.toList:=by subst a;intro j v e;grind[cU,cu.cell]
def Oq(S:St w0 d l L O X w)(k:Nat){r:R4}(e:L[k]?=some r)(n:a.eval (.tmp x)=.pointer (some ⟨r.b,o,none⟩))(g:Nat->cI)(f:o+m<=r.n)(c:∀i,i<m->r.f (o+i)=g i)(b:A=ct m g)(j:jF P ty m)(h:wpList P ops Q rest (a.put (some dst) (.agg A)) w):wpList P ops Q (⟨some dst,.load ty (.tmp x),t2,p,af,none⟩::rest) a w:=by have⟨⟨dd,hu,hd⟩,hi⟩:=j;have:=wpList_load_mid (op:=⟨some dst,.load ty (.tmp x),t2,p,af,none⟩) (ops:=ops) (rest:=rest) (Q:=Q) ae ty (.tmp x) ae r.b o n A.toList dd (Aw (S.oh e) f c b) hu hd aD;rw[tO] at this;exact this h
theorem agq{cap:Nat}(R:cK w e z (.slice (some ⟨b,o,none⟩) n cap) n xs)(s:j<n)(f:a.eval (.tmp x)=.pointer (some ⟨b,o+j*z,none⟩))(m:A.size=z)(q:∀i,i<z->xs[j*z+i]?=A[i]?)(d:jF P ty z)(h:wpList P ops Q rest (a.put (some dst) (.agg A)) w):wpList P ops Q (⟨some dst,.load ty (.tmp x),t2,p,af,none⟩::rest) a w:=by
 have⟨⟨dd,hu,hd⟩,hi⟩:=d;have c:w.rangeAt b (o+j*z) A.toList:=by have⟨h1,ao,cap',h2,h3,h4,h5⟩:=R;obtain⟨g,o',k,l,rfl,r,hc⟩:=h5 cw;cases h2;intro i v t;grind[cell_of_row]
 have:=wpList_load_mid (op:=⟨some dst,.load ty (.tmp x),t2,p,af,none⟩) (ops:=ops) (rest:=rest) (Q:=Q) ae ty (.tmp x) ae b _ f A.toList dd c hu hd iG;rw[tO] at this;exact this h
theorem iB(hc:w.cell? ⟨b,o,none⟩=some v)(f:a.eval (.tmp x)=.pointer (some ⟨b,o,none⟩))(e:kB P ty)(h:wpList P ops Q rest (a.put (some dst) v) w):wpList P ops Q (⟨some dst,.load ty (.tmp x),t2,p,af,none⟩::rest) a w:=by
 have⟨⟨dd,hu,hd⟩,hi⟩:=e;refine lF ae λ_ d=>?_;have c:(isAgg ty).run P w=.ok false w:=by unfold isAgg;rw[kj,xC hu w];cases dd<;>simp_all [TypeDesc.isRow]
 unfold Oper.wp execOp;simp only[f,Instr.loadAt,Instr.sureAddr,kj,qq,mS,loadVar,c,cM Pd,run_load,hc];exact d _ _ h
def xM(S:St w0 d l L O X w)(k:Nat){r:R4}(c:L[k]?=some r)(i:Nat)(f:r.f i=v)(b:i<r.n)(g:a.eval (.tmp x)=.pointer (some ⟨r.b,i,none⟩))(e:kB P ty)(h:wpList P ops Q rest (a.put (some dst) v) w):wpList P ops Q (⟨some dst,.load ty (.tmp x),t2,p,af,none⟩::rest) a w:=
 iB (by rw[S.cell c b,f]) g e h
theorem nO(S:St w0 d l L O X w){Z:fJ}(g:a.eval (.tmp x)=.pointer (some ⟨w.heap.size,0,none⟩))(j:a.eval (.tmp y)=.agg A)(b:A=ct n f)(e:jF P ty n)(ho:fT ty=false)(c:Z.size=n)(k:∀i,(f i).oneCell'=true)(h:∀W,St w0 d l (⟨w.heap.size,ty,n,f⟩::L) O X W->wpList P ops Q rest (a.put none undef) W):wpList P ops Q (⟨none,.store ty (.tmp x) (.tmp y),t2,p,af,none⟩::rest) a (w.alloc (.cells Z ty)):=
 As (o:=⟨none,.store ty (.tmp x) (.tmp y),t2,p,af,none⟩) ae ty (.tmp x) (.tmp y) ae Z A n g j e.2 c (by rw[b,cF]) (by grind[nu]) (h _ (S.alloc ty b ho))
def Ss(S:St w0 d l L O X w)(k:Nat){r:R4}(b:L[k]?=some r)(j:a.eval (.tmp x)=.pointer (some ⟨r.b,0,none⟩))(m:a.eval (.tmp y)=.agg A)(e:A=ct r.n f)(g:jF P ty r.n)(c:∀i,(f i).oneCell'=true)(h:∀W,St w0 d l (L.set k ⟨r.b,r.t,r.n,f⟩) O X W->wpList P ops Q rest (a.put none undef) W):wpList P ops Q (⟨none,.store ty (.tmp x) (.tmp y),t2,p,af,none⟩::rest) a w:=
 wpList_store_row (o:=⟨none,.store ty (.tmp x) (.tmp y),t2,p,af,none⟩) ae ty (.tmp x) (.tmp y) ae r.b j r.n f A m e r.t r.f (S.oh b) g.2 c (h _ (S.set b f))
theorem Ax(e:w.there b o 1)(r:a.eval (.tmp x)=.pointer (some ⟨b,o,none⟩))(s:a.eval q=v)(n:v.oneCell'=true)(d:kB P ty)(h:wpList P ops Q rest (a.put none undef) (w.setCell ⟨b,o,none⟩ v)):wpList P ops Q (⟨none,.store ty (.tmp x) q,t2,p,af,none⟩::rest) a w:=by
 refine lF ae λ_ g=>?_;have c:=KU (P:=P) b o [v] 0 w (λj k=>by simpa using(e j cw).1) (λj k=>by simpa using(e j cw).2) (λu t=>by grind);have hc:v.cells=#[v]:=by cases v<;>first|rfl|cases n
 have f:(storeVar ty ⟨b,o,none⟩ v).run P w=.ok () (w.setCell ⟨b,o,none⟩ v):=by cases l:P.info? ty with|none=>have:=d.2;grind|some i=>(have m:i.size=1:=by have:=d.2;grind);simp only[wi] at c;simp[storeVar,sizeOf,typeInfo,l,hc,m,c];rfl
 unfold Oper.wp execOp;simp only[r,s,Instr.storeAt,Instr.sureAddr,kj,qq,mS,f];exact g _ _ h
def tR(S:St w0 d l L O X w)(k:Nat){r:R4}(b:L[k]?=some r)(i:Nat)(m:i<r.n)(f:a.eval (.tmp x)=.pointer (some ⟨r.b,i,none⟩))(g:a.eval q=v)(e:v.oneCell'=true)(c:kB P ty)(h:∀W,St w0 d l (L.set k ⟨r.b,r.t,r.n,λj=>if j=i then v else r.f j⟩) O X W->wpList P ops Q rest (a.put none undef) W):wpList P ops Q (⟨none,.store ty (.tmp x) q,t2,p,af,none⟩::rest) a w:=
 Ax (mO (S.oh b) cw) f g e c (h _ (S.put b i v))
def IU(S:St w0 d l L O X w)(k:Nat){r:R4}(c:L[k]?=some r){b:Nat->cI}(n:o+m<=r.n)(s:a.eval (.tmp x)=.pointer (some ⟨r.b,o,none⟩))(t:a.eval (.tmp y)=.agg A)(f:A=ct m g)(q:jF P ty m)(e:∀i,(g i).oneCell'=true)(j:∀w',cu w r.b r.t r.n r.f->w'=w.setCells r.b o (ct m g).toList->cu w' r.b r.t r.n b)(h:∀W,St w0 d l (L.set k ⟨r.b,r.t,r.n,b⟩) O X W->wpList P ops Q rest (a.put none undef) W):wpList P ops Q (⟨none,.store ty (.tmp x) (.tmp y),t2,p,af,none⟩::rest) a w:=by
 subst f;exact wpList_store_mid (op:=⟨none,.store ty (.tmp x) (.tmp y),t2,p,af,none⟩) ae ty (.tmp x) (.tmp y) ae r.b o (ct m g) s t (by rw[cF];exact mO (S.oh c) n) (by rw[cF];exact q.2) (nu g e)
  (h _ (S.modify c b (iU.setCells _ _ _ _) (j _ (S.oh c) ae)))
def xN(S:St w0 d l L O X w)(e:a.eval (.tmp x)=.agg A)(b:A=ct n f)(ho:fT ty=false)(h:∀W,St w0 d l (⟨w.heap.size,ty,n,f⟩::L) O X W->wpList P ops Q rest (a.put (some dst) (.pointer (some ⟨w.heap.size,0,none⟩))) W):wpList P ops Q (⟨some dst,.box ty (.tmp x),t2,p,af,none⟩::rest) a w:=by refine lF ae λK c=>?_;unfold Oper.wp execOp;simp only[kj,Instr.box,newVar,newRow,EM,qq,mS];rw[e];exact c _ _ (h _ (S.alloc ty b ho))
end
end Go.Proofs.YtklligbjoplbgaaGreat