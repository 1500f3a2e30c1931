/- Part 3 of the proof of WholeAudit. No conditions. -/
import Derived.Test.YtklligbjoplbgaaGreatRab
import Derived.Lib.BufferWrite
import Derived.Shelf.SlSortCmp.SmallK
import Derived.Sort.AtCall
set_option linter.all false
open List renaming length->List.n
open String renaming length->String.n
open Array renaming size->Array.s,toList->Array.t
open ByteArray renaming size->ByteArray.s
open Go.TypeInfo renaming size->Go.TypeInfo.s
open Go.RowKit.Below renaming size->Go.RowKit.Below.s
open Option renaming toList->Option.t,some->cu,none->cw
open Go.World renaming heap->Go.World.h
open Int renaming toNat->Int.m
open Go.Value renaming int->bU,agg->bV,pointer->bW,slice->bX,string->bY,bool->bZ,tuple->cg
open Go.Ending renaming returned->cj
open Go.IntKind renaming i64->cq,u64->ct
open Bool renaming true->cx,false->cy
namespace Go.Proofs.YtklligbjoplbgaaGreat
set_option maxRecDepth 100000
set_option maxHeartbeats 64000000
open Go.RowKit Lib List Nat _root_.Go.Proofs.Tryz Go.Shelf
variable {Z cur:gJ}{a:Act}{K:Act->cS->Prop}{parts:Array (Nat×Operand)}{listed:Array Bool}{af:Array Edge}{ops:Array Oper}{ts:Array dW}{A args:Array c7}{str:fM}{R:Ending->World->Prop}{Q:Exit->Act->cS->Prop}{fn:Func}{B bs l l2 s:cV}{X X' Y:cV->cS->Prop}{vs:List (Nat×c7)}{rest:List Oper}{xs xs':List c7}{D E M base by' c dst fuel i ix j k m n o size cR sz y z:Nat}{mp rm st:Nat->Nat}{f g:Nat->c7}{o' oi op:Oper}{hi lo q r:Operand}{gd:Option (Nat×Bool)}{ao:Option Addr}{d d2:Option Nat}{P:oN}{Q':Prop}{cO:cQ}{p pp:String}{T dT e sT t2 ty:dW}{q2:Tmp}{α β:Type}{u v v' zv:c7}{W w w' w0 wS:cS}{S:cS->Prop}{SS:World->Prop}
def Ev{b:Nat}(h:cL w b 206 1040 (tV st rm))(q r:Nat)(v:Int)(a:v=(r:Int)):
 cL (w.setCell ⟨b,1024+q,cw⟩ (bU cq v)).drew b 206 1040 (tV st (λk=>if k=q then r else rm k)):=by subst a;exact(cL.set h (1024+q) (bU cq r)).congr λj _=>aaH st rm q r j
theorem G8{b:Nat}(h:cL w b 206 1040 (tV st rm))(hi:i<1024)(v:Nat):
 cL (w.setCell ⟨b,i,cw⟩ (bU .u8 v)) b 206 1040 (tV (kE st i v) rm):=by refine(cL.set h i (bU .u8 v)).congr λj _=>?_;by_cases a:j=i;subst a;rw[c8 ae,L0 _ _ hi,Je];simp_all[tV,Ga]
theorem Dq{b:Nat}(h:cL w b 206 1040 (tV st rm))(c:∀k,k<16->rm k=kj st k):fD w b st:=by refine cL.congr h λj a=>?_;unfold tV;grind
theorem PU{b:Nat}(h:cL w b 206 1040 (tV st rm))(hi:i<1024):w.cell? ⟨b,i,cw⟩=cu (.int .u8 (st i:Nat)):=by grind[cL.cell,L0]
theorem T6{b:Nat}(h:cL w b 206 1040 (tV st rm))(a:k<16):w.cell? ⟨b,1024+k,cw⟩=cu (.int cq (rm k:Nat)):=by grind[cL.cell,PK]
theorem Xr(st:Nat->Nat){a:Nat}(k:Nat):kj (kE st i a) k=if k=i/64 then kj st (i/64)-(if st i=1 then 1 else 0)+(if a=1 then 1 else 0) else kj st k:=by by_cases h:k=i/64;subst h;rw[c8 ae];have b:=aaF st (i:=i) (k:=i/64) a ae;have c:st i=1->0<kj st (i/64):=λh=>Jf cN cN h;grind;rw[cX h];grind[Oy]
def Xx(v:c7)(l:List Int)(w:cS)(K:eU cq w v l):
 CP_ 91 #[v] w λe w'=>∃v',e=cj v'/\mT w' w.h.s v' (iE (oG l))/\dS w w':=by
 obtain⟨ao,cap,rfl,y,_,hc⟩:=K;have z:=cz hc;clear hc;have g:=cL.alloc w 249 4096 (iL λ_=>cy);rw[<-Y1] at g;have p:dS w (w.alloc (.cells zeroCells249 249)):=(gK _ _).alloc (eN _) _;go_enter func91,ntmps91;go_wp2_with (fail);have⟨W,hW⟩:=fU (w.alloc (.cells zeroCells249 249));rw[<-hW] at g p|-;have J:W.h.s=w.h.s+1:=by rw[hW];simp
 have D:Below (w.h.s+1) W W:=gK _ _;clear hW
 go_loopw [8] (λi wr=>∃(k:Nat),k<=l.n/\i=bU cq k/\cL wr w.h.s 249 4096 (iL (oG (l.take k)))/\dS w wr)
  (λi _=>l.n-(intOf i).m)
 exact⟨0,gG _,ae,g.congr (λi _=>by simp[iL,oG]),p⟩;obtain⟨k,M,rfl,a,hbel⟩:=hrel;by_cases d:k<l.n
 . obtain⟨b,o,rfl,s,c⟩:=z.o (by intro h;simp[h] at d);have C:=aal s c hbel d;clear c;by_cases f:0<=l[k]/\l[k]<4096
   . obtain⟨n,x⟩:∃n:Nat,l[k]=(n:Int):=⟨l[k].m,cN⟩;have A:=cz x;rw[x] at C f;clear x;have t:=a.cell (i:=n) cN;have E:=a.frozen n;simp only[iL] at t;have G:(n:Int)<(4096:Int):=cN;have F:(0:Int)<=(n:Int):=cN;go_wp2;go_roundw;refine⟨k+1,cN,by go_num,a.GS n cx (λj u=>?_),hbel.setCell (eN _) _⟩;rw[FZ d,A.o];by_cases q:j=n;subst q;simp;rw[cX q,jC cN,Bool.or_false];exact qN
   . (have m:Hid (∀j,j<4096->oG (l.take (k+1)) j=oG (l.take k) j):=by intro j u;rw[FZ d,jC cN,Bool.or_false]);by_cases B:0<=l[k];have L:¬l[k]<4096:=λh=>f ⟨B,h⟩;rotate_left
     all_goals
      clear f;go_wp2;go_roundw
      case rel=>exact⟨k+1,cN,by go_num,a.congr (λj u=>by simp only[iL];rw[m.o j u]),hbel⟩
      case measure=>exact qN
 . have H:Hid (l.take k=l):=nV cN;rw[H.o] at a;go_wp2_with (go_at_call 158;refine(Px _ _ _ a).mono ?_;rintro e N ⟨v',rfl,I,r⟩);go_ret;exact⟨_,ae,I.mono hbel.size,Below.step hbel hbel.size r⟩
section
attribute[local irreducible]wpList Code.wp Calls Oper.wp wpAnyH
theorem Lj(b:Nat)(st:Nat->Nat)(i f:Nat)(hi:i<1024)(w:cS)(t:fD w b st):
 CP_ 146 #[bW (cu ⟨b,0,cw⟩),bU cq i,bU .u8 f] w λe w'=>e=cj (cg #[])/\fD w' b (kE st i f)/\jZ b w w':=by
 have hc:=t.state hi;have D:=t.room (k:=i/64) cN;have E:=cL.frozen t i;have G:=cL.frozen t (1024+i/64);have J:=TT st (i/64);have g:st i=1->1<=kj st (i/64):=λh=>Jf cN cN h;have L:(0:Int)<=(i:Int):=cN;have M:(i:Int)<1024:=cN;have N:(0:Int)<=(i:Int)/64:=cN;have O:(i:Int)/64<16:=cN;have H:Hid (∀k,kj (kE st i f) k=if k=i/64 then kj st (i/64)-(if st i=1 then 1 else 0)+(if f=1 then 1 else 0) else kj st k):=Xr st;have⟨x,HX⟩:=sV (st i);have⟨r,HR⟩:=sV (kj st (i/64));rw[HX.o] at hc g;rw[HR.o] at D J g;have I:Hid (jZ b w w):=jZ.refl b w;by_cases q:x=1
 . by_cases s:f=1
   . (have y:((x:Int)==1)=cx:=by rw[wX];omega);(have g:=g q;have C:(x:Int)=1:=cN;have z:((f:Int)==1)=cx:=by rw[wX];omega);have m:=cz q;clear q;have n:=cz s;clear s;clear C;go_enter func146,ntmps146;go_wp2_with fail;go_region;(have⟨w1,hw1⟩:=fU ((w.setCell ⟨b,1024+i/64,cw⟩ (bU cq ((r:Int)-1))).drew);rw[<-hw1];have l:cL w1 b 206 1040 (tV st (λk=>if k=i/64 then r-1 else kj st k)):=by rw[hw1];exact Ev t (i/64) (r-1) _ cN);(have o:jZ b w w1:=by rw[hw1];exact(I.o.setCell _ _).drew);clear hw1;have E:=cL.frozen l i;have u:=cz o;clear o;have hc:=PU l hi;rw[HX.o] at hc;go_wp2_with fail;(have⟨w2,hw2⟩:=fU (w1.setCell ⟨b,i,cw⟩ (bU .u8 (f:Int)));rw[<-hw2];have a:=G8 l hi f;have c:jZ b w w2:=by rw[hw2];exact u.o.setCell _ _);(rw[<-hw2] at a;clear hw2;have D:=T6 a (k:=i/64) cN;have G:=cL.frozen a (1024+i/64);simp only[oQ] at D;have v:=cz c;clear c;obtain⟨r',B⟩:∃r',r-1=r':=⟨_,ae⟩;rw[B] at D;have K:r'<=64:=by have:=B;omega);go_wp2_with fail;go_region;have⟨w3,hw3⟩:=fU ((w2.setCell ⟨b,1024+i/64,cw⟩ (bU cq ((r':Int)+1))).drew);rw[<-hw3];have p:=Ev a (i/64) (r'+1) ((r':Int)+1) cN;have A:jZ b w w3:=by rw[hw3];exact(v.o.setCell _ _).drew
     rw[<-hw3] at p;have d:fD w3 b (kE st i f):=Dq p (λk _=>by
      rw[H.o k,HX.o,HR.o];have:=m.o;have:=n.o;have:=B;by_cases F:k=i/64
      . subst F;simp[*]<;>first|rfl|omega|exact HR.o
      . simp[F])
     have j:=cz A;go_wp2;go_end0;exact⟨ae,d,j.o⟩
   . (have y:((x:Int)==1)=cx:=by rw[wX];omega);(have g:=g q;have C:(x:Int)=1:=cN;have z:((f:Int)==1)=cy:=by rw[lr];omega);have m:=cz q;clear q;have n:=cz s;clear s;clear C;go_enter func146,ntmps146;go_wp2_with fail;go_region;(have⟨w1,hw1⟩:=fU ((w.setCell ⟨b,1024+i/64,cw⟩ (bU cq ((r:Int)-1))).drew);rw[<-hw1];have l:cL w1 b 206 1040 (tV st (λk=>if k=i/64 then r-1 else kj st k)):=by rw[hw1];exact Ev t (i/64) (r-1) _ cN);(have o:jZ b w w1:=by rw[hw1];exact(I.o.setCell _ _).drew);clear hw1;have E:=cL.frozen l i;have u:=cz o;clear o;have hc:=PU l hi;rw[HX.o] at hc;go_wp2_with fail;have⟨w2,hw2⟩:=fU (w1.setCell ⟨b,i,cw⟩ (bU .u8 (f:Int)));rw[<-hw2];have a:=G8 l hi f;have c:jZ b w w2:=by rw[hw2];exact u.o.setCell _ _
     rw[<-hw2] at a;clear hw2;have d:fD w2 b (kE st i f):=Dq a (λk _=>by
      rw[H.o k,HX.o,HR.o]
      grind)
     have j:=cz c;clear c;go_wp2;go_end0;exact⟨ae,d,j.o⟩
 . by_cases s:f=1
   . (have y:((x:Int)==1)=cy:=by rw[lr];omega);(have z:((f:Int)==1)=cx:=by rw[wX];omega);have m:=cz q;clear q;have n:=cz s;clear s;go_enter func146,ntmps146;go_wp2_with fail;(have⟨w2,hw2⟩:=fU (w.setCell ⟨b,i,cw⟩ (bU .u8 (f:Int)));rw[<-hw2];have a:=G8 t hi f;have c:jZ b w w2:=by rw[hw2];exact I.o.setCell _ _);rw[<-hw2] at a;clear hw2;have D:=T6 a (k:=i/64) cN;have G:=cL.frozen a (1024+i/64);rw[HR.o] at D;have v:=cz c;clear c;go_wp2_with fail;go_region;have⟨w3,hw3⟩:=fU ((w2.setCell ⟨b,1024+i/64,cw⟩ (bU cq ((r:Int)+1))).drew);rw[<-hw3];have p:=Ev a (i/64) (r+1) ((r:Int)+1) cN;have A:jZ b w w3:=by rw[hw3];exact(v.o.setCell _ _).drew
     rw[<-hw3] at p;have d:fD w3 b (kE st i f):=Dq p (λk _=>by
      rw[H.o k,HX.o,HR.o]
      grind)
     have j:=cz A;go_wp2;go_end0;exact⟨ae,d,j.o⟩
   . (have y:((x:Int)==1)=cy:=by rw[lr];omega);(have z:((f:Int)==1)=cy:=by rw[lr];omega);have m:=cz q;clear q;have n:=cz s;clear s;go_enter func146,ntmps146;go_wp2_with fail;have⟨w2,hw2⟩:=fU (w.setCell ⟨b,i,cw⟩ (bU .u8 (f:Int)));rw[<-hw2];have a:=G8 t hi f;have c:jZ b w w2:=by rw[hw2];exact I.o.setCell _ _
     rw[<-hw2] at a;clear hw2;have d:fD w2 b (kE st i f):=Dq a (λk _=>by
      rw[H.o k,HX.o,HR.o];have:=m.o;have:=n.o;by_cases F:k=i/64
      . subst F;simp[*]<;>first|omega|exact HR.o
      . simp[F])
     have j:=cz c;clear c;go_wp2;go_end0;exact⟨ae,d,j.o⟩
def isB(st:Nat->Nat)(i:Int)(s:Nat):Bool:=decide (0<=i/\i<1024/\st i.m=s)
def sO(st:Nat->Nat)(i:Int)(s v:Nat):Nat->Nat:=if isB st i s=cx then kE st i.m v else st
def Fe(st:Nat->Nat)(i:Int)(s:Nat):Int:=if isB st i s=cx then 0 else 72
def Ge(b:Nat)(st:Nat->Nat)(i:Int)(s v:Nat)(hi:eT i)(w:cS)(p:fD w b st):
 CP_ 173 #[bW (cu ⟨b,0,cw⟩),bU cq i,bU .u8 s,bU .u8 v] w λe w'=>e=cj (bU cq (Fe st i s))/\fD w' b (sO st i s v)/\jZ b w w':=by
 have⟨r,hr⟩:=dG (isB st i s);have h:=cz p;clear p;have o:=cz hi;clear hi;have a:=cz hr;clear hr;have m:Hid (decide (0<=i/\i<1024/\st i.m=s)=r):=a.o;cases r with
 |false=>
  have c:Fe st i s=72:=by unfold Fe;rw[a.o];rfl
  have d:sO st i s v=st:=by unfold sO;rw[a.o];rfl
  rw[c,d];clear c d;go_enter func173,ntmps173;go_wp2_with fail;refine(Dn b st i s _ h.o o.o).mono ?_;rw[m.o];rintro e t ⟨rfl,rfl⟩;go_wp2;go_ret;exact⟨ae,h.o,jZ.refl _ _⟩
 |true=>
  have c:Fe st i s=0:=by unfold Fe;rw[a.o];rfl
  have d:sO st i s v=kE st i.m v:=by unfold sO;rw[a.o];rfl
  rw[c,d];clear c d;have q:=mj m.o;obtain⟨k,rfl⟩:∃k:Nat,i=(k:Int):=⟨i.m,cN⟩;have n:k<1024:=cN;rw[uI];clear q;go_enter func173,ntmps173;go_wp2_with fail;refine(Dn b st k s _ h.o o.o).mono ?_;rw[m.o];rintro e t ⟨rfl,rfl⟩;go_wp2_with fail;refine aj (Lj b st k v n _ h.o) λu⟨g,f⟩=>?_;have l:=cz g;clear g;have j:=cz f;clear f;go_wp2;go_ret;exact⟨ae,l.o,j.o⟩
def adv(b:Nat)(st:Nat->Nat)(i:Int)(hi:eT i)(w:cS)(g:fD w b st):
 CP_ 124 #[bW (cu ⟨b,0,cw⟩),bU cq i] w λe w'=>e=cj (bU cq (Fe st i 1))/\fD w' b (sO st i 1 2)/\jZ b w w':=by have j:=cz g;clear g;have h:=cz hi;clear hi;go_enter func124,ntmps124;go_wp2_with fail;refine aj (Ge b st i 1 2 h.o _ j.o) λk⟨c,a⟩=>?_;have f:=cz c;clear c;have d:=cz a;clear a;go_wp2;go_ret;exact⟨ae,f.o,d.o⟩
def T7(b:Nat)(st:Nat->Nat)(i:Int)(hi:eT i)(w:cS)(g:fD w b st):
 CP_ 179 #[bW (cu ⟨b,0,cw⟩),bU cq i] w λe w'=>e=cj (bU cq (Fe st i 2))/\fD w' b (sO st i 2 1)/\jZ b w w':=by have j:=cz g;clear g;have h:=cz hi;clear hi;go_enter func179,ntmps179;go_wp2_with fail;refine aj (Ge b st i 2 1 h.o _ j.o) λk⟨c,a⟩=>?_;have f:=cz c;clear c;have d:=cz a;clear a;go_wp2;go_ret;exact⟨ae,f.o,d.o⟩
def aaU(b:Nat)(st:Nat->Nat)(i:Int)(hi:eT i)(w:cS)(g:fD w b st):
 CP_ 180 #[bW (cu ⟨b,0,cw⟩),bU cq i] w λe w'=>e=cj (bU cq (Fe st i 2))/\fD w' b (sO st i 2 3)/\jZ b w w':=by have j:=cz g;clear g;have h:=cz hi;clear hi;go_enter func180,ntmps180;go_wp2_with fail;refine aj (Ge b st i 2 3 h.o _ j.o) λk⟨c,a⟩=>?_;have f:=cz c;clear c;have d:=cz a;clear a;go_wp2;go_ret;exact⟨ae,f.o,d.o⟩
def Gf(st:Nat->Nat):Nat->c7:=λk=>bU cq (kj st k:Nat)
def J7{b:Nat}(h:fD w b st):w.rangeAt b 1024 (cM 16 (Gf st)).t:=by
 intro j v a;rw[nL,dy] at a;split at a;next hj=>cases a;exact h.room hj
 cases a
theorem T8(A:gJ)(k:Nat)(r:Int)(a:k<16)(h:A[k]?=cu (.int cq r))(w:cS):
 (Instr.index 204 (bV A) (bU cq k)).run prog w=.ok (bU cq r) w:=by simp_all[Instr.index,asIntOf,part]
def Y9:(prog.info? 204).map (·.size)=cu 16:=dC
theorem count_map(b:Nat)(st:Nat->Nat)(w:cS)(p:fD w b st):
 CP_ 61 #[bW (cu ⟨b,0,cw⟩)] w λe w'=>e=cj (bU cq (fI st:Nat))/\w=w':=by
 have h:=J7 p;have d:=cz h;clear h p;have m:∀k,k<16->(cM 16 (Gf st))[k]?=cu (.int cq (kj st k:Nat)):=by intro k o;rw[dy,c8 o];rfl
 have c:(cM 16 (Gf st)).s=16:=cW _ _;have⟨A,hAA⟩:=fU (cM 16 (Gf st));rw[<-hAA] at d m c;clear hAA;have f:A.t.toArray=A:=by simp
 have q:=cz m;clear m;go_enter func61,ntmps61;go_wp2_with (refine wpList_load_mid (op:=⟨cu 9,.load 204 (.tmp 8),_,_,_,cw⟩) ae 204 (.tmp 8) ae b 1024 ae A.t _ d.o underlying204 ae (by rw[nA,c];exact Y9) ?_;rw[f]);clear c f
 go_loop [3,10] (λv i=>∃(k s:Nat),k<=16/\i=bU cq k/\v=bU cq s/\Hid (s=G0 st k))
  (λ_ i=>16-(intOf i).m)
 exact⟨0,0,cN,ae,ae,ae⟩;obtain⟨k,s,o,rfl,rfl,j⟩:=hrel;by_cases g:k<16
 . (have t:(k:Int)<16:=cN;have x:s<=1024:=by have y:=j.o;have z:=TV st k;omega);(have n:=TT st k;have a:=q.o k g;have l:Hid (s+kj st k=G0 st (k+1)):=by unfold Hid;rw[j.o];rfl);have⟨r,hr⟩:=dG (kj st k);rw[hr] at a l n;clear hr;have u:=T8 A k r g a;clear a;go_wp2;go_round;grind;exact qN
 . obtain rfl:k=16:=cN;go_wp2;go_ret;exact⟨by rw[j.o];rfl,ae⟩
def Me(st:Nat->Nat):Int:=match nG st with|some i=>(i:Nat)|none=>0
def Mf(st:Nat->Nat):Int:=match nG st with|some _=>0|none=>71
def Mg(st:Nat->Nat):Nat->Nat:=match nG st with|some i=>kE st i 2|none=>st
theorem Gg(h:nG st=cu i):Me st=(i:Nat)/\Mf st=0/\Mg st=kE st i 2:=by unfold Me Mf Mg;grind
theorem Mh(h:nG st=cw):Me st=0/\Mf st=71/\Mg st=st:=by unfold Me Mf Mg;grind
theorem PV(b:Nat)(st:Nat->Nat)(w:cS)(Q:fD w b st):
 CP_ 183 #[bW (cu ⟨b,0,cw⟩)] w λe w'=>e=cj (cg #[bU cq (Me st),bU cq (Mf st)])/\fD w' b (Mg st)/\jZ b w w':=by
 have m:=cz Q;have F:=J7 Q;have o:=cz F;clear F Q;have M:∀k,k<16->(cM 16 (Gf st))[k]?=cu (.int cq (kj st k:Nat)):=by intro k Z;rw[dy,c8 Z];rfl
 have f:(cM 16 (Gf st)).s=16:=cW _ _;have⟨A,hAA⟩:=fU (cM 16 (Gf st));rw[<-hAA] at o M f;clear hAA;have u:A.t.toArray=A:=by simp
 have I:=cz M;clear M;have⟨R,hR⟩:=dG (nG st);have G:=cz hR;clear hR;go_enter func183,ntmps183;go_wp2_with (refine wpList_load_mid (op:=⟨cu 11,.load 204 (.tmp 10),_,_,_,cw⟩) ae 204 (.tmp 10) ae b 1024 ae A.t _ o.o underlying204 ae (by rw[nA,f];exact Y9) ?_;rw[u]);clear f u
 go_loop [4,12] (λv i=>∃(k s:Nat),k<=16/\i=bU cq k/\v=bU cq s/\s<16/\Hid (s=sY st k))
  (λ_ i=>16-(intOf i).m)
 exact⟨0,0,cN,ae,ae,cN,ae⟩;obtain⟨k,s,Z,rfl,rfl,H,X⟩:=hrel;by_cases z:k<16
 . (have J:(k:Int)<16:=cN;have J:(s:Int)<16:=cN;have J:(0:Int)<=(s:Int):=cN;have a:=I.o k z;have hc:=fD.room m.o H;have d:Hid (sY st (k+1)=if kj st s<kj st k then k else s):=by unfold Hid;rw[X.o];rfl);have⟨r,hr⟩:=dG (kj st k);have⟨q,hq⟩:=dG (kj st s);rw[hr,hq] at d;rw[hr] at a;rw[hq] at hc;clear hr hq;have I:=T8 A k r z a;clear a;by_cases D:q<r
   . (have E:(q:Int)<(r:Int):=cN;have t:Hid (k=sY st (k+1)):=by unfold Hid;rw[d.o,c8 D]);go_wp2;go_round;grind;simp[intOf];omega
   . (have E:¬(q:Int)<(r:Int):=cN;have t:Hid (s=sY st (k+1)):=by unfold Hid;rw[d.o,cX D]);go_wp2;go_round;exact⟨k+1,s,cN,by go_num,ae,H,t.o⟩;simp[intOf];omega
 . obtain rfl:k=16:=cN;have l:Hid (s=LX st):=X.o;have H:¬((16:Nat):Int)<16:=cN;go_wp2_with fail
   go_loop [7] (λi=>∃(p j:Nat),p=64*s+j/\j<=64/\i=bU cq p/\Hid (∀j',j'<j->st (64*s+j')≠1))
    (λi=>64*s+64-(intOf i).m)
   exact⟨64*s,0,ae,cN,by go_num,λj' h=>absurd h (vz _)⟩;obtain⟨p,j,T,H,rfl,K⟩:=hrel;by_cases O:j<64
   . (have U:(p:Int)<((s:Int)+1)*64:=cN;have V:p<1024:=cN;have n:=cz T;clear T;have C:eT (p:Int):=by unfold eT;omega);by_cases g:st p=1
     . (have c:Hid (R=cu p):=by unfold Hid;rw[<-G.o,n.o];unfold nG;rw[<-l.o];exact Q8 K.o (by rw[<-n.o];exact g) 64 O);have y:decide (0<=(p:Int)/\(p:Int)<1024/\st (p:Int).m=1)=cx:=gI ⟨cN,cN,by rw[uI];exact g⟩;have I:=cz y;clear y g;go_wp2_with fail;refine(Dn b st p 1 _ m.o C).mono ?_;rw[I.o];rintro e w1 ⟨rfl,rfl⟩;go_wp2_with fail
       refine aj (Lj b st p 2 V _ m.o) λH⟨B,x⟩=>?_;have J:=cz B;clear B;have H:=cz x;clear x;go_wp2;refine iI (v:=cg #[bU cq p,bU cq 0]) (by simp[results,results183,go_sem]) ae (by
        have⟨e1,e2,e3⟩:=Gg (G.o.trans c.o);rw[e1,e2,e3];exact⟨ae,J.o,H.o⟩)
     . (have y:decide (0<=(p:Int)/\(p:Int)<1024/\st (p:Int).m=1)=cy:=jC (by rw[uI];exact λh=>g h.2.2);have I:=cz y;clear y;have L:Hid (∀j',j'<j+1->st (64*s+j')≠1):=by intro j' H;by_cases N:j'=j;subst N;rw[<-n.o];exact g;exact K.o j' cN);clear g;go_wp2_with fail;refine(Dn b st p 1 _ m.o C).mono ?_;rw[I.o];rintro e w1 ⟨rfl,rfl⟩;go_wp2;go_round;exact⟨p+1,j+1,by have:=n.o;omega,cN,by go_num,L.o⟩;simp[intOf];have:=n.o;omega
   . have Y:j=64:=cN;have U:¬(p:Int)<((s:Int)+1)*64:=cN;have c:Hid (R=cw):=by unfold Hid;rw[<-G.o];unfold nG;rw[<-l.o];exact Q9 (λj' h=>K.o j' cN)
     clear T;go_wp2;refine iI (v:=cg #[bU cq 0,bU cq 71]) (by simp[results,results183,go_sem]) ae (by
      have⟨e1,e2,e3⟩:=Mh (G.o.trans c.o);rw[e1,e2,e3];exact⟨ae,m.o,jZ.refl _ _⟩)
theorem aaV(st rm:Nat):cM 1040 (tV (λ_=>st) (λ_=>rm))=Array.replicate 1024 (bU .u8 st)++Array.replicate 16 (bU cq rm):=by apply yg;intro j;rw[dy,Array.getElem?_append];simp only[Array.size_replicate,Array.getElem?_replicate];unfold tV;grind
theorem Y':zeroCells206=cM 1040 (tV (λ_=>0) (λ_=>0)):=by rw[aaV];kernel_rfl
def Za:(prog.info? 206).map (·.size)=cu 1040:=dC
theorem Xs(st:Nat->Nat)(s k:Nat)(h:∀i,st i≠1):qt st s k=0:=by induction k with|zero=>rfl|succ k ih=>simp_all[BO]
def Dr(k:Nat):Nat->Nat:=λi=>if 4<=i/\i<k then 1 else 0
theorem Xt:Dr 4=λ_=>0:=by funext i;simp_all[Dr]
theorem Xu(h:4<=k):kE (Dr k) k 1=Dr (k+1):=by funext i;unfold kE Dr;grind
theorem aaW{T:Int}(b:4<=k)(d:k<=1024)(c:(k:Int)<=T∨k=4)(a:T<=(k:Int)∨1024<=k):Dr k=pR T:=by funext i;unfold Dr pR;grind
def Xv(w:cS):fD (w.alloc (.cells zeroCells206 206)) w.h.s (Dr 4):=by rw[Xt,Y'];exact Dq (cL.alloc w 206 1040 (tV (λ_=>0) (λ_=>0))) (λk _=>(Xs _ _ _ (λ_=>by decide)).symm)
def Rn(T:Int)(v:eT T)(w:cS):
 CP_ 86 #[bU cq T] w λe w'=>e=cj (bW (cu ⟨w.h.s,0,cw⟩))/\fD w' w.h.s (pR T)/\Below w.h.s w w':=by
 unfold eT at v;have⟨w0,hw0⟩:=fU (w.alloc (.cells zeroCells206 206));have g:fD w0 w.h.s (Dr 4):=by rw[hw0];exact Xv w
 have c:Below w.h.s w w0:=by rw[hw0];exact aQ
 go_enter func86,ntmps86
 go_wp2_with fail
 rw[<-hw0];clear hw0;have⟨B,hB⟩:=fU w.h.s;rw[<-hB] at g c|-;have p:=cz hB;clear hB
 go_loopw [4] (λi wr=>∃(k:Nat),4<=k/\k<=1024/\i=bU cq k/\Hid ((k:Int)<=T∨k=4)/\fD wr B (Dr k)/\Below B w wr)
  (λi _=>1024-(intOf i).m)
 case atStart=>exact⟨4,cN,by omega,ae,.inr ae,g,c⟩
 case round=>
  clear g c;obtain⟨k,r,x,rfl,u,s,hbel⟩:=hrel;have q:=cz s;clear s;rcases Int.lt_or_le 1024 T with hT1|hT1
  all_goals
   by_cases f:(k:Int)<T/\k<1024
   . have b:(k:Int)<if(1024:Int)<T then 1024 else T:=by split<;>omega
     have o:k<1024:=f.2;have m:Hid (((k+1:Nat):Int)<=T∨k+1=4):=.inl cN;clear f
     go_wp2_with fail
     refine(Lj B _ k 1 o _ q.o).mono ?_;rw[Xu r];rintro e y ⟨rfl,j,h⟩;have d:=hbel.trans (h.cP (eN _) (by rw[p.o];exact hbel.size));have l:=cz j;clear j;clear h b;go_wp2;go_roundw
     case rel=>exact⟨k+1,cN,by omega,by go_num,m.o,l.o,d⟩
     case measure=>simp[intOf];omega
   . have b:¬(k:Int)<if(1024:Int)<T then 1024 else T:=by split<;>omega
     have a:Dr k=pR T:=aaW r x u.o cN;have t:=cz a;clear a f;go_wp2;go_ret;have n:=p.o;subst n;exact⟨ae,by rw[<-t.o];exact q.o,hbel⟩
def mC(st:Nat->Nat)(k:Nat):Nat->Nat:=λi=>if i<k/\st i=3 then 1 else st i
theorem OD(st:Nat->Nat):mC st 0=st:=by rfl
theorem J8(st:Nat->Nat)(k:Nat):mC st k k=st k:=by simp_all[mC]
theorem Ro(h:st k=3):kE (mC st k) k 1=mC st (k+1):=by funext i;unfold kE mC;grind
theorem T9(h:st k≠3):mC st k=mC st (k+1):=by funext i;unfold mC;grind
theorem Rp{b:Nat}(h:fD w b (mC st 1024)):fD w b (mV st):=by
 have a:∀i,i<1024->mC st 1024 i=mV st i:=by simp_all[mC,mV]
 have g:∀k,k<16->kj (mC st 1024) k=kj (mV st) k:=λk f=>J3 λi c d=>a i cN;refine cL.congr h λj e=>?_;unfold tV;grind
def Xw(b:Nat)(st:Nat->Nat)(w:cS)(s:fD w b st):
 CP_ 228 #[bW (cu ⟨b,0,cw⟩)] w λe w'=>e=cj (cg #[])/\fD w' b (mV st)/\jZ b w w':=by
 have p:fD w b (mC st 0):=by rw[OD];exact s
 clear s;have l:=cz p;clear p;have m:=jZ.refl b w;go_enter func228,ntmps228
 go_wp2_with fail
 go_loopw [3] (λi wr=>∃(k:Nat),k<=1024/\i=bU cq k/\Hid (fD wr b (mC st k))/\jZ b w wr)
  (λi _=>1024-(intOf i).m)
 case atStart=>exact⟨0,cN,ae,l,m⟩
 case round=>
  clear l m;obtain⟨k,x,rfl,j,c⟩:=hrel;by_cases r:k<1024
  . have u:(k:Int)<1024:=cN;have o:eT (k:Int):=by unfold eT;omega
    by_cases g:st k=3
    . have n:decide (0<=(k:Int)/\(k:Int)<1024/\mC st k (k:Int).m=3)=cx:=gI ⟨cN,cN,by rw[uI,J8];exact g⟩;have q:=cz n;clear n;have t:=cz g;clear g
      go_wp2_with fail
      refine(Dn b _ k 3 _ j.o o).mono ?_;rw[q.o];rintro e v ⟨rfl,rfl⟩
      go_wp2_with fail
      refine(Lj b _ k 1 r _ j.o).mono ?_;rw[Ro t.o];rintro e y ⟨rfl,a,f⟩;have f:=c.trans f;have d:=cz a;clear a;go_wp2;go_roundw
      case rel=>exact⟨k+1,cN,by go_num,d.o,f⟩
      case measure=>exact qN
    . have n:decide (0<=(k:Int)/\(k:Int)<1024/\mC st k (k:Int).m=3)=cy:=jC (by rw[uI,J8];exact λh=>g h.2.2);have q:=cz n;clear n;have a:=j.o;rw[T9 g] at a;have d:=cz a;clear a g
      go_wp2_with fail
      refine(Dn b _ k 3 _ j.o o).mono ?_;rw[q.o];rintro e v ⟨rfl,rfl⟩;go_wp2;go_roundw
      case rel=>exact⟨k+1,cN,by go_num,d.o,c⟩
      case measure=>exact qN
  . obtain rfl:k=1024:=cN;go_wp2
    go_end0
    exact⟨ae,Rp j.o,c⟩
def adw(st rm:Nat->Nat):∀i,(tV st rm i).oneCell'=cx:=by intro i;unfold tV;split<;>rfl
def adx(b:Nat)(st:Nat->Nat)(w:cS)(i:fD w b st):
 CP_ 118 #[bW (cu ⟨b,0,cw⟩)] w λe w'=>e=cj (bW (cu ⟨w.h.s,0,cw⟩))/\fD w' w.h.s st/\dS w w':=by
 have⟨w0,hw0⟩:=fU (w.alloc (.cells zeroCells206 206));have c:cL w0 w.h.s 206 1040 (tV (λ_=>0) (λ_=>0)):=by rw[hw0,Y'];exact br
 have a:cL (w.alloc (.cells zeroCells206 206)) w.h.s 206 1040 (tV (λ_=>0) (λ_=>0)):=by rw[<-hw0];exact c
 have h:dS w w0:=by rw[hw0];exact aQ
 unfold fD at i;have j:=cz i;clear i;have f:=cz a;clear a;have g:=cz hw0;clear hw0;go_enter func118,ntmps118;have⟨A,hA⟩:=fU (cM 1040 (tV st (kj st)));have d:=cz hA;clear hA;go_wp2_with (first|(refine tO (o:=⟨cu 6,.load 206 (.tmp 5),_,_,_,cw⟩) ae 206 (.tmp 5) ae b ae 1040 206 _ j.o _ underlying206 ae Za ?_;rw[<-d.o])|(refine wpList_store_row (o:=⟨cw,.store 206 (.tmp 3) (.tmp 6),_,_,_,cw⟩) ae 206 (.tmp 3) (.tmp 6) ae w.h.s ae 1040 (tV st (kj st)) A ae d.o 206 (tV (λ_=>0) (λ_=>0)) f.o Za (adw _ _) ?_;rw[<-g.o,<-d.o]));go_ret;refine⟨ae,?_,?_⟩;rw[d.o];exact cL.setRow c (tV st (kj st));exact Below.setRow h (eN _) _
theorem mT.but{w w':cS}{base b:Nat}{v:c7}{l:List (Int×Int)}{st:Nat->Nat}(h:mT w base v l)(d:fD w b st)(c:jZ b w w'):mT w' base v l:=by
 refine⟨h.1,h.2.imp id λ⟨g,cap,cur,h1,h2,hg,r⟩=>⟨g,cap,cur,h1,h2,?_,r⟩⟩;have a:g≠b:=by rintro rfl;grind[fD,cL]
 rw[c.block g (rI.1 hg).1 a];exact hg
def kF(st:Nat->Nat)(s:Nat):List (Int×Int):=iE λn=>decide (n<1024/\st n=s)
def Mi{s:Nat}(h:mT w base v (kF st s)):fj w v (kF st s):=mT.sl h
theorem aaX(st:Nat->Nat)(s:Nat):iE (oG (l7 (λn=>st n==s) 1024))=kF st s:=by unfold kF;refine tq λn a=>?_;unfold oG;rw[wR,qQ,qQ,vP];grind
theorem Xy{a:Nat->Nat}{s s':Nat}(h:∀n,n<1024->(st n=s↔a n=s')):kF st s=kF a s':=by unfold kF;grind
def fD.FV{B b:Nat}(h:fD w b st)(c:Below B w w')(a:b<B):fD w' b st:=cL.FV h c a
theorem fD.lt{b:Nat}{w:cS}{st:Nat->Nat}(h:fD w b st):b<w.h.s:=cL.lt h
def agn(b:Nat)(st:Nat->Nat)(s:Nat)(w:cS)(H:fD w b st):
 CP_ 68 #[bW (cu ⟨b,0,cw⟩),bU .u8 s] w λe w'=>∃r,e=cj r/\mT w' w.h.s r (kF st s)/\dS w w':=by
 have⟨i0,hi,hz0,hz1',hz2⟩:=oH Ld;have G:=cz H;clear H;have d:=iD w w.h.s 3 1;obtain⟨f,E⟩:∃f:Nat->Bool,f=λn=>st n==s:=⟨_,ae⟩;have t:iE (oG (l7 f 1024))=kF st s:=by rw[E];exact aaX st s
 have A:=cz t;clear t;have K:Hid (∀k:Nat,k<1024->decide (0<=(k:Int)/\(k:Int)<1024/\st (k:Int).m=s)=f k):=by
  intro k O;rw[E,wR,qQ,uI,wX];constructor
  . exact λh=>h.2.2
  . exact λh=>⟨cN,cN,h⟩
 clear E;go_enter func68,ntmps68
 go_wp2_with fail
 go_loopw [5,7] (λv i wr=>∃(k:Nat),k<=1024/\i=bU cq k/\wr.ownsRow w.h.s 3 1 v (l7 f k).n ((l7 f k).map (Value.int cq))/\dS w wr)
  (λ_ i _=>1024-(intOf i).m)
 case atStart=>exact⟨0,cN,ae,d,gK _ _⟩
 case round=>
  clear d;obtain⟨k,O,rfl,a,hbel⟩:=hrel;have x:=hbel.size;by_cases F:k<1024
  . have N:(k:Int)<1024:=cN;have u:eT (k:Int):=by unfold eT;omega
    have o:=K.o k F;have p:=cz (G.o.FV hbel G.o.lt);have Q:=sq f k;by_cases c:f k=cx
    . rw[c] at o;have g:Hid (l7 f (k+1)=l7 f k++[(k:Int)]):=by unfold Hid;rw[zF,c8 c]
      have z:=cz o;clear o c;have B:=cz a.lt
      go_wp2_with fail
      refine(Dn b st k s _ p.o u).mono ?_;rw[z.o];rintro e R ⟨rfl,rfl⟩
      go_wp2_with (first|(at_builtin;refine yy _ ae (.tmp 14) (.tmp 16) 81 ae w.h.s 3 i0 (bU cq 0) 1 8 qq hi hz0 hz1' hz2 ae kM _ _ _ ae (a.alloc _) ⟨wr.h.s,0,cw⟩ 1 1 [bU cq k] ae ae (cell_one_new _ _ _) bh aK cN aF ?_;intro v' T m l _))
      go_roundw
      case rel=>
       refine⟨k+1,cN,by go_num,?_,(hbel.alloc cN _).grown l aF (λj h=>(B.o j h).1)⟩;rw[g.o,jv,nM];exact m
      case measure=>exact qN
    . have q:f k=cy:=by simpa using c
      rw[q] at o;have g:Hid (l7 f (k+1)=l7 f k):=by unfold Hid;rw[zF,cX c]
      have z:=cz o;clear o q c
      go_wp2_with fail
      refine(Dn b st k s _ p.o u).mono ?_;rw[z.o];rintro e R ⟨rfl,rfl⟩;go_wp2;go_roundw
      case rel=>exact⟨k+1,cN,by go_num,by rw[g.o];exact a,hbel⟩
      case measure=>exact qN
  . obtain rfl:k=1024:=cN;have I:=qW a (Pv f 1024 cN) (ik (sq f 1024) cN);have L:=cz I;clear a I
    go_wp2_with fail
    refine(Xx _ _ _ L.o).mono ?_;rw[A.o];rintro e U ⟨y,rfl,J,D⟩;have C:=Below.step hbel x D;have M:=cz J;clear J;go_wp2;go_ret;exact⟨y,ae,M.o.mono x,C⟩
def Ew(b:Nat)(st:Nat->Nat)(w:cS)(c:fD w b st):
 CP_ 26 #[bW (cu ⟨b,0,cw⟩)] w λe w'=>∃r,e=cj r/\mT w' w.h.s r (kF st 2)/\dS w w':=by have f:=cz c;clear c;go_enter func26,ntmps26;go_wp2_with fail;refine ah (agn b st 2 _ f.o) λy h⟨d,a⟩=>?_;have g:=cz d;clear d;go_wp2;go_ret;exact⟨y,ae,g.o,a⟩
theorem ady{b:Nat}(d:e≠206)(h:w.ownsRow base e size v n xs)(f:fD w b st)(c:jZ b w w'):w'.ownsRow base e size v n xs:=by
 refine⟨h.1,h.2.imp id λ⟨g,cap,cur,h1,h2,hg,r⟩=>⟨g,cap,cur,h1,h2,?_,r⟩⟩;have a:g≠b:=by rintro rfl;grind[fD,cL]
 rw[c.block g (rI.1 hg).1 a];exact hg
theorem jZ.grown{b:Nat}{w wr f:cS}{row:Option Nat}(h:jZ b w wr)(a:wr.grownBy f row)(g:∀k,row=some k->w.heap.size<=k):jZ b w f:=
 ⟨a.os.trans h.os,a.tape.trans h.tape,a.output.trans h.output,ik h.size a.size,λk d c=>
  (a.block k (pK d h.size) (λe=>absurd (g k e.symm) cN)).trans (h.block k d c)⟩
theorem jZ.alloc{b:Nat}{w wr:cS}(h:jZ b w wr)(o:Obj):jZ b w (wr.alloc o):=h.trans (jZ.tA ((gK _ _).alloc (eN _) o))
def Zb(l:cV):List c7:=l.map λi=>bU cq (i:Nat)
def zQ(st:Nat->Nat)(n:Int):Option (cV×(Nat->Nat)):=if n<=(fI st:Nat) then cu (iJ st n.m) else cw
def ajG:c7->Nat
 |bX _ n _=>n
 |_=>0
def Ua{α:Type}(o:Option α):Int:=if o.isSome=cx then 0 else 71
def xk(st:Nat->Nat)(n:Int):cV:=((zQ st n).map (·.1)).getD []
def AL(st:Nat->Nat)(n:Int):Nat->Nat:=((zQ st n).map (·.2)).getD st
theorem adz(st:Nat->Nat)(k:Nat):∀i∈(iJ st k).1,i<1024:=by induction k with|zero=>intro i hi;cases hi|succ k ih=>cases a:nG (iJ st k).2 with|none=>rw[show iJ st (k+1)=(match nG (iJ st k).2 with|some i=>((iJ st k).1++[i],kE (iJ st k).2 i 2)|none=>iJ st k) from ae,a];exact ih|some j=>rw[BP st a];intro i hi;simp only[gH,fS] at hi;rcases hi with hi|rfl;grind;exact(qu a).1
def adA(b:Nat)(st:Nat->Nat)(n:Int)(H:eT n)(w:cS)(G:fD w b st):
 CP_ 223 #[.pointer (some ⟨b,0,none⟩),.int .i64 n] w λe w'=>∃v,e=.returned (.tuple #[v,.int .i64 (Ua (zQ st n))])/\w'.ownsRow w.heap.size 3 1 v (xk st n).length (Zb (xk st n))/\fD w' b (AL st n)/\jZ b w w':=by
 have⟨i0,hi,hz0,hz1',hz2⟩:=oH Ld;unfold eT at H;have H:=G.lt;have T:=cz G;clear G;have J:fI st<=1024:=by rw[En];exact LY _ _ _
 have f:=iD w w.heap.size 3 1;by_cases m:¬n<=(fI st:Nat)
 . (have l:zQ st n=none:=cX m;have u:xk st n=[]:=by unfold xk;rw[l];rfl);(have G:AL st n=st:=by unfold AL;rw[l];rfl);rw[l,u,G];have hc:Ua (none:Option (cV×(Nat->Nat)))=71:=rfl;rw[hc];clear l u G hc;have y:((fI st:Nat):Int)<n:=cN;have⟨C,HC⟩:=sV (fI st);rw[HC.o] at y m J;go_enter func223,ntmps223;go_wp2_with fail;refine(count_map b st _ T.o).mono ?_;rw[HC.o];rintro e U ⟨rfl,rfl⟩;go_wp2;refine iI (v:=.tuple #[.slice none 0 0,.int .i64 71]) (by simp[results,results223,go_sem]) ae ⟨_,ae,f,T.o,jZ.refl _ _⟩
 have Q:n<=(fI st:Nat):=cN;have l:zQ st n=some (iJ st n.toNat):=c8 Q;have u:xk st n=(iJ st n.toNat).1:=by unfold xk;rw[l];rfl
 have G:AL st n=(iJ st n.toNat).2:=by unfold AL;rw[l];rfl
 rw[l,u,G];have hc:Ua (some (iJ st n.toNat))=0:=rfl;rw[hc];clear l u G hc m;have⟨N,hN⟩:=dG n.toNat;rw[hN];have G:N<=fI st:=cN;have H:∀k:Nat,k<=N->((k:Int)<n↔k<N):=by intro k _;omega
 have D:=cz H;clear H;have R:¬((fI st:Nat):Int)<n:=cN;have⟨C,HC⟩:=sV (fI st);rw[HC.o] at R Q J G;have I:=jZ.refl b w;have B:Hid (fD w b (iJ st 0).2):=T.o;clear hN;go_enter func223,ntmps223;go_wp2_with fail;refine(count_map b st _ T.o).mono ?_;rw[HC.o];rintro e U ⟨rfl,rfl⟩;go_wp2_with fail
 go_loopw [6] (λv wr=>∃(k c:Nat)(a:Option Addr),k<=N/\v=.slice a k c/\wr.ownsRow w.heap.size 3 1 (.slice a k c) k (Zb (iJ st k).1)/\Hid (fD wr b (iJ st k).2)/\jZ b w wr)
  (λv _=>N-ajG v)
 exact⟨0,0,none,gG _,ae,f,B,I⟩;clear f I B;obtain⟨k,c,a,H,rfl,i,t,o⟩:=hrel;have G:=o.size;by_cases K:k<N
 . have L:(k:Int)<n:=(D.o k H).2 K;obtain⟨l,u⟩:=zJ st (k:=k) am5;obtain⟨j,U⟩:=Gb (st:=(iJ st k).2) am5;have s:=BP st U;have⟨e1,e2,e3⟩:=Gg U;have G:=(qu U).1;have F:=cz s;clear s;have V:=cz e1;clear e1;have X:=cz e2;clear e2;have Y:=cz e3;clear e3;clear l u U;go_wp2_with fail;refine(PV b _ _ t.o).mono ?_;rw[V.o,X.o,Y.o];rintro e I ⟨rfl,M,x⟩;have q:=ady kM i t.o x;have p:=o.trans x;have Z:=cz M;clear M x i;have G:=p.size;have A:=cz q.lt;go_wp2_with (first|(at_builtin;refine yy _ ae (.tmp 25) (.tmp 27) 81 ae w.heap.size 3 i0 (.int .i64 0) 1 8 qq hi hz0 hz1' hz2 ae kM _ _ _ ae (q.alloc _) ⟨I.heap.size,0,none⟩ 1 1 [.int .i64 j] ae ae (cell_one_new _ _ _) bh aK cN aF ?_;intro v' I r d _))
   have z:=(p.alloc (.cells #[.int .i64 j] 3)).grown d (λk h=>(A.o k h).1);have O:fD I b (kE (iJ st k).2 j 2):=cL.grown (cL.alloc_old Z.o _) d (by
    intro h;have:=(A.o b h).1;omega)
   (have G:=cz O;clear O d;obtain⟨J,U,rfl⟩:∃a c,v'=.slice a (k+1) c:=by rcases FX r with⟨_,V⟩|⟨g,cap,h,_⟩;omega;exact⟨_,_,h⟩);go_roundw;refine⟨k+1,U,J,cN,ae,?_,?_,z⟩;rw[F.o];(show I.ownsRow w.heap.size 3 1 _ _ (Zb ((iJ st k).1++[j]));unfold Zb;rw[nM];exact r);rw[F.o];exact G;simp[ajG];omega
 . obtain rfl:k=N:=cN;have L:¬(k:Int)<n:=λh=>K ((D.o k H).1 h);have G:Hid ((iJ st k).1.length=k):=(zJ st (k:=k) am5).2;have E:=cz i;clear i;go_wp2;refine iI (v:=.tuple #[.slice a k c,.int .i64 0]) (by simp[results,results223,go_sem]) ae ⟨_,ae,by rw[G.o];exact E.o,t.o,o⟩
def lM(w:cS)(T:dW)(v:c7)(l:cV):Prop:=dg w T 1 v l.n (l.map λ(x:Nat)=>Value.int .u8 (x:Int))/\∀x∈l,x<256
theorem lM.ints(h:lM w T v l):eU .u8 w v (dN l):=by obtain⟨⟨n,ao,cap,rfl,p,q,g⟩,r⟩:=h;refine⟨ao,cap,by grind[dN],by grind[dA,maxLen],?_,λm=>?_⟩;intro x d;unfold dN at d;obtain⟨y,s,rfl⟩:=gT.1 d;grind[Lit.wf,IntKind.min,IntKind.max,IntKind.signed,IntKind.bits];(have k:0<l.n:=by rcases l with _|⟨a,l⟩;exact absurd ae m;simp);obtain⟨b,o,e,f,rfl,c,h6⟩:=g k;refine⟨b,o,ae,(rI.1 c).1,λj i=>?_⟩;rw[dA] at i;rw[cell_of_row w b (o+j) e T f c,tt];grind
theorem lM.cap(h:lM w T v l):yC v:=by obtain⟨⟨_,ao,cap,rfl,a,_⟩,_⟩:=h;exact⟨_,_,_,ae,a⟩
theorem lM.fr{d:Option Nat}{l:cV}{w w':cS}{T:dW}{v:c7}{bs:cV}(h:lM w T v bs)(s:Fr d l w w')(a:d=cw∨lQ T=cy)(b:gZ T=cy):lM w' T v bs:=⟨h.1.fr s a b,h.2⟩
theorem lM.own(h:mN w base v l)(a:∀x∈l,x<256):lM w 5 v l:=⟨dg.j8 h,a⟩
theorem lM.sec(h:cL w E 36 128 (di s))(a:kb s):lM w 36 (bX (cu ⟨E,0,cw⟩) 128 128) s:=by refine⟨⟨by grind,_,_,by rw[a.1],by rw[a.1];omega,by grind[maxLen],λ_=>⟨E,0,_,_,ae,h,λj u b=>?_⟩⟩,a.2⟩;rw[rK] at b;cases c:s[j]? with|none=>grind|some x=>rw[c] at b;cases b;have d:=(oF.1 c).1;rw[a.1] at d;simp_all[dy,di]
structure Pl where
 dv:Dv
 mp:Nat->Nat
 cR:Nat
 base:Nat
def J9(D M s b:Nat):Nat->c7:=λi=>if i=0 then bW (cu ⟨D,0,cw⟩) else if i=1 then bW (cu ⟨M,0,cw⟩) else if i=2 then bU ct s else bU ct b
def mb(w:cS)(P D M s b:Nat):Prop:=cL w P 147 4 (J9 D M s b)
theorem mb.cells{P s b:Nat}(h:mb w P D M s b):w.cell? ⟨P,0,cw⟩=cu (.pointer (cu ⟨D,0,cw⟩))/\w.cell? ⟨P,1,cw⟩=cu (.pointer (cu ⟨M,0,cw⟩))/\w.cell? ⟨P,2,cw⟩=cu (.int ct s)/\w.cell? ⟨P,3,cw⟩=cu (.int ct b):=
 ⟨cL.cell h (i:=0) cN,cL.cell h (i:=1) cN,cL.cell h (i:=2) cN,cL.cell h (i:=3) cN⟩
def gU(x:Nat):Prop:=x<18446744073709551616
structure fh(w:cS)(P D M:Nat)(s:Pl):Prop where
 row:mb w P D M s.cR s.base
 dev:iQ w D s.dv
 map:fD w M s.mp
 ok:gU s.cR/\gU s.base
theorem fh.fr{l:cV}{w w':cS}{P D M:Nat}{s:Pl}(h:fh w P D M s)(f:Fr cw l w w')(b:P∉l)(a:M∉l):fh w' P D M s:=
 ⟨cL.fr h.row f aD (.inr b),h.dev.fr f,h.map.fr f a,h.ok⟩
theorem fh.cP{P:Nat}{s:Pl}(h:fh w P D M s)(b:dS w w'):fh w' P D M s:=h.fr (Fr.Er b []) eQ eQ
theorem fh.tyM{P:Nat}{s:Pl}(h:fh w P D M s):iy w M=cu 206:=cL.ty h.map
theorem fh.tyP{P:Nat}{s:Pl}(h:fh w P D M s):iy w P=cu 147:=cL.ty h.row
theorem ajI{a b:Nat}{t u:dW}(c:iy w a=cu t)(d:iy w b=cu u)(h:t≠u):a≠b:=by grind
theorem fh.ne{P:Nat}{s:Pl}(h:fh w P D M s):P≠M:=ajI h.tyP h.tyM kM
theorem fh.aih{P b:Nat}{s:Pl}(h:fh w P D M s)(a:jZ b w w')(c:uS w D s.dv l)(g:b∉l)(d:b≠P)(e:b≠M):fh w' P D M s:=by refine⟨?_,?_,fD.rO h.map a (pU e),h.ok⟩;unfold mb cL;rw[a.block P (cL.lt h.row) (pU d)];exact h.row;exact(c.pX (qR.rO (l:=[b]) a (eN _) aZ) (λk f=>⟨c.lt k f,by grind⟩)).shut
theorem fh.but{w w':cS}{P D M b:Nat}{s:Pl}{t:dW}(h:fh w P D M s)(d:jZ b w w')(a:iy w b=cu t)(g:lQ t=cy)(c:gZ t=cy):fh w' P D M s:=by have⟨l,hl⟩:=h.dev.open;refine h.aih d hl (λf=>?_) (λe=>?_) (λe=>?_);have⟨u,hu,hd⟩:=hl.ty b f;grind;rw[e,h.tyP] at a;cases a;cases c;rw[e,h.tyM] at a;cases a;cases c
theorem ago(b:Nat)(w:cS)(a:gJ):jZ b w (w.setRow b a):=
 ⟨ae,ae,ae,by simp_all,λk _ c=>setRow_other w b k a c⟩
def fh.yL{P:Nat}{s:Pl}(h:fh w P D M s)(b:fD w' M mp)(a:jZ M w w'):fh w' P D M {s with mp:=mp}/\Fr cw [M] w w':=by have f:Fr cw [M] w w':=Fr.rO a h.tyM ae eQ;exact⟨⟨cL.fr h.row f aD (.inr (by simp[h.ne])),h.dev.fr f,b,h.ok⟩,f⟩
def fh.dlt{P:Nat}{s:Pl}(h:fh w P D M s):∀a,cu D=cu a->iy w a=cu 127:=λa e=>by cases e;exact h.dev.Wo
def pD(b:cV):cV:=b++replicate (128-b.n) 0
theorem G9{b:cV}(h:b.n<=128)(a:∀x∈b,x<256):kb (pD b):=by grind[pD,kb]
theorem Ub{b:cV}:cM 128 (di b)=cM 128 (di (pD b)):=by refine JT λi hi=>?_;grind[di,pD]
theorem Jk{b:cV}(h:b.n=128):pD b=b:=by simp_all[pD]
def kx(s:Pl)(i:Int)(b:cV):Pl×(cQ×Int):=
 ({s with dv:=(gw s.dv i (pD b)).1},if(gw s.dv i (pD b)).2=0 then((i.m,s.cR,kZ (pD b)),0) else(cY,(gw s.dv i (pD b)).2))
def tC(s:Pl)(b:cV):Pl×(cQ×Int):=
 if b.n>128 then(s,(cY,92)) else
 match nG s.mp with
 |none=>(s,(cY,71))
 |some i=>
  if(kx s i b).2.2=0 then({(kx s i b).1 with mp:=kE s.mp i 2},(kx s i b).2)
  else((kx s i b).1,(cY,(kx s i b).2.2))
def eY(s:Pl)(i:Int)(b:cV):Pl×(cQ×Int):=
 if b.n>128 then(s,(cY,92)) else
 if 0<=i/\i<1024/\s.mp i.m=2 then kx s i b else(s,(cY,72))
def gz(s:Pl)(q:cQ):Pl×(cV×Int):=
 if q=cY then(s,(fN,0)) else
 ({s with dv:=(iq s.dv q.1).1},
  if(iq s.dv q.1).2.2=41 then(fN,91) else
  if(iq s.dv q.1).2.2≠0 then(fN,(iq s.dv q.1).2.2) else
  if kZ (iq s.dv q.1).2.1≠q.2.2 then(fN,91) else((iq s.dv q.1).2.1,0))
def pZ(s:Pl)(q:cQ):Pl×Int:=
 if q=cY then(s,0) else
 if q.2.1>s.base then({s with mp:=sO s.mp q.1 2 1},Fe s.mp q.1 2) else({s with mp:=sO s.mp q.1 2 3},Fe s.mp q.1 2)
def iR(s:Nat):Nat:=(s+1)%18446744073709551616
def tW(s:Pl):Pl:={s with cR:=iR s.cR}
def oU(s:Pl):Pl:={s with mp:=mV s.mp,base:=s.cR,cR:=iR s.cR}
theorem aaY(D M s b:Nat):(#[Value.pointer (cu ⟨D,0,cw⟩),bW (cu ⟨M,0,cw⟩),bU ct s,bU ct b]:gJ)=cM 4 (J9 D M s b):=by rfl
theorem mb.of{P s b:Nat}(h:w.h[P]?=cu (.cells #[bW (cu ⟨D,0,cw⟩),bW (cu ⟨M,0,cw⟩),bU ct s,bU ct b] 147 (0,0))):mb w P D M s b:=by grind[mb,cL,aaY]
def zR(D M s b:Nat)(w:cS):
 CP_ 85 #[bW (cu ⟨D,0,cw⟩),bW (cu ⟨M,0,cw⟩),bU ct s,bU ct b] w λe w'=>e=cj (bW (cu ⟨w.h.s,0,cw⟩))/\mb w' w.h.s D M s b/\dS w w':=by have a:=mb.of (AA w (.cells #[dF D 0,dF M 0,bU ct s,bU ct b] 147));have d:=cz a;clear a;have c:dS w (w.alloc (.cells #[dF D 0,dF M 0,bU ct s,bU ct b] 147)):=(gK _ _).alloc (eN _) _;have f:=cz c;clear c;go_enter func85,ntmps85;go_wp2;go_ret;exact⟨ae,d.o,f.o⟩
def nP(P D M s b:Nat)(w:cS)(h:mb w P D M s b):CP_ 106 #[bW (cu ⟨P,0,cw⟩)] w λe w'=>e=cj (bW (cu ⟨D,0,cw⟩))/\w=w':=by obtain⟨c0,-,-,-⟩:=h.cells;clear h;go_enter func106,ntmps106;go_wp2;go_ret;exact aE
def mD(P D M s b:Nat)(w:cS)(h:mb w P D M s b):CP_ 25 #[bW (cu ⟨P,0,cw⟩)] w λe w'=>e=cj (bW (cu ⟨M,0,cw⟩))/\w=w':=by obtain⟨-,c0,-,-⟩:=h.cells;clear h;go_enter func25,ntmps25;go_wp2;go_ret;exact aE
def wG(P D M s b:Nat)(w:cS)(h:mb w P D M s b):CP_ 52 #[bW (cu ⟨P,0,cw⟩)] w λe w'=>e=cj (bU ct s)/\w=w':=by obtain⟨-,-,c0,-⟩:=h.cells;clear h;go_enter func52,ntmps52;go_wp2;go_ret;exact aE
def Rq(P D M s b:Nat)(w:cS)(h:mb w P D M s b):CP_ 119 #[bW (cu ⟨P,0,cw⟩)] w λe w'=>e=cj (bU ct b)/\w=w':=by obtain⟨-,-,-,c0⟩:=h.cells;clear h;go_enter func119,ntmps119;go_wp2;go_ret;exact aE
theorem Mj(D M s b x:Nat):∀j,j<4->(if j=2 then(bU ct x:c7) else J9 D M s b j)=J9 D M x b j:=by grind[J9]
theorem aaZ(D M s b x:Nat):∀j,j<4->(if j=3 then(bU ct x:c7) else J9 D M s b j)=J9 D M s x j:=by intro j a;unfold J9;grind
def wH(s:Nat):IntKind.u64.wrap ((s:Int)+1)=(((s+1)%18446744073709551616:Nat):Int):=by rfl
theorem Ds(s:Nat):gU (iR s):=by grind[gU,iR]
def Rr(P D M s b:Nat)(w:cS)(h:mb w P D M s b):CP_ 56 #[bW (cu ⟨P,0,cw⟩)] w λe w'=>e=cj (cg #[])/\mb w' P D M (iR s) b/\jZ P w w':=by obtain⟨-,-,c2,-⟩:=h.cells;have g:=cL.frozen h 2;have d:mb (w.setCell ⟨P,2,cw⟩ (bU ct (iR s:Nat))) P D M (iR s) b:=(cL.set h 2 (bU ct (iR s:Nat))).congr (Mj D M s b (iR s));have c:=cz d;clear d h;have a:=cz (qC P w 2 (bU ct (iR s:Nat)));have f:IntKind.u64.wrap ((s:Int)+1)=((iR s:Nat):Int):=wH s;have⟨x,hx⟩:=dG (iR s);rw[hx] at f c a|-;clear hx;go_enter func56,ntmps56;go_wp2;go_end0;exact⟨ae,c.o,a.o⟩
def Mk(P D M:Nat)(s:Pl)(w:cS)(h:fh w P D M s):CP_ 171 #[bW (cu ⟨P,0,cw⟩)] w λe w'=>e=cj (cg #[])/\fh w' P D M (oU s)/\Fr cw [P,M] w w':=by
 obtain⟨-,c1,-,-⟩:=h.row.cells;have H:=cz h;clear h;have⟨x,hx⟩:=dG (iR s.cR);have z:IntKind.u64.wrap ((s.cR:Int)+1)=((x:Nat):Int):=by rw[<-hx];exact wH s.cR
 have n:oU s= {s with mp:=mV s.mp,base:=s.cR,cR:=x}:=by unfold oU;rw[hx]
 rw[n];have o:gU x:=by rw[<-hx];exact Ds _
 have t:=cz o;clear hx n o;go_enter func171,ntmps171;go_wp2_with fail
 refine aj (Xw M s.mp _ H.o.map) λa⟨j,i⟩=>?_;have⟨hp1,hf1⟩:=H.o.yL j i;obtain⟨-,-,c2,c3⟩:=hp1.row.cells;have u:=cL.frozen hp1.row 2;have v:=cL.frozen hp1.row 3;have q:mb (a.setCell ⟨P,3,cw⟩ (bU ct s.cR)) P D M s.cR s.cR:=(cL.set hp1.row 3 (bU ct s.cR)).congr (aaZ D M s.cR s.base s.cR);have m:mb ((a.setCell ⟨P,3,cw⟩ (bU ct s.cR)).setCell ⟨P,2,cw⟩ (bU ct x)) P D M x s.cR:=(cL.set q 2 (bU ct x)).congr (Mj D M s.cR s.cR x);have c:jZ P a ((a.setCell ⟨P,3,cw⟩ (bU ct s.cR)).setCell ⟨P,2,cw⟩ (bU ct x)):=(qC P a 3 _).setCell 2 _;have d:Fr cw [P,M] a ((a.setCell ⟨P,3,cw⟩ (bU ct s.cR)).setCell ⟨P,2,cw⟩ (bU ct x)):=Fr.rO c hp1.tyP ae eQ;have l:=H.o.ok;have b:fh ((a.setCell ⟨P,3,cw⟩ (bU ct s.cR)).setCell ⟨P,2,cw⟩ (bU ct x)) P D M {s with mp:=mV s.mp,base:=s.cR,cR:=x}:=
  ⟨m,hp1.dev.fr d,fD.rO hp1.map c (pU hp1.ne),t.o,l.1⟩
 have p:=cz (And.intro b ((hf1.mono (d':=cw) aJ aJ (λk r=>.inl (by simp at r;simp[r]))).trans d));clear b hf1 d c m l hp1 j i;have f:=(mb.cells q).2.2.1;have g:=cL.frozen q 2;clear q;have⟨y,HY⟩:=sV s.cR;rw[HY.o] at c2 f g z p;clear c1;go_upto_region 2 with(fail);clear c2 c3 u v;have⟨w2,hw2⟩:=dG (a.setCell ⟨P,3,cw⟩ (bU ct y));rw[hw2] at f g p|-;clear hw2;go_wp2;go_end0;exact⟨ae,by rw[HY.o];exact p.o.1,p.o.2⟩
theorem Rs{d:Dv}{i:Int}(h:(gw d i s).2=0):0<=i/\i<(d.n:Int):=by by_cases a:L8 d i=cx;exact mj a;simp_all[gw]
theorem lM.form{b:cV}(h:lM w T v b):∃ao cap,v=bX ao b.n cap/\b.n<=cap/\b.n<=9223372036854775807:=by obtain⟨⟨_,ao,cap,rfl,a,c,_⟩,_⟩:=h;exact⟨ao,cap,ae,a,by grind[maxLen]⟩
theorem aa0(h:st i=1):kE (kE st i 2) i 1=st:=by grind[aaE,aaD]
theorem aa1(st:Nat->Nat)(s:Nat)(i:Int):QY (kF st s) i=decide (0<=i/\i<1024/\st i.m=s):=by unfold QY;rw[wR,qQ,qQ];have a:gY (kF st s)=cx:=qV _;have e:nW (kF st s)=nu (kF st s):=BE a;rw[e,vO];unfold kF;rw[zE];grind
structure als(W:cS)(P D M:Nat)(s:Pl)(d:cV)(w:cS)(E3 E4 E6:Nat)(q:cQ)(rs:cV):Prop where
 pl:fh W P D M s
 dv:∃l,uS W D s.dv l/\E4∉l/\E6∉l
 r3:E0 W E3 q
 r4:cL W E4 36 128 (di fN)
 r6:cL W E6 36 128 (di rs)
 fr:Fr (cu D) [] w W
 o4:w.h.s<=E4
 o6:w.h.s<=E6
 n46:E4≠E6
def s6{R:Ending->cS->Prop}(h:bodyPost P fn R .ret a w):bodyPost P fn R .ret a w:=h
def Rt:prog.built 36 []=cu zeroCells36:=dC
theorem aii{t:dW}{cells:gJ}(h:P.built t []=cu cells)(f:Nat×Operand->Nat×c7):P.built t (Array.map f #[]).t=cu cells:=by grind
def yM{P:oN}(w:cS)(d:Nat)(e:dW)(sz:Nat)(xs g:gJ)(f:Nat->Bool):∀(c:cV),
 (∀i∈c,∃a b,(part e xs (i*sz)).run P w=.ok a w/\(part e g (i*sz)).run P w=.ok b w/\(Op.equalIn d e a b).run P w=.ok (f i) w)->(Op.eqItems d e sz xs g c).run P w=.ok (c.all f) w
 | [],_=>by rfl
 |i::c,h=>by
  have⟨a,b,p1,p2,p3⟩:=h i nB;have l:=yM w d e sz xs g f c (λj k=>h j (kT _ k));simp only[Op.eqItems,lx,p1,p2,p3,nX,all_cons];cases f i
  . simp
  . simpa using l
def Uc(l:Nat->cQ)(k:Nat)(a:k<8)(W:cS):(part 106 (cM 24 (eX l)) (k*3)).run prog W=.ok (bV (cM 3 (dE (l k)))) W:=by have⟨it,hi,hs⟩:=wF ku;simp[part,isAgg106,sizeOf,typeInfo,hi,hs,Md 24 l k cN]
def Zc(l m:Nat->cQ):Bool:=(range 8).all λi=>decide (l i=m i)
def adB(l m:Nat->cQ)(w:cS):(Op.equal 191 (bV (cM 24 (eX l))) (bV (cM 24 (eX m)))).run prog w=.ok (Zc l m) w:=by have⟨it,hi,hs⟩:=wF ku;have hc:prog.cellsOf 106=3:=dC;unfold Op.equal Op.maxDepth;rw[run_equalIn_array w 9999 _ _ Rk hi,hc];refine yM w 9999 106 3 _ _ _ (range 8) λi hi=>?_;rw[zA] at hi;refine⟨_,_,Uc l i hi w,Uc m i hi w,?_⟩;have:=LV (l i).1 (l i).2.1 (l i).2.2 (m i).1 (m i).2.1 (m i).2.2 w 9997;rw[Xe] at this;exact this
theorem aij(l m:Nat->cQ)(r:Bool)(h:Zc l m=r)(w:cS):(binOp .eql 191 (bV (cM 24 (eX l))) (bV (cM 24 (eX m)))).run prog w=.ok (bZ r) w:=by have a:=adB l m w;simp_all[binOp]
theorem PY(s:cV)(k:Nat)(b:k<128)(W:cS):(part 5 (cM 128 (di s)) (k*1)).run prog W=.ok (di s k) W:=by have a:(isAgg 5).run prog W=.ok cy W:=isAgg5 W;simp_all[part,dy]
def PZ(s t:cV):Bool:=(range 128).all λi=>decide (s.getD i 0=t.getD i 0)
theorem aa3{t:cV}(a:kb s)(b:kb t):PZ s t=decide (s=t):=by unfold PZ;rw[wR,qQ,rJ];constructor;intro h;apply xL;intro i;by_cases hi:i<128;have:=h i (zA.2 hi);rw[qQ,zB,zB,jG (by rw[a.1];exact hi),jG (by rw[b.1];exact hi)] at this;grind;rw[getElem?_eq_none (by rw[a.1];omega),getElem?_eq_none (by rw[b.1];omega)];grind
theorem aik:prog.underlying 36=cu (.array 128 5):=by rfl
def agp(s t:cV)(w:cS):(Op.equal 36 (bV (cM 128 (di s))) (bV (cM 128 (di t)))).run prog w=.ok (PZ s t) w:=by have⟨it,hi,hs⟩:=wF Cw;have hc:prog.cellsOf 5=1:=dC;unfold Op.equal Op.maxDepth;rw[run_equalIn_array w 9999 _ _ aik hi,hc];unfold PZ;refine yM w 9999 5 1 (cM 128 (di s)) (cM 128 (di t)) (λi=>decide (s.getD i 0=t.getD i 0)) (range 128) (λi hi=>?_);rw[zA] at hi;refine⟨_,_,PY s i hi w,PY t i hi w,?_⟩;unfold di;rw[I' w 9998 5 .u8 .u8 _ _ yN];congr 1;rw[wR];simp;omega
theorem ajJ(s t:cV)(r:Bool)(h:PZ s t=r)(w:cS):(binOp .neq 36 (bV (cM 128 (di s))) (bV (cM 128 (di t)))).run prog w=.ok (bZ !r) w:=by have a:=agp s t w;simp_all[binOp]
theorem iU:(#[Value.int cq 0,bU ct 0,bU .u32 0]:gJ)=cM 3 (dE cY):=rfl
theorem cL.but{w w':cS}{b c:Nat}{t:dW}{n:Nat}{f:Nat->c7}(h:cL w b t n f)(d:jZ c w w')(a:b≠c):cL w' b t n f:=by unfold cL;rw[d.block b (cL.lt h) a];exact h
theorem BV{b:Nat}{t:dW}(h:cL w b t n f){A:gJ}(a:A=cM n f):w.rangeAt b 0 A.t:=by grind[pC]
def Ru(h:k∉oT w D)(b:dS w w')(a:iy w D=cu 127):k∉oT w' D:=by rw[sD (b.block D (iA a))];exact h
def Ml(h:k∉oT w D)(b:Fr cw l w w')(a:iy w D=cu 127):k∉oT w' D:=by rw[sD (b.eS a aD aD)];exact h
def mX:Nat->cQ:=λ_=>cY
theorem Dt{s:Pl}(h:qE s.dv)(q:cQ):kb (gz s q).2.1:=by grind[gz,xj,Jh]
def dw(s:Pl)(q:cQ):Pl×((Nat->cQ)×Int):=
 if(gz s q).2.2≠0 then((gz s q).1,(mX,(gz s q).2.2)) else
 match pY (gz s q).2.1 with
 |none=>((gz s q).1,(mX,91))
 |some l=>((gz s q).1,(l,0))
def fE(s:Pl)(l:Nat->cQ):Pl×(cQ×Int):=
 match mW l with
 |none=>(s,(cY,51))
 |some b=>tC s b
theorem Gh{l:Nat->cQ}{b:cV}(h:mW l=cu b):kb b:=by grind[adr]
structure Way where
 first:Nat->cQ
 mE:Nat->cQ
 block:cQ
def P0:Way:=⟨mX,mX,cY⟩
def nS(a:Way):Nat->c7:=λi=>if i<24 then eX a.first i else if i<48 then eX a.mE (i-24) else dE a.block (i-48)
theorem adC(a:Way):∀i,(nS a i).oneCell'=cx:=by grind[nS,nR,dJ]
def agq:(prog.info? 193).map (·.size)=cu 51:=dC
def agr:(#[Value.int cq 0,bU ct 0,bU .u32 0,Value.int cq 0,bU ct 0,bU .u32 0,Value.int cq 0,bU ct 0,bU .u32 0,Value.int cq 0,bU ct 0,bU .u32 0,Value.int cq 0,bU ct 0,bU .u32 0,Value.int cq 0,bU ct 0,bU .u32 0,Value.int cq 0,bU ct 0,bU .u32 0,Value.int cq 0,bU ct 0,bU .u32 0,Value.int cq 0,bU ct 0,bU .u32 0,Value.int cq 0,bU ct 0,bU .u32 0,Value.int cq 0,bU ct 0,bU .u32 0,Value.int cq 0,bU ct 0,bU .u32 0,Value.int cq 0,bU ct 0,bU .u32 0,Value.int cq 0,bU ct 0,bU .u32 0,Value.int cq 0,bU ct 0,bU .u32 0,Value.int cq 0,bU ct 0,bU .u32 0,Value.int cq 0,bU ct 0,bU .u32 0]:gJ)=cM 51 (nS P0):=rfl
theorem nT{w:cS}{b:Nat}{t:dW}{m:Nat}{f:Nat->c7}(h:cL w b t m f){o n:Nat}(c:o+n<=m):w.there b o n:=λj a=>
 ⟨by grind[cL.cell],cL.frozen h _⟩
theorem G'(n:Nat)(g:Nat->c7)(j o:Nat)(h:o<=j/\j<o+n):(λi=>(cM n g).t.getD i (bU .u8 0)) (j-o)=g (j-o):=by show(cM n g).t.getD (j-o) (bU .u8 0)=_;rw[zB,nL (xs:=cM n g),dy,c8 cN];rfl
theorem aa4{a:Way}(h:cL w E 193 51 (nS a))(l:Nat->cQ):cL (w.setCells E 0 (cM 24 (eX l)).t) E 193 51 (nS {a with first:=l}):=by refine cL.congr (cL.setCells _ 0 h) λj c=>?_;unfold L6;rw[nA,cW];by_cases b:0<=j/\j<0+24;rw[c8 b,G' 24 _ j 0 b];simp_all[nS];simp_all[cX,nS]
theorem Xz{a:Way}(h:cL w E 193 51 (nS a))(l:Nat->cQ):cL (w.setCells E 24 (cM 24 (eX l)).t) E 193 51 (nS {a with mE:=l}):=by refine cL.congr (cL.setCells _ 24 h) λj c=>?_;unfold L6;rw[nA,cW];by_cases b:24<=j/\j<24+24;rw[c8 b,G' 24 _ j 24 b];simp_all[nS,cX];rw[cX b];unfold nS;grind
theorem aa5{a:Way}(h:cL w E 193 51 (nS a))(q:cQ):cL (w.setCells E 48 (cM 3 (dE q)).t) E 193 51 (nS {a with block:=q}):=by refine cL.congr (cL.setCells _ 48 h) λj c=>?_;unfold L6;rw[nA,cW];by_cases b:48<=j/\j<48+3;rw[c8 b,G' 3 _ j 48 b];unfold nS;grind;simp_all[cX,nS]
theorem Rv{a:Way}(h:cL w E 193 51 (nS a))(d:k<8){A:gJ}(c:A=cM 3 (dE (a.first k))):w.rangeAt E (k*3) A.t:=by
 intro j v b;rw[c,nL (xs:=cM 3 _),dy] at b;split at b;next hj=>cases b;rw[cL.cell h (i:=k*3+j) cN];unfold nS eX;grind
 cases b
theorem Rw(E o k:Nat)(b:k<8)(W:cS):(Instr.indexAt 191 (bW (cu ⟨E,o,cw⟩)) (bU cq k)).run prog W=.ok (bW (cu ⟨E,o+k*3,cw⟩)) W:=by have⟨it,hi,hs⟩:=wF ku;have a:(k:Int)<8:=cN;simp[Instr.indexAt,asIntOf,yI Rk,Instr.sureAddr,sizeOf,typeInfo,hi,hs,Addr.add];grind
theorem zS(a:kb s){l:Nat->cQ}(h:pY s=cu l):∀i,dD (l i):=by intro i;unfold pY at h;split at h;cases h;unfold EW;split;exact F' λx b=>a.2 x (mR (lP b));grind[dD,cY];cases h
theorem dV:dD cY:=⟨by decide,by decide,by decide⟩
theorem yO{s:Pl}(h:qE s.dv)(q:cQ):∀i,dD ((dw s q).2.1 i):=by intro i;unfold dw;split;exact dV;cases a:pY (gz s q).2.1 with|none=>exact dV|some l=>exact zS (Dt h q) a i
def fB(s:Pl)(cO:cQ)(i:Nat):Pl×(Way×Int):=
 if(dw s cO).2.2≠0 then((dw s cO).1,(P0,(dw s cO).2.2)) else
 if(dw (dw s cO).1 ((dw s cO).2.1 (i/8))).2.2≠0 then((dw (dw s cO).1 ((dw s cO).2.1 (i/8))).1,(P0,(dw (dw s cO).1 ((dw s cO).2.1 (i/8))).2.2)) else
 ((dw (dw s cO).1 ((dw s cO).2.1 (i/8))).1,
   (⟨(dw s cO).2.1,(dw (dw s cO).1 ((dw s cO).2.1 (i/8))).2.1,(dw (dw s cO).1 ((dw s cO).2.1 (i/8))).2.1 (i%8)⟩,0))
theorem Rx{a:Way}(h:cL w E 193 51 (nS a)){A:gJ}(c:A=cM 3 (dE a.block)):w.rangeAt E 48 A.t:=by
 intro j v b;rw[c,nL (xs:=cM 3 _),dy] at b;split at b;next hj=>cases b;rw[cL.cell h (i:=48+j) cN];unfold nS;grind
 cases b
theorem adD{s:Pl}(h:qE s.dv)(q:cQ):qE (gz s q).1.dv:=by unfold gz;split;exact h;exact Es h
theorem Ud{s:Pl}(h:qE s.dv)(q:cQ):qE (dw s q).1.dv:=by grind[dw,adD]
theorem rQ{s:Pl}(h:qE s.dv)(q:cQ)(i:Nat):(∀k,dD ((fB s q i).2.1.first k))/\(∀k,dD ((fB s q i).2.1.mE k))/\dD (fB s q i).2.1.block:=by unfold fB;split;exact⟨λ_=>dV,λ_=>dV,dV⟩;split;exact⟨λ_=>dV,λ_=>dV,dV⟩;grind[yO,Ud]
def mY(i:Int):Bool:=decide (0<=i/\i<64)
theorem Gi(i:Int)(w:cS):CP_ 108 #[bU cq i] w λe w'=>e=cj (bZ (mY i))/\w=w':=by
 by_cases b:0<=i;have a:mY i=decide (i<64):=by unfold mY;grind
 rw[a];have c:decide (0<=i)=cx:=gI b;clear a;have⟨r,a⟩:=dG (decide (i<64));rw[a];rotate_left;have a:mY i=cy:=jC (λx=>b x.1);rw[a];have c:decide (0<=i)=cy:=jC b;clear a
 all_goals
  go_enter func108,ntmps108;go_wp2;go_ret;exact aE
def qF(s:Pl)(cO:cQ)(i:Int):Pl×(cV×Int):=
 if mY i=cy then(s,(fN,111)) else
 if(fB s cO i.m).2.2≠0 then((fB s cO i.m).1,(fN,(fB s cO i.m).2.2)) else
 gz (fB s cO i.m).1 (fB s cO i.m).2.1.block
def Zd:(prog.info? 106).map (λi=>(i.zero,i.s,i.bytes))=cu (cu (bV #[bU cq 0,bU ct 0,bU .u32 0]),3,24):=dC
def iZ(l:List cQ):List c7:=l.flatMap λp=>(cM 3 (dE p)).t
theorem yP(l:List cQ):(iZ l).n=l.n*3:=by unfold iZ;induction l<;>grind[cW]
theorem jw(l m:List cQ):iZ (l++m)=iZ l++iZ m:=by grind[iZ]
theorem qd(p:cQ):iZ [p]=(cM 3 (dE p)).t:=by rfl
def oO(l:List cQ):∀u∈iZ l,u.oneCell'=cx:=by intro u a;unfold iZ at a;obtain⟨p,_,h⟩:=De.1 a;rw[zI] at h;simp at h;rcases h with rfl|rfl|rfl<;>rfl
def ir(w:cS)(base:Nat)(v:c7)(l:List cQ):Prop:=w.ownsRow base 106 3 v l.n (iZ l)
def ir.nil(w:cS)(base:Nat):ir w base (bX cw 0 0) []:=iD _ _ _ _
def ly(w:cS)(v:c7)(l:List cQ):Prop:=dg w 106 3 v l.n (iZ l)
theorem ir.sl{l:List cQ}(h:ir w base v l):ly w v l:=dg.j8 h
theorem XA(b:Region.wanted op (yielded ops a.tmps)=cx)(t:dW)(parts:Array (Nat×Operand))(ho:op.op=.build t parts)(cells:gJ)(c:P.built t (parts.map λ(i,x)=>(i,a.eval x)).t=cu cells):YieldsIf P ops S op (bV cells) a:=by refine .inl ⟨b,λw _=>?_⟩;simp_all[execOp,run_build]
def ags:(prog.info? 278).map (λi=>(i.zero,i.s,i.bytes))=cu (cu (bV #[bU cq 0,bU ct 0,bU .u32 0,bU cq 0,bU ct 0,bU .u32 0,bU cq 0,bU ct 0,bU .u32 0]),9,72):=dC
def adE(p q r:cQ):prog.built 278 [(0,bV (cM 3 (dE p))),(1,bV (cM 3 (dE q))),(2,bV (cM 3 (dE r)))]=cu (cM 9 (eX λi=> [p,q,r].getD i cY)):=by
 have⟨it,h1,h2,h3,h4⟩:=oH ags;have⟨ie,i1,i2,i3,i4⟩:=oH Zd;have b:prog.underlying 278=cu (.array 3 106):=underlying278;unfold Program.built;rw[h1,b];simp only[h2,i1,i3];have c:=Great.fill_whole (s:=3) cN [Value.agg (cM 3 (dE p)),bV (cM 3 (dE q)),bV (cM 3 (dE r))]
  (Value.agg #[bU cq 0,bU ct 0,bU .u32 0,bU cq 0,bU ct 0,bU .u32 0,bU cq 0,bU ct 0,bU .u32 0]).cells
  (by intro v a;simp at a;rcases a with rfl|rfl|rfl<;>exact cW _ _) ae
 refine(show _=_ from c).trans ?_;congr 1
theorem Ue(l:Nat->cQ)(k:Nat)(b:k<3)(W:cS):(Instr.index 278 (bV (cM 9 (eX l))) (bU cq k)).run prog W=.ok (bV (cM 3 (dE (l k)))) W:=by
 have c:prog.underlying 278=cu (.array 3 106):=underlying278;have⟨it,hi,hs⟩:=wF ku;have a:(part 106 (cM 9 (eX l)) (k*3)).run prog W=.ok (bV (cM 3 (dE (l k)))) W:=by simp[part,isAgg106,sizeOf,typeInfo,hi,hs,Md 9 l k cN]
 simp_all[Instr.index,asIntOf]
theorem Mm(b:Region.wanted op (yielded ops a.tmps)=cx)(t:dW)(x i:Operand)(ho:op.op=.indexAddr t x i)(v:c7)(c:∀w,(Instr.indexAt t (a.eval x) (a.eval i)).run P w=.ok v w):YieldsIf P ops S op v a:=by refine .inl ⟨b,λw _=>?_⟩;simp_all[execOp]
def lJ(a:Way)(q:cQ)(i:Nat):List cQ:=[a.block,a.first (i/8),q].filter λp=>decide (p≠cY)
theorem zT(f:α->Bool)(l:List α)(a:k<l.n):(l.take (k+1)).filter f=(l.take k).filter f++if f l[k]=cx then [l[k]] else []:=by grind[take_succ_eq_append_getElem]
theorem Jl(s:Pl)(q:cQ):(gz s q).1.dv.ops<=s.dv.ops+1:=by unfold gz;split;grind;show(fm s.dv).ops<=_;unfold fm;grind
theorem xW(s:Pl)(q:cQ):(dw s q).1.dv.ops<=s.dv.ops+1:=by grind[dw,Jl]
theorem uT(s:Pl)(q:cQ)(i:Nat):(fB s q i).1.dv.ops<=s.dv.ops+2:=by grind[fB,xW]
theorem zU(d:Dv)(i:Int)(b:cV):(gw d i b).1.ops<=d.ops+1:=by
 have h:(fm d).ops<=d.ops+1:=by unfold fm;grind
 grind[gw,iN]
theorem Jm(s:Pl)(b:cV):(tC s b).1.dv.ops<=s.dv.ops+1:=by unfold tC;split;grind;cases nG s.mp with|none=>grind|some i=>simp only;split<;>exact zU _ _ _
theorem nI(s:Pl)(l:Nat->cQ):(fE s l).1.dv.ops<=s.dv.ops+1:=by unfold fE;cases mW l with|none=>grind|some b=>exact Jm s b
theorem Du(b:cV)(h:∀x∈b,x<256):kZ b<4294967296:=LU 0 b kM h
theorem J'{s:Pl}(h:gU s.cR)(b:cV)(c:∀x∈b,x<256):dD (tC s b).2.1:=by unfold tC;split;exact dV;next hl=>cases a:nG s.mp with|none=>exact dV|some i=>have hi:=(qu a).1;simp only;split;unfold kx;simp only;split;exact⟨by grind,h,Du _ (G9 cN c).2⟩;exact dV;exact dV
theorem oh{s:Pl}(h:gU s.cR)(l:Nat->cQ):dD (fE s l).2.1:=by unfold fE;cases a:mW l with|none=>exact dV|some b=>exact J' h b (Gh a).2
def jn(l:Nat->cQ)(k:Nat)(p:cQ):Nat->cQ:=λi=>if i=k then p else l i
theorem we{l:Nat->cQ}{p:cQ}(a:∀i,dD (l i))(b:dD p):∀i,dD (jn l k p i):=by grind[jn]
def lh(s:Pl)(cO:cQ)(i:Int)(b:cV):Pl×(cQ×List cQ×Int):=
 if mY i=cy then(s,(cO,[],111)) else
 if 128<b.n then(s,(cO,[],92)) else
 let w:=fB s cO i.m
 if w.2.2≠0 then(w.1,(cO,[],w.2.2)) else
 if fI w.1.mp<3 then(w.1,(cO,[],71)) else
 let p:=tC w.1 b
 if p.2.2≠0 then(p.1,(cO,[],p.2.2)) else
 let u:=fE p.1 (jn w.2.1.mE (i.m%8) p.2.1)
 if u.2.2≠0 then(u.1,(cO,[],u.2.2)) else
 let t:=fE u.1 (jn w.2.1.first (i.m/8) u.2.1)
 if t.2.2≠0 then(t.1,(cO,[],t.2.2)) else
 (t.1,(t.2.1,lJ w.2.1 cO i.m,0))
theorem Mn(s:Pl)(q:cQ):(dw s q).1.cR=s.cR:=by grind[dw,gz]
theorem uU(s:Pl)(q:cQ)(i:Nat):(fB s q i).1.cR=s.cR:=by grind[fB,Mn]
theorem Dw(s:Pl)(b:cV):(tC s b).1.cR=s.cR:=by unfold tC;split;rfl;cases nG s.mp with|none=>rfl|some i=>simp only;split<;>rfl
theorem oj(s:Pl)(l:Nat->cQ):(fE s l).1.cR=s.cR:=by grind[fE,Dw]
def rR(l:Nat->cQ):Bool:=Zc l mX
def Ff(l:Nat->cQ)(N:gJ)(i:N=cM 24 (eX l))(w:cS):
 sW 159 #[.agg N] w (.bool (rR l)):=by
 have⟨b,hb⟩:=dG (rR l);have e:=aij l mX b hb;rw[<-i] at e;have k:∀W,(binOp .eql 191 (.agg N) (.agg (#[Value.int .i64 0,.int .u64 0,.int .u32 0,Value.int .i64 0,.int .u64 0,.int .u32 0,Value.int .i64 0,.int .u64 0,.int .u32 0,Value.int .i64 0,.int .u64 0,.int .u32 0,Value.int .i64 0,.int .u64 0,.int .u32 0,Value.int .i64 0,.int .u64 0,.int .u32 0,Value.int .i64 0,.int .u64 0,.int .u32 0,Value.int .i64 0,.int .u64 0,.int .u32 0]:gJ))).run prog W=.ok (.bool b) W:=e;clear e;rw[hb];clear hb;have h:=cz i;clear i;have a:=cz (Fr.refl none [] w aJ);have⟨W1,HW1⟩:=yw (w.alloc (.cells N 191));have c:dS w W1:=by rw[HW1.o];exact aQ
 have d:cL W1 w.heap.size 191 24 (eX l):=by rw[HW1.o,h.o];exact br
 have f:=cz (Fr.adh a.o c);have j:=cz ((show w.heap.size<=w.heap.size from a.o.size));have g:=cz (d);clear d c;go_enter func159,ntmps159;go_upto_region 1 with(fail);rw[<-HW1.o];go_wp2_with (first|((with_reducible refine Y5 ⟨some 3,Op.load 191 (Operand.tmp 1),191,_,_,none⟩ ?_);refine wpList_load_mid (op:=⟨some 3,Op.load 191 (Operand.tmp 1),191,_,_,none⟩) ae 191 (.tmp 1) ae w.heap.size 0 ae N.toList _ (BV (g.o) h.o) Gd ae (by rw[nA,h.o,cW];exact zO) ?_;rw[vA]));clear a;try go_ret
 exact⟨ae,(f.o).cP⟩
end
def Uf{o:Oper}(b:Region.wanted o (yielded ops a.tmps)=cx)(ho:o'= {o with guard:=cw})(h:wpList P ops Q (o'::rest) a w):wpList P ops Q (o::rest) a w:=by subst ho;unfold wpList at h|-;rw[c8 b];rw[c8 nF] at h;exact h
def om(s:Pl)(y:Way)(cO:cQ)(i:Nat):Pl×(cQ×List cQ×Int):=
 let b:=jn y.mE (i%8) cY
 let a:=jn y.first (i/8) cY
 let jT:=if rR b=cx then(if rR a=cx then 0 else 1) else 2
 if fI s.mp<jT then(s,(cO,[],71)) else
 let u:=if jT=2 then fE s b else(s,(cY,0))
 if u.2.2≠0 then(u.1,(cO,[],u.2.2)) else
 let t:=if 0<jT then fE u.1 (jn a (i/8) u.2.1) else(u.1,(cY,0))
 if t.2.2≠0 then(t.1,(cO,[],t.2.2)) else(t.1,(t.2.1,lJ y cO i,0))
def iF(s:Pl)(cO:cQ)(i:Int):Pl×(cQ×List cQ×Int):=
 if mY i=cy then(s,(cO,[],111)) else
 let w:=fB s cO i.m
 if w.2.2≠0 then(w.1,(cO,[],w.2.2)) else
 if w.2.1.block=cY then(w.1,(cO,[],0)) else
 om w.1 w.2.1 cO i.m
theorem aa6(l:Nat->cQ)(k:Nat)(p q:cQ):jn (jn l k p) k q=jn l k q:=by grind[jn]
theorem adF{s:Pl}{y:Way}(b:rR (jn y.mE (i%8) cY)=cx)(a:rR (jn y.first (i/8) cY)=cx):om s y cO i=(s,(cY,lJ y cO i,0)):=by grind[om]
theorem adG{s:Pl}{y:Way}(b:rR (jn y.mE (i%8) cY)=cx)(a:rR (jn y.first (i/8) cY)=cy):
 om s y cO i=if fI s.mp<1 then(s,(cO,[],71)) else
  if(fE s (jn y.first (i/8) cY)).2.2≠0 then((fE s (jn y.first (i/8) cY)).1,(cO,[],(fE s (jn y.first (i/8) cY)).2.2)) else
  ((fE s (jn y.first (i/8) cY)).1,((fE s (jn y.first (i/8) cY)).2.1,lJ y cO i,0)):=by grind[om,aa6]
theorem adH{s:Pl}{y:Way}(a:rR (jn y.mE (i%8) cY)=cy):
 om s y cO i=if fI s.mp<2 then(s,(cO,[],71)) else
  let u:=fE s (jn y.mE (i%8) cY)
  if u.2.2≠0 then(u.1,(cO,[],u.2.2)) else
  let t:=fE u.1 (jn (jn y.first (i/8) cY) (i/8) u.2.1)
  if t.2.2≠0 then(t.1,(cO,[],t.2.2)) else
  (t.1,(t.2.1,lJ y cO i,0)):=by
 grind[om]
def XB{b:Nat}(a:w.grownBy w' (some b)):jZ b w w':=⟨a.os,a.tape,a.output,a.size,λk c d=>a.block k c jH⟩
def XC(a:w.grownBy w' none):dS w w':=⟨a.os,a.tape,a.output,a.size,λk b=>a.block k b eQ⟩
section
end
theorem mml:(∀(a b:α)(l:List α),(a∈b::l)=(a=b∨a∈l))/\(∀a:α,(a∈([]:List α))=False)/\
 (∀(p q:α->Prop)(a:α),(∀x,x=a∨q x->p x)=(p a/\∀x,q x->p x))/\(∀(p:α->Prop)(a:α),(∀x,x=a->p x)=p a)/\
 (∀(x y:α)(l:List α),(x::l).set 0 y=y::l)/\(∀(x y:α)(l:List α)(n:Nat),(x::l).set (n+1) y=x::l.set n y):=
 by grind
theorem mmp:(∀p:Prop,(p∨False)=p)/\(∀p:Prop,(False∨p)=p)/\(∀p:Prop,(True∨p)=True)/\(∀p:Prop,(p∨True)=True)/\(∀p:Prop,(p/\p)=p)/\(∀p:Prop,(p/\True)=p):=
 by grind
structure R4 where
 b:Nat
 t:dW
 n:Nat
 f:Nat->c7
structure O4 where
 e:dW
 z:Nat
 v:c7
 n:Nat
 xs:List c7
def O4.ob(o:O4):Option Nat:=o.v.ownBlock
def eM(L:List R4)(O:List O4):cV:=L.map R4.b++O.filterMap O4.ob
structure lN(d:Option Nat)(X:cV->cS->Prop):Prop where
 cP:∀{B w w'},X B w->dS w w'->X B w'
 add:∀{B w b},X B w->w.h.s<=b->X (b::B) w
 mono:∀{B B' w},X B w->(∀k∈B',k∈B)->X B' w
 but:∀{B w w' b t},X B w->b∈B->jZ b w w'->iy w b=cu t->gZ t=cy->(lQ t=cy∨∀D,d=cu D->b∉oT w D)->X B w'
 dev:∀{B w D},X B w->d=cu D->iy w D=cu 127/\∀k∈oT w D,k<w.h.s
structure St(w0:cS)(d:Option Nat)(l:cV)(L:List R4)(O:List O4)(X:cV->cS->Prop)(w:cS):Prop where
 fr:Fr d l w0 w
 row:∀r∈L,cL w r.b r.t r.n r.f/\gZ r.t=cy/\(lQ r.t=cy∨∀D,d=cu D->r.b∉oT w D)
 own:∀o∈O,w.ownsRow w0.h.s o.e o.z o.v o.n o.xs/\gZ o.e=cy/\lQ o.e=cy
 lo:∀b∈eM L O,w0.h.s<=b
 nd:(eM L O).Nodup
 x:X (eM L O) w
 me:lN d X
section
variable {L:List R4}{O:List O4}
theorem P4{w:cS}{D:Nat}(h:iy w D=cu 127):D∈oT w D:=by grind[oT,iy]
theorem iu{k:Nat}:k∈eM L O↔(∃r∈L,r.b=k)∨∃o∈O,o.v.ownBlock=cu k:=by grind[eM,O4.ob]
theorem St.lt(h:St w0 d l L O X w):∀k∈eM L O,k<w.h.s:=by intro k a;rcases iu.1 a with⟨r,b,rfl⟩|⟨o,ho,e⟩;exact cL.lt (h.row r b).1;exact((h.own o ho).1.lt k e).2
def St.start(w:cS)(d:Option Nat)(l:cV)(a:lN d X)(b:X [] w):St w d l [] [] X w:=
 ⟨Fr.refl d l w λD e=>(a.dev b e).1,by simp,by simp,by simp[eM],by simp[eM],b,a⟩
theorem St.Wo(h:St w0 d l L O X w):∀D,d=cu D->iy w D=cu 127:=λD e=>(h.me.dev h.x e).1
theorem St.cP(h:St w0 d l L O X w)(a:dS w w'):St w0 d l L O X w':=
 ⟨h.fr.adh a,λr b=>⟨cL.cP (h.row r b).1 a,(h.row r b).2.1,(h.row r b).2.2.imp id λf D e=>Ru (f D e) a (h.Wo D e)⟩,
  λo ho=>⟨l9 (h.own o ho).1 a,(h.own o ho).2⟩,h.lo,h.nd,h.me.cP h.x a,h.me⟩
theorem St.drew(h:St w0 d l L O X w):St w0 d l L O X w.drew:=h.cP ((gK _ _).drew)
theorem St.alloc(h:St w0 d l L O X w){A:gJ}{n:Nat}{f:Nat->c7}(t:dW)(m:A=cM n f)(ho:gZ t=cy):
 St w0 d l (⟨w.h.s,t,n,f⟩::L) O X (w.alloc (.cells A t)):=by have i:dS w (w.alloc (.cells A t)):=(gK _ _).alloc (eN _) _;have g:=h.cP i;have k:w.h.s∉eM L O:=λc=>ug _ (h.lt _ c);refine⟨g.fr,λr j=>?_,g.own,λb a=>?_,?_,h.me.cP (h.me.add h.x (eN _)) i,h.me⟩;rcases iX.1 j with rfl|j;refine⟨by grind[cL.alloc],ho,.inr λD e c=>?_⟩;rw[sD (i.block D (iA (h.Wo D e)))] at c;exact ug _ ((h.me.dev h.x e).2 _ c);exact g.row r j;rcases iX.1 (show b∈w.h.s::eM L O from a) with rfl|a;exact h.fr.size;exact h.lo b a;exact yo.2 ⟨k,h.nd⟩
theorem Fg{L:List R4}{r r':R4}(b:L[k]?=cu r)(a:r'.b=r.b):(L.set k r').map R4.b=L.map R4.b:=by apply xL;grind
theorem St.modify(h:St w0 d l L O X w){r:R4}(v:L[k]?=cu r)(j:Nat->c7)(p:jZ r.b w w')(C:cL w' r.b r.t r.n j):St w0 d l (L.set k ⟨r.b,r.t,r.n,j⟩) O X w':=by
 have s:r∈L:=lu v;have n:=h.row r s;have g:=cL.ty n.1;have b:r.b∈eM L O:=iu.2 (.inl ⟨r,s,ae⟩);have a:eM (L.set k ⟨r.b,r.t,r.n,j⟩) O=eM L O:=gQ (· ++O.filterMap O4.ob) (Fg (r':=⟨r.b,r.t,r.n,j⟩) v ae);have x:∀D,d=cu D->w'.h[D]?=w.h[D]?:=λD e=>p.block D (iA (h.Wo D e)) (by
  rintro rfl;have:=h.Wo _ e;rcases n.2.2 with m|m
  . rw[wW (g.symm.trans this)] at m;exact absurd m kM
  grind[P4])
 refine⟨?_,λq z=>?_,λo ho=>?_,by rw[a];exact h.lo,by rw[a];exact h.nd,by rw[a];exact h.me.but h.x b p g n.2.1 n.2.2,h.me⟩;exact h.fr.Rg (h.lo _ b) p;rcases List.mem_iff_getElem?.1 z with⟨i,hi⟩;rw[Bx] at hi;by_cases c:k=i;subst c;rw[c8 ae] at hi;grind[sD];(rw[cX c] at hi;have t:q∈L:=lu hi;have B:=h.row q t;have y:q.b≠r.b:=by(have f:(L.map R4.b).Nodup:=(yp.1 h.nd).1;intro e;have m:(L.map R4.b)[k]?=cu r.b:=by grind);(have A:(L.map R4.b)[i]?=cu r.b:=by grind);grind[getElem?_inj]);grind[cL.but,sD];have u:=h.own o ho;refine⟨qX u.1 (λe=>?_) p,u.2⟩;have f:=(yp.1 h.nd).2.2;exact f r.b (gT.2 ⟨r,s,ae⟩) r.b (I3.2 ⟨o,ho,e⟩) ae
theorem St.pE(h:St w0 d l L O X w){r:R4}(a:L[k]?=cu r):cL w r.b r.t r.n r.f:=(h.row r (lu a)).1
theorem St.uV(h:St w0 d l L O X w){o:O4}(a:O[k]?=cu o):w.ownsRow w0.h.s o.e o.z o.v o.n o.xs:=(h.own o (lu a)).1
theorem St.cell(h:St w0 d l L O X w){k:Nat}{r:R4}(a:L[k]?=cu r){i:Nat}(hi:i<r.n):w.cell? ⟨r.b,i,cw⟩=cu (r.f i):=cL.cell (h.pE a) hi
theorem St.set(h:St w0 d l L O X w){r:R4}(b:L[k]?=cu r)(a:Nat->c7):St w0 d l (L.set k ⟨r.b,r.t,r.n,a⟩) O X (w.setRow r.b (cM r.n a)):=
 h.modify b a (ago _ _ _) (cL.setRow (h.pE b) a)
theorem St.put(h:St w0 d l L O X w){r:R4}(a:L[k]?=cu r)(i:Nat)(v:c7):St w0 d l (L.set k ⟨r.b,r.t,r.n,λj=>if j=i then v else r.f j⟩) O X (w.setCell ⟨r.b,i,cw⟩ v):=
 h.modify a _ (qC _ _ _ _) (cL.set (h.pE a) i v)
theorem St.call(h:St w0 d l L O X w)(f:Fr d2 l2 w w')(b:∀D,d2=cu D->d=cu D)(c:∀k∈l2,k∈l∨w0.h.s<=k)(j:lN d X')(m:∀B,X B w->X' B w'):St w0 d l L O X' w':=by
 refine⟨h.fr.step f b c,λr i=>?_,λo ho=>?_,h.lo,h.nd,m _ h.x,j⟩
 . have a:=h.row r i;cases e2:d2 with
   |none=>subst e2;exact anj
   |some D=>
    subst e2;rcases a.2.2 with h1|h1
    . grind[cL.fr]
    . exact⟨cL.frX a.1 f (h1 D (b D ae)) (.inl a.2.1),a.2.1,.inr λn e=>by
       rcases wW (e.symm.trans (b D ae)) with rfl
       grind[Fr.adi,cL.lt]⟩
 have p:=h.own o ho;grind[BQ]
theorem St.take(h:St w0 d l L O X w)(a:St w0 d l L O X' w')(ho:w'.ownsRow w.h.s e z v n xs)(s:gZ e=cy)(t:lQ e=cy)(r:∀B,X B w->X' B w'):St w0 d l L (⟨e,z,v,n,xs⟩::O) X' w':=by
 have u:w0.h.s<=w.h.s:=h.fr.size;have c:∀k,v.ownBlock=cu k->eM L (⟨e,z,v,n,xs⟩::O)=L.map R4.b++k::O.filterMap O4.ob:=by grind[eM,O4.ob]
 cases m:v.ownBlock with
 |none=>
  have:eM L (⟨e,z,v,n,xs⟩::O)=eM L O:=by grind[eM,O4.ob]
  refine⟨a.fr,a.row,λo f=>?_,by rw[this];exact a.lo,by rw[this];exact a.nd,by rw[this];exact a.x,a.me⟩;rcases iX.1 f with rfl|f;grind[BR];exact a.own o f
 |some g=>
  have p:=ho.lt g m;have q:g∉eM L O:=λf=>by have:=h.lt g f;omega
  refine⟨a.fr,a.row,λo f=>?_,λb i=>?_,?_,?_,a.me⟩;rcases iX.1 f with rfl|f;grind[BR];exact a.own o f;rw[c g m] at i;simp only[gH,iX] at i;rcases i with i|rfl|i;exact a.lo b (gH.2 (.inl i));omega;exact a.lo b (gH.2 (.inr i));rw[c g m];have:=a.nd;unfold eM at this q;grind;refine a.me.mono (r _ (h.me.add h.x p.1)) λk j=>?_;rw[c g m] at j;simp only[gH,iX] at j;rcases j with j|rfl|j;grind[eM];grind;grind[eM]
theorem St.grow(h:St w0 d l L O X w){o:O4}(s:O[k]?=cu o){g A:Nat}(x:w.grownBy w' o.v.ownBlock)(hn:w'.ownsRow w0.h.s o.e o.z v' A xs')(H:v'.ownBlock=cu g)(p:o.v.ownBlock=cu g∨g=w.h.s):St w0 d l L (O.set k ⟨o.e,o.z,v',A,xs'⟩) X w':=by
 have Q:o∈O:=lu s;have z:=h.own o Q;have Y:k<O.n:=(oF.1 s).1
 -- the new blocks:g,and the old ones but o's
 have u:∀b∈eM L (O.set k ⟨o.e,o.z,v',A,xs'⟩),b∈g::eM L O:=by
  intro b n;rcases iu.1 n with⟨r,I,e⟩|⟨q,t,e⟩
  . grind[iu]
  . rcases vB t with m|rfl
    . grind[iu]
    grind
 have E:w0.h.s<=g:=(hn.lt g H).1;have N:∀b∈eM L (O.set k ⟨o.e,o.z,v',A,xs'⟩),w0.h.s<=b:=λb n=>by
  rcases iX.1 (u b n) with rfl|m
  . exact E
  . exact h.lo b m
 have a4:∀r∈L,cu r.b≠o.v.ownBlock:=λr I e=>
  (yp.1 h.nd).2.2 r.b (gT.2 ⟨r,I,ae⟩) r.b (I3.2 ⟨o,Q,e.symm⟩) ae
 have a2:∀i q,O[i]?=cu q->i≠k->∀b,q.v.ownBlock=cu b->o.v.ownBlock≠cu b:=by
  intro i q hi a1 b n v;have j:(O.filterMap O4.ob).Nodup:=(yp.1 h.nd).2.1;have:∀(O:List O4)(i k:Nat)(q o:O4),(O.filterMap O4.ob).Nodup->O[i]?=cu q->O[k]?=cu o->i<k->q.v.ownBlock=cu b->o.v.ownBlock=cu b->False:=by
   intro O
   induction O with
   |nil=>grind
   |cons a O ih=>
    intro i k q o j hi s Z n v;cases k with
    |zero=>omega
    |succ k=>
     cases i with
     |zero=>
      simp only[getElem?_cons_zero,yq] at hi;subst hi;rw[filterMap_cons_some (f:=O4.ob) n,yo] at j;exact j.1 (I3.2 ⟨o,lu (by simpa using s),v⟩)
     |succ i=>
      refine ih i k q o ?_ jH jH cN n v;cases C:a.v.ownBlock with
      |none=>grind[filterMap_cons_none,O4.ob]
      |some c=>simp_all[O4.ob]
  grind
 have U:∀D,d=cu D->w'.h[D]?=w.h[D]?:=λD e=>x.block D (iA (h.Wo D e)) (λe2=>by
  have m:=uR z.1 e2.symm;have y:=z.2.2;rw[<-wW ((h.Wo D e).symm.trans m)] at y;exact absurd y kM)
 refine⟨h.fr.grown x λb e=>(z.1.lt b e).1,λr I=>?_,λq t=>?_,N,?_,?_,h.me⟩
 . have hR:=h.row r I
   grind[cL.grown,sD]
 . rcases List.mem_iff_getElem?.1 t with⟨i,hi⟩;rw[Bx] at hi;by_cases M:k=i
   . grind
   . rw[cX M] at hi;have T:=h.own q (lu hi);refine⟨T.1.kept x ?_,T.2⟩;cases a3:q.v.ownBlock<;>grind
 . -- no block twice
   have j:=h.nd;unfold eM at j|-;have G:∀(O:List O4)(k:Nat),O[k]?=cu o->(O.filterMap O4.ob).Nodup->(∀q∈O,q.v.ownBlock=cu g->o.v.ownBlock=cu g)->
    ((O.set k ⟨o.e,o.z,v',A,xs'⟩).filterMap O4.ob).Nodup:=by
    intro O
    induction O with
    |nil=>grind
    |cons a O ih=>
     intro k s j t;cases k with
     |zero=>
      simp only[getElem?_cons_zero,yq] at s;subst s;rw[By,filterMap_cons_some (f:=O4.ob) (a:=⟨a.e,a.z,v',A,xs'⟩) H,yo]
      grind[O4.ob]
     |succ k=>
      have F:O[k]?=cu o:=by grind
      rw[FQ];cases C:a.v.ownBlock with
      |none=>
       grind[O4.ob]
      |some c=>
       rw[filterMap_cons_some (f:=O4.ob) C,yo] at j|-;refine⟨λR=>?_,ih k F j.2 λq m=>t q (kT _ m)⟩;have⟨q,m,y⟩:=I3.1 R;rcases vB m with h3|rfl
       . grind
       . rw[show(Value.ownBlock v')=cu c from y] at H;cases H;have:=t a (nB ..) C;exact j.1 (I3.2 ⟨o,lu F,this⟩)
   rw[yp] at j|-;have K:∀q∈O,q.v.ownBlock=cu g->o.v.ownBlock=cu g:=λq t e=>by
    rcases p with m|m
    . exact m
    . have:=h.lt g (iu.2 (.inr ⟨q,t,e⟩));omega
   refine⟨j.1,G O k s j.2.1 K,λa C b n=>?_⟩;have⟨q,m,y⟩:=I3.1 n;rcases vB m with h3|rfl
   . grind
   . have V:g=b:=wW (H.symm.trans y);rcases p with h4|h4
     . grind
     . have:=h.lt a (gH.2 (.inl C));omega
 . -- what else is known
   refine h.me.mono (B:=g::eM L O) ?_ u;cases n:o.v.ownBlock with
   |none=>
    rw[n] at x;refine h.me.cP ?_ (XC x);rcases p with m|m
    . grind
    . exact h.me.add h.x cN
   |some b=>
    rw[n] at x;have J:b∈eM L O:=iu.2 (.inr ⟨o,Q,n⟩);have hx:X (g::eM L O) w:=by
     rcases p with m|m
     . rw[n] at m;cases m;exact h.me.mono h.x λk s=>by
        grind
     . exact h.me.add h.x cN
    exact h.me.but hx (kT _ J) (XB x) (uR z.1 n) z.2.1 (.inl z.2.2)
end
/-! ### What else is known -/
def xl:lN cw (λ_ _=>True):=⟨λ_ _=>iC,λ_ _=>iC,λ_ _=>iC,λ_ _ _ _ _ _=>iC,λ_ e=>by cases e⟩
theorem adI{w:cS}{D:Nat}{v:Dv}(h:iQ w D v):iy w D=cu 127/\∀k∈oT w D,k<w.h.s:=by refine⟨h.Wo,λk a=>?_⟩;have⟨l,hl⟩:=h.open;rw[hl.oT] at a;exact hl.lt k a
theorem fh.ail{P b:Nat}{t:dW}{s:Pl}(h:fh w P D M s)(c:jZ b w w')(a:iy w b=cu t)(ho:gZ t=cy)(d:lQ t=cy∨b∉oT w D):fh w' P D M s:=by rcases d with h1|h1;grind[fh.but];have⟨l,hl⟩:=h.dev.open;rw[hl.oT] at h1;refine h.aih c hl h1 (λe=>?_) (λe=>?_);rw[e,h.tyP] at a;cases a;cases ho;rw[e,h.tyM] at a;cases a;cases ho
def CR(P D M:Nat)(s:Pl):cV->cS->Prop:=λ_ w=>fh w P D M s
def dR(P D M:Nat)(s:Pl):lN (cu D) (CR P D M s):=
 ⟨λh a=>fh.cP h a,λh _=>h,λh _=>h,λh _ a c ho b=>fh.ail h a c ho (b.imp id λf=>f D ae),fun {B w D'} (h:fh w P D M s) e=>by cases e;exact adI h.dev⟩
def yQ(e:dW)(z:Nat)(v:c7)(n:Nat)(xs:List c7):cV->cS->Prop:=λB w=>dg w e z v n xs/\(0<n->∀b,v.ownBlock=cu b->b∉B)
def P5(h:yQ e z v n xs B w)(a:dS w w'):yQ e z v n xs B w':=⟨h.1.cP a,h.2⟩
def dg.akV(h:dg w T sz v n xs)(s:jZ c w w')(hc:0<n->∀b,v.ownBlock=cu b->b≠c):dg w' T sz v n xs:=by obtain⟨g,ao,cap,rfl,i,j,k⟩:=h;refine⟨g,ao,cap,ae,i,j,λd=>?_⟩;obtain⟨b,o,e,f,rfl,a,l⟩:=k d;exact⟨b,o,e,f,ae,by rw[s.block b (rI.1 a).1 (hc d b ae)];exact a,l⟩
def Ze{b:Nat}(h:yQ e z v n xs B w)(d:b∈B)(a:jZ b w w'):yQ e z v n xs B w':=
 ⟨h.1.akV a λf c hc e=>h.2 f c hc (e▸d),h.2⟩
def Zf{b:Nat}(h:yQ e z v n xs B w)(f:w.h.s<=b):yQ e z v n xs (b::B) w:=
 ⟨h.1,λd c hc a=>by
  rcases iX.1 a with rfl|a
  . have:=iA (h.1.ty hc d);omega
  . exact h.2 d c hc a⟩
def Ug{a:cV}(h:yQ e z v n xs B w)(f:∀k∈a,k∈B):yQ e z v n xs a w:=⟨h.1,λd c hc b=>h.2 d c hc (f c b)⟩
def adJ(h:yQ e z v n xs B w)(f:Fr d l w w')(a:lQ e=cy)(b:gZ e=cy):yQ e z v n xs B w':=⟨h.1.fr f (.inr a) b,h.2⟩
theorem lN.sl(h:lN d X)(e:dW)(z:Nat)(v:c7)(n:Nat)(xs:List c7):lN d (λB w=>X B w/\yQ e z v n xs B w):=
 ⟨λa b=>⟨h.cP a.1 b,P5 a.2 b⟩,λa b=>⟨h.add a.1 b,Zf a.2 b⟩,λa b=>⟨h.mono a.1 b,Ug a.2 b⟩,λa b c t u v=>⟨h.but a.1 b c t u v,Ze a.2 b c⟩,λa e=>h.dev a.1 e⟩
/-! ### Types of rows -/
def ky(P:oN)(ty:dW)(n:Nat):Prop:=(∃d,P.underlying ty=cu d/\d.isRow=cx)/\(P.info? ty).map (·.size)=cu n
def lD(P:oN)(ty:dW):Prop:=(∃d,P.underlying ty=cu d/\d.isRow=cy)/\(P.info? ty).map (·.size)=cu 1
section
def xC(dst:Nat)(ty:dW)(x:Nat)(h:wpList P ops Q (⟨cu dst,.load ty (.tmp x),t2,p,af,cw⟩::rest) a w):wpList P ops Q (⟨cu dst,.load ty (.tmp x),t2,p,af,cw⟩::rest) a w:=h
def wI(ty:dW)(x y:Nat)(h:wpList P ops Q (⟨cw,.store ty (.tmp x) (.tmp y),t2,p,af,cw⟩::rest) a w):wpList P ops Q (⟨cw,.store ty (.tmp x) (.tmp y),t2,p,af,cw⟩::rest) a w:=h
def adK(ty:dW)(x:Nat){c:c7}(h:wpList P ops Q (⟨cw,.store ty (.tmp x) (.const c),t2,p,af,cw⟩::rest) a w):wpList P ops Q (⟨cw,.store ty (.tmp x) (.const c),t2,p,af,cw⟩::rest) a w:=h
def Zg(dst:Nat)(ty:dW)(x:Nat)(h:wpList P ops Q (⟨cu dst,.box ty (.tmp x),t2,p,af,cw⟩::rest) a w):wpList P ops Q (⟨cu dst,.box ty (.tmp x),t2,p,af,cw⟩::rest) a w:=h
def Lk(dst:Nat)(ty:dW)(h:wpList P ops Q (⟨cu dst,.alloc ty,t2,p,af,cw⟩::rest) a w):wpList P ops Q (⟨cu dst,.alloc ty,t2,p,af,cw⟩::rest) a w:=h
def Uh(dst:Nat)(x y:Nat)(h:wpList P ops Q (⟨cu dst,.call {callee:=.builtin .append,args:=#[.tmp x,.tmp y],argTypes:=ts},t2,p,af,cw⟩::rest) a w):wpList P ops Q (⟨cu dst,.call {callee:=.builtin .append,args:=#[.tmp x,.tmp y],argTypes:=ts},t2,p,af,cw⟩::rest) a w:=h
variable {L:List R4}{O:List O4}{x:Nat}
def P6(S:St w0 d l L O X w)(k:Nat){r:R4}(c:L[k]?=cu r)(f:a.eval (.tmp x)=bW (cu ⟨r.b,0,cw⟩)){A:gJ}(b:A=cM r.n r.f)(e:ky P ty r.n)(h:wpList P ops Q rest (a.put (cu dst) (bV A)) w):wpList P ops Q (⟨cu dst,.load ty (.tmp x),t2,p,af,cw⟩::rest) a w:=by have⟨⟨dd,hu,hd⟩,hi⟩:=e;have:=wpList_load_mid (op:=⟨cu dst,.load ty (.tmp x),t2,p,af,cw⟩) (ops:=ops) (rest:=rest) (Q:=Q) ae ty (.tmp x) ae r.b 0 f A.t dd (BV (S.pE c) b) hu hd aG;rw[vA] at this;exact this h
theorem BW{b:Nat}{t:dW}(h:cL w b t n f)(d:o+m<=n)(c:∀i,i<m->f (o+i)=g i){A:gJ}(a:A=cM m g):w.rangeAt b o A.t:=by subst a;intro j v e;grind[dy,cL.cell]
def P7(S:St w0 d l L O X w)(k:Nat){r:R4}(e:L[k]?=cu r)(n:a.eval (.tmp x)=bW (cu ⟨r.b,o,cw⟩))(g:Nat->c7)(f:o+m<=r.n)(c:∀i,i<m->r.f (o+i)=g i){A:gJ}(b:A=cM m g)(j:ky P ty m)(h:wpList P ops Q rest (a.put (cu dst) (bV A)) w):wpList P ops Q (⟨cu dst,.load ty (.tmp x),t2,p,af,cw⟩::rest) a w:=by have⟨⟨dd,hu,hd⟩,hi⟩:=j;have:=wpList_load_mid (op:=⟨cu dst,.load ty (.tmp x),t2,p,af,cw⟩) (ops:=ops) (rest:=rest) (Q:=Q) ae ty (.tmp x) ae r.b o n A.t dd (BW (S.pE e) f c b) hu hd aG;rw[vA] at this;exact this h
theorem ajK{b cap:Nat}(R:dg w e z (bX (cu ⟨b,o,cw⟩) n cap) n xs)(s:j<n)(f:a.eval (.tmp x)=bW (cu ⟨b,o+j*z,cw⟩)){A:gJ}(m:A.s=z)(q:∀i,i<z->xs[j*z+i]?=A[i]?)(d:ky P ty z)(h:wpList P ops Q rest (a.put (cu dst) (bV A)) w):wpList P ops Q (⟨cu dst,.load ty (.tmp x),t2,p,af,cw⟩::rest) a w:=by
 have⟨⟨dd,hu,hd⟩,hi⟩:=d;have c:w.rangeAt b (o+j*z) A.t:=by have⟨h1,ao,cap',h2,h3,h4,h5⟩:=R;obtain⟨g,o',k,l,rfl,r,hc⟩:=h5 cN;cases h2;intro i v t;grind[cell_of_row]
 have:=wpList_load_mid (op:=⟨cu dst,.load ty (.tmp x),t2,p,af,cw⟩) (ops:=ops) (rest:=rest) (Q:=Q) ae ty (.tmp x) ae b _ f A.t dd c hu hd jH;rw[vA] at this;exact this h
theorem jF{b:Nat}(hc:w.cell? ⟨b,o,cw⟩=cu v)(f:a.eval (.tmp x)=bW (cu ⟨b,o,cw⟩))(e:lD P ty)(h:wpList P ops Q rest (a.put (cu dst) v) w):wpList P ops Q (⟨cu dst,.load ty (.tmp x),t2,p,af,cw⟩::rest) a w:=by
 have⟨⟨dd,hu,hd⟩,hi⟩:=e;refine mz ae λ_ d=>?_;have c:(isAgg ty).run P w=.ok cy w:=by unfold isAgg;rw[lx,yI hu w];cases dd<;>simp_all [TypeDesc.isRow]
 unfold Oper.wp execOp;simp only[f,Instr.loadAt,Instr.sureAddr,lx,rN,nX,loadVar,c,cX QR,run_load,hc];exact d _ _ h
def yS(S:St w0 d l L O X w)(k:Nat){r:R4}(b:L[k]?=cu r)(i:Nat)(e:r.f i=v)(hi:i<r.n)(f:a.eval (.tmp x)=bW (cu ⟨r.b,i,cw⟩))(c:lD P ty)(h:wpList P ops Q rest (a.put (cu dst) v) w):wpList P ops Q (⟨cu dst,.load ty (.tmp x),t2,p,af,cw⟩::rest) a w:=
 jF (by rw[S.cell b hi,e]) f c h
theorem oV(S:St w0 d l L O X w){A:gJ}(g:a.eval (.tmp x)=bW (cu ⟨w.h.s,0,cw⟩))(j:a.eval (.tmp y)=bV A)(b:A=cM n f)(e:ky P ty n)(ho:gZ ty=cy)(c:Z.s=n)(k:∀i,(f i).oneCell'=cx)(h:∀W,St w0 d l (⟨w.h.s,ty,n,f⟩::L) O X W->wpList P ops Q rest (a.put cw undef) W):wpList P ops Q (⟨cw,.store ty (.tmp x) (.tmp y),t2,p,af,cw⟩::rest) a (w.alloc (.cells Z ty)):=
 BS (o:=⟨cw,.store ty (.tmp x) (.tmp y),t2,p,af,cw⟩) ae ty (.tmp x) (.tmp y) ae Z A n g j e.2 c (by rw[b,cW]) (by grind[oD]) (h _ (S.alloc ty b ho))
def Ui(S:St w0 d l L O X w)(k:Nat){r:R4}(b:L[k]?=cu r){A:gJ}(j:a.eval (.tmp x)=bW (cu ⟨r.b,0,cw⟩))(m:a.eval (.tmp y)=bV A)(e:A=cM r.n f)(g:ky P ty r.n)(c:∀i,(f i).oneCell'=cx)(h:∀W,St w0 d l (L.set k ⟨r.b,r.t,r.n,f⟩) O X W->wpList P ops Q rest (a.put cw undef) W):wpList P ops Q (⟨cw,.store ty (.tmp x) (.tmp y),t2,p,af,cw⟩::rest) a w:=
 wpList_store_row (o:=⟨cw,.store ty (.tmp x) (.tmp y),t2,p,af,cw⟩) ae ty (.tmp x) (.tmp y) ae r.b j r.n f A m e r.t r.f (S.pE b) g.2 c (h _ (S.set b f))
theorem BX{b:Nat}(d:w.there b o 1)(n:a.eval (.tmp x)=bW (cu ⟨b,o,cw⟩))(r:a.eval q=v)(m:v.oneCell'=cx)(hi:lD P ty)(h:wpList P ops Q rest (a.put cw undef) (w.setCell ⟨b,o,cw⟩ v)):wpList P ops Q (⟨cw,.store ty (.tmp x) q,t2,p,af,cw⟩::rest) a w:=by
 refine mz ae λ_ f=>?_;have c:=Mo (P:=P) b o [v] 0 w (λj g=>by simpa using(d j cN).1) (λj g=>by simpa using(d j cN).2) (λu s=>by grind);have hc:v.cells=#[v]:=by cases v<;>first|rfl|cases m
 have e:(storeVar ty ⟨b,o,cw⟩ v).run P w=.ok () (w.setCell ⟨b,o,cw⟩ v):=by cases k:P.info? ty with|none=>have:=hi.2;grind|some i=>(have l:i.s=1:=by have:=hi.2;grind);simp only[xK] at c;simp[storeVar,sizeOf,typeInfo,k,hc,l,c];rfl
 unfold Oper.wp execOp;simp only[n,r,Instr.storeAt,Instr.sureAddr,lx,rN,nX,e];exact f _ _ h
def vC(S:St w0 d l L O X w)(k:Nat){r:R4}(b:L[k]?=cu r)(i:Nat)(hi:i<r.n)(f:a.eval (.tmp x)=bW (cu ⟨r.b,i,cw⟩))(g:a.eval q=v)(e:v.oneCell'=cx)(c:lD P ty)(h:∀W,St w0 d l (L.set k ⟨r.b,r.t,r.n,λj=>if j=i then v else r.f j⟩) O X W->wpList P ops Q rest (a.put cw undef) W):wpList P ops Q (⟨cw,.store ty (.tmp x) q,t2,p,af,cw⟩::rest) a w:=
 BX (nT (S.pE b) cN) f g e c (h _ (S.put b i v))
def Ka(S:St w0 d l L O X w)(k:Nat){r:R4}(c:L[k]?=cu r){A:gJ}{b:Nat->c7}(n:o+m<=r.n)(s:a.eval (.tmp x)=bW (cu ⟨r.b,o,cw⟩))(t:a.eval (.tmp y)=bV A)(f:A=cM m g)(q:ky P ty m)(e:∀i,(g i).oneCell'=cx)(j:∀w',cL w r.b r.t r.n r.f->w'=w.setCells r.b o (cM m g).t->cL w' r.b r.t r.n b)(h:∀W,St w0 d l (L.set k ⟨r.b,r.t,r.n,b⟩) O X W->wpList P ops Q rest (a.put cw undef) W):wpList P ops Q (⟨cw,.store ty (.tmp x) (.tmp y),t2,p,af,cw⟩::rest) a w:=by
 subst f;exact wpList_store_mid (op:=⟨cw,.store ty (.tmp x) (.tmp y),t2,p,af,cw⟩) ae ty (.tmp x) (.tmp y) ae r.b o (cM m g) s t (by rw[cW];exact nT (S.pE c) n) (by rw[cW];exact q.2) (oD g e)
  (h _ (S.modify c b (jZ.setCells _ _ _ _) (j _ (S.pE c) ae)))
def yT(S:St w0 d l L O X w){A:gJ}(e:a.eval (.tmp x)=bV A)(b:A=cM n f)(ho:gZ ty=cy)(h:∀W,St w0 d l (⟨w.h.s,ty,n,f⟩::L) O X W->wpList P ops Q rest (a.put (cu dst) (bW (cu ⟨w.h.s,0,cw⟩))) W):wpList P ops Q (⟨cu dst,.box ty (.tmp x),t2,p,af,cw⟩::rest) a w:=by refine mz ae λK c=>?_;unfold Oper.wp execOp;simp only[lx,Instr.box,newVar,newRow,Gj,rN,nX];rw[e];exact c _ _ (h _ (S.alloc ty b ho))
end
def xm(P:oN)(t e:dW)(z by':Nat):Prop:=P.underlying t=cu (.slice e)/\∃zv,(P.info? e).map (λi=>(i.zero,i.s,i.bytes))=cu (cu zv,z,by')/\zv.cells.s=z/\0<z
section
variable {L:List R4}{O:List O4}{x:Nat}
def St.pop{r:R4}(h:St w0 d l (r::L) O X w):St w0 d l L O X w:=by have a:∀k∈eM L O,k∈eM (r::L) O:=λk e=>kT _ e;exact⟨h.fr,λq f=>h.row q (kT _ f),h.own,λb c=>h.lo b (a b c),(yo.1 (show(r.b::eM L O).Nodup from h.nd)).2,h.me.mono h.x a,h.me⟩
theorem St.KY{o:O4}(h:St w0 d l L (o::O) X w):St w0 d l L O X w:=by
 have a:∀k∈eM L O,k∈eM L (o::O):=λk g=>by grind[iu]
 refine⟨h.fr,h.row,λq f=>h.own q (kT _ f),λb c=>h.lo b (a b c),?_,h.me.mono h.x a,h.me⟩;have e:=h.nd;grind[eM]
theorem St.Jn(h:St w0 d l L O X w)(e:dW)(z:Nat)(c:gZ e=cy)(f:lQ e=cy):St w0 d l L (⟨e,z,bX cw 0 0,0,[]⟩::O) X w:=by
 have a:eM L (⟨e,z,bX cw 0 0,0,[]⟩::O)=eM L O:=by rfl
 refine⟨h.fr,h.row,λq b=>?_,by rw[a];exact h.lo,by rw[a];exact h.nd,by rw[a];exact h.x,h.me⟩;rcases iX.1 b with rfl|b;grind[World.ownsRow_nil];exact h.own q b
theorem St.Uj{b:Nat}(h:St w0 d l (⟨b,e,n,f⟩::L) O X w)(m:lQ e=cy):
 St w0 d l L (⟨e,n,bX (cu ⟨b,0,cw⟩) 1 1,1,(cM n f).t⟩::O) X w:=by
 have c:eM L (⟨e,n,bX (s_ b 0) 1 1,1,(cM n f).t⟩::O)=L.map R4.b++b::O.filterMap O4.ob:=by rfl
 have i:(L.map R4.b++b::O.filterMap O4.ob).Perm (eM (⟨b,e,n,f⟩::L) O):=perm_middle;have j:=h.row _ (nB ..);refine⟨h.fr,λq a=>h.row q (kT _ a),λq a=>?_,λk g=>h.lo k (i.mem_iff.1 (c▸g)),by rw[c];exact i.nodup_iff.2 h.nd,h.me.mono h.x λk g=>i.mem_iff.1 (c▸g),h.me⟩;rcases iX.1 a with rfl|a;refine⟨⟨by simp_all[cW],.inr ⟨b,1,cM n f,ae,h.lo b (nB ..),j.1,eN _,by decide,by simp_all[cW],by grind[take_of_length_le,cW]⟩⟩,j.2.1,m⟩;exact h.own q a
def Mp(S:St w0 d l L O X w){t:dW}{A:gJ}(i:a.eval (.tmp x)=bV A)(b:A=cM n f)(g:xm P t e n by')(c:n<=16777216)(ho:gZ e=cy)(h:∀W,St w0 d l (⟨w.h.s,e,n,f⟩::L) O X W->wpList P ops Q rest (a.put (cu dst) (bX (cu ⟨w.h.s,0,cw⟩) 1 1)) W):
 wpList P ops Q (⟨cu dst,.buildSlice t 1 #[(0,.tmp x)],t2,p,af,cw⟩::rest) a w:=by have⟨hu,zv,hi,hz,h0⟩:=g;exact Oz (o:=⟨cu dst,.buildSlice t 1 #[(0,.tmp x)],t2,p,af,cw⟩) ae t e (.tmp x) ae A n by' zv i hu hi h0 c (by rw[b,cW]) (h _ (S.alloc e b ho))
theorem tE(S:St w0 d l L O X w)(k:Nat){r:R4}(n:L[k]?=cu r)(j:Nat){o:O4}(e:O[j]?=cu o){t:dW}(z:a.eval (.tmp x)=o.v)(B:a.eval (.tmp y)=bX (cu ⟨r.b,0,cw⟩) 1 1)(v:r.n=o.z)(A:xm P t o.e o.z by')(C:∀i,(r.f i).oneCell'=cx)(s:(o.n+1)*by'<=140737488355328)(q:o.n+1<=maxLen)(h:∀g cap W,St w0 d l L (O.set j ⟨o.e,o.z,bX (cu ⟨g,0,cw⟩) (o.n+1) cap,o.n+1,o.xs++(cM r.n r.f).t⟩) X W->wpList P ops Q rest (a.put (cu dst) (bX (cu ⟨g,0,cw⟩) (o.n+1) cap)) W):
 wpList P ops Q (⟨cu dst,.call {callee:=.builtin .append,args:=#[.tmp x,.tmp y],argTypes:=#[t,t]},t2,p,af,cw⟩::rest) a w:=by
 have⟨f,zv,hi,hz,h0⟩:=A;refine L9 (o:=⟨cu dst,.call {callee:=.builtin .append,args:=#[.tmp x,.tmp y],argTypes:=#[t,t]},t2,p,af,cw⟩) ae (.tmp x) (.tmp y) t ae w0.h.s o.e zv o.z by' f hi hz h0 o.v o.n o.xs z (S.uV e) r.b (cM r.n r.f) r.t (0,0) B (S.pE n) (by rw[cW,v])
  (λu f=>?_) q s S.fr.size λg cap w' b m c _=>h g cap w' ?_
 grind[oD,Array.all_eq_true_iff_forall_mem];exact S.grow e m b ae c
def Kb{t:dW}{A B:gJ}(c:a.eval (.tmp x)=bV A)(hi:a.eval (.tmp ix)=bU cq k)(b:∀W,(Instr.index t (bV A) (bU cq k)).run P W=.ok (bV B) W)(h:wpList P ops Q rest (a.put (cu dst) (bV B)) w):wpList P ops Q (⟨cu dst,.index t (.tmp x) (.tmp ix),t2,p,af,cw⟩::rest) a w:=
 G5 (o:=⟨cu dst,.index t (.tmp x) (.tmp ix),t2,p,af,cw⟩) ae t (.tmp x) (.tmp ix) ae (bV B) jH h
end
def fL:ky prog 106 3:=⟨⟨_,Af,ae⟩,ku⟩
def Cy:ky prog 191 24:=⟨⟨_,Gd,ae⟩,zO⟩
def Dx:ky prog 36 128:=⟨⟨_,vX,ae⟩,pB⟩
def ib:xm prog 107 106 3 24:=⟨underlying107,_,Zd,ae,cN⟩
theorem dk{q:cQ}{A:gJ}(h:A=cM 3 (dE q)):mO q=bV A:=by grind[GZ]
def mq(l:Nat->cQ):List cQ:=(range 8).map l
def jU(cR:Nat)(x:Pl×(List cQ×Int))(q:cQ):Pl×(List cQ×Int):=
 if x.2.2≠0 then x else
 if jY q cR=cy then x else
 if(dw x.1 q).2.2≠0 then((dw x.1 q).1,([],(dw x.1 q).2.2)) else
 ((dw x.1 q).1,(x.2.1++q:: (mq (dw x.1 q).2.1).filter (jY · cR),0))
def uj(cR:Nat)(l:List cQ)(x:Pl×(List cQ×Int)):Pl×(List cQ×Int):=l.foldl (jU cR) x
def fR(s:Pl)(cO:cQ)(cR:Nat):Pl×(List cQ×Int):=
 if jY cO cR=cy then(s,([],0)) else
 if(dw s cO).2.2≠0 then((dw s cO).1,([],(dw s cO).2.2)) else
 uj cR (mq (dw s cO).2.1) ((dw s cO).1,([cO],0))
theorem aa7{l:List cQ}{x:Pl×(List cQ×Int)}(h:x.2.2≠0):uj cR l x=x:=by unfold uj;induction l with|nil=>rfl|cons q l ih=>simp_all[jU]
theorem qe(l:Nat->cQ):(mq l).n=8:=by rfl
theorem Jo(l:Nat->cQ)(k:Nat)(h:k<(mq l).n):(mq l)[k]=l k:=by simp[mq]
theorem Mq(f:β->α->β)(b:β)(l:List α)(a:k<l.n):(l.take (k+1)).foldl f b=f ((l.take k).foldl f b) l[k]:=by grind[take_succ_eq_append_getElem]
theorem Uk(f:β->α->β)(b:β)(l:List α)(k:Nat):l.foldl f b=(l.drop k).foldl f ((l.take k).foldl f b):=by grind[take_append_drop]
theorem XD{s:Pl}{q:cQ}{st:Nat}(h:jY q st=cy):fR s q st=(s,([],0)):=by simp_all[fR]
theorem Ul{s a:Pl}{q:cQ}{st:Nat}{l:Nat->cQ}{c:Int}(h:jY q st=cx)(b:dw s q=(a,(l,c)))(hc:c≠0):fR s q st=(a,([],c)):=by grind[fR]
theorem XE{s a:Pl}{q:cQ}{st:Nat}{l:Nat->cQ}(h:jY q st=cx)(b:dw s q=(a,(l,0))):fR s q st=uj st (mq l) (a,([q],0)):=by grind[fR]
structure qZ where
 kJ:Nat
 cR:Nat
 iG:cQ
 len:Nat
 gx:Nat
def k7(u:qZ):Nat->c7:=λi=>if i=0 then bU ct u.kJ else if i=1 then bU ct u.cR else if i<5 then dE u.iG (i-2) else if i=5 then bU cq u.len else bU cq u.gx
theorem Mr(u:qZ):cM 7 (k7 u)=#[bU ct u.kJ,bU ct u.cR,bU cq u.iG.1,bU ct u.iG.2.1,bU .u32 u.iG.2.2,bU cq u.len,bU cq u.gx]:=rfl
theorem uk(u:qZ):∀i,(k7 u i).oneCell'=cx:=by intro i;unfold k7;split;rfl;split;rfl;split;exact dJ _ _;split<;>rfl
def kC(u:qZ):Bool:=decide (1<=u.kJ/\u.kJ<=281474976710655/\1<=u.cR/\u.cR<=281474976710655/\im u.iG=cx/\u.iG≠cY/\1<=u.len/\u.len<=65535/\64<=u.gx/\u.gx<=1024)
def Ms{b:Nat}{u:qZ}(h:cL w b 143 7 (k7 u)):w.cell? ⟨b,0,cw⟩=cu (.int ct u.kJ)/\w.cell? ⟨b,1,cw⟩=cu (.int ct u.cR)/\w.cell? ⟨b,2,cw⟩=cu (.int cq u.iG.1)/\w.cell? ⟨b,3,cw⟩=cu (.int ct u.iG.2.1)/\w.cell? ⟨b,4,cw⟩=cu (.int .u32 u.iG.2.2)/\w.cell? ⟨b,5,cw⟩=cu (.int cq u.len)/\w.cell? ⟨b,6,cw⟩=cu (.int cq u.gx):=
 ⟨cL.cell h (i:=0) cN,cL.cell h (i:=1) cN,cL.cell h (i:=2) cN,cL.cell h (i:=3) cN,cL.cell h (i:=4) cN,cL.cell h (i:=5) cN,cL.cell h (i:=6) cN⟩
section
attribute[local irreducible]wpList Code.wp Calls Oper.wp wpAnyH
theorem OE(u:qZ)(w:cS):sW 260 #[bV (cM 7 (k7 u))] w (bZ (kC u)):=by
 have d:=cz (yE u.iG);have⟨b,a⟩:=dG (decide (u.iG=cY));have c:=F7 u.iG cY b a;have⟨A,HA⟩:=yw (cM 7 (k7 u));rw[<-HA.o];have S:=St.start w cw [] xl iC;have⟨r,hr⟩:=dG (im u.iG);rw[hr] at d;have o:kC u=decide (1<=u.kJ/\u.kJ<=281474976710655/\1<=u.cR/\u.cR<=281474976710655/\r=cx/\b=cy/\1<=u.len/\u.len<=65535/\64<=u.gx/\u.gx<=1024):=by unfold kC;rw[hr,<-a];simp
 have j:=cz o;clear o hr a;have⟨t,s,⟨p1,p2,p3⟩,l,n⟩:=u;simp only[mO] at d c j|-;unfold cY at c;simp only at c;have p:∀w,(binOp .neq 106 (bV #[bU cq p1,bU ct p2,bU .u32 p3]) (bV #[bU cq 0,bU ct 0,bU .u32 0])).run prog w=.ok (bZ !b) w:=c;clear c;go_enter func260,ntmps260;go_wp2_with (first|((with_reducible refine Zg 1 143 0 ?_);refine yT S ae HA.o ae ?_;clear S;intro W S;obtain⟨k0,k1,k2,f,g,h,i⟩:=Ms (S.pE (k:=0) ae);simp only at k0 k1 k2 f g h i)|(go_at_call 241;refine aj (d.o _) λW a=>?_;replace S:=S.cP a;clear a k0 k1 k2 f g h i;obtain⟨k0,k1,k2,f,g,h,i⟩:=Ms (S.pE (k:=0) ae);simp only at k0 k1 k2 f g h i));all_goals go_ret
 all_goals(refine⟨?_,S.fr.cP⟩;rw[j.o];clear S j d HA;first|(show Ending.returned (bZ cy)=_;rw[jC (λm=>by obtain⟨_,_,_,_,_,_,_,_,_,_⟩:=m;first|omega|simp_all)])|refine gQ (λx=>Ending.returned (bZ x)) (decide_eq_decide.2 ⟨λ_=>⟨cN,cN,by omega,cN,by assumption,by simp_all,cN,by omega,cN,cN⟩,λm=>by obtain⟨_,_,_,_,_,_,_,_,_,_⟩:=m;omega⟩))
end
def Mt(k:IntKind)(l:List Int):Nat->c7:=λi=>bU k (l.getD i 0)
theorem adL(k:IntKind)(l:List Int)(h:l.n=n):(l.map (Value.int k)).toArray=cM n (Mt k l):=by apply yg;intro j;rw[Lx,rK,dy];by_cases a:j<n;simp_all[Mt];grind
theorem eU.row{b:Nat}{t:dW}{k:IntKind}{l:List Int}(h:cL w b t n (Mt k l))(a:l.n=n)(e:n<=9223372036854775807)(c:∀x∈l,(Lit.int k x).wf=cx):eU k w (bX (cu ⟨b,0,cw⟩) n n) l:=by refine⟨_,_,by rw[a],cN,c,λ_=>⟨b,0,ae,cL.lt h,λj d=>?_⟩⟩;rw[pM,cL.cell h cN];grind[Mt]
def Aj:(prog.info? 82).map (λi=>(i.zero,i.s,i.bytes))=cu (cu (.int ct 0),1,8):=dC
def uW:(prog.info? 3).map (λi=>(i.zero,i.s,i.bytes))=cu (cu (.int cq 0),1,8):=dC
section
variable {L:List R4}{O:List O4}{x:Nat}
def St.iw(h:St w0 d l L O X w)(a:dS w w')(ho:w'.ownsRow w.h.s e z v n xs)(b:gZ e=cy)(c:lQ e=cy):St w0 d l L (⟨e,z,v,n,xs⟩::O) X w':=
 h.take (h.cP a) ho b c λB f=>h.me.cP (B:=B) f a
def St.um(h:St w0 d l L O X w)(f:Fr d2 l2 w w')(g:∀D,d2=cu D->d=cu D)(i:∀k∈l2,k∈l∨w0.h.s<=k)(j:lN d X')(a:∀B,X B w->X' B w')(ho:w'.ownsRow w.h.s e z v n xs)(b:gZ e=cy)(c:lQ e=cy):St w0 d l L (⟨e,z,v,n,xs⟩::O) X' w':=
 h.take (h.call f g i j a) ho b c a
def XF(dst:Nat)(ty:dW)(n:Nat)(h:wpList P ops Q (⟨cu dst,.buildSlice ty n parts,t2,p,af,cw⟩::rest) a w):wpList P ops Q (⟨cu dst,.buildSlice ty n parts,t2,p,af,cw⟩::rest) a w:=h
def Ry(x y:Nat){o:Option Nat}(h:wpList P ops Q (⟨o,.call {callee:=.builtin .copy,args:=#[.tmp x,.tmp y],argTypes:=ts},t2,p,af,cw⟩::rest) a w):wpList P ops Q (⟨o,.call {callee:=.builtin .copy,args:=#[.tmp x,.tmp y],argTypes:=ts},t2,p,af,cw⟩::rest) a w:=h
def BY(dst:Nat)(ty:dW)(h:wpList P ops Q (⟨cu dst,.build ty parts,t2,p,af,cw⟩::rest) a w):wpList P ops Q (⟨cu dst,.build ty parts,t2,p,af,cw⟩::rest) a w:=h
def mF(S:St w0 d l L O X w){t:dW}(k:IntKind)(b:List Int)(j:P.underlying t=cu (.slice e))(hi:(P.info? e).map (λi=>(i.zero,i.s,i.bytes))=cu (cu zv,1,by'))(o:0<n)(q:n<=16777216)(ho:gZ e=cy)(c:b.n=n)(g:parts.t.map (λp=>(p.1,a.eval p.2))=((b.map (Value.int k)).zipIdx 0).map λx=>(x.2,x.1))(h:∀W,St w0 d l (⟨w.h.s,e,n,Mt k b⟩::L) O X W->wpList P ops Q rest (a.put (cu dst) (bX (cu ⟨w.h.s,0,cw⟩) n n)) W):
 wpList P ops Q (⟨cu dst,.buildSlice t n parts,t2,p,af,cw⟩::rest) a w:=by have⟨it,hi1,hz,hz1,hz2⟩:=oH hi;refine mz ae λK f=>wp_buildSlice t e n parts ae (cM n (Mt k b)) it zv j hi1 hz jH jH (by rw[hz1];refine(gQ (Instr.fill _ _) ((Array.toList_map).trans g)).trans ?_;rw[<-adL k b c];exact Great.fill_flat _ _ (λv m=>by obtain⟨n,_,rfl⟩:=gT.1 m;rfl) (by simp[c])) (f _ _ (h _ (S.alloc e ae ho)))
theorem Um(S:St w0 d l L O X w)(k:Nat){b:Nat}{cap:Nat}{o:Option Nat}(f:L[k]?=cu ⟨b,36,128,di s⟩){q:Nat}(F:s.n=q)(R:lM w T v bs)(D:s.n+bs.n<=128)(E:bs.n<=m)(g:P.underlying dT=cu (.slice 5))(e:(P.info? 5).map (·.size)=cu 1)(t:a.eval (.tmp x)=bX (cu ⟨b,q,cw⟩) m cap)(A:a.eval (.tmp y)=v)(h:∀W,St w0 d l (L.set k ⟨b,36,128,di (s++bs)⟩) O X W->wpList P ops Q rest (a.put o (goInt bs.n)) W):
 wpList P ops Q (⟨o,.call {callee:=.builtin .copy,args:=#[.tmp x,.tmp y],argTypes:=#[dT,sT]},t2,p,af,cw⟩::rest) a w:=by
 subst F;obtain⟨⟨I,ao,c,rfl,J,K,C⟩,M⟩:=R;by_cases B:bs.n=0;obtain rfl:bs=[]:=yj B;refine wpList_copy_nothing ae (.tmp x) (.tmp y) dT sT ae 5 g e _ ao m cap _ c t A (Nat.zero_min _) (h _ ?_);have:=S.modify f (di (s++[])) (jZ.refl _ _) (by rw[wV];exact S.pE f);exact this
 . obtain⟨i,o',G,H,rfl,N,hc⟩:=C cN;have z:Nat.min bs.n m=bs.n:=vK E;refine wpList_copy_own ae (.tmp x) (.tmp y) dT sT ae 5 g e b s.n m cap ⟨i,o',cw⟩ _ c t A (cM 128 (di s)) 36 (S.pE f) (bs.map λ(x:Nat)=>Value.int .u8 (x:Int)) cN
    (λj u U=>?_) aG (λu g=>by obtain⟨_,_,rfl⟩:=gT.1 g;rfl) ?_
   (have r:(⟨i,o',cw⟩:Addr).add j=⟨i,o'+j,cw⟩:=by grind[Addr.add]);grind[cell_of_row];rw[mQ];have n:=Ai s bs D;unfold splice at n;rw[mQ] at n;rw[n];exact h _ (S.set f _)
theorem OG(w:cS)(dT sT ty b:dW)(g o a c:Nat)(s:fM)(cur:gJ)(t:dW)(i:P.underlying dT=cu (.slice b))(h:(P.info? b).map (·.size)=cu 1)(f:w.h[g]?=cu (.cells cur t (0,0)))(e:s.s<=a)(d:o+s.s<=cur.s):
 (Builtin.copy_ #[dT,sT] ty #[bX (cu ⟨g,o,cw⟩) a c,bY s]).run P w=.ok (goInt s.s) (w.setRow g (cur.t.take o++byteCells s.data.t++cur.t.drop (o+s.s)).toArray):=
 by grind[run_copy_row_string]
def rS(s:fM):cV:=s.data.toList.map UInt8.toNat
def aa8(x:Nat){s:fM}{o:Option Nat}(h:wpList P ops Q (⟨o,.call {callee:=.builtin .copy,args:=#[.tmp x,.const (bY s)],argTypes:=ts},t2,p,af,cw⟩::rest) a w):wpList P ops Q (⟨o,.call {callee:=.builtin .copy,args:=#[.tmp x,.const (bY s)],argTypes:=ts},t2,p,af,cw⟩::rest) a w:=h
theorem ajL(S:St w0 d l L O X w)(k:Nat){b:Nat}{cap:Nat}{o:Option Nat}(i:L[k]?=cu ⟨b,36,128,di s⟩){q:Nat}(u:s.n=q)(t:s.n+(rS str).n<=128)(y:(rS str).n<=m)(v:P.underlying dT=cu (.slice 5))(f:(P.info? 5).map (·.size)=cu 1)(r:a.eval (.tmp x)=bX (cu ⟨b,q,cw⟩) m cap)(h:∀W,St w0 d l (L.set k ⟨b,36,128,di (s++rS str)⟩) O X W->wpList P ops Q rest (a.put o (goInt str.s)) W):
 wpList P ops Q (⟨o,.call {callee:=.builtin .copy,args:=#[.tmp x,.const (bY str)],argTypes:=#[dT,sT]},t2,p,af,cw⟩::rest) a w:=by
 subst u;have e:(rS str).n=str.s:=by grind[rS,size_eq]
 refine mz ae λK j=>?_;have c:=OG (P:=P) w dT sT t2 5 b s.n m cap str (cM 128 (di s)) 36 v f (S.pE i) cN aG;have g:=Ai s (rS str) t;have n:byteCells str.data.t=(rS str).map λ(x:Nat)=>Value.int .u8 (x:Int):=by unfold rS;rw[wU];rfl
 unfold splice at g;rw[mQ,<-n,e,<-xJ] at g;rw[g] at c;unfold Oper.wp;simp[execOp,resolve,invoke,builtin,r,show a.eval (.const (bY str))=bY str from ae,c,Result.andThen];exact j _ _ (h _ (S.set i _))
def wJ(S:St w0 d l L O X w)(e:∀w,(zeroValue ty).run P w=.ok (bV Z) w)(c:Z=cM n f)(ho:gZ ty=cy)(h:∀W,St w0 d l (⟨w.h.s,ty,n,f⟩::L) O X W->wpList P ops Q rest (a.put (cu dst) (bW (cu ⟨w.h.s,0,cw⟩))) W):wpList P ops Q (⟨cu dst,.alloc ty,t2,p,af,cw⟩::rest) a w:=by refine mz ae λK b=>?_;unfold Oper.wp execOp;simp only[lx,Instr.alloc,e,newVar,newRow,Gj,rN,nX];exact b _ _ (h _ (S.alloc ty c ho))
def BZ(b:P.built ty []=cu Z)(h:wpList P ops Q rest (a.put (cu dst) (bV Z)) w):wpList P ops Q (⟨cu dst,.build ty #[],t2,p,af,cw⟩::rest) a w:=
 wpList_buildTo ae ty #[] ae (cu dst) ae Z (aii b _) h
theorem oW{R:Ending->cS->Prop}(S:St w0 d l L O X w)(k:Nat){r:R4}{p q:Tmp}(e:L[k]?=cu r)(h:fn.results=#[.cell p ty,.tmp q])(f:a.tmps.getD p undef=bW (cu ⟨r.b,0,cw⟩))(g:ky P ty r.n)(c:a.defers=[])(b:R (cj (cg #[bV (cM r.n r.f),a.tmps.getD q undef])) w):bodyPost P fn R .ret a w:=by have⟨⟨dd,h1,h2⟩,h3⟩:=g;exact iI (mA h f (S.pE e) h1 jH h3) c b
theorem Ha{R:Ending->cS->Prop}(S:St w0 d l L O X w)(k:Nat){r:R4}{p q:Tmp}(e:L[k]?=cu r)(h:fn.results=#[.cell p ty,.tmp q,.tmp q2])(f:a.tmps.getD p undef=bW (cu ⟨r.b,0,cw⟩))(g:ky P ty r.n)(c:a.defers=[])(b:R (cj (cg #[bV (cM r.n r.f),a.tmps.getD q undef,a.tmps.getD q2 undef])) w):bodyPost P fn R .ret a w:=by have⟨⟨dd,h1,h2⟩,h3⟩:=g;exact iI (Ox h f (S.pE e) h1 jH h3) c b
theorem agt{R:Ending->cS->Prop}(S:St w0 d l L O X w)(k:Nat){r:R4}{p:Tmp}(e:L[k]?=cu r)(h:fn.results=#[.cell p ty])(f:a.tmps.getD p undef=bW (cu ⟨r.b,0,cw⟩))(g:ky P ty r.n)(c:a.defers=[])(b:R (cj (bV (cM r.n r.f))) w):bodyPost P fn R .ret a w:=by have⟨⟨dd,h1,h2⟩,h3⟩:=g;exact iI (TS h f (S.pE e) h1 jH h3) c b
end
theorem lM.Ex(h:cL w E 36 128 (di s))(d:kb s)(o n cap:Nat)(i:o+n<=128)(hc:n<=cap)(e:cap<=128):lM w 36 (bX (cu ⟨E,o,cw⟩) n cap) ((s.drop o).take n):=by
 have f:((s.drop o).take n).n=n:=by rw[lO,uf,d.1];omega
 refine⟨⟨by grind,_,_,by rw[f],cN,by grind[maxLen],λ_=>⟨E,o,_,_,ae,h,λj u b=>?_⟩⟩,λx g=>d.2 x (mR (lP g))⟩;rw[rK] at b;cases c:((s.drop o).take n)[j]? with
 |none=>grind
 |some x=>
  rw[c] at b;cases b;have a:j<n:=by grind
  rw[getElem?_take,c8 a,getElem?_drop] at c;rw[dy,c8 cN];grind[di]
theorem Mu(s:cV)(n:Nat):di (s++replicate n 0)=di s:=by grind[di]
def lR:qZ:=⟨0,0,cY,0,0⟩
def Zh:(#[Value.int ct 0,bU ct 0,bU cq 0,bU ct 0,bU .u32 0,bU cq 0,bU cq 0]:gJ)=cM 7 (k7 lR):=rfl
def Fh:ky prog 143 7:=⟨⟨_,underlying143,ae⟩,dC⟩
def gi:lD prog 82:=⟨⟨_,underlying82,ae⟩,dC⟩
def Dy:lD prog 3:=⟨⟨_,vR,ae⟩,dC⟩
def Hb(u:qZ):cV:=[65,81,70,82]++kY [8,8] [u.kJ,u.cR]++iT u.iG++kY [4,4] [u.len,u.gx]
theorem xX(u:qZ):(Hb u).n=44:=by rfl
def rz(u:qZ):cV:=Hb u++replicate 80 0
def oX(u:qZ):cV:=rz u++qO 4 (kZ (rz u))
def kD(u:qZ):Option cV:=if kC u=cx then cu (oX u) else cw
theorem Mv(u:qZ):∀x∈Hb u,x<256:=by intro x a;unfold Hb at a;simp only[gH] at a;rcases a with((a|a)|a)|a;grind;exact xb _ _ x a;exact pW _ x a;exact xb _ _ x a
theorem Un(u:qZ):kb (oX u):=by grind[oX,rz,xX,gm,Mv,yA,kb]
def oP(u:qZ):Prop:=u.kJ<18446744073709551616/\u.cR<18446744073709551616/\dD u.iG/\u.len<4294967296/\u.gx<4294967296
theorem Dz{u:qZ}:∀i,i<3->k7 u (2+i)=dE u.iG i:=by intro i hi;unfold k7;grind
section
attribute[local irreducible]wpList Code.wp Calls Oper.wp wpAnyH
def Uo(u:qZ)(w:cS):sW 188 #[bV (cM 7 (k7 u))] w (bU cq (u.kJ%4:Nat)):=by
 have⟨A,HA⟩:=yw (cM 7 (k7 u));rw[<-HA.o];have S:=St.start w cw [] xl iC;have a:IntKind.i64.wrap ((u.kJ:Int)%4)=((u.kJ%4:Nat):Int):=by rw[kX _ cN];omega
 go_enter func188,ntmps188;go_wp2_with (first|((with_reducible refine Zg 1 143 0 ?_);go_must (refine yT S ae HA.o ae ?_;clear S;intro W S))|((with_reducible refine xC 4 82 3 ?_);go_must (refine yS S 0 ae 0 (v:=bU ct u.kJ) ae rh ae gi ?_)));go_ret;exact⟨gQ (λx=>Ending.returned (bU cq x)) cN,S.fr.cP⟩
theorem agu{a b:Nat}(c:a<18446744073709551616)(d:b<18446744073709551616):vT [8,8] [a,b]=cu (kY [8,8] [a,b]):=by unfold vT;rw[c8 ⟨by decide,ae,by grind[fitAll]⟩]
theorem agv{a b:Nat}(c:a<4294967296)(d:b<4294967296):vT [4,4] [a,b]=cu (kY [4,4] [a,b]):=by unfold vT;rw[c8 ⟨by decide,ae,by grind[fitAll]⟩]
def aim{a:Nat}(b:a<4294967296):vT [4] [a]=cu (qO 4 a):=by unfold vT;rw[c8 ⟨by decide,ae,by simp[fitAll,b]⟩];rfl
theorem wf_i64{x:Nat}(h:x<=9223372036854775807):(Lit.int cq (x:Int)).wf=cx:=by grind[Lit.wf,IntKind.min,IntKind.max,IntKind.bits]
theorem ajM(u:qZ):kb (Hb u++replicate 84 0):=by grind[xX,Mv,kb]
theorem ain{u:qZ}:(Hb u++replicate 84 0).take 124=rz u:=by rfl
def Fi(u:qZ)(hp:oP u)(w:cS):CP_ 225 #[bV (cM 7 (k7 u))] w λe w'=>∃B,e=cj (cg #[bV B,bU cq (gq 61 (kD u))])/\B=cM 128 (di ((kD u).getD fN))/\dS w w':=by
 obtain⟨A,K⟩:=fU (cM 7 (k7 u));have D:=cz λw=>K▸OE u w;rw[<-K];have G:=cz K;clear K;have S:=St.start w cw [] xl iC;obtain⟨h1,h2,h3,h4,h5⟩:=hp;go_enter func225,ntmps225;cases l:kC u with
 |false=>
  have a:kD u=cw:=by unfold kD;rw[l];rfl
  rw[a];rw[l] at D;go_wp2_with (first|((with_reducible refine Zg 1 143 0 ?_);go_must (refine yT S ae G.o ae ?_;clear S;intro W S))|((with_reducible refine Lk 2 36 ?_);go_must (refine wJ S zeroValue36 vW ae ?_;clear S;intro W S))|((with_reducible refine xC 10 143 1 ?_);go_must (refine P6 S 1 ae ae G.o Fh ?_))|(go_at_call 260;go_must (refine aj (D.o _) λW a=>?_;replace S:=S.cP a;clear a))|((with_reducible refine BY 13 36 ?_);go_must (refine BZ Rt ?_))|((with_reducible refine wI 36 2 13 ?_);go_must (refine Ui S 0 ae ae ae vW Dx (jP _) ?_;clear S;intro W S))|((with_reducible refine s6 ?_);go_must (refine oW S 0 ae ae ae Dx ae<|Hid.o ?_)));exact cz ⟨_,⟨ae,ae⟩,ae,S.fr.cP⟩
 |true=>
  have a:kD u=cu (oX u):=by unfold kD;rw[l];rfl
  rw[a];rw[l] at D;have Y:=cz λv v' w n C=>agu h1 h2▸GX v v' [8,8] [u.kJ,u.cR] kM w n C;have Z:=cz λv v' w n C=>agv h4 h5▸GX v v' [4,4] [u.len,u.gx] kM w n C;have E:=cz λw=>xT u.iG h3 w;have z:im u.iG=cx:=by
   unfold kC at l;exact(mj l).2.2.2.2.1
  rw[z] at E;obtain⟨T,M⟩:=fU (cM 3 (dE u.iG));rw[dk M] at E;have HT:=cz M;clear M z l a;have O:∀x∈dN [8,8],(Lit.int cq x).wf=cx:=by decide
  have Q:∀x∈dN [4,4],(Lit.int cq x).wf=cx:=by decide
  have R:∀x∈dN [u.kJ,u.cR],(Lit.int ct x).wf=cx:=by
   intro x g;simp[dN] at g;rcases g with rfl|rfl<;>exact wf_u64 aO
  have U:∀x∈dN [u.len,u.gx],(Lit.int ct x).wf=cx:=by
   intro x g;simp[dN] at g;rcases g with rfl|rfl<;>exact wf_u64 cN
  have a1:IntKind.u64.wrap (u.len:Int)=(u.len:Int):=BN _ cN;have a2:IntKind.u64.wrap (u.gx:Int)=(u.gx:Int):=BN _ cN;have y:kZ (rz u)<4294967296:=LU _ _ kM (λx g=>by
   unfold rz at g;rcases gH.1 g with h|h
   . exact Mv u x h
   . simp at h;omega)
  have N:=aim y;have L:=cz λv v' w n C=>N▸GX v v' [4] [kZ (rz u)] kM w n C;have X:IntKind.u64.wrap (kZ (rz u):Int)=(kZ (rz u):Int):=BN _ cN;obtain⟨c,hc⟩:=dG (kZ (rz u));have HS:Hid (oX u=rz u++qO 4 c):=cz (by unfold oX;rw[hc]);have C6:=cz λv w(n:eU .u8 w v (dN (rz u)))=>hc▸Xd v (rz u) w n;rw[hc] at L X y;clear hc;obtain⟨j,b⟩:=dG (kY [8,8] [u.kJ,u.cR]);obtain⟨t,d⟩:=dG (iT u.iG);obtain⟨I,f⟩:=dG (kY [4,4] [u.len,u.gx]);obtain⟨J,i⟩:=dG (qO 4 c);have hB:Hb u=[65,81,70,82]++j++t++I:=by unfold Hb;rw[b,d,f]
  have HB:=cz hB;clear hB;have l1:j.n=16:=by rw[<-b];simp[kY,gm]
  have l2:t.n=16:=by rw[<-d];exact gh _
  have l3:I.n=8:=by rw[<-f];simp[kY,gm]
  have l4:J.n=4:=by rw[<-i,gm]
  have t1:=cz (show∀x∈j,x<256 by rw[<-b];exact xb _ _);have t2:=cz (show∀x∈t,x<256 by rw[<-d];exact pW _);have t3:=cz (show∀x∈I,x<256 by rw[<-f];exact xb _ _);have t4:=cz (show∀x∈J,x<256 by rw[<-i];exact yA _ _);rw[b] at Y;rw[f] at Z;rw[i] at L HS;simp only[oQ,d] at E;clear b d f i;have p:=cz l1;have H:=cz l2;have L3:=cz l3;have L4:=cz l4;clear l1 l2 l3 l4;obtain⟨F,HF⟩:=yw (cM 128 (di (rz u++J)));have V:∀x∈dN [c],(Lit.int ct x).wf=cx:=by
   intro x g;simp[dN] at g;subst g;exact wf_u64 cN
  go_upto_region 17 with(first|((with_reducible refine Zg 1 143 0 ?_);go_must (refine yT S ae G.o ae ?_;clear S;intro W S))|((with_reducible refine Lk 2 36 ?_);go_must (refine wJ S zeroValue36 vW ae ?_;clear S;intro W S))|((with_reducible refine xC 10 143 1 ?_);go_must (refine P6 S 1 ae ae G.o Fh ?_))|(go_at_call 260;go_must (refine aj (D.o _) λW a=>?_;replace S:=S.cP a;clear a))|((with_reducible refine XF 15 81 2 ?_);go_must (refine mF S cq [8,8] qq uW cN cN ae ae nF ?_;clear S;intro W S))|((with_reducible refine xC 17 82 16 ?_);go_must (refine yS S 2 ae 0 (v:=bU ct u.kJ) ae rh ae gi ?_))|((with_reducible refine xC 19 82 18 ?_);go_must (refine yS S 2 ae 1 (v:=bU ct u.cR) ae rh ae gi ?_))|((with_reducible refine XF 20 78 2 ?_);go_must (refine mF S ct [(u.kJ:Nat),(u.cR:Nat)] vU Aj cN cN ae ae nF ?_;clear S;intro W S))|(go_at_call 73;refine ah (Y.o _ _ _ (eU.row (S.pE (k:=1) ae) ae rh O) (eU.row (S.pE (k:=0) ae) ae rh R)) λr W⟨ho,a⟩=>?_;replace S:=S.iw a ho ae ae;clear a)|((with_reducible refine xC 29 106 28 ?_);go_must (refine P7 S 3 ae (o:=2) (m:=3) ae (dE u.iG) rh Dz HT.o fL ?_))|(go_at_call 233;go_must (refine ah (E.o _) λr W⟨ho,a⟩=>?_;replace S:=S.iw a ho ae ae;clear a))|((with_reducible refine XF 37 81 2 ?_);go_must (refine mF S cq [4,4] qq uW cN cN ae ae nF ?_;clear S;intro W S))|((with_reducible refine xC 39 3 38 ?_);go_must (refine yS S 4 ae 5 (v:=bU cq u.len) ae rh ae Dy ?_))|((with_reducible refine xC 42 3 41 ?_);go_must (refine yS S 4 ae 6 (v:=bU cq u.gx) ae rh ae Dy ?_))|((with_reducible refine XF 44 78 2 ?_);go_must (refine mF S ct [(u.len:Nat),(u.gx:Nat)] vU Aj cN cN ae ae nF ?_;clear S;intro W S))|(go_at_call 73;refine ah (Z.o _ _ _ (eU.row (S.pE (k:=1) ae) ae rh Q) (eU.row (S.pE (k:=0) ae) ae rh U)) λr W⟨ho,a⟩=>?_;replace S:=S.iw a ho ae ae;clear a)|((with_reducible refine Lk 8 36 ?_);go_must (refine wJ S zeroValue36 Rl ae ?_;clear S;intro W S))|((with_reducible refine aa8 51 ?_);go_must (refine ajL S 0 (s:=[]) ae (q:=0) ae kM kM oS Cw ae ?_;clear S;intro W S))|((with_reducible refine Ry 53 54 ?_);go_must (refine Um S 0 (s:=[65,81,70,82]) (bs:=j) ae (q:=4) ae (lM.own (S.uV (k:=2) ae) t1.o) (by show 4+j.n<=128;have:=p.o;omega) (by have:=p.o;omega) oS Cw ae ae ?_;clear S;intro W S))|((with_reducible refine Ry 56 57 ?_);go_must (refine Um S 0 (s:=[65,81,70,82]++j) (bs:=t) ae (q:=20) (by have:=p.o;simp;omega) (lM.own (S.uV (k:=1) ae) t2.o) anT (by have:=H.o;omega) oS Cw ae ae ?_;clear S;intro W S))|((with_reducible refine Ry 59 60 ?_);go_must (refine Um S 0 (s:=[65,81,70,82]++j++t) (bs:=I) ae (q:=36) anT (lM.own (S.uV (k:=0) ae) t3.o) (by have:=p.o;have:=H.o;have:=L3.o;simp;omega) (by have:=L3.o;omega) oS Cw ae ae ?_;clear S;intro W S)))
  go_wp2_with first|((with_reducible refine XF 63 81 1 ?_);go_must (refine mF S cq [4] qq uW cN cN ae ae nF ?_;clear S;intro W S))|(go_at_call 166;go_must (have hR:=S.pE (k:=1) ae;have h:=lM.Ex (s:=Hb u++replicate 84 0) (by rw[Mu,HB.o];exact hR) (ajM u) 0 124 128 cN cN cN;rw[drop_zero,ain] at h;refine(C6.o _ _ (lM.ints h)).mono ?_;rintro e W ⟨rfl,rfl⟩;clear h hR))|((with_reducible refine XF 67 78 1 ?_);go_must (refine mF S ct [(c:Nat)] vU Aj cN cN ae ae nF ?_;clear S;intro W S))|(go_at_call 73;go_must (refine ah (L.o _ _ _ (eU.row (S.pE (k:=1) ae) ae rh kM) (eU.row (S.pE (k:=0) ae) ae rh V)) λr W⟨ho,a⟩=>?_;replace S:=S.iw a ho ae ae;clear a))|((with_reducible refine Ry 74 75 ?_);go_must (refine Um S 2 (s:=rz u) (bs:=J) (by unfold rz;rw[Mu,HB.o];rfl) (q:=124) (by simp[rz,xX]) (lM.own (S.uV (k:=0) ae) t4.o) (by have:=L4.o;simp[rz,xX];omega) (by have:=L4.o;omega) oS Cw ae ae ?_;clear S;intro W S))|((with_reducible refine xC 77 36 8 ?_);go_must (refine P6 S 2 ae ae HF.o Dx ?_))|((with_reducible refine wI 36 2 77 ?_);go_must (refine Ui S 7 ae ae ae HF.o Dx (jP _) ?_;clear S;intro W S))|((with_reducible refine s6 ?_);go_must (refine oW S 7 ae ae ae Dx ae<|Hid.o ?_))
  exact cz ⟨_,⟨ae,ae⟩,by rw[HS.o],S.fr.cP⟩
end
def SE(w0:cS)(d:Option Nat)(l:cV)(L:List R4)(O:List O4):cS->Prop:=λW=>∃X,St w0 d l L O X W
section
variable {L:List R4}{O:List O4}{x:Nat}
def eO(S:St w0 d l L O X w){id:Nat}(b:P.follows .mixedOrders=cx)(h:∀W,St w0 d l L O X W->wpAnyH P .any ops Q (SE w0 d l L O) ops.s (Array.replicate ops.s cy) a W):(Code.region id ops cx).wp P Q a w:=
 wp_region_held_drew b ⟨X,S.drew⟩ λ_=>h _ S.drew
def SE0(w0:cS)(d:Option Nat)(l:cV):cS->Prop:=λW=>∃L O X,St w0 d l L O X W
def B5(S:St w0 d l L O X w){id:Nat}(b:P.follows .mixedOrders=cx)(h:∀W,St w0 d l L O X W->wpAnyH P .any ops Q (SE0 w0 d l) ops.s (Array.replicate ops.s cy) a W):(Code.region id ops cx).wp P Q a w:=
 wp_region_held_drew b ⟨L,O,X,S.drew⟩ λ_=>h _ S.drew
def tkG(i:Nat)(dst:Option Nat)(v:c7){SS:cS->Prop}(hS:SS w)(hi:ops[i]?=cu oi)(d:oi.dst=dst)(g:Region.noSelect ops=cx)(e:Region.free .any ops listed i=cx)(f:(Region.ready .any ops listed).contains i=cx)(b:∀c a w,Q (.panic c) (a.put dst v) w->Q (.panic c) a w)(j:YieldsIf P ops SS oi v a)(h:wpAnyH P .any ops Q SS fuel (listed.setIfInBounds i cx) (a.put dst v) w):wpAnyH P .any ops Q SS (fuel+1) listed a w:=by subst d;exact wpAnyH_take hi g e f b j hS h
theorem rd1{SS:cS->Prop}{o:Oper}(b:Region.ready .any ops listed=[i])(ho:ops[i]?=cu o)(d:Region.wanted o (yielded ops a.tmps)=cx)(h:∀K,Shut (∀a w,SS w->(SS w->wpAnyH P .any ops Q SS fuel (listed.setIfInBounds i cx) a w)->K a w)->o.wp P a w K Q):wpAnyH P .any ops Q SS (fuel+1) listed a w:=
 wpAnyH_ready b eQ (AllReadyH.cons ho (λK c=>by grind) .nil)
def ajO{SS:cS->Prop}(b:a.eval q=v)(c:Region.wanted ⟨cu dst,.move q,t2,p,af,gd⟩ (yielded ops a.tmps)=cx:=by kernel_rfl):YieldsIf P ops SS ⟨cu dst,.move q,t2,p,af,gd⟩ v a:=by subst b;exact .inl ⟨c,λw _=>by rfl⟩
def agw{SS:cS->Prop}(b:a.eval q=v)(c:Region.wanted ⟨cu dst,.assign q,t2,p,af,gd⟩ (yielded ops a.tmps)=cx:=by kernel_rfl):YieldsIf P ops SS ⟨cu dst,.assign q,t2,p,af,gd⟩ v a:=by subst b;exact .inl ⟨c,λw _=>by rfl⟩
def yU{SS:cS->Prop}{cells:gJ}(d:parts.t.map (λp=>(p.1,a.eval p.2))=vs)(c:P.built ty vs=cu cells)(b:Region.wanted ⟨cu dst,.build ty parts,t2,p,af,gd⟩ (yielded ops a.tmps)=cx:=by kernel_rfl):YieldsIf P ops SS ⟨cu dst,.build ty parts,t2,p,af,gd⟩ (bV cells) a:=
 XA b ty parts ae cells amm
def akW{SS:cS->Prop}{o:Oper}(b:Region.wanted o (yielded ops a.tmps)=cy):YieldsIf P ops SS o undef a:=.inr ⟨b,ae⟩
theorem DC(h:w.ownsRow base e z v n xs)(b:0<n):∃g cap,v=bX (cu ⟨g,0,cw⟩) n cap:=by rcases h.2 with⟨_,a⟩|⟨g,cap,cur,rfl,_⟩<;>grind
def lE{cells:gJ}(c:parts.t.map (λp=>(p.1,a.eval p.2))=vs)(b:P.built ty vs=cu cells)(h:wpList P ops Q rest (a.put (cu dst) (bV cells)) w):wpList P ops Q (⟨cu dst,.build ty parts,t2,p,af,cw⟩::rest) a w:=
 wpList_buildTo ae ty parts ae (cu dst) ae cells amm h
def mf{o:Op}{dst:Option Nat}{g:Nat×Bool}(b:Region.wanted ⟨dst,o,t2,p,af,cu g⟩ (yielded ops a.tmps)=cx)(h:wpList P ops Q (⟨dst,o,t2,p,af,cw⟩::rest) a w):wpList P ops Q (⟨dst,o,t2,p,af,cu g⟩::rest) a w:=
 Uf b ae h
def ajP{SS:cS->Prop}(_:St w0 d l L O X wS)(k:Nat){r:R4}(e:∀w,SS w->SE w0 d l L O w)(c:L[k]?=cu r)(i:a.eval (.tmp x)=bW (cu ⟨r.b,0,cw⟩)){A:gJ}(b:A=cM r.n r.f)(f:ky P ty r.n)(g:Region.wanted ⟨cu dst,.load ty (.tmp x),t2,p,af,gd⟩ (yielded ops a.tmps)=cx:=by kernel_rfl):YieldsIf P ops SS ⟨cu dst,.load ty (.tmp x),t2,p,af,gd⟩ (bV A) a:=by have⟨⟨dd,hu,hd⟩,hi⟩:=f;have h:=yieldsIf_load_mid (P:=P) (S:=SS) (op:=⟨cu dst,.load ty (.tmp x),t2,p,af,gd⟩) (ops:=ops) g ty (.tmp x) ae r.b 0 i A.t dd (λw h=>by obtain⟨_,S⟩:=e w h;exact BV (S.pE c) b) hu hd aG;omega
theorem gW{SS:cS->Prop}{b:Nat}(hc:∀w,SS w->w.cell? ⟨b,o,cw⟩=cu v)(g:a.eval (.tmp x)=bW (cu ⟨b,o,cw⟩))(d:lD P ty)(e:Region.wanted ⟨cu dst,.load ty (.tmp x),t2,p,af,gd⟩ (yielded ops a.tmps)=cx:=by kernel_rfl):YieldsIf P ops SS ⟨cu dst,.load ty (.tmp x),t2,p,af,gd⟩ v a:=by
 have⟨⟨dd,hu,hd⟩,hi⟩:=d;refine .inl ⟨e,λw f=>?_⟩;have c:(isAgg ty).run P w=.ok cy w:=by unfold isAgg;rw[lx,yI hu w];cases dd<;>simp_all [TypeDesc.isRow]
 simp_all[execOp,Instr.loadAt,Instr.sureAddr,loadVar]
def uq{SS:cS->Prop}(_:St w0 d l L O X wS)(k:Nat){r:R4}(c:∀w,SS w->SE w0 d l L O w)(b:L[k]?=cu r)(i:Nat)(f:r.f i=v)(hi:i<r.n)(j:a.eval (.tmp x)=bW (cu ⟨r.b,i,cw⟩))(e:lD P ty)(g:Region.wanted ⟨cu dst,.load ty (.tmp x),t2,p,af,gd⟩ (yielded ops a.tmps)=cx:=by kernel_rfl):YieldsIf P ops SS ⟨cu dst,.load ty (.tmp x),t2,p,af,gd⟩ v a:=
 gW (λw h=>by obtain⟨_,S⟩:=c w h;rw[S.cell b hi,f]) j e g
theorem adM{w:cS}{base:Nat}{e:dW}{g n cap:Nat}{xs:List c7}(h:w.ownsRow base e 1 (bX (cu ⟨g,0,cw⟩) n cap) n xs){j:Nat}{v:c7}(a:xs[j]?=cu v):w.cell? ⟨g,j,cw⟩=cu v:=by have:=h.cells (g:=g) ae j v a;grind[Addr.add]
theorem agx{SS:cS->Prop}(_:St w0 d l L O X wS)(k:Nat){o:O4}(c:∀w,SS w->SE w0 d l L O w)(b:O[k]?=cu o)(t:o.z=1){g cap:Nat}(s:o.v=bX (cu ⟨g,0,cw⟩) n cap)(r:o.n=n)(j:Nat)(q:o.xs[j]?=cu v)(i:a.eval (.tmp x)=bW (cu ⟨g,j,cw⟩))(e:lD P ty)(f:Region.wanted ⟨cu dst,.load ty (.tmp x),t2,p,af,gd⟩ (yielded ops a.tmps)=cx:=by kernel_rfl):YieldsIf P ops SS ⟨cu dst,.load ty (.tmp x),t2,p,af,gd⟩ v a:=
 gW (λw h=>by obtain⟨_,S⟩:=c w h;have m:=S.uV b;grind[adM]) i e f
def Hc(S:St w0 d l L O X w)(c:∀w,(zeroValue ty).run P w=.ok (bV Z) w)(b:Z=cM n f)(ho:gZ ty=cy)(h:∀W,St w0 d l (⟨w.h.s,ty,n,f⟩::L) O X W->K (a.put (cu dst) (bW (cu ⟨w.h.s,0,cw⟩))) W):Oper.wp P ⟨cu dst,.alloc ty,t2,p,af,cw⟩ a w K Q:=by unfold Oper.wp execOp;simp only[lx,Instr.alloc,c,newVar,newRow,Gj,rN,nX];exact h _ (S.alloc ty b ho)
def km(S:St w0 d l L O X w)(k:Nat){r:R4}(b:L[k]?=cu r){A:gJ}(j:a.eval (.tmp x)=bW (cu ⟨r.b,0,cw⟩))(m:a.eval (.tmp y)=bV A)(e:A=cM r.n f)(g:ky P ty r.n)(c:∀i,(f i).oneCell'=cx)(h:∀W,St w0 d l (L.set k ⟨r.b,r.t,r.n,f⟩) O X W->K (a.put cw undef) W):Oper.wp P ⟨cw,.store ty (.tmp x) (.tmp y),t2,p,af,cw⟩ a w K Q:=by subst e;unfold Oper.wp execOp;simp only[j,m,Instr.storeAt,Instr.sureAddr,lx,rN,nX,run_storeVar_row w ty r.b r.t r.n r.f f (S.pE b) g.2 c];exact h _ (S.set b f)
theorem ajQ(S:St w0 d l L O X w)(k:Nat){r:R4}(e:L[k]?=cu r)(i:Nat)(hi:i<r.n)(z:a.eval (.tmp x)=bW (cu ⟨r.b,i,cw⟩))(A:a.eval q=v)(y:v.oneCell'=cx)(f:lD P ty)(h:∀W,St w0 d l (L.set k ⟨r.b,r.t,r.n,λj=>if j=i then v else r.f j⟩) O X W->K (a.put cw undef) W):Oper.wp P ⟨cw,.store ty (.tmp x) q,t2,p,af,cw⟩ a w K Q:=by
 have b:=nT (S.pE e) (o:=i) (n:=1) cN;have c:=Mo (P:=P) r.b i [v] 0 w (λj m=>by simpa using(b j cN).1) (λj m=>by simpa using(b j cN).2) (λu B=>by grind);have hc:v.cells=#[v]:=by cases v<;>first|rfl|cases y
 have g:(storeVar ty ⟨r.b,i,cw⟩ v).run P w=.ok () (w.setCell ⟨r.b,i,cw⟩ v):=by cases s:P.info? ty with|none=>have:=f.2;grind|some it=>(have t:it.s=1:=by have:=f.2;grind);simp only[xK] at c;simp[storeVar,sizeOf,typeInfo,s,hc,t,c];rfl
 unfold Oper.wp execOp;simp only[z,A,Instr.storeAt,Instr.sureAddr,lx,rN,nX,g];exact h _ (S.put e i v)
end
class rk(ty:dW):Prop where
 h:lD prog ty
class s7(ty:dW)(n:outParam Nat):Prop where
 h:ky prog ty n
instance ina5898 :s7 106 3:=⟨fL⟩
instance in030b1 :s7 191 24:=⟨Cy⟩
instance inf6ee7 :s7 36 128:=⟨Dx⟩
instance in7c776 :s7 143 7:=⟨Fh⟩
instance in547ec :rk 82:=⟨gi⟩
instance in65a1c :rk 3:=⟨Dy⟩
section
variable {w:World}{Q:Exit->Act->World->Prop}
variable {w0:World}{l:List Nat}{L:List R4}{O:List O4}{X:List Nat->World->Prop}{g:Nat×Bool}
def jo(dst ty x:Nat)[h1:rk ty]{b:Nat}(hc:w.cell? ⟨b,o,cw⟩=cu v)(h:wpList prog ops Q rest (a.put (cu dst) v) w)(c:a.eval (.tmp x)=bW (cu ⟨b,o,cw⟩):=by with_unfolding_all rfl):wpList prog ops Q (⟨cu dst,.load ty (.tmp x),t2,p,af,cw⟩::rest) a w:=jF hc c h1.h h
def jg(dst ty x:Nat)[h1:rk ty]{b:Nat}(hc:w.cell? ⟨b,o,cw⟩=cu v)(h:wpList prog ops Q rest (a.put (cu dst) v) w)(d:a.eval (.tmp x)=bW (cu ⟨b,o,cw⟩):=by with_unfolding_all rfl)(c:Region.wanted ⟨cu dst,.load ty (.tmp x),t2,p,af,cu g⟩ (yielded ops a.tmps)=cx:=by kernel_rfl):wpList prog ops Q (⟨cu dst,.load ty (.tmp x),t2,p,af,cu g⟩::rest) a w:=mf c (jF hc d h1.h h)
def jl(dst ty x:Nat)[h1:rk ty](S:St w0 d l L O X w)(k i:Nat)(v:c7){r:R4}(h:wpList prog ops Q rest (a.put (cu dst) v) w)(b:L[k]?=cu r:=by with_unfolding_all rfl)(c:r.f i=v:=by with_unfolding_all rfl)(hi:i<r.n:=by with_unfolding_all exact mj rfl)(e:a.eval (.tmp x)=bW (cu ⟨r.b,i,cw⟩):=by with_unfolding_all rfl):wpList prog ops Q (⟨cu dst,.load ty (.tmp x),t2,p,af,cw⟩::rest) a w:=yS S k b i c hi e h1.h h
def jm(dst ty x:Nat)[h1:rk ty](S:St w0 d l L O X w)(k i:Nat)(v:c7){r:R4}(h:wpList prog ops Q rest (a.put (cu dst) v) w)(b:L[k]?=cu r:=by with_unfolding_all rfl)(c:r.f i=v:=by with_unfolding_all rfl)(hi:i<r.n:=by with_unfolding_all exact mj rfl)(f:a.eval (.tmp x)=bW (cu ⟨r.b,i,cw⟩):=by with_unfolding_all rfl)(e:Region.wanted ⟨cu dst,.load ty (.tmp x),t2,p,af,cu g⟩ (yielded ops a.tmps)=cx:=by kernel_rfl):wpList prog ops Q (⟨cu dst,.load ty (.tmp x),t2,p,af,cu g⟩::rest) a w:=mf e (yS S k b i c hi f h1.h h)
def jr(dst ty x:Nat)[h1:s7 ty n](S:St w0 d l L O X w)(k:Nat){b:Nat}{t:dW}(c:A=cM n f)(h:wpList prog ops Q rest (a.put (cu dst) (bV A)) w)(e:L[k]?=cu ⟨b,t,n,f⟩:=by with_unfolding_all rfl)(g:a.eval (.tmp x)=bW (cu ⟨b,0,cw⟩):=by with_unfolding_all rfl):wpList prog ops Q (⟨cu dst,.load ty (.tmp x),t2,p,af,cw⟩::rest) a w:=P6 S k e g c h1.h h
def jj(dst ty x:Nat)[h1:s7 ty n](S:St w0 d l L O X w)(k:Nat){b:Nat}{t:dW}(c:A=cM n f)(h:wpList prog ops Q rest (a.put (cu dst) (bV A)) w)(e:L[k]?=cu ⟨b,t,n,f⟩:=by with_unfolding_all rfl)(j:a.eval (.tmp x)=bW (cu ⟨b,0,cw⟩):=by with_unfolding_all rfl)(i:Region.wanted ⟨cu dst,.load ty (.tmp x),t2,p,af,cu g⟩ (yielded ops a.tmps)=cx:=by kernel_rfl):wpList prog ops Q (⟨cu dst,.load ty (.tmp x),t2,p,af,cu g⟩::rest) a w:=mf i (P6 S k e j c h1.h h)
def js(ty x y:Nat)[h1:s7 ty n](S:St w0 d l L O X w)(k:Nat){g:Nat->c7}{b:Nat}{t:dW}(e:A=cM n f)(c:∀i,(f i).oneCell'=cx)(h:∀W,St w0 d l (L.set k ⟨b,t,n,f⟩) O X W->wpList prog ops Q rest (a.put cw undef) W)(j:L[k]?=cu ⟨b,t,n,g⟩:=by with_unfolding_all rfl)(m:a.eval (.tmp x)=bW (cu ⟨b,0,cw⟩):=by with_unfolding_all rfl)(o:a.eval (.tmp y)=bV A:=by with_unfolding_all rfl):wpList prog ops Q (⟨cw,.store ty (.tmp x) (.tmp y),t2,p,af,cw⟩::rest) a w:=Ui S k j m o e h1.h c h
def jb(dst ty:Nat)(S:St w0 d l L O X w){Z:Array c7}(c:∀w,(zeroValue ty).run prog w=.ok (bV Z) w)(b:Z=cM n f)(h:∀W,St w0 d l (⟨w.h.s,ty,n,f⟩::L) O X W->wpList prog ops Q rest (a.put (cu dst) (bW (cu ⟨w.h.s,0,cw⟩))) W)(ho:gZ ty=cy:=by with_unfolding_all rfl):wpList prog ops Q (⟨cu dst,.alloc ty,t2,p,af,cw⟩::rest) a w:=wJ S c b ho h
def jx(dst ty x:Nat)(S:St w0 d l L O X w)(b:A=cM n f)(h:∀W,St w0 d l (⟨w.h.s,ty,n,f⟩::L) O X W->wpList prog ops Q rest (a.put (cu dst) (bW (cu ⟨w.h.s,0,cw⟩))) W)(c:a.eval (.tmp x)=bV A:=by with_unfolding_all rfl)(ho:gZ ty=cy:=by with_unfolding_all rfl):wpList prog ops Q (⟨cu dst,.box ty (.tmp x),t2,p,af,cw⟩::rest) a w:=yT S c b ho h
def mG{n:Fi_}(C:CP_ n args w λe w'=>e=cj v/\w=w')(h:R (cj v) w):CP_ n args w R:=
 C.mono λe W ⟨he,hb⟩=>by subst he hb;exact h
def je{n:Fi_}(S:St w0 d l L O X w)(C:CP_ n args w λe w'=>e=cj v/\Below w.h.s w w')(h:∀W,St w0 d l L O X W->R (cj v) W):CP_ n args w R:=
 C.mono λe W ⟨he,hb⟩=>by subst he;exact h W (S.cP hb)
def jz{P:Prop}(h:P:=by first|exact⟨_,S⟩|exact⟨_,_,_,S⟩|exact⟨_,_,S,λ_ a=>absurd a jL⟩|exact⟨_,_,_,S,λ_ a=>absurd a jL⟩|exact⟨_,_,_,S,λ_ a=>absurd a jL,S.x.1.1.2⟩|exact⟨_,_,_,S,by simp only[mml,mmp,implies_true],S.x.1.1.2⟩|exact⟨_,_,S,by simp only[mml,mmp,implies_true]⟩|exact⟨_,_,_,S,by simp only[mml,mmp,implies_true]⟩):P:=h
end
section
variable {w:World}{Q:Exit->Act->World->Prop}
variable {w0:World}{l:List Nat}{L:List R4}{O:List O4}{X:List Nat->World->Prop}{x:Nat}
theorem aa9(h:∀i,i<n->f i=g i):cM n f=cM n g:=by
 apply yg;intro i;rw[dy,dy];split;next hi=>rw[h i hi]
 rfl
def St.xO(S:St w0 d l L O X w){r:R4}(e:L[k]?=cu r)(f:∀i,i<r.n->g i=r.f i):St w0 d l (L.set k ⟨r.b,r.t,r.n,g⟩) O X w:=by have a:eM (L.set k ⟨r.b,r.t,r.n,g⟩) O=eM L O:=gQ (· ++O.filterMap O4.ob) (Fg (r':=⟨r.b,r.t,r.n,g⟩) e ae);refine⟨S.fr,λq h=>?_,S.own,by rw[a];exact S.lo,by rw[a];exact S.nd,by rw[a];exact S.x,S.me⟩;rcases vB h with h1|rfl;exact S.row q h1;have c:=S.row r (lu e);refine⟨?_,c.2⟩;have b:=c.1;unfold cL at b|-;(show w.h[r.b]?=_);rw[b,aa9 (λi hi=>(f i hi).symm)]
def xD(S:St w0 d l L O X w)(k:Nat){r:R4}(e:L[k]?=cu r)(i:Nat)(g:Nat->c7)(f:∀j,j<r.n->g j=if j=i then v else r.f j)(hi:i<r.n)(o:a.eval (.tmp x)=bW (cu ⟨r.b,i,cw⟩))(s:a.eval q=v)(n:v.oneCell'=cx)(m:lD P ty)(h:∀W,St w0 d l (L.set k ⟨r.b,r.t,r.n,g⟩) O X W->wpList P ops Q rest (a.put cw undef) W):wpList P ops Q (⟨cw,.store ty (.tmp x) q,t2,p,af,cw⟩::rest) a w:=by refine vC S k e i hi o s n m λW hS=>h W ?_;have b:k<L.n:=(oF.1 e).1;have c:=hS.xO (k:=k) (r:=⟨r.b,r.t,r.n,λj=>if j=i then v else r.f j⟩) (by rw[Bx,c8 ae,c8 b]) (g:=g) f;rw[set_set] at c;exact c
def DD(S:St w0 d l L O X w)(e:a.eval (.tmp x)=v)(c:v.cells=#[v])(ho:gZ ty=cy)(h:∀W,St w0 d l (⟨w.h.s,ty,1,λ_=>v⟩::L) O X W->wpList P ops Q rest (a.put (cu dst) (bW (cu ⟨w.h.s,0,cw⟩))) W):wpList P ops Q (⟨cu dst,.box ty (.tmp x),t2,p,af,cw⟩::rest) a w:=by refine mz ae λK b=>?_;unfold Oper.wp execOp;simp only[lx,Instr.box,newVar,newRow,Gj,rN,nX];rw[e,c];exact anr
end
def AS{w:World}{Q:Exit->Act->World->Prop}{w0:World}{l:List Nat}{L:List R4}{O:List O4}{X:List Nat->World->Prop}(S:St w0 d l L O X w)(c:∀w,(zeroValue ty).run P w=.ok v w)(hc:v.cells=#[v])(ho:gZ ty=cy)(h:∀W,St w0 d l (⟨w.h.s,ty,1,λ_=>v⟩::L) O X W->wpList P ops Q rest (a.put (cu dst) (bW (cu ⟨w.h.s,0,cw⟩))) W):wpList P ops Q (⟨cu dst,.alloc ty,t2,p,af,cw⟩::rest) a w:=by refine mz ae λK b=>?_;unfold Oper.wp execOp;simp only[lx,Instr.alloc,c,newVar,newRow,Gj,rN,nX];rw[hc];exact anr
def rd2{w:World}{Q:Exit->Act->World->Prop}{o:Oper}(f:Region.ready .any ops listed=[i,j])(ho:ops[i]?=cu o)(c:ops[j]?=cu o')(g:Region.wanted o (yielded ops a.tmps)=cx)(d:Region.wanted o' (yielded ops a.tmps)=cx)(h:∀K,Shut (∀a w,SS w->(SS w->wpAnyH P .any ops Q SS fuel (listed.setIfInBounds i cx) a w)->K a w)->o.wp P a w K Q)(e:∀K,Shut (∀a w,SS w->(SS w->wpAnyH P .any ops Q SS fuel (listed.setIfInBounds j cx) a w)->K a w)->o'.wp P a w K Q):wpAnyH P .any ops Q SS (fuel+1) listed a w:=
 wpAnyH_ready f (by simp) (AllReadyH.cons ho (λK b=>by rw[c8 g];exact h K b) (AllReadyH.cons c (λK b=>by rw[c8 d];exact e K b) .nil))
section
variable {w:World}{Q:Exit->Act->World->Prop}
variable {w0:World}{l:List Nat}{L:List R4}{O:List O4}{X:List Nat->World->Prop}{g:Nat×Bool}
def Cz{P:Prop}(h:P:=by simp only[mml,mmp,implies_true]):P:=h
def kK(i:Nat){o:Oper}(h:∀K,Shut (∀a w,SS w->(SS w->wpAnyH prog .any ops Q SS fuel (listed.setIfInBounds i cx) a w)->K a w)->o.wp prog a w K Q)(b:Region.ready .any ops listed=[i]:=by kernel_rfl)(ho:ops[i]?=cu o:=by rfl)(c:Region.wanted o (yielded ops a.tmps)=cx:=by kernel_rfl):wpAnyH prog .any ops Q SS (fuel+1) listed a w:=rd1 b ho c h
def qf(i:Nat){o:Oper}(h:∀K,Shut (∀a w,SS w->(SS w->wpAnyH prog .any ops Q SS fuel (listed.setIfInBounds i cx) a w)->K a w)->o.wp prog a w K Q)(b:Region.ready .any ops listed=[i]:=by decide+kernel)(ho:ops[i]?=cu o:=by rfl)(c:Region.wanted o (yielded ops a.tmps)=cx:=by kernel_rfl):wpAnyH prog .any ops Q SS (fuel+1) listed a w:=rd1 b ho c h
def Zi(i j:Nat){o:Oper}(h:∀K,Shut (∀a w,SS w->(SS w->wpAnyH prog .any ops Q SS fuel (listed.setIfInBounds i cx) a w)->K a w)->o.wp prog a w K Q)(d:∀K,Shut (∀a w,SS w->(SS w->wpAnyH prog .any ops Q SS fuel (listed.setIfInBounds j cx) a w)->K a w)->o'.wp prog a w K Q)(e:Region.ready .any ops listed=[i,j]:=by kernel_rfl)(ho:ops[i]?=cu o:=by rfl)(b:ops[j]?=cu o':=by rfl)(f:Region.wanted o (yielded ops a.tmps)=cx:=by kernel_rfl)(c:Region.wanted o' (yielded ops a.tmps)=cx:=by kernel_rfl):wpAnyH prog .any ops Q SS (fuel+1) listed a w:=rd2 e ho b f c h d
def Bt(i j:Nat){o:Oper}(h:∀K,Shut (∀a w,SS w->(SS w->wpAnyH prog .any ops Q SS fuel (listed.setIfInBounds i cx) a w)->K a w)->o.wp prog a w K Q)(d:∀K,Shut (∀a w,SS w->(SS w->wpAnyH prog .any ops Q SS fuel (listed.setIfInBounds j cx) a w)->K a w)->o'.wp prog a w K Q)(e:Region.ready .any ops listed=[i,j]:=by decide+kernel)(ho:ops[i]?=cu o:=by rfl)(b:ops[j]?=cu o':=by rfl)(f:Region.wanted o (yielded ops a.tmps)=cx:=by kernel_rfl)(c:Region.wanted o' (yielded ops a.tmps)=cx:=by kernel_rfl):wpAnyH prog .any ops Q SS (fuel+1) listed a w:=rd2 e ho b f c h d
def qG(h:Q .normal a w)(b:Region.ready .any ops listed=[]:=by kernel_rfl):wpAnyH prog .any ops Q SS fuel listed a w:=wpAnyH_done b h _
def Th(h:Hid (Q .normal a w))(b:Region.ready .any ops listed=[]:=by decide+kernel):wpAnyH prog .any ops Q SS fuel listed a w:=wpAnyH_done b h.o _
def gy{K:Act->World->Prop}{Z:Act->World->Prop}(b:Shut (∀a w,SS w->(SS w->Z a w)->K a w))(q:Q')(h:Q'->Z a w:=by intro q;(try simp only[Ol]);exact q)(hS:SS w:=by exact jz):K a w:=b.out _ _ hS λ_=>h q
def aM{x:Nat}(h:YieldsIf prog ops SS ⟨cu dst,.load ty (.tmp x),t2,p,af,gd⟩ v a):YieldsIf prog ops SS ⟨cu dst,.load ty (.tmp x),t2,p,af,gd⟩ v a:=h
def yR{x:Nat}{t:dW}{wS:World}(S:St w0 d l L O X wS)(k:Nat){b:Nat}(g:∀w,SS w->SE w0 d l L O w)(e:L[k]?=cu ⟨b,t,n,f⟩)(i:a.eval (.tmp x)=bW (cu ⟨b,0,cw⟩))[h1:s7 ty n](c:A=cM n f)(h:Region.wanted ⟨cu dst,.load ty (.tmp x),t2,p,af,gd⟩ (yielded ops a.tmps)=cx:=by kernel_rfl):YieldsIf prog ops SS ⟨cu dst,.load ty (.tmp x),t2,p,af,gd⟩ (bV A) a:=ajP S k g e i c h1.h h
def hy_{P:Prop}(h:P:=by first|exact ajO rfl|exact agw rfl|(refine aM ?_;first|exact uq S 0 (λ_ h=>h) rfl _ rfl (mj rfl) rfl rk.h|exact uq S 1 (λ_ h=>h) rfl _ rfl (mj rfl) rfl rk.h|exact uq S 2 (λ_ h=>h) rfl _ rfl (mj rfl) rfl rk.h|exact uq S 3 (λ_ h=>h) rfl _ rfl (mj rfl) rfl rk.h|exact uq S 4 (λ_ h=>h) rfl _ rfl (mj rfl) rfl rk.h|exact uq S 5 (λ_ h=>h) rfl _ rfl (mj rfl) rfl rk.h|exact gW (λw h=>cL.cell (h.row 0 rfl) (mj rfl)) rfl rk.h|exact gW (λw h=>cL.cell (h.row 1 rfl) (mj rfl)) rfl rk.h|exact gW (λw h=>cL.cell (h.row 2 rfl) (mj rfl)) rfl rk.h|exact gW (λw h=>cL.cell (h.row 3 rfl) (mj rfl)) rfl rk.h|exact gW (λw h=>cL.cell (h.row 4 rfl) (mj rfl)) rfl rk.h|exact yR S 0 (λ_ h=>h) rfl rfl Zj|exact yR S 1 (λ_ h=>h) rfl rfl Zj|exact yR S 2 (λ_ h=>h) rfl rfl Zj|exact yR S 3 (λ_ h=>h) rfl rfl Zj)|exact Or.inl ⟨by kernel_rfl,λw a=>by(try simp only[dF]);go_simp⟩):P:=h
def dh(i:Nat)(v:c7){sM:Oper}(q:Q')(hi:ops[i]?=cu sM:=by rfl)(d:sM.dst=cu dst:=by rfl)(j:YieldsIf prog ops SS sM v a:=by exact hy_)(h:Q'->wpAnyH prog .any ops Q SS fuel (listed.setIfInBounds i cx) (a.put (cu dst) v) w:=by intro q;simp only[Ol,dF];exact q)(hS:SS w:=by exact jz)(g:Region.noSelect ops=cx:=by kernel_rfl)(e:Region.free .any ops listed i=cx:=by kernel_rfl)(f:(Region.ready .any ops listed).contains i=cx:=by kernel_rfl)(b:∀c a w,Q (.panic c) (a.put (cu dst) v) w->Q (.panic c) a w:=by exact λ_ _ _ h=>h):wpAnyH prog .any ops Q SS (fuel+1) listed a w:=tkG i (cu dst) v hS hi d g e f b j (h q)
def nz(i:Nat)(v:c7){sM:Oper}(q:Q')(hi:ops[i]?=cu sM:=by rfl)(d:sM.dst=cu dst:=by rfl)(f:(Region.ready .any ops listed).contains i=cx:=by decide+kernel)(j:YieldsIf prog ops SS sM v a:=by exact hy_)(h:Q'->wpAnyH prog .any ops Q SS fuel (listed.setIfInBounds i cx) (a.put (cu dst) v) w:=by intro q;simp only[Ol,dF];exact q)(hS:SS w:=by exact jz)(g:Region.noSelect ops=cx:=by kernel_rfl)(e:Region.free .any ops listed i=cx:=by kernel_rfl)(b:∀c a w,Q (.panic c) (a.put (cu dst) v) w->Q (.panic c) a w:=by exact λ_ _ _ h=>h):wpAnyH prog .any ops Q SS (fuel+1) listed a w:=tkG i (cu dst) v hS hi d g e f b j (h q)
def ij(i:Nat)(v:c7){sM:Oper}(hi:ops[i]?=cu sM)(j:YieldsIf prog ops SS sM v a)(q:Q')(d:sM.dst=cu dst:=by rfl)(h:Q'->wpAnyH prog .any ops Q SS fuel (listed.setIfInBounds i cx) (a.put (cu dst) v) w:=by intro q;simp only[Ol,dF];exact q)(hS:SS w:=by exact jz)(g:Region.noSelect ops=cx:=by kernel_rfl)(e:Region.free .any ops listed i=cx:=by kernel_rfl)(f:(Region.ready .any ops listed).contains i=cx:=by kernel_rfl)(b:∀c a w,Q (.panic c) (a.put (cu dst) v) w->Q (.panic c) a w:=by exact λ_ _ _ h=>h):wpAnyH prog .any ops Q SS (fuel+1) listed a w:=tkG i (cu dst) v hS hi d g e f b j (h q)
def nv_(i:Nat)(v:c7){sM:Oper}(hi:ops[i]?=cu sM)(j:YieldsIf prog ops SS sM v a)(q:Q')(d:sM.dst=cu dst:=by rfl)(f:(Region.ready .any ops listed).contains i=cx:=by decide+kernel)(h:Q'->wpAnyH prog .any ops Q SS fuel (listed.setIfInBounds i cx) (a.put (cu dst) v) w:=by intro q;simp only[Ol,dF];exact q)(hS:SS w:=by exact jz)(g:Region.noSelect ops=cx:=by kernel_rfl)(e:Region.free .any ops listed i=cx:=by kernel_rfl)(b:∀c a w,Q (.panic c) (a.put (cu dst) v) w->Q (.panic c) a w:=by exact λ_ _ _ h=>h):wpAnyH prog .any ops Q SS (fuel+1) listed a w:=tkG i (cu dst) v hS hi d g e f b j (h q)
def pP(i:Nat){sM:Oper}(q:Q')(hi:ops[i]?=cu sM:=by rfl)(d:sM.dst=cu dst:=by rfl)(j:Region.wanted sM (yielded ops a.tmps)=cy:=by kernel_rfl)(h:Q'->wpAnyH prog .any ops Q SS fuel (listed.setIfInBounds i cx) (a.put (cu dst) undef) w:=by intro q;simp only[Ol,dF];exact q)(hS:SS w:=by exact jz)(g:Region.noSelect ops=cx:=by kernel_rfl)(e:Region.free .any ops listed i=cx:=by kernel_rfl)(f:(Region.ready .any ops listed).contains i=cx:=by kernel_rfl)(b:∀c a w,Q (.panic c) (a.put (cu dst) undef) w->Q (.panic c) a w:=by exact λ_ _ _ h=>h):wpAnyH prog .any ops Q SS (fuel+1) listed a w:=tkG i (cu dst) undef hS hi d g e f b (akW j) (h q)
def qP(w:World):St w cw [] [] [] (λ_ _=>True) w:=St.start w cw [] xl iC
def St.k0{a:R4}(S:St w0 d l (a::L) O X w):cL w a.b a.t a.n a.f:=S.pE (k:=0) ae
theorem St.k1{a kK:R4}(S:St w0 d l (a::kK::L) O X w):cL w kK.b kK.t kK.n kK.f:=S.pE (k:=1) ae
theorem St.k2{a kK Zi:R4}(S:St w0 d l (a::kK::Zi::L) O X w):cL w Zi.b Zi.t Zi.n Zi.f:=S.pE (k:=2) ae
def St.o0{a:O4}(S:St w0 d l L (a::O) X w):w.ownsRow w0.h.s a.e a.z a.v a.n a.xs:=S.uV (k:=0) ae
def St.o1{a kK:O4}(S:St w0 d l L (a::kK::O) X w):w.ownsRow w0.h.s kK.e kK.z kK.v kK.n kK.xs:=S.uV (k:=1) ae
def St.o2{a kK Zi:O4}(S:St w0 d l L (a::kK::Zi::O) X w):w.ownsRow w0.h.s Zi.e Zi.z Zi.v Zi.n Zi.xs:=S.uV (k:=2) ae
def St.q0{e:Nat}(S:St w0 d l L (⟨e,z,v,n,xs⟩::O) X w):dg w e z v n xs:=dg.j8 S.o0
theorem St.q1{a:O4}{e:Nat}(S:St w0 d l L (a:: ⟨e,z,v,n,xs⟩::O) X w):dg w e z v n xs:=dg.j8 S.o1
theorem St.b(S:St w0 cw [] L O X w):Below w0.h.s w0 w:=S.fr.cP
def xY{P:Prop}(h:P:=by unfold maxLen;(try simp only);omega):P:=h
def CU{P:Prop}(h:P:=by(try simp only);omega):P:=h
theorem sp_{P:Prop}(h:P:=by simp;omega):P:=h
def vx(h:Hid (A=cM n f)):A.s=n:=by rw[h.o,cW]
def ha_(h:A=cM n f):A.s=n:=by rw[h,cW]
def Rz{o:Op}{dst:Option Nat}{g:Option (Nat×Bool)}(b:Region.wanted ⟨dst,o,t2,p,af,g⟩ (yielded ops a.tmps)=cx)(h:wpList prog ops Q (⟨dst,o,t2,p,af,cw⟩::rest) a w):wpList prog ops Q (⟨dst,o,t2,p,af,g⟩::rest) a w:=by cases g with|none=>exact h|some g=>exact mf b h
section
variable {x:Nat}
def aQ_(h:wpList prog ops Q (⟨cu dst,.load ty (.tmp x),t2,p,af,gd⟩::rest) a w):wpList prog ops Q (⟨cu dst,.load ty (.tmp x),t2,p,af,gd⟩::rest) a w:=h
def zw[h1:rk ty]{b:Nat}(hc:w.cell? ⟨b,o,cw⟩=cu v)(h:wpList prog ops Q rest (a.put (cu dst) v) w)(d:a.eval (.tmp x)=bW (cu ⟨b,o,cw⟩):=by with_unfolding_all rfl)(c:Region.wanted ⟨cu dst,.load ty (.tmp x),t2,p,af,gd⟩ (yielded ops a.tmps)=cx:=by kernel_rfl):
 wpList prog ops Q (⟨cu dst,.load ty (.tmp x),t2,p,af,gd⟩::rest) a w:=Rz c (jF hc d h1.h h)
def CB{b cap:Nat}(R:dg w e z (bX (cu ⟨b,o,cw⟩) n cap) n xs)(f:j<n)(c:A.s=z)(d:∀i,i<z->xs[j*z+i]?=A[i]?)(h:wpList prog ops Q rest (a.put (cu dst) (bV A)) w)[h1:s7 ty z](k:a.eval (.tmp x)=bW (cu ⟨b,o+j*z,cw⟩):=by with_unfolding_all rfl)(g:Region.wanted ⟨cu dst,.load ty (.tmp x),t2,p,af,gd⟩ (yielded ops a.tmps)=cx:=by kernel_rfl):wpList prog ops Q (⟨cu dst,.load ty (.tmp x),t2,p,af,gd⟩::rest) a w:=Rz g (ajK R f k c d h1.h h)
def Ey(S:St w0 d l L O X w)(k:Nat){r:R4}(b:L[k]?=cu r)(i:Nat)[h1:rk ty](c:r.f i=v)(h:wpList prog ops Q rest (a.put (cu dst) v) w)(hi:i<r.n:=by with_unfolding_all exact mj rfl)(f:a.eval (.tmp x)=bW (cu ⟨r.b,i,cw⟩):=by with_unfolding_all rfl)(e:Region.wanted ⟨cu dst,.load ty (.tmp x),t2,p,af,gd⟩ (yielded ops a.tmps)=cx:=by kernel_rfl):wpList prog ops Q (⟨cu dst,.load ty (.tmp x),t2,p,af,gd⟩::rest) a w:=Rz e (yS S k b i c hi f h1.h h)
def oM_(S:St w0 d l L O X w)(k:Nat){r:R4}(e:L[k]?=cu r)(g:Nat->c7)(c:∀i,i<m->r.f (o+i)=g i)(b:A=cM m g)(h:wpList prog ops Q rest (a.put (cu dst) (bV A)) w)[h1:s7 ty m](f:o+m<=r.n:=by with_unfolding_all exact mj rfl)(n:a.eval (.tmp x)=bW (cu ⟨r.b,o,cw⟩):=by with_unfolding_all rfl)(j:Region.wanted ⟨cu dst,.load ty (.tmp x),t2,p,af,gd⟩ (yielded ops a.tmps)=cx:=by kernel_rfl):wpList prog ops Q (⟨cu dst,.load ty (.tmp x),t2,p,af,gd⟩::rest) a w:=Rz j (P7 S k e n g f c b h1.h h)
end
end
class CV(f:Nat->c7)(i:Nat)(v:outParam c7):Prop where
 h:f i=v
class OF(f:Nat->c7):Prop where
 h:∀i,(f i).oneCell'=cx
class ZR(ty:dW)(n:outParam Nat)(f:outParam (Nat->c7)):Prop where
 h:∃Z,(∀w,(zeroValue ty).run prog w=.ok (bV Z) w)/\Z=cM n f
class Z1(ty:dW)(v:outParam c7):Prop where
 h:(∀w,(zeroValue ty).run prog w=.ok v w)/\v.cells=#[v]
class AO(A:Array c7)(n:outParam Nat)(f:outParam (Nat->c7)):Prop where
 h:A=cM n f
class B0(ty:dW)(A:outParam (Array c7)):Prop where
 h:prog.built ty []=cu A
instance cvK(v:c7)(i:Nat):CV (λ_=>v) i v:=⟨rfl⟩
section
variable {w:World}{Q:Exit->Act->World->Prop}
variable {w0:World}{l:List Nat}{L:List R4}{O:List O4}{X:List Nat->World->Prop}{x:Nat}
def aL(h:wpList P ops Q (⟨cu dst,.load ty (.tmp x),t2,p,af,cw⟩::rest) a w):wpList P ops Q (⟨cu dst,.load ty (.tmp x),t2,p,af,cw⟩::rest) a w:=h
def aA(h:wpList P ops Q (⟨cu dst,.alloc ty,t2,p,af,cw⟩::rest) a w):wpList P ops Q (⟨cu dst,.alloc ty,t2,p,af,cw⟩::rest) a w:=h
def aB(h:wpList P ops Q (⟨cu dst,.box ty (.tmp x),t2,p,af,cw⟩::rest) a w):wpList P ops Q (⟨cu dst,.box ty (.tmp x),t2,p,af,cw⟩::rest) a w:=h
def gL(S:St w0 d l L O X w){b:Nat}{t:dW}[h1:rk ty](g:a.eval (.tmp x)=bW (cu ⟨b,i,cw⟩))(e:L[k]?=cu ⟨b,t,n,f⟩)[c:CV f i v](hi:i<n)(h:wpList prog ops Q rest (a.put (cu dst) v) w):
 wpList prog ops Q (⟨cu dst,.load ty (.tmp x),t2,p,af,cw⟩::rest) a w:=yS S k e i c.h hi g h1.h h
def gR(S:St w0 d l L O X w)[h1:s7 ty n]{b:Nat}{t:dW}(g:a.eval (.tmp x)=bW (cu ⟨b,0,cw⟩))(e:L[k]?=cu ⟨b,t,n,f⟩)(c:A=cM n f)(h:wpList prog ops Q rest (a.put (cu dst) (bV A)) w):
 wpList prog ops Q (⟨cu dst,.load ty (.tmp x),t2,p,af,cw⟩::rest) a w:=P6 S k e g c h1.h h
def gA(S:St w0 d l L O X w)[c:ZR ty n f](ho:gZ ty=cy)(h:∀W,St w0 d l (⟨w.h.s,ty,n,f⟩::L) O X W->wpList prog ops Q rest (a.put (cu dst) (bW (cu ⟨w.h.s,0,cw⟩))) W):
 wpList prog ops Q (⟨cu dst,.alloc ty,t2,p,af,cw⟩::rest) a w:=by have⟨Z,h1,h2⟩:=c.h;exact wJ S h1 h2 ho h
def gA1(S:St w0 d l L O X w)[c:Z1 ty v](ho:gZ ty=cy)(h:∀W,St w0 d l (⟨w.h.s,ty,1,λ_=>v⟩::L) O X W->wpList prog ops Q rest (a.put (cu dst) (bW (cu ⟨w.h.s,0,cw⟩))) W):
 wpList prog ops Q (⟨cu dst,.alloc ty,t2,p,af,cw⟩::rest) a w:=AS S c.h.1 c.h.2 ho h
def gB(S:St w0 d l L O X w)[h1:s7 ty n](c:a.eval (.tmp x)=bV A)(b:A=cM n f)(ho:gZ ty=cy)(h:∀W,St w0 d l (⟨w.h.s,ty,n,f⟩::L) O X W->wpList prog ops Q rest (a.put (cu dst) (bW (cu ⟨w.h.s,0,cw⟩))) W):
 wpList prog ops Q (⟨cu dst,.box ty (.tmp x),t2,p,af,cw⟩::rest) a w:=yT S c b ho h
def gS(S:St w0 d l L O X w)[h1:s7 ty n]{b:Nat}{t:dW}(m:a.eval (.tmp x)=bW (cu ⟨b,0,cw⟩))(j:L[k]?=cu ⟨b,t,n,g⟩)(o:a.eval (.tmp y)=bV A)(e:A=cM n f)[c:OF f]{M:List R4}(i:L.set k ⟨b,t,n,f⟩=M)(h:∀W,St w0 d l M O X W->wpList prog ops Q rest (a.put cw undef) W):
 wpList prog ops Q (⟨cw,.store ty (.tmp x) (.tmp y),t2,p,af,cw⟩::rest) a w:=Ui S k j m o e h1.h c.h (i▸h)
def gN(S:St w0 d l L O X w){Z:Array c7}[h1:s7 ty n](g:a.eval (.tmp x)=bW (cu ⟨w.h.s,0,cw⟩))(i:a.eval (.tmp y)=bV A)(b:A=cM n f)[c:OF f](ho:gZ ty=cy)(e:Z.s=n)(h:∀W,St w0 d l (⟨w.h.s,ty,n,f⟩::L) O X W->wpList prog ops Q rest (a.put cw undef) W):
 wpList prog ops Q (⟨cw,.store ty (.tmp x) (.tmp y),t2,p,af,cw⟩::rest) a (w.alloc (.cells Z ty)):=oV S g i b h1.h ho e c.h h
def aC(h:wpList P ops Q (⟨cu dst,.buildSlice ty 1 #[(0,.tmp x)],t2,p,af,cw⟩::rest) a w):wpList P ops Q (⟨cu dst,.buildSlice ty 1 #[(0,.tmp x)],t2,p,af,cw⟩::rest) a w:=h
def aP(h:wpList P ops Q (⟨cw,.store ty (.tmp x) q,t2,p,af,cw⟩::rest) a w):wpList P ops Q (⟨cw,.store ty (.tmp x) q,t2,p,af,cw⟩::rest) a w:=h
def aU(h:wpList P ops Q (⟨cu dst,.build ty #[],t2,p,af,cw⟩::rest) a w):wpList P ops Q (⟨cu dst,.build ty #[],t2,p,af,cw⟩::rest) a w:=h
def gP(S:St w0 d l L O X w)[h1:rk ty]{b:Nat}{t:dW}(m:a.eval (.tmp x)=bW (cu ⟨b,0,cw⟩))(g:L[k]?=cu ⟨b,t,1,f⟩)(n:a.eval q=v)(i:v.oneCell'=cx){M:List R4}(e:L.set k ⟨b,t,1,λ_=>v⟩=M)(h:∀W,St w0 d l M O X W->wpList prog ops Q rest (a.put cw undef) W):
 wpList prog ops Q (⟨cw,.store ty (.tmp x) q,t2,p,af,cw⟩::rest) a w:=
 xD S k g 0 (λ_=>v) (λj c=>by have c:j<1:=c;obtain rfl:j=0:=(by omega);rfl) Nat.one_pos m n i h1.h (e▸h)
def gT2(S:St w0 d l L O X w){b:Nat}{t:dW}{p q:Tmp}(h:fn.results=#[.cell p ty,.tmp q])(i:a.tmps.getD p undef=bW (cu ⟨b,0,cw⟩))(g:L[k]?=cu ⟨b,t,n,f⟩)[h1:s7 ty n](e:a.defers=[])(c:R (cj (cg #[bV (cM n f),a.tmps.getD q undef])) w):bodyPost prog fn R .ret a w:=oW S k g h i h1.h e c
def gT3(S:St w0 d l L O X w){b:Nat}{t:dW}{p q:Tmp}(h:fn.results=#[.cell p ty,.tmp q,.tmp q2])(i:a.tmps.getD p undef=bW (cu ⟨b,0,cw⟩))(g:L[k]?=cu ⟨b,t,n,f⟩)[h1:s7 ty n](e:a.defers=[])(c:R (cj (cg #[bV (cM n f),a.tmps.getD q undef,a.tmps.getD q2 undef])) w):bodyPost prog fn R .ret a w:=Ha S k g h i h1.h e c
def gT1(S:St w0 d l L O X w){b:Nat}{t:dW}{p:Tmp}(h:fn.results=#[.cell p ty])(i:a.tmps.getD p undef=bW (cu ⟨b,0,cw⟩))(g:L[k]?=cu ⟨b,t,n,f⟩)[h1:s7 ty n](e:a.defers=[])(c:R (cj (bV (cM n f))) w):bodyPost prog fn R .ret a w:=agt S k g h i h1.h e c
end
def Zk{P:Prop}(h:P:=by with_unfolding_all rfl):P:=h
def wd_{P:Prop}(h:P:=by with_unfolding_all exact mj rfl):P:=h
def ev_{P:Prop}(h:P:=by(try simp only[Ol]);with_unfolding_all rfl):P:=h
def Zj{P:Prop}(h:P:=by with_reducible first|assumption|(refine Hid.o ?_;assumption)|exact pS|exact iU|exact ot|exact Zh|exact adN|exact vW|exact adO|exact adP|exact adQ|exact Zl|rfl):P:=h
section
variable {a0 a1 a2 a3 a4 a5 a6 a7:R4}{L:List R4}
theorem e0:(a0::L)[0]?=cu a0:=rfl
theorem e1:(a0::a1::L)[1]?=cu a1:=rfl
theorem e2:(a0::a1::a2::L)[2]?=cu a2:=rfl
theorem e3:(a0::a1::a2::a3::L)[3]?=cu a3:=rfl
theorem e4:(a0::a1::a2::a3::a4::L)[4]?=cu a4:=rfl
theorem e5:(a0::a1::a2::a3::a4::a5::L)[5]?=cu a5:=rfl
theorem e6:(a0::a1::a2::a3::a4::a5::a6::L)[6]?=cu a6:=rfl
theorem e7:(a0::a1::a2::a3::a4::a5::a6::a7::L)[7]?=cu a7:=rfl
end
def rk_{P:Prop}(h:P:=by(try simp only[By,FQ]);with_reducible first|exact Go.Proofs.YtklligbjoplbgaaGreat.e0|exact Go.Proofs.YtklligbjoplbgaaGreat.e1|exact Go.Proofs.YtklligbjoplbgaaGreat.e2|exact Go.Proofs.YtklligbjoplbgaaGreat.e3|exact Go.Proofs.YtklligbjoplbgaaGreat.e4|exact Go.Proofs.YtklligbjoplbgaaGreat.e5|exact Go.Proofs.YtklligbjoplbgaaGreat.e6|exact Go.Proofs.YtklligbjoplbgaaGreat.e7):P:=h
def sl_{P:Prop}(h:P:=by(try simp only[By,FQ]);rfl):P:=h
def fO{P Q:Prop}(q:Q)(h:Q->P:=by
 intro q
 first|((with_reducible refine aL ?_);first|exact gL S Zk rk_ wd_ q|exact gR S Zk rk_ Zj q)|((with_reducible refine aU ?_);first|exact BZ Mw q|exact BZ adR q|exact BZ agz q|exact BZ agA q|exact BZ adS q|exact BZ Rt q|exact BZ agB q|exact BZ agC q|exact BZ adT q)):P:=h q
def fu{P Q:Prop}(q:Q)(h:Q->P:=by
 intro q
 first|((with_reducible refine aA ?_);first|exact gA S rfl q|exact gA1 S rfl q)|((with_reducible refine aB ?_);first|exact gB S Zk Zj rfl q|exact DD S ev_ rfl rfl q)|((with_reducible refine aC ?_);first|exact Mp S Zk Zj ib (by omega) rfl q|exact Mp S Zk Zj Jp (by omega) rfl q|exact Mp S Zk Zj XG (by omega) rfl q|exact Mp S Zk Zj aip (by omega) rfl q|exact Mp S Zk Zj aiq (by omega) rfl q|exact Mp S Zk Zj Zm (by omega) rfl q)|((with_reducible refine aP ?_);first|exact gP S Zk rk_ ev_ rfl sl_ q|exact gS S Zk rk_ Zk Zj sl_ q|exact gN S Zk Zk Zj rfl (by rfl) q)):P:=h q
def mu{P Q:Prop}(q:Q)(h:Q->P:=by
 intro q
 with_reducible refine s6 ?_
 first|exact gT2 S rfl rfl rk_ rfl q|exact gT3 S rfl rfl rk_ rfl q|exact gT1 S rfl rfl rk_ rfl q):P:=h q
instance in1dcc1(x:cQ):OF (dE x):=⟨dJ x⟩
instance incd7a9(s:List Nat):OF (di s):=⟨jP s⟩
instance inee145(l:Nat->cQ):OF (eX l):=⟨nR l⟩
instance in5715c(u:qZ):OF (k7 u):=⟨uk u⟩
instance in11ec6(a:Way):OF (nS a):=⟨adC a⟩
instance inf7a63 :ZR 106 3 (dE cY):=⟨_,xE,iU⟩
instance in8b829 :ZR 36 128 (di fN):=⟨_,zeroValue36,vW⟩
instance in0396c :ZR 191 24 (eX mX):=⟨_,zeroValue191,Eu⟩
instance in8f1ca :ZR 193 51 (nS P0):=⟨_,zeroValue193,agr⟩
instance in5fc21 :ZR 143 7 (k7 lR):=⟨_,zeroValue143,Zh⟩
instance in68f14 :Z1 82 (bU ct 0):=⟨zeroValue82,rfl⟩
instance in653bb :Z1 3 (bU cq 0):=⟨zeroValue3,rfl⟩
instance infd7cf :Z1 27 (bU cq 0):=⟨zeroValue27,rfl⟩
instance infa201 :Z1 107 (bX cw 0 0):=⟨zeroValue107,rfl⟩
instance in69130 :Z1 78 (bX cw 0 0):=⟨zeroValue78,rfl⟩
section
variable {F:Fence}
def Open(F:Fence):Prop:=F= {Fence.wide with round:=F.round}
def akX:Open Fence.wide:=rfl
def akY(l:Nat):Open (Fence.wide.inRound l):=rfl
def sM{P:Prop}(h:P:=by first|exact akX|exact akY _):P:=h
def vy{P:Prop}(h:P:=by rintro⟨_,_,h⟩;first|exact h|exact absurd h.1 eQ|(obtain⟨_,h,_⟩:=h;cases h)):P:=h
def Uq(b:Open F){row:String}{args:gJ}{R:c7->cS->Prop}(h:Rows P row args w R):RowsIn F n P row args w R:=
 λc a _=>let⟨v,w',r,s⟩:=h c a;⟨v,w',r,by rw[b];exact stepsIn_wide.2 s⟩
def ajR(b:Open F){o:Oper}(g:∀c,o.op≠.defer c)(h:o.wp P a w K Q):o.wpIn F n P a w K Q:=by refine⟨λf _=>by rw[b];trivial,?_⟩;rw[Oper.semAt_eq _ _ _ g];unfold Oper.wp at h;cases i:(execOp a.eval o).run P w with|ok nx w'=>(rw[i] at h;cases nx with|value v=>exact h|skip=>exact h|defer d=>exact h|enter f args=>exact⟨λg=>absurd g (by rw[b];simp[Fence.wide]),by rw[b];exact(uh (n:=n-1)).2 (Calls.mono h λe w h=>by omega)⟩|row r args=>exact⟨λg=>absurd g (by rw[b];simp[Fence.wide]),Uq b h⟩|_=>exact h.elim)|halt x w'=>rw[i] at h;cases x with|panic v=>exact h|_=>exact h.elim
def Hd(l:List Oper):Bool:=l.all λo=>match o.op with| .defer _=>cy|_=>cx
theorem B6{l:List Oper}(h:Hd l=cx){o:Oper}(ho:o∈l):∀c,o.op≠.defer c:=by intro c e;have:=(rJ.1 h) o ho;grind
theorem XH(b:Open F){ops:Array Oper}{Q:Exit->Act->cS->Prop}(d:¬LetsOut Q):∀(l:List Oper),(∀o∈l,∀c,o.op≠.defer c)->∀a w,wpList P ops Q l a w->wpListIn F n P ops Q l a w
 | [],_,_,_,h=>h
 |o::l,hd,a,w,h=>by
  unfold wpListIn;unfold wpList at h;split
  . next hw=>
    rw[c8 hw] at h;exact ajR b (hd o (nB ..)) (Oper.wp_mono (λa w h=>XH b d l (λo ho=>hd o (kT _ ho)) a w h) (h.resolve_right λh=>d h.2))
  . next hw=>
    rw[cX hw] at h;exact⟨λf _=>by rw[b];trivial,XH b d l (λo ho=>hd o (kT _ ho)) _ _ h⟩
theorem Ur(d:Open F){ops:Array Oper}{Q:Exit->Act->cS->Prop}(e:¬LetsOut Q)(g:∀o∈ops.t,∀c,o.op≠.defer c):∀(fuel:Nat)(listed:Array Bool)(a:Act)(w:cS),wpAny P .any ops Q fuel listed a w->wpAnyIn F n P .any ops Q fuel listed a w
 |0,_,_,_,h=>h
 |fuel+1,listed,a,w,h=>by
  refine⟨h.1,λi hi=>?_⟩;have b:=h.2 i hi;unfold wpOp at b;unfold wpOpIn;cases ho:ops[i]? with
  |none=>rw[ho] at b;exact Ur d e g fuel _ _ _ b
  |some o=>
   rw[ho] at b;have j:o∈ops.t:=by
    grind
   simp only at b|-;split
   . next hw=>
     rw[c8 hw] at b;exact ajR d (g o j) (Oper.wp_mono (λa w h=>Ur d e g fuel _ a w h) (b.resolve_right λh=>e h.2))
   . next hw=>
     rw[cX hw] at b;exact⟨λf _=>by rw[d];trivial,Ur d e g fuel _ _ _ b⟩
theorem ke(b:Open F){id:Nat}{l:List Oper}(d:Hd l=cx)(c:¬LetsOut Q)(h:wpList P l.toArray Q l a w):(Code.region id l.toArray cy).wpIn F n P Q a w:=
 by grind[wpIn_region_lit,XH,B6]
def Ak(b:Open F){L:List R4}{O:List O4}{ops:List Oper}(S:St w0 d l L O X w){id:Nat}(f:P.follows .mixedOrders=cx)(e:Hd ops=cx)(c:¬LetsOut Q)(h:∀W,St w0 d l L O X W->wpAnyH P .any ops.toArray Q (SE w0 d l L O) ops.toArray.s (Array.replicate ops.toArray.s cy) a W):(Code.region id ops.toArray cx).wpIn F n P Q a w:=by exact wpIn_region_any f (Ur b c (λ_ ho=>B6 e cN) _ _ _ _ (wpAny_of_held _ _ _ _ (h _ S.drew)))
end
def Gk(s:cV)(q:cQ):qZ:=⟨jM ((s.drop 4).take 8),jM ((s.drop 12).take 8),q,jM ((s.drop 36).take 4),jM ((s.drop 40).take 4)⟩
def kf(s:cV):Option qZ:=match nZ ((s.drop 20).take 16) with
 |none=>cw
 |some q=>if kD (Gk s q)=cu s then cu (Gk s q) else cw
theorem agD(h:bs.n=16):sC [8,8] bs=cu [jM (bs.take 8),jM ((bs.drop 8).take 8)]:=by unfold sC;simp_all[py,okW,sX]
theorem agE(h:bs.n=8):sC [4,4] bs=cu [jM (bs.take 4),jM ((bs.drop 4).take 4)]:=by unfold sC;simp_all[py,okW,sX]
theorem XI(h:∀x∈s,x<256)(o n:Nat):∀x∈(s.drop o).take n,x<256:=by grind
theorem He(h:∀x∈s,x<256){q:cQ}(a:dD q):oP (Gk s q):=by have c:∀o,jM ((s.drop o).take 8)<256^8:=λo=>Dm (XI h o 8) jH;have b:∀o,jM ((s.drop o).take 4)<256^4:=λo=>Dm (XI h o 4) jH;grind[oP,Gk]
theorem xo{bs:cV}(h:∀x∈bs,x<256){q:cQ}(a:nZ bs=cu q):dD q:=by grind[nZ,F']
section
attribute[local irreducible]wpList Code.wp Calls Oper.wp wpAnyH
def RC(s:cV)(l:kb s)(w:cS):CP_ 187 #[bV (cM 128 (di s))] w λe w'=>∃U,e=cj (cg #[bV U,bZ (kf s).isSome])/\U=cM 7 (k7 ((kf s).getD lR))/\dS w w':=by
 obtain⟨A,hA⟩:=fU (cM 128 (di s));rw[<-hA];have Z:=cz hA;clear hA;have S:=qP w;obtain⟨n1,O⟩:=dG (jM ((s.drop 4).take 8));obtain⟨n2,Q⟩:=dG (jM ((s.drop 12).take 8));obtain⟨z,R⟩:=dG (jM ((s.drop 36).take 4));obtain⟨C,V⟩:=dG (jM ((s.drop 40).take 4));have D:sC [8,8] ((s.drop 4).take 16)=cu [n1,n2]:=by
  rw[agD (by rw[lO,uf,l.1];rfl),<-O,<-Q,take_take,drop_take,drop_drop,take_take];rfl
 have E:sC [4,4] ((s.drop 36).take 8)=cu [z,C]:=by
  rw[agE (by rw[lO,uf,l.1];rfl),<-R,<-V,take_take,drop_take,drop_drop,take_take];rfl
 have C1:=cz λv u w hv m hc=>D▸J1 v u [8,8] ((s.drop 4).take 16) kM w hv m hc;have C3:=cz λv u w hv m hc=>E▸J1 v u [4,4] ((s.drop 36).take 8) kM w hv m hc;have N:=cz λu w m hc=>xd u ((s.drop 20).take 16) w m hc;have M:∀x∈dN [8,8],(Lit.int cq x).wf=cx:=by decide
 have a3:∀x∈dN [4,4],(Lit.int cq x).wf=cx:=by decide
 cases j:nZ ((s.drop 20).take 16) with
 |none=>
  have Y:kf s=cw:=by unfold kf;rw[j]
  rw[Y];obtain⟨T,t⟩:=fU (cM 3 (dE cY));rw[j,show(cw:Option cQ).getD cY=cY from rfl,dk t] at N;have HT:=cz t;clear O Q R V D E t;go_enter func187,ntmps187
  go_wp2_with first|refine mF S cq [8,8] qq uW cN cN rfl rfl nF λW S=>?_|(go_at_call 29;have f:=S.k2;have h:=lM.Ex f l 4 16 124 cN cN cN;refine(C1.o _ _ _ (eU.row S.k0 rfl rh M) h.ints h.cap).mono ?_;rintro e W ⟨r,rfl,ho,a⟩;clear h f;replace S:=S.iw a ho rfl rfl;clear a ho)|(go_at_call 195;have f:=S.k2;have h:=lM.Ex f l 20 16 108 cN cN cN;refine(N.o _ _ h.ints h.cap).mono ?_;rintro e W ⟨rfl,a⟩;clear h f;replace S:=S.cP a;clear a)|(refine mu ?_;exact⟨_,rfl,rfl,S.b⟩)|refine fu λW S=>?_
 |some q=>
  have J:=xo (XI l.2 20 16) j;have L:=He (s:=s) l.2 J;obtain⟨T,t⟩:=fU (cM 3 (dE q));rw[j,show(cu q:Option cQ).getD cY=q from rfl,dk t] at N;have HT:=cz t;clear t;obtain⟨u,m⟩:=dG (Gk s q);have o:u=⟨n1,n2,q,z,C⟩:=by rw[<-m,<-O,<-Q,<-R,<-V];rfl
  have d:kf s=if kD u=cu s then cu u else cw:=by unfold kf;rw[j];simp only[m]
  obtain⟨U,X⟩:=fU (cM 7 (k7 u));have i:oP u:=by rw[<-m];exact L
  have F:=cz λw=>Fi u i w;rw[<-X] at F;have y:=X;rw[o,Mr] at y;have a1:=cz y;have HU:=cz X;have a4:z<4294967296:=by have:=i.2.2.2.1;rw[o] at this;exact this
  have w3:IntKind.i64.wrap (z:Int)=(z:Int):=kX _ cN;have a5:C<4294967296:=by have:=i.2.2.2.2;rw[o] at this;exact this
  have w4:IntKind.i64.wrap (C:Int)=(C:Int):=kX _ cN;have n:=cz d;clear O Q R V D E X y j L i J m o d;go_enter func187,ntmps187
  go_upto_region 7 with(first|refine mF S cq [8,8] qq uW cN cN rfl rfl nF λW S=>?_|(go_at_call 29;(have f:=S.k2;have h:=lM.Ex f l 4 16 124 cN cN cN;refine(C1.o _ _ _ (eU.row S.k0 rfl rh M) h.ints h.cap).mono ?_;rintro e W ⟨r1,rfl,ho,a⟩;clear h f;replace S:=S.iw a ho rfl rfl;clear a ho))|(go_at_call 195;have f:=S.k2;have h:=lM.Ex f l 20 16 108 cN cN cN;refine(N.o _ _ h.ints h.cap).mono ?_;rintro e W ⟨rfl,a⟩;clear h f;replace S:=S.cP a;clear a)|refine fu λW S=>?_)
  go_upto_region 10 with(first|refine mF S cq [4,4] qq uW cN cN rfl rfl nF λW S=>?_|(have f:=S.pE (k:=4) rfl;have h:=lM.Ex f l 36 8 92 cN cN cN;refine(C3.o _ _ _ (eU.row S.k0 rfl rh a3) h.ints h.cap).mono ?_;rintro e W ⟨r2,rfl,ho,a⟩;clear h f;replace S:=S.iw a ho rfl rfl;clear a ho))
  have e2:∃g c,r2=bX (s_ g 0) 2 c:=DC S.o0 (Nat.zero_lt_two);have e1:∃g c,r1=bX (s_ g 0) 2 c:=DC S.o1 (Nat.zero_lt_two);obtain⟨E,c2,rfl⟩:=e2;obtain⟨D,c1,rfl⟩:=e1;refine eO S dC λW S=>?_;refine dh 0 _ ?_;refine dh 1 (dF D 0) ?_;refine ij 2 (bU ct n1) rfl (agx S 1 (λ_ h=>h) rfl rfl rfl rfl 0 rfl rfl gi) ?_;refine dh 3 _ ?_;refine dh 4 (dF D 1) ?_;refine ij 5 (bU ct n2) rfl (agx S 1 (λ_ h=>h) rfl rfl rfl rfl 1 rfl rfl gi) ?_;refine ij 6 (bV #[bU cq q.1,bU ct q.2.1,bU .u32 q.2.2]) rfl (ajP S 1 (λ_ h=>h) rfl rfl (zI q).symm fL) ?_;refine dh 7 _ ?_;refine dh 8 (dF E 0) ?_;refine ij 9 (bU ct z) rfl (agx S 0 (λ_ h=>h) rfl rfl rfl rfl 0 rfl rfl gi) ?_;refine dh 10 (bU cq z) ?_;refine dh 11 _ ?_;refine dh 12 (dF E 1) ?_;refine ij 13 (bU ct C) rfl (agx S 0 (λ_ h=>h) rfl rfl rfl rfl 1 rfl rfl gi) ?_;refine dh 14 (bU cq C) ?_;refine ij 15 (bV U) rfl (yU rfl (by rw[a1.o];kernel_rfl)) ?_;refine kK 16 λK I=>?_;refine Hc S zeroValue143 Zh rfl λW S=>?_;refine I.out _ _ ⟨_,S.pop⟩ λ_=>?_
  try simp only[Ol]
  clear I K;refine kK 17 λK I=>?_;refine km S 0 rfl rfl rfl HU.o Fh (uk _) λW S=>?_;refine I.out _ _ ⟨_,S.pop⟩ λ_=>?_
  try simp only[Ol]
  clear I K;refine qG ?_;cases a:kD u with
  |none=>
   rw[a,show gq 61 (cw:Option cV)=61 from rfl] at F;rw[a] at n;have Y:kf s=cw:=by rw[n.o];simp
   have p:=cz Y;clear Y
   go_wp2_with first|(refine(F.o _).mono ?_;rintro e W ⟨B,rfl,H,a⟩;have G:=cz H;replace S:=S.cP a;clear H a)|(refine mu ?_;exact⟨_,by rw[p.o];rfl,by rw[p.o];rfl,S.b⟩)|refine fO ?_|refine fu λW S=>?_
  |some b=>
   rw[a,show gq 61 (cu b)=0 from rfl] at F;rw[a] at n;have a2:kb b:=by
    unfold kD at a;split at a;· cases a;exact Un u
    . cases a
   obtain⟨r,hr⟩:=dG (PZ b s);have j:=ajJ b s r hr;rw[<-Z.o] at j;have HQ:=cz j;have d:kf s=if r=cx then cu u else cw:=by
    rw[n.o,<-hr,aa3 a2 l];by_cases h:b=s<;>simp[h]
   clear j hr
   go_upto_region 12 with(first|(refine(F.o _).mono ?_;rintro e W ⟨B,rfl,H,a⟩;have G:=cz H;replace S:=S.cP a;clear H a)|refine fO ?_|refine fu λW S=>?_)
   have j:=HQ.o;rw[show(cu b).getD fN=b from rfl] at G;rw[<-G.o] at j;cases r with
   |false=>
    have p:=cz (show kf s=cw from d);clear d
    go_wp2_with (first
   |(first|refine jj 60 36 9 S 0 G.o ?_|refine jj 61 36 1 S 6 Z.o ?_)
   |(refine mu ?_;exact⟨_,by rw[p.o];rfl,by rw[p.o];rfl,S.b⟩)
   |refine fu λW S=>?_)
   |true=>
    have p:=cz (show kf s=cu u from d);clear d
    go_wp2_with first|(first|refine jj 60 36 9 S 0 G.o ?_|refine jj 61 36 1 S 6 Z.o ?_)|(refine mu ?_;exact⟨_,by rw[p.o];rfl,by rw[p.o];rfl,S.b⟩)|refine fO ?_|refine fu λW S=>?_
end
def XJ:Ren:=⟨fun|6=>189|15=>157|14=>237|28=>217|29=>218|20=>267|21=>268|22=>269|23=>270|24=>271|25=>272|26=>273|27=>274|46=>284|47=>251|48=>252|49=>285|50=>286|57=>290|n=>n,fun|22=>230|24=>143|25=>284|3=>3|39=>222|0=>0|53=>104|55=>82|4=>4|46=>304|45=>303|50=>156|5=>5|9=>9|66=>339|70=>342|76=>356|77=>357|n=>n,fun|n=>n⟩
def air:SlLaysF0.n6 prog XJ:={
 mixed:=dC
 f6:=⟨f189.name,by decide,func189.trans (gQ cu dC)⟩
 f14:=⟨f237.name,by decide,func237.trans (gQ cu dC)⟩
 f15:=func157.trans (gQ cu dC)
 f20:=⟨f267.name,by decide,func267.trans (gQ cu dC)⟩
 f21:=⟨f268.name,by decide,func268.trans (gQ cu dC)⟩
 f22:=⟨f269.name,by decide,func269.trans (gQ cu dC)⟩
 f23:=⟨f270.name,by decide,func270.trans (gQ cu dC)⟩
 f24:=⟨f271.name,by decide,func271.trans (gQ cu dC)⟩
 f25:=⟨f272.name,by decide,func272.trans (gQ cu dC)⟩
 f26:=⟨f273.name,by decide,func273.trans (gQ cu dC)⟩
 f27:=⟨f274.name,by decide,func274.trans (gQ cu dC)⟩
 f28:=func217.trans (gQ cu dC)
 f29:=func218.trans (gQ cu dC)
 f46:=⟨f284.name,by decide,func284.trans (gQ cu dC)⟩
 f47:=func251.trans (gQ cu dC)
 f48:=func252.trans (gQ cu dC)
 f49:=⟨f285.name,by decide,func285.trans (gQ cu dC)⟩
 f50:=⟨f286.name,by decide,func286.trans (gQ cu dC)⟩
 f57:=⟨f290.name,by decide,func290.trans (gQ cu dC)⟩
 t0:=underlying0
 a0:=isAgg0
 z0:=sizeOf0
 v0:=zeroValue0
 t3:=vR
 a3:=isAgg3
 z3:=sizeOf3
 v3:=zeroValue3
 t4:=underlying4
 a4:=isAgg4
 z4:=sizeOf4
 v4:=zeroValue4
 t5:=yN
 a5:=isAgg5
 z5:=sizeOf5
 v5:=zeroValue5
 t9:=yV
 a9:=isAgg9
 z9:=sizeOf9
 v9:=zeroValue9
 t22:=underlying230
 a22:=isAgg230
 z22:=sizeOf230
 v22:=zeroValue230
 t25:=underlying284
 a25:=isAgg284
 z25:=sizeOf284
 v25:=zeroValue284
 t39:=underlying222
 a39:=isAgg222
 z39:=sizeOf222
 v39:=zeroValue222
 t45:=underlying303
 a45:=isAgg303
 z45:=sizeOf303
 v45:=zeroValue303
 t46:=underlying304
 a46:=isAgg304
 z46:=sizeOf304
 v46:=zeroValue304
 t50:=underlying156
 a50:=isAgg156
 z50:=sizeOf156
 v50:=zeroValue156
 t53:=underlying104
 a53:=isAgg104
 z53:=sizeOf104
 v53:=zeroValue104
 t55:=underlying82
 a55:=isAgg82
 z55:=sizeOf82
 v55:=zeroValue82
 t66:=underlying339
 a66:=isAgg339
 z66:=sizeOf339
 v66:=zeroValue339
 t70:=underlying342
 a70:=isAgg342
 z70:=sizeOf342
 v70:=zeroValue342
 t76:=underlying356
 a76:=isAgg356
 z76:=sizeOf356
 v76:=zeroValue356
 t77:=underlying357
 a77:=isAgg357
 z77:=sizeOf357
 v77:=zeroValue357}
def Us:Ren:=⟨fun|125=>157|128=>217|129=>218|n=>n,fun|46=>222|3=>3|51=>104|53=>82|4=>4|5=>5|9=>9|n=>n,fun|n=>n⟩
def bitsLen:Lays.n125 prog Us:={
 mixed:=dC
 f125:=func157.trans (gQ cu dC)
 f128:=func217.trans (gQ cu dC)
 f129:=func218.trans (gQ cu dC)
 t3:=vR
 a3:=isAgg3
 z3:=sizeOf3
 v3:=zeroValue3
 t4:=underlying4
 a4:=isAgg4
 z4:=sizeOf4
 v4:=zeroValue4
 t5:=yN
 a5:=isAgg5
 z5:=sizeOf5
 v5:=zeroValue5
 t9:=yV
 a9:=isAgg9
 z9:=sizeOf9
 v9:=zeroValue9
 t46:=underlying222
 a46:=isAgg222
 z46:=sizeOf222
 v46:=zeroValue222
 t51:=underlying104
 a51:=isAgg104
 z51:=sizeOf104
 v51:=zeroValue104
 t53:=underlying82
 a53:=isAgg82
 z53:=sizeOf82
 v53:=zeroValue82}
theorem xp{α β:Type}{f:α->List β}{k:Nat}(a:∀x,(f x).n=k)(l:List α):(l.flatMap f).n=l.n*k:=by induction l<;>grind
theorem flat_get{α β:Type}{f:α->List β}{k:Nat}(c:∀x,(f x).n=k)(l:List α){i:Nat}(hi:i<l.n){j:Nat}(b:j<k):(l.flatMap f)[i*k+j]?=(f l[i])[j]?:=by induction l generalizing i with|nil=>simp at hi|cons a l ih=>rw[Bu];cases i<;>grind
def Ut(u:qZ):List c7:=(cM 7 (k7 u)).t
theorem Ez(u:qZ):(Ut u).n=7:=by rfl
def Ti(l:List qZ):List c7:=l.flatMap Ut
theorem agF(u:qZ):∀v∈Ut u,v.oneCell'=cx:=by grind[oD,uk,Array.all_eq_true_iff_forall_mem,Ut]
instance in5c214 :Inhabited qZ:=⟨lR⟩
theorem Mx{α:Type}[Inhabited α]{f:α->List c7}{k:Nat}(b:∀x,(f x).n=k)(a:0<k)(d:Array α):(Sort.flatK f k d).t=d.t.flatMap f:=by apply xL;intro t;by_cases c:t<d.s*k;grind[div_lt_iff_lt_mul,mod_lt,div_add_mod,Nat.mul_comm,flat_get,Sort.flatK];grind[Array.length_toList,Sort.size_flatK,xp]
section
open Go.Sort
theorem abb{g cap:Nat}(h:w.ownsRow base e z (bX (cu ⟨g,0,cw⟩) n cap) n xs)(F:gJ)(i:F.t=xs):Holds id w g 0 F:=by
 intro j d;have a:j<xs.n:=by grind
 have hc:=h.cells (g:=g) ae j xs[j] (jG a);rw[show(⟨g,0,cw⟩:Addr).add j=⟨g,j,cw⟩ from by grind[Addr.add]] at hc;rw[pM,getElem!_pos F j d];refine⟨by grind,?_⟩;rcases h.2 with⟨c,_⟩|⟨f,b,cur,c,_,k,_⟩<;>grind[World.frozen?]
theorem XK{g cap:Nat}{c:List c7}{os:Array Obj}(h:w.ownsRow base e z (bX (cu ⟨g,0,cw⟩) n cap) n xs)(F:gJ)(l:F.t=c)(s:c.n=xs.n):
 (grow (putRow id (Sort.ahead w m) g 0 F) os).ownsRow base e z (bX (cu ⟨g,0,cw⟩) n cap) n c/\w.grownBy (grow (putRow id (Sort.ahead w m) g 0 F) os) (cu g):=by have b:=h.1;rcases h.2 with⟨a,_⟩|⟨v,d,cur,a,p,q,f,i,j,x⟩;cases a;(cases a;have r:g<w.h.s:=(rI.1 q).1;have o:F.s=n*z:=by grind);have t:n*z<=cap*z:=I0 z f;refine⟨⟨by rw[s,b],.inr ⟨g,cap,putCells id 0 F cur,ae,p,?_,f,i,by simp[putCells,j],?_⟩⟩,⟨ae,ae,ae,by simp,λk y u=>?_⟩⟩;grind[heap_grow_old,putRow,mapBlock,Sort.ahead,onCells];rw[<-l];apply xL;grind[putCells];grind[heap_grow_old,putRow,mapBlock,Sort.ahead]
end
def Hf(a b:Nat):Int:=if a<b then -1 else if b<a then 1 else 0
section
attribute[local irreducible]wpList Code.wp Calls Oper.wp wpAnyH
def abc(a:Nat)(w:cS):CP_ 238 #[bU ct a] w λe w'=>e=cj (bZ cy)/\w=w':=by go_enter func238,ntmps238;go_wp2;go_ret;exact⟨by simp,ae⟩
def adU(a b:Nat)(w:cS):CP_ 191 #[bU ct a,bU ct b] w λe w'=>e=cj (bU cq (Hf a b))/\w=w':=by
 go_enter func191,ntmps191;go_wp2_with (go_at_call 238;refine(abc _ _).mono ?_;rintro e W ⟨rfl,rfl⟩);all_goals go_ret
 all_goals(refine⟨gQ (λx=>Ending.returned (bU cq x)) ?_,ae⟩;unfold Hf)
 rw[c8 cN];omega;omega
theorem iQ.ail{b:Nat}{t:dW}{v:Dv}(h:iQ w D v)(d:jZ b w w')(g:iy w b=cu t)(_:gZ t=cy)(c:lQ t=cy∨b∉oT w D):iQ w' D v:=by
 have⟨l,hl⟩:=h.open;have a:b∉l:=by rcases c with a|a;intro f;have⟨u,hu,c⟩:=hl.ty b f;grind;rw[hl.oT] at a;exact a
 exact(hl.pX (qR.rO (l:=[b]) d (eN _) aZ) (λk e=>⟨hl.lt k e,by grind⟩)).shut
theorem gj(D:Nat)(v:Dv):lN (cu D) (λ_ w=>iQ w D v):=
 ⟨λh a=>iQ.cP h a,λh _=>h,λh _=>h,fun {B w w' b t} h _ a ht ho hd=>iQ.ail h a ht ho (hd.imp id λf=>f D ae),fun {B w D'} h e=>by grind[adI]⟩
def adV(D:Nat)(d:Dv)(ho:d.ops<=1000000000)(w:cS)(a:iQ w D d):CP_ 226 #[bW (cu ⟨D,0,cw⟩)] w λe w'=>e=cj (bU cq (fH d).2)/\iQ w' D (fH d).1/\Fr (cu D) [] w w':=by have⟨l,hl⟩:=a.open;exact(ado D d l ho w hl).mono λe w' h=>⟨h.1,h.2.shut,h.2.fr hl []⟩
def adW(D:Nat)(d:Dv)(ho:d.ops<=1000000000)(i:Int)(s:cV)(c:kb s)(A:gJ)(b:A=cM 128 (di s))(w:cS)(a:iQ w D d):CP_ 227 #[bW (cu ⟨D,0,cw⟩),bU cq i,bV A] w λe w'=>e=cj (bU cq (gw d i s).2)/\iQ w' D (gw d i s).1/\Fr (cu D) [] w w':=by have⟨l,hl⟩:=a.open;exact(adl D d l ho i s c A b w hl).mono λe w' h=>⟨h.1,h.2.shut,h.2.fr hl []⟩
def ahM(D:Nat)(d:Dv)(i:Int)(hi:eT i)(w:cS)(a:iQ w D d):CP_ 165 #[bW (cu ⟨D,0,cw⟩),bU cq i] w λe w'=>∃A,e=cj (cg #[bV A,bU cq (iq d i).2.2])/\A=cM 128 (di (iq d i).2.1)/\iQ w' D (iq d i).1/\Fr (cu D) [] w w':=by have⟨l,hl⟩:=a.open;exact(agi D d l i hi w hl).mono λe w' h=>by have⟨A,h1,h2,h3⟩:=h;exact⟨A,h1,h2,h3.shut,h3.fr hl []⟩
theorem Kc(d:Dv):(fH d).1.ops<=d.ops+1:=by grind[fH,fm,xi]
def dP(d:Dv)(u:qZ):Dv×Int:=match kD u with
 |none=>(d,61)
 |some b=>
  if(fH d).2≠0 then fH d else
  if(gw (fH d).1 ((u.kJ%4:Nat):Int) b).2≠0 then gw (fH d).1 ((u.kJ%4:Nat):Int) b else
  fH (gw (fH d).1 ((u.kJ%4:Nat):Int) b).1
def My(D:Nat)(d:Dv)(F:d.ops<=999999000)(u:qZ)(A:oP u)(w:cS)(a:iQ w D d):CP_ 170 #[bW (cu ⟨D,0,cw⟩),bV (cM 7 (k7 u))] w λe w'=>e=cj (bU cq (dP d u).2)/\iQ w' D (dP d u).1/\Fr (cu D) [] w w':=by
 obtain⟨U,E⟩:=yw (cM 7 (k7 u));have p:=cz λw=>Fi u A w;have t:=cz λw=>Uo u w;rw[<-E.o] at p t|-;clear A;have S:=St.start w (cu D) [] (gj D d) a;clear a;have s:=cz λw a=>adV D d cN w a;obtain⟨k,y⟩:=fU (u.kJ%4);rw[<-y] at t;cases c:kD u with
 |none=>
  rw[c,show gq 61 (cw:Option cV)=61 from rfl] at p;have l:Hid (dP d u=(d,61)):=cz (by unfold dP;rw[c]);go_enter func170,ntmps170
  go_wp2_with first|(go_at_call 225;refine(p.o _).mono ?_;rintro e W ⟨B,rfl,j,c⟩;have v:=cz j;replace S:=S.cP c;clear j c)|refine fO ?_|refine fu λW S=>?_
  go_ret;exact⟨by rw[l.o];rfl,by rw[l.o];exact S.x,S.fr⟩
 |some b=>
  have r:kb b:=by
   unfold kD at c;split at c
   . cases c;exact Un u
   . cases c
  rw[c,show gq 61 (cu b)=0 from rfl,show(cu b).getD fN=b from rfl] at p;have l:Hid (dP d u=if(fH d).2≠0 then fH d else if(gw (fH d).1 (k:Int) b).2≠0 then gw (fH d).1 (k:Int) b else fH (gw (fH d).1 (k:Int) b).1):=cz (by unfold dP;rw[c,y]);have h:=Kc d;rcases hfl:fH d with⟨q,c1⟩;rw[hfl] at s l h;simp only at h;have o:=zU q (k:Int) b;rcases hwr:gw q (k:Int) b with⟨d2,c2⟩;rw[hwr] at o;simp only[hwr] at l;simp only at o;have z:=cz λB j w a=>adW D q cN (k:Int) b r B j w a;rw[hwr] at z;have C:=cz λw a=>adV D d2 cN w a;clear y c hfl hwr h o F r;go_enter func170,ntmps170;by_cases m:c1=0
  case neg=>
   have g:(c1 !=0)=cx:=by simpa using m
   have f:Hid (dP d u=(q,c1)):=cz (by rw[l.o];simp[m])
   go_wp2_with first|(go_at_call 225;refine(p.o _).mono ?_;rintro e W ⟨B,rfl,j,c⟩;have v:=cz j;replace S:=S.cP c;clear j c)|(go_at_call 226;refine(s.o _ S.x).mono ?_;rintro e W ⟨rfl,i,h⟩;replace S:=S.call h (λ_ e=>e) eQ (gj D q) (λ_ _=>i);clear i h)|refine fO ?_|refine fu λW S=>?_
   go_ret;exact⟨by rw[f.o];rfl,by rw[f.o];exact S.x,S.fr⟩
  subst m
  go_upto_region 7 with(first|(go_at_call 225;refine(p.o _).mono ?_;rintro e W ⟨B,rfl,j,c⟩;have v:=cz j;replace S:=S.cP c;clear j c)|(go_at_call 226;refine(s.o _ S.x).mono ?_;rintro e W ⟨rfl,i,h⟩;replace S:=S.call h (λ_ e=>e) eQ (gj D q) (λ_ _=>i);clear i h)|refine fO ?_|refine fu λW S=>?_)
  refine eO S dC λW S=>?_;refine dh 0 _ ?_;refine dh 1 (bV U) ?_;refine dh 3 (bV B) ?_;refine kK 2 λK x=>?_
  go_wp2_with fail
  refine je S (t.o _) λW S=>?_;refine gy x ?_;refine kK 4 λK x=>?_
  go_wp2_with fail
  refine(z.o B v.o _ S.x).mono ?_;rintro e W ⟨rfl,i,h⟩;replace S:=S.call h (λ_ e=>e) eQ (gj D d2) (λ_ _=>i);clear i h;refine gy x ?_;refine dh 5 _ ?_;refine qG ?_;by_cases n:c2=0
  case neg=>
   have g:(c2 !=0)=cx:=by simpa using n
   have f:Hid (dP d u=(d2,c2)):=cz (by rw[l.o];simp[n]);go_wp2;go_ret;exact⟨by rw[f.o];rfl,by rw[f.o];exact S.x,S.fr⟩
  subst n;have f:Hid (dP d u=fH d2):=cz (by rw[l.o];simp)
  go_wp2_with (go_at_call 226;refine(C.o _ S.x).mono ?_;rintro e W ⟨rfl,i,h⟩;replace S:=S.call h (λ_ e=>e) eQ (gj D (fH d2).1) (λ_ _=>i);clear i h)
  go_ret;exact⟨by rw[f.o];rfl,by rw[f.o];exact S.x,S.fr⟩
def abd(x y:qZ)(W:cS):CP_ 190 #[bV (Ut x).toArray,bV (Ut y).toArray] W λe w'=>e=cj (bU cq (Hf x.kJ y.kJ))/\∃q b,w'=Sort.grow (W.drewN q) b:=by
 have e1:(Ut x).toArray=cM 7 (k7 x):=by simp[Ut]
 have e2:(Ut y).toArray=cM 7 (k7 y):=by simp[Ut]
 rw[e1,e2,Mr,Mr];have a:=cz λw=>adU x.kJ y.kJ w;generalize Hf x.kJ y.kJ=r at a|-;go_enter func190,ntmps190;go_wp2_with (refine(a.o _).mono ?_;rintro e w' ⟨rfl,rfl⟩);go_ret;exact⟨ae,0,_,by rw[Sort.alloc_eq_grow,Sort.alloc_eq_grow,Sort.grow_grow];rfl⟩
def oY(l:List qZ):List qZ:=(Sort.insertionSort (ltOf λx y:qZ=>Hf x.kJ y.kJ) l.toArray 0 l.toArray.s).t
theorem adX:Sort.SWO (ltOf λx y:qZ=>Hf x.kJ y.kJ):=by
 have h:∀x y:qZ,ltOf (λx y:qZ=>Hf x.kJ y.kJ) x y=decide (x.kJ<y.kJ):=by grind[ltOf,Hf]
 refine⟨λx=>?_,λx y z=>?_,λx y z=>?_⟩<;>simp only[h,qQ,QS]<;>omega
theorem sF(l:List qZ):(oY l).Perm l:=by
 have h:=(Sort.insertionSort_holds adX l.toArray 0 l.toArray.s (gG _) (eN _)).1;have a:=h.1;have b:=h.2.2;unfold oY;have e1:∀d:Array qZ,d.extract 0 d.s=d:=λd=>by simp
 grind
def Zn(n:Nat)(W:cS)(h:n<=12):CP_ 157 #[bU ct n] W λe w'=>(∃l:Int,e=cj (bU cq l))/\w'=W:=
 (Any.bits_Len bitsLen n W cN cN).mono λ_ _ ⟨he,hw⟩=>⟨⟨_,he⟩,hw⟩
def agG(f:c7)(w:cS):CP_ 267 #[bX cw 0 0,bU cq 0,bU cq 0,f] w λe w'=>e=cj (cg #[])/\w=w':=by go_enter func267,ntmps267;go_wp2_with fail;go_loopw [8] (λi wr=>i=bU cq 1/\w=wr) (λ_ _=>0);exact aE;obtain⟨rfl,rfl⟩:=hrel;go_wp2;go_end0;exact aE
def agH(f:c7)(n:Int)(w:cS):CP_ 237 #[bX cw 0 0,bU cq 0,bU cq 0,bU cq n,f] w λe w'=>e=cj (cg #[])/\w=w':=by go_enter func237,ntmps237;go_wp2_with fail;go_loopw [1,2] (λa b wr=>a=bU cq 0/\b=bU cq 0/\w=wr) (λ_ _ _=>0);exact⟨ae,ae,ae⟩;obtain⟨rfl,rfl,rfl⟩:=hrel;go_wp2_with (refine(agG _ _).mono ?_;rintro e w' ⟨rfl,rfl⟩);refine iI (vQ ae _ _ _) ae ⟨ae,ae⟩
def adY(f:c7)(w:cS):CP_ 189 #[bX cw 0 0,f] w λe w'=>e=cj (cg #[])/\w=w':=by go_enter func189,ntmps189;go_wp2_with (first|(refine(Zn 0 _ cN).mono ?_;rintro e w' ⟨⟨l,rfl⟩,rfl⟩)|(refine(agH _ _ _).mono ?_;rintro e w' ⟨rfl,rfl⟩));go_end0;exact aE
theorem XL{L:List R4}{O:List O4}(S:St w0 d l L O X w)(k:Nat){a:List qZ}(r:O[k]?=cu ⟨143,7,v,a.n,Ti a⟩)(u:a.n<=12):
 CP_ 189 #[v,.func (.func 190) #[] #[]] w λe w'=>e=cj (cg #[])/\St w0 d l L (O.set k ⟨143,7,v,a.n,Ti (oY a)⟩) X w':=by have ho:=S.uV r;have i:=(sF a).length_eq;rcases ho.2 with⟨o,j⟩|⟨g,cap,cur,o,D,C,_⟩;(have b:v=bX cw 0 0:=o;subst b;have t:a=[]:=yj j;subst t;refine(adY _ w).mono λe w' h=>?_;obtain⟨q,rfl⟩:=h;refine⟨q,?_⟩;have e1:O.set k ⟨143,7,bX cw 0 0,([]:List qZ).n,Ti (oY [])⟩=O:=by rw[show oY []=[] from Perm.eq_nil (sF [])];apply xL;grind);grind;(have b:v=bX (s_ g 0) a.n cap:=o;subst b;have A:(Sort.flatK Ut 7 a.toArray).t=Ti a:=by grind[Mx,Ez,Ti]);(have p:(Sort.flatK Ut 7 (Sort.insertionSort (ltOf λx y:qZ=>Hf x.kJ y.kJ) a.toArray 0 a.toArray.s)).t=Ti (oY a):=by rw[Mx Ez cN];rfl);have B:Sort.HoldsK Ut 7 w g 0 a.toArray:=abb ho _ A;have s:∀args w,(callFunc 190 args).run prog w=.ok (.enter 190 args) w:=enters_of func190 dC ae;have c:CmpLays prog 190 #[] Ut 7 (λx y=>Hf x.kJ y.kJ) g 0 a.toArray.s w:=λ_ _ _ _ x y=>abd x y _;have f:=AnyQ.slices_SortFunc_small air 7 isAgg143 sizeOf143 Ut Ez agF (λx y=>Hf x.kJ y.kJ) 190 #[] g 0 cap a.toArray w s c B (rI.1 C).1 cN Zn;refine Calls.mono (show CP_ 189 #[bX (s_ g 0) a.n cap,.func (.func 190) #[] #[]] w _ from f) λe w' h=>?_;have⟨q,n,os,hw⟩:=h;have j:=XK (m:=n) (os:=os) ho _ p (by rw[show(Ti (oY a)).n=_ from xp Ez _,show(Ti a).n=_ from xp Ez _,i]);have z:w'=Sort.grow (Sort.putRow id (Sort.ahead w n) g 0 (Sort.flatK Ut 7 (Sort.insertionSort (ltOf λx y:qZ=>Hf x.kJ y.kJ) a.toArray 0 a.toArray.s))) os:=hw;rw[z];exact⟨q,S.grow r j.2 j.1 ae aD⟩
def rT(x:Dv×List qZ)(i:Nat):Dv×List qZ:=
 if(iq x.1 (i:Int)).2.2≠0 then((iq x.1 (i:Int)).1,x.2) else
 match kf (iq x.1 (i:Int)).2.1 with
 |none=>((iq x.1 (i:Int)).1,x.2)
 |some u=>if u.kJ%4=i then((iq x.1 (i:Int)).1,x.2++[u]) else((iq x.1 (i:Int)).1,x.2)
def ki(d:Dv)(k:Nat):Dv×List qZ:=(range k).foldl rT (d,[])
def yW(d:Dv):Dv×List qZ:=((ki d 4).1,oY (ki d 4).2)
theorem DE(d:Dv)(k:Nat):ki d (k+1)=rT (ki d k) k:=by grind[ki,range_succ]
theorem RE(x:Dv×List qZ)(i:Nat):(rT x i).2.n<=x.2.n+1:=by grind[rT]
theorem Gl(d:Dv)(k:Nat):(ki d k).2.n<=k:=by induction k<;>grind[ki,DE,RE]
def agI:(prog.info? 143).map (λi=>(i.zero,i.s,i.bytes))=cu (cu (bV #[bU ct 0,bU ct 0,bU cq 0,bU ct 0,bU .u32 0,bU cq 0,bU cq 0]),7,56):=dC
def Zm:xm prog 230 143 7 56:=⟨underlying230,_,agI,ae,cN⟩
theorem XM(l m:List qZ):Ti (l++m)=Ti l++Ti m:=by grind[Ti]
theorem agJ(u:qZ):Ti [u]=(cM 7 (k7 u)).t:=by rfl
theorem RF(D:Nat)(d:Dv)(w:cS)(a:iQ w D d):CP_ 145 #[bW (cu ⟨D,0,cw⟩)] w λe w'=>∃v,e=cj v/\w'.ownsRow w.h.s 143 7 v (yW d).2.n (Ti (yW d).2)/\iQ w' D (yW d).1/\Fr (cu D) [] w w':=by
 have S:=(St.start w (cu D) [] (gj D d) a).Jn 143 7 rfl rfl;clear a;have S:=cz S;go_enter func145,ntmps145;go_wp2_with fail;go_loopw [3,9] (λv i wr=>∃k:Nat,k<=4/\i=bU cq k/\Hid (St w (cu D) [] [] [⟨143,7,v,(ki d k).2.n,Ti (ki d k).2⟩] (λ_ w=>iQ w D (ki d k).1) wr)) (λ_ i _=>4-(intOf i).m);exact⟨0,cN,rfl,S⟩;clear S;obtain⟨k,R,rfl,hS⟩:=hrel;by_cases Q:k<4
 . have S:=hS.o;clear hS;have f:=Gl d k;have b:=cz (DE d k);generalize ki d k=x at S b f;obtain⟨q,t⟩:=x;simp only at S f;have H:=cz λw a=>ahM D q (k:Int) ⟨cN,cN⟩ w a;have r:rT (q,t) k=if(iq q (k:Int)).2.2≠0 then((iq q (k:Int)).1,t) else match kf (iq q (k:Int)).2.1 with
    |none=>((iq q (k:Int)).1,t)
    |some u=>if u.kJ%4=k then((iq q (k:Int)).1,t++[u]) else((iq q (k:Int)).1,t):=rfl
   have C:=Jh S.x.ok (k:Int);rcases hrd:iq q (k:Int) with⟨y,s,c⟩;rw[hrd] at H r C;simp only at r C;have p:=cz r;clear r hrd;by_cases hc:c=0;case neg=>(have g:(c !=0)=cx:=by simpa using hc);have B:Hid (ki d (k+1)=(y,t)):=cz (by rw[b.o,p.o,c8 hc]);go_wp2_with (first|(refine(H.o _ S.x).mono ?_;rintro e W ⟨A,rfl,j,l,z⟩;have F:=cz j;replace S:=S.call z (λ_ e=>e) eQ (gj D y) (λ_ _=>l);clear l j)|refine fu λW S=>?_);go_roundw;exact⟨k+1,cN,by go_num,by rw[B.o];exact cz S.pop⟩;exact qN
   subst hc;have E:=cz λw=>RC s C w;obtain⟨L,M⟩:(kf s).isSome=(kf s).isSome/\True:=⟨rfl,iC⟩;clear L M;cases J:kf s with
   |none=>rw[J,show(cw:Option qZ).isSome=cy from rfl] at E;have B:Hid (ki d (k+1)=(y,t)):=cz (by rw[b.o,p.o,cX eQ,J]);go_wp2_with (first|(refine(H.o _ S.x).mono ?_;rintro e W ⟨A,rfl,j,l,z⟩;have F:=cz j;replace S:=S.call z (λ_ e=>e) eQ (gj D y) (λ_ _=>l);clear l j;rw[<-F.o] at E)|(refine(E.o _).mono ?_;rintro e W ⟨U,rfl,G,N⟩;have K:=cz G;replace S:=S.cP N;clear G)|refine fO ?_|refine fu λW S=>?_);go_roundw;exact⟨k+1,cN,by go_num,by rw[B.o];exact cz S.pop.pop⟩;exact qN
   |some u=>
    (rw[J,show(cu u).isSome=cx from rfl,show(cu u).getD lR=u from rfl] at E;obtain⟨U,G⟩:=fU (cM 7 (k7 u));have I:=cz λw=>Uo u w;rw[<-G] at I;have K:=cz G;have o:=cz λw=>(E.o w).mono λe w' h=>show e=cj (cg #[bV U,bZ cx])/\dS w w' by grind);clear G E;by_cases n:u.kJ%4=k
    . have B:Hid (ki d (k+1)=(y,t++[u])):=cz (by rw[b.o,p.o,cX eQ,J];simp only;rw[c8 n]);rw[n] at I;clear n;go_wp2_with (first|(first|refine jj 27 143 7 S 0 K.o ?_)|(refine(H.o _ S.x).mono ?_;rintro e W ⟨A,rfl,j,l,z⟩;have F:=cz j;replace S:=S.call z (λ_ e=>e) eQ (gj D y) (λ_ _=>l);clear l j;rw[<-F.o] at o)|refine je S (o.out _) λW S=>?_|refine je S (I.o _) λW S=>?_|refine tE S 0 rfl 0 rfl rfl rfl rfl Zm (uk _) CU xY λg cap W S=>?_|refine fO ?_|refine fu λW S=>?_);go_roundw;exact⟨k+1,cN,by go_num,by rw[B.o,jv,XM,agJ];exact cz S.pop.pop.pop⟩;exact qN
    . (have B:Hid (ki d (k+1)=(y,t)):=cz (by rw[b.o,p.o,cX eQ,J];simp only;rw[cX n]);have g:(((u.kJ%4:Nat):Int)==(k:Int))=cy:=by rw[lr];omega);generalize u.kJ%4=m at I g n;go_wp2_with (first|(first|refine jj 27 143 7 S 0 K.o ?_)|(refine(H.o _ S.x).mono ?_;rintro e W ⟨A,rfl,j,l,z⟩;have F:=cz j;replace S:=S.call z (λ_ e=>e) eQ (gj D y) (λ_ _=>l);clear l j;rw[<-F.o] at o)|refine je S (o.out _) λW S=>?_|refine je S (I.o _) λW S=>?_|refine fO ?_|refine fu λW S=>?_);go_roundw;exact⟨k+1,cN,by go_num,by rw[B.o];exact cz S.pop.pop⟩;exact qN
 . obtain rfl:k=4:=cN;have S:=hS.o;have f:=Gl d 4;clear hS;go_wp2_with (refine(XL S 0 rfl (ik f cN)).mono ?_;rintro e W ⟨rfl,hS⟩;clear S;have S:=hS;clear hS);go_ret;have O:=(sF (ki d 4).2).length_eq;refine⟨_,rfl,?_,S.x,S.fr⟩;show World.ownsRow _ _ _ _ _ (oY (ki d 4).2).n (Ti (oY (ki d 4).2));rw[O];exact S.o0
def eZ(d:Dv):Dv×Option qZ:=((yW d).1,(yW d).2.getLast?)
def agK(l:List qZ)(hi:i<l.n){A:gJ}(a:A=cM 7 (k7 l[i])):∀j,j<7->(Ti l)[i*7+j]?=A[j]?:=by intro j b;unfold Ti;rw[flat_get Ez l hi b,a];simp[Ut]
theorem adZ(h:w.ownsRow base e z v 0 xs):v=bX cw 0 0∨∃g c,v=bX (cu ⟨g,0,cw⟩) 0 c:=by rcases h.2 with⟨a,_⟩|⟨g,cap,cur,a,_⟩<;>grind
def Hg(D:Nat)(d:Dv)(w:cS)(a:iQ w D d):CP_ 83 #[.pointer (some ⟨D,0,none⟩)] w λe w'=>∃U,e=.returned (.tuple #[.agg U,.bool (eZ d).2.isSome])/\U=cM 7 (k7 ((eZ d).2.getD lR))/\iQ w' D (eZ d).1/\Fr (some D) [] w w':=by
 have S:=St.start w (some D) [] (gj D d) a;clear a;have f:=cz λw a=>RF D d w a;rcases hl:yW d with⟨q,b⟩;rw[hl] at f;simp only at f;have z:b.length<=4:=by have G:=(sF (ki d 4).2).length_eq;have H:=Gl d 4;have s:(yW d).2=oY (ki d 4).2:=rfl;rw[hl] at s;simp only at s;rw[s];omega
 have p:Hid (eZ d=(q,b.getLast?)):=cz (by unfold eZ;rw[hl]);clear hl;go_enter func83,ntmps83;by_cases r:b=[];subst r;rotate_left;obtain⟨n,B⟩:∃n,b.length=n+1:=⟨b.length-1,by have:=Bw.2 r;omega⟩;obtain⟨u,C⟩:∃u,b[n]?=some u:=⟨b[n]'cN,jG cN⟩;have y:b.getLast?=some u:=by rw[getLast?_eq_getElem?,B];exact C
 rw[y] at p;obtain⟨U,x⟩:=fU (cM 7 (k7 u));have E:=cz x;have m:=cz (agK b (i:=n) cN (A:=U) jH);rw[B] at f;clear x y C r;have F:IntKind.i64.wrap ((n:Int)+1-1)=(n:Int):=by rw[kX _ cN];omega
 all_goals
  go_wp2_with first|(go_at_call 145;refine(f.o _ S.x).mono ?_;rintro e W ⟨v,rfl,ho,k,l⟩;have h:=S.um l (λ_ e=>e) eQ (gj D q) (λ_ _=>k) ho rfl rfl;clear S;have S:=h;clear h k l ho;have t:v=.slice none 0 0∨∃g c,v=.slice (s_ g 0) 0 c:=adZ S.o0;rcases t with rfl|⟨g,c,rfl⟩)|(go_at_call 145;refine(f.o _ S.x).mono ?_;rintro e W ⟨v,rfl,ho,k,l⟩;have h:=S.um l (λ_ e=>e) eQ (gj D q) (λ_ _=>k) ho rfl rfl;clear S;have S:=h;clear h k l ho;have t:∃g c,v=.slice (s_ g 0) (n+1) c:=DC S.o0 (succ_pos n);obtain⟨g,c,rfl⟩:=t)|((with_reducible refine xC 16 143 15 ?_);refine ajK (o:=0) S.q0 (j:=n) (lt_succ_self n) (by rw[pM];rfl) (vx E) m.o Fh ?_)|refine fu λW S=>?_|(refine mu ?_;exact⟨_,by rw[p.o];rfl,by rw[p.o];rfl,by rw[p.o];exact S.x,S.fr⟩)
def yX(q:cQ):Bool:=decide (q≠cY)&&im q
def Uu(q:cQ)(A:gJ)(c:A=cM 3 (dE q))(w:cS):sW 236 #[bV A] w (bZ (yX q)):=by have e:=cz λw=>yE q w;have⟨b,hb⟩:=dG (decide (q=cY));have d:=F7 q cY b hb;rw[dk c] at d e;have g:∀w,(binOp .neq 106 (bV A) (bV #[bU cq 0,bU ct 0,bU .u32 0])).run prog w=.ok (bZ !b) w:=d;clear d;have f:=cz c;clear c;have S:=qP w;cases b with|true=>have a:Hid (yX q=cy):=cz (by unfold yX;simp[mj hb]);clear hb;go_enter func236,ntmps236;go_wp2_with (first|refine fO ?_|refine fu λW S=>?_);go_ret;exact⟨by rw[a.o];rfl,S.b⟩|false=>have a:Hid (yX q=im q):=cz (by unfold yX;simp[ym hb]);clear hb;go_enter func236,ntmps236;go_wp2_with (first|(first|refine jj 7 106 1 S 0 f.o ?_)|refine je S (e.o _) λW S=>?_|refine fO ?_|refine fu λW S=>?_);go_ret;exact⟨by rw[a.o];rfl,S.b⟩
def ajS(p:cQ):List c7:=(cM 3 (dE p)).t
theorem yY(p:cQ):(ajS p).n=3:=by rfl
def kG(l:List cQ)(hi:i<l.n){A:gJ}(a:A=cM 3 (dE l[i])):∀j,j<3->(iZ l)[i*3+j]?=A[j]?:=by intro j b;unfold iZ;rw[flat_get (f:=λp=>(cM 3 (dE p)).t) yY l hi b,a];simp
def tP(l:List cQ)(i:Nat):Bool:=yX (l.getD i cY)&& (decide (i=0)||nY (l.getD (i-1) cY) (l.getD i cY))
def ou(l:List cQ):Bool:=(range l.n).all (tP l)
theorem P8{l:List cQ}(a:k<l.n)(h:tP l k=cy):ou l=cy:=by unfold ou;grind
theorem XN{l:List cQ}(h:∀k,k<l.n->tP l k=cx):ou l=cx:=by grind[ou]
theorem RG{l:List α}(a:k<l.n)(x:α):l.getD k x=l[k]:=by grind
theorem dQ(h:dg w e z v n xs):∃ao cap,v=bX ao n cap/\n<=cap/\(0<n->∃b o,ao=cu ⟨b,o,cw⟩):=by obtain⟨_,ao,cap,a,c,_,d⟩:=h;grind
theorem ySl{x:Nat}{SS:cS->Prop}{b cap:Nat}(R:∀w,SS w->dg w e z (bX (cu ⟨b,o,cw⟩) n cap) n xs)(r:j<n)(f:a.eval (.tmp x)=bW (cu ⟨b,o+j*z,cw⟩)){A:gJ}(m:A.s=z)(p:∀i,i<z->xs[j*z+i]?=A[i]?)(c:ky P ty z)(d:Region.wanted ⟨cu dst,.load ty (.tmp x),t2,pp,af,gd⟩ (yielded ops a.tmps)=cx:=by kernel_rfl):YieldsIf P ops SS ⟨cu dst,.load ty (.tmp x),t2,pp,af,gd⟩ (bV A) a:=by
 have⟨⟨dd,hu,hd⟩,hi⟩:=c;have h:=yieldsIf_load_mid (P:=P) (S:=SS) (op:=⟨cu dst,.load ty (.tmp x),t2,pp,af,gd⟩) (ops:=ops) d ty (.tmp x) ae b _ f A.t dd (λw h=>by
  have⟨h1,ao,cap',h2,h3,h4,h5⟩:=R w h;obtain⟨g,o',k,l,rfl,q,hc⟩:=h5 cN;cases h2;intro i v s
  grind[cell_of_row]) hu hd jH
 omega
theorem Al(l:List cQ)(v:c7)(w:cS)(J:l.n<=1000000000)(R:ly w v l):sW 244 #[v] w (bZ (ou l)):=by
 obtain⟨ao,cap,rfl,C,n⟩:=dQ R;have R:=cz R;have n:=cz n;have S:=cz (qP w);go_enter func244,ntmps244;go_wp2_with fail;go_loopw [7] (λi wr=>∃k:Nat,k<=l.n/\i=bU cq k/\Hid ((∀j,j<k->tP l j=cx)/\St w cw [] [] [] (λ_ _=>True) wr)) (λi _=>l.n-(intOf i).m);exact⟨0,cN,ae,λj t=>absurd t (vz _),S.o⟩;clear S;obtain⟨k,I,rfl,hS⟩:=hrel;by_cases a:k<l.n
 . obtain⟨b,o,rfl⟩:=n.o cN;have⟨hS,S⟩:=hS.o;have hS:=cz hS;have⟨q,hq⟩:=dG (l[k]);have⟨A,hA⟩:=fU (cM 3 (dE q));have e:=cz (kG l a (A:=A) am7);have u:=cz hA;have s:=cz (Uu q A hA);have c:tP l k=(yX q&& (decide (k=0)||nY (l.getD (k-1) cY) q)):=by unfold tP;rw[RG a,hq]
   have c:=cz c;clear hA hq;cases D:yX q with
   |false=>rw[D] at s c;go_upto_region 4 with(first|refine CB (R.o.cP S.b) a (vx u) e.o ?_|refine fu λW S=>?_);refine eO S dC λW S=>?_;refine dh 0 (bV A) ?_;refine kK 1 λK m=>?_;go_wp2_with fail;refine je S (s.o _) λW S=>?_;refine gy m ?_;refine dh 2 (bZ cx) ?_;refine dh 3 _ ?_;refine pP 4 ?_;refine pP 5 ?_;refine pP 6 ?_;refine pP 7 ?_;refine pP 8 ?_;refine pP 9 ?_;refine pP 10 ?_;refine pP 11 ?_;refine pP 12 ?_;refine pP 13 ?_;refine pP 14 ?_;refine pP 15 ?_;refine dh 16 (bZ cx) ?_;refine qG ?_;go_wp2;go_ret;exact⟨by rw[P8 a (by rw[c.o];rfl)];rfl,S.b⟩
   |true=>
    rw[D] at s c;by_cases f:k=0;have g:Hid (tP l k=cx):=cz (by rw[c.o];simp[f]);have x:=cz f;clear f;go_upto_region 4 with(first|refine CB (R.o.cP S.b) a (vx u) e.o ?_|refine fu λW S=>?_);refine eO S dC λW S=>?_;refine dh 0 (bV A) ?_;refine kK 1 λK m=>?_;go_wp2_with fail;(refine je S (s.o _) λW S=>?_;refine gy m ?_;refine dh 2 (bZ cy) ?_;refine dh 3 _ ?_;refine dh 4 _ ?_;refine ij 5 (bZ cy) ae (Or.inl ⟨dC,λw E=>by have z:=x.o;go_simp⟩) ?_;refine dh 6 _ ?_;refine pP 7 ?_;refine pP 8 ?_;refine pP 9 ?_;refine pP 10 ?_;refine pP 11 ?_;refine pP 12 ?_;refine pP 13 ?_;refine pP 14 ?_;refine dh 15 (bZ cy) ?_;refine dh 16 (bZ cy) ?_;refine qG ?_;have d:∀j,j<k+1->tP l j=cx:=λj t=>by rcases Df.1 t with h|rfl;exact hS.o j h;exact g.o);rotate_left;have H:(k:Int)>0:=cN;obtain⟨k1,rfl⟩:∃k1,k=k1+1:=⟨k-1,cN⟩;have⟨p,hp⟩:=dG (l[k1]);have⟨B,hB⟩:=fU (cM 3 (dE p));have r:=cz (kG l (i:=k1) cN (A:=B) (by rw[hp];exact hB));have F:=cz hB;have⟨b2,hb2⟩:=dG (nY p q);have y:=cz λw=>PG p q w;rw[dk u.o,dk hB,hb2] at y;have g:Hid (tP l (k1+1)=b2):=cz jH;clear hB hp hb2 f;go_upto_region 4 with(first|refine CB (R.o.cP S.b) a (vx u) e.o ?_|refine fu λW S=>?_);refine eO S dC λW S=>?_;refine dh 0 (bV A) ?_;refine kK 1 λK m=>?_;go_wp2_with fail;refine je S (s.o _) λW S=>?_;refine gy m ?_;refine dh 2 (bZ cy) ?_;refine dh 3 _ ?_;refine dh 4 _ ?_;refine dh 5 (bZ cx) ?_;refine dh 6 _ ?_;refine dh 7 _ ?_;refine dh 8 _ ?_;refine ij 9 (bU cq k1) ae (Or.inl ⟨dC,λw E=>by have z:IntKind.i64.wrap (k1:Int)=(k1:Int):=kX _ cN;go_simp⟩) ?_;refine ij 10 (dF b (o+k1*3)) ae (Or.inl ⟨dC,λw E=>by have z:k1<l.n:=cN;go_simp⟩) ?_;refine ij 11 (bV B) ae (ySl (λw h=>by obtain⟨_,S⟩:=h;exact R.o.cP S.b) (show k1<l.n by omega) ae (vx F) r.o fL) ?_;refine dh 12 (bV A) ?_;refine kK 13 λK m=>?_;go_wp2_with fail;refine je S (y.o _) λW S=>?_;refine gy m ?_;refine dh 14 (bZ !b2) ?_;refine dh 15 (bZ !b2) ?_;refine dh 16 (bZ !b2) ?_;refine qG ?_;rcases b2 with _|_
    . go_wp2;go_ret;exact⟨by rw[P8 a g.o];rfl,S.b⟩
    have d:∀j,j<k1+1+1->tP l j=cx:=λj t=>by rcases Df.1 t with h|rfl;exact hS.o j h;exact g.o
    all_goals
     have d:=cz (And.intro d S.pop);go_wp2;go_roundw
     case rel=>first|exact⟨k+1,cN,by go_num,d⟩|exact⟨k1+1+1,cN,by go_num,d⟩
     case measure=>exact qN
 . obtain rfl:k=l.n:=cN;have⟨hS,S⟩:=hS.o;have G:=cz (XN hS);clear hS;go_wp2;go_ret;exact⟨by rw[G.o];rfl,S.b⟩
def ad0(p:cQ)(s:Nat)(A:gJ)(a:A=cM 3 (dE p))(w:cS):sW 154 #[bV A,bU ct s] w (bZ (jY p s)):=by rw[<-dk a];exact BM p s w
def oZ(l:List cQ)(st:Nat):List cQ:=l.filter λq=>!jY q st
def jQ(l:List cQ)(st:Nat):List cQ:=l.filter (jY · st)
def OH(l:List cQ)(v:c7)(st:Nat)(w:cS)(z:l.n<=1000000000)(R:ly w v l):
 CP_ 133 #[v,bU ct st] w λe w'=>∃a b,e=cj (cg #[a,b])/\ir w' w.h.s a (oZ l st)/\ir w' w.h.s b (jQ l st)/\dS w w':=by
 obtain⟨ao,cap,rfl,s,f⟩:=dQ R;have R:=cz R;have f:=cz f;have S:=cz (((qP w).Jn 106 3 ae ae).Jn 106 3 ae ae);go_enter func133,ntmps133;go_wp2_with fail;go_loopw [6,7,12] (λa b i wr=>∃k:Nat,k<=l.n/\i=bU cq k/\Hid (St w cw [] [] [⟨106,3,a,(oZ (l.take k) st).n,iZ (oZ (l.take k) st)⟩,⟨106,3,b,(jQ (l.take k) st).n,iZ (jQ (l.take k) st)⟩] (λ_ _=>True) wr)) (λ_ _ i _=>l.n-(intOf i).m);exact⟨0,cN,ae,S⟩;clear S;obtain⟨k,y,rfl,hS⟩:=hrel;by_cases c:k<l.n
 . obtain⟨b,o,rfl⟩:=f.o cN;have S:=hS.o;clear hS;have n:=zT (λq=>!jY q st) l c;have p:=zT (jY · st) l c;have u:(oZ (l.take k) st).n<=k:=ik (FR _ _) bp;have x:(jQ (l.take k) st).n<=k:=ik (FR _ _) bp;have⟨q,hq⟩:=dG (l[k]);have⟨A,hA⟩:=fU (cM 3 (dE q));have d:=cz (kG l c (A:=A) am7);have r:=cz hA;have m:=cz (ad0 q st A hA);rw[hq] at n p;have h:Hid (oZ (l.take (k+1)) st=oZ (l.take k) st++if(!jY q st)=cx then [q] else []):=cz n;have j:Hid (jQ (l.take (k+1)) st=jQ (l.take k) st++if jY q st=cx then [q] else []):=cz p;clear n p hA hq;generalize oZ (l.take k) st=M at S h u;generalize jQ (l.take k) st=N at S j x;cases t:jY q st with|false=>rw[t] at m h j;go_wp2_with (first|refine CB (R.o.cP S.b) c (vx r) d.o ?_|refine je S (m.o _) λW S=>?_|refine tE S 0 rfl 0 rfl rfl rfl rfl ib (dJ _) CU xY λg cap W S=>?_|refine fO ?_|refine fu λW S=>?_);go_roundw;exact⟨k+1,cN,by go_num,by rw[h.o,j.o];simp only[Bool.not_false,oQ,Ly,mS,wV];rw[jv,jw,qd];exact cz S.pop.pop⟩;exact qN|true=>rw[t] at m h j;go_wp2_with (first|refine CB (R.o.cP S.b) c (vx r) d.o ?_|refine je S (m.o _) λW S=>?_|refine tE S 0 rfl 1 rfl rfl rfl rfl ib (dJ _) CU xY λg cap W S=>?_|refine fO ?_|refine fu λW S=>?_);go_roundw;exact⟨k+1,cN,by go_num,by rw[h.o,j.o];simp only[Bool.not_true,oQ,Ly,mS,wV];rw[jv,jw,qd];exact cz S.pop.pop⟩;exact qN
 . obtain rfl:k=l.n:=cN;have S:=hS.o;rw[qp] at S;clear hS;go_wp2;go_ret2;exact⟨_,_,ae,S.o0,S.o1,S.b⟩
end
section
variable {L:List R4}{O:List O4}{x:Nat}
def St.made(S:St w0 d l L O X w){cap:Nat}(f:cur.s=cap*z)(c:cap<=maxLen)(a:gZ e=cy)(b:lQ e=cy):
 St w0 d l L (⟨e,z,bX (cu ⟨w.h.s,0,cw⟩) 0 cap,0,[]⟩::O) X (w.alloc (.cells cur e)):=
 S.iw ((gK _ _).alloc (eN _) _) (World.ownsRow_made w cur cap (eN _) c f) a b
theorem Kd(S:St w0 d l L O X w)(o:xm P ty e z by')(k:a.eval q=bU cq 0)(m:a.eval r=bU cq n)(s:by'*n<=281474976710656)(j:n<=maxLen)(c:gZ e=cy)(f:lQ e=cy)(h:∀g W,St w0 d l L (⟨e,z,bX (cu ⟨g,0,cw⟩) 0 n,0,[]⟩::O) X W->wpList P ops Q rest (a.put (cu dst) (bX (cu ⟨g,0,cw⟩) 0 n)) W):
 wpList P ops Q (⟨cu dst,.makeSlice ty q r,t2,p,af,cw⟩::rest) a w:=by have⟨hu,zv,hi,hz,h0⟩:=o;have⟨it,hi1,hz0,hz1,hz2⟩:=oH hi;have b:=run_make w ty e it zv hu hi1 hz0 cq cq 0 (n:Nat) cN cN jH bN;simp only[uI,hz1,Int.toNat_zero] at b;refine mz ae λK i=>?_;unfold Oper.wp execOp;simp only[lx,k,m,b,nX];exact i _ _ (h _ _ (S.made (by grind[madeCells]) j c f))
theorem CD(w:cS)(base:Nat)(t ty e:dW)(i:TypeInfo)(size:Nat)(d:P.underlying t=cu (.slice e))(hi:P.info? e=cu i)(v:c7)(n:Nat)(xs:List c7)(a:w.ownsRow base e size v n xs)(ao:Option Addr)(c:Nat):
 (Builtin.append_ #[t,t] ty #[v,bX ao 0 c]).run P w=.ok v w:=by rcases a.2 with⟨rfl,rfl⟩|⟨g,cap,cur,rfl,_,_,b,_⟩;cases ao<;>simp[Builtin.append_,yI d,sizeOf,typeInfo,hi,Builtin.lenOf,Builtin.firstCells,loadCells,loadCellsFrom];cases ao<;>simp[Builtin.append_,yI d,sizeOf,typeInfo,hi,Builtin.lenOf,Builtin.firstCells,b,storeCells,loadCells,loadCellsFrom]
theorem ais(S:St w0 d l L O X w)(j:Nat){o:O4}(q:O[j]?=cu o){t:dW}(A:a.eval (.tmp x)=o.v)(B:a.eval (.tmp y)=v)(R:dg w T o.z v n xs)(V:xm P t o.e o.z by')(E:∀u∈xs,u.oneCell'=cx)(U:(o.n+n)*by'<=140737488355328)(N:o.n+n<=maxLen)(h:∀v' W,St w0 d l L (O.set j ⟨o.e,o.z,v',o.n+n,o.xs++xs⟩) X W->K (a.put (cu dst) v') W):
 Oper.wp P ⟨cu dst,.call {callee:=.builtin .append,args:=#[.tmp x,.tmp y],argTypes:=#[t,t]},t2,p,af,cw⟩ a w K Q:=by have⟨hu,zv,hi,hz,h0⟩:=V;have⟨it,hi1,hz0,hz1,hz2⟩:=oH hi;obtain⟨M,ao,cap,rfl,F,G,m⟩:=R;by_cases r:n=0;(subst r;have s:xs=[]:=yj cN;subst s;have f:=CD (P:=P) w w0.h.s t t2 o.e it o.z hu hi1 o.v o.n o.xs (S.uV q) ao cap;unfold Oper.wp execOp;simp only[resolve,invoke,builtin,lx,rN,nX,map_toArray,yh,map_nil,A,B,f];refine h _ _ ?_;rw[xK,wV];have e1:O.set j ⟨o.e,o.z,o.v,o.n,o.xs⟩=O:=by apply xL;intro i;rw[Bx];split;(next h=>subst h;split<;>simp_all);rfl);grind;obtain⟨b,c,C,D,rfl,J,H⟩:=m cN;refine wp_append_lies w (.tmp x) (.tmp y) t ae w0.h.s o.e it zv o.z by' hu hi1 hz0 hz1 hz2 hz h0 o.v o.n o.xs A (S.uV q) ⟨b,c,cw⟩ n cap xs B M (λi u Y=>?_) E cN N U S.fr.size _ ae λg z w' e I k _=>h _ w' ?_;rw[show(⟨b,c,cw⟩:Addr).add i=⟨b,c+i,cw⟩ from by grind[Addr.add],cell_of_row w b _ C T D J];grind;exact S.grow q I e ae k
def Gm(S:St w0 d l L O X w)(j:Nat){o:O4}(e:O[j]?=cu o){t:dW}(i:a.eval (.tmp x)=o.v)(m:a.eval (.tmp y)=v)(R:dg w T o.z v n xs)(k:xm P t o.e o.z by')(b:∀u∈xs,u.oneCell'=cx)(g:(o.n+n)*by'<=140737488355328)(f:o.n+n<=maxLen)(h:∀v' W,St w0 d l L (O.set j ⟨o.e,o.z,v',o.n+n,o.xs++xs⟩) X W->wpList P ops Q rest (a.put (cu dst) v') W):
 wpList P ops Q (⟨cu dst,.call {callee:=.builtin .append,args:=#[.tmp x,.tmp y],argTypes:=#[t,t]},t2,p,af,cw⟩::rest) a w:=
 mz ae λ_ c=>ais S j e i m R k b g f λv' W hS=>c _ _ (h v' W hS)
end
def ad1:(prog.info? 5).map (λi=>(i.zero,i.s,i.bytes))=cu (cu (.int .u8 0),1,1):=dC
def B7:xm prog 22 5 1 1:=⟨oS,_,ad1,ae,cN⟩
def AT(l:cV):∀u∈l.map λ(x:Nat)=>Value.int .u8 (x:Int),u.oneCell'=cx:=λu a=>by obtain⟨_,_,rfl⟩:=gT.1 a;rfl
def qg(l:List cQ):cV:=l.flatMap iT
def q6(l:List cQ):Option cV:=if l.n<=4000/\ou l=cx then cu (qg l) else cw
theorem wh(l:List cQ):(qg l).n=l.n*16:=xp gh l
theorem Uv{l:List cQ}(h:ou l=cx)(a:k<l.n):im l[k]=cx:=by simp_all[ou,tP,yX]
theorem Mz(p:cQ)(b:dD p)(c:im p=cx)(A:gJ)(a:A=cM 3 (dE p))(w:cS):
 CP_ 233 #[bV A] w λe w'=>∃r,e=cj (cg #[r,bU cq 0])/\w'.ownsRow w.h.s 5 1 r 16 ((iT p).map λ(x:Nat)=>Value.int .u8 (x:Int))/\dS w w':=by rw[<-dk a];refine(xT p b w).mono λe w' h=>?_;simp_all[mN,gh]
theorem XO(l:List cQ)(a:k<l.n):qg (l.take (k+1))=qg (l.take k)++iT l[k]:=by grind[qg,take_succ_eq_append_getElem]
section
attribute[local irreducible]wpList Code.wp Calls Oper.wp wpAnyH
def OI(l:List cQ)(y:∀q∈l,dD q)(v:c7)(w:cS)(G:l.n<=1000000000)(R:ly w v l):
 CP_ 275 #[v] w λe w'=>∃r,e=cj (cg #[r,bU cq (gq 131 (q6 l))])/\mN w' w.h.s r ((q6 l).getD [])/\dS w w':=by
 have t:=cz λw R=>Al l v w G R;obtain⟨ao,cap,rfl,u,f⟩:=dQ R;have R:=cz R;have f:=cz f;have S:=cz (qP w);by_cases c:l.n<=4000;case neg=>have d:Hid (q6 l=cw):=cz (by unfold q6;rw[cX (λh=>c h.1)]);have S:=S.o;go_enter func275,ntmps275;go_wp2;go_ret2;exact anG
 cases m:ou l with
 |false=>rw[m] at t;have d:Hid (q6 l=cw):=cz (by unfold q6;rw[cX (λh=>by rw[m] at h;cases h.2)]);have S:=S.o;go_enter func275,ntmps275;go_wp2_with (refine je S (t.o _ (R.o.cP S.b)) λW S=>?_);go_ret2;exact anG
 |true=>
  rw[m] at t;have d:Hid (q6 l=cu (qg l)):=cz (by unfold q6;rw[c8 ⟨c,m⟩]);have D:=cz m;clear m;have S:=S.o;have H:IntKind.i64.wrap ((l.n:Int)*16)=((l.n*16:Nat):Int):=by rw[kX _ cN];omega
  have C:=cz y;clear y;go_enter func275,ntmps275;go_upto_region 5 with(first|refine je S (t.o _ (R.o.cP S.b)) λW S=>?_|refine Kd S (n:=l.n*16) B7 rfl rfl cN xY rfl rfl λg W S=>?_);have S:=cz S;go_loopw [4,23] (λv i wr=>∃k:Nat,k<=l.n/\i=bU cq k/\Hid (St w cw [] [] [⟨5,1,v,k*16,(qg (l.take k)).map λ(x:Nat)=>Value.int .u8 (x:Int)⟩] (λ_ _=>True) wr)) (λ_ i _=>l.n-(intOf i).m);exact⟨0,cN,ae,S⟩;clear S;obtain⟨k,I,rfl,hS⟩:=hrel;by_cases a:k<l.n
  . obtain⟨b,o,rfl⟩:=f.o cN;have S:=hS.o;clear hS;have⟨q,hq⟩:=dG (l[k]);have⟨A,hA⟩:=fU (cM 3 (dE q));have s:=cz (kG l a (A:=A) am7);have B:=cz hA;have z:=cz (Mz q (hq▸C.o _ (mP a)) (by rw[<-hq];exact Uv D.o a) A hA);have j:=XO l a;rw[hq] at j;have p:=cz j;clear hA hq j;generalize qg (l.take k)=M at S p;have F:=gh q;go_wp2_with (first|refine CB (R.o.cP S.b) a (vx B) s.o ?_|(refine ah (z.o _) λr W⟨ho,E⟩=>?_;replace S:=S.iw E ho ae ae)|(refine Gm S 1 ae (by':=1) ae ae S.q0 B7 (AT _) CU xY ?_;clear S;intro v' W S)|refine fO ?_|refine fu λW S=>?_);go_roundw;exact⟨k+1,cN,by go_num,by rw[p.o,nM,succ_mul];exact cz S.pop.KY⟩;exact qN
  . obtain rfl:k=l.n:=cN;have S:=hS.o;rw[qp] at S;clear hS;go_wp2;go_ret2;refine⟨_,by rw[d.o];rfl,?_,S.b⟩;rw[d.o];have h:=S.o0;unfold mN;rw[show((cu (qg l)).getD [])=qg l from ae,wh];exact h
def td:Nat->cV->Option (List cQ)
 |0,_=>cu []
 |k+1,bs=>match td k bs with
  |none=>cw
  |some ps=>match nZ ((bs.drop (16*k)).take 16) with
   |none=>cw
   |some q=>cu (ps++[q])
def k8(bs:cV):Option (List cQ):=
 if bs.n%16=0/\bs.n<=64000 then
  match td (bs.n/16) bs with
  |none=>cw
  |some l=>if ou l=cx then cu l else cw
 else cw
theorem Uw(h:td k bs=cw)(a:k<=m):td m bs=cw:=by induction m with|zero=>grind|succ m ih=>grind[td]
theorem XP{k:Nat}{bs:cV}{l:List cQ}(h:td k bs=cu l):l.n=k:=by induction k generalizing l<;>grind[td]
theorem XQ(l:cV)(k:Nat):(dN l).take k=dN (l.take k):=by simp_all[dN]
theorem RH(bs:cV)(v:c7)(w:cS)(hs:bs.n<=1000000000)(G:eU .u8 w v (dN bs))(hc:yC v):
 CP_ 242 #[v] w λe w'=>∃r,e=cj (cg #[r,bU cq (gq 131 (k8 bs))])/\ir w' w.h.s r ((k8 bs).getD [])/\dS w w':=by
 have L:=cz G;obtain⟨ao,cap,rfl,-,-,-⟩:=G;obtain⟨_,_,_,Q,d⟩:=hc;simp only[lX] at Q;obtain⟨rfl,rfl,rfl⟩:=Q;rw[dA] at L d|-;have S:=qP w;by_cases U:bs.n%16=0
 case neg=>
  have t:Hid (k8 bs=cw):=cz (by unfold k8;rw[cX (λh=>U h.1)]);have g:(((bs.n:Nat):Int)%16 !=0)=cx:=by rw[fK];omega
  go_enter func242,ntmps242;go_wp2;go_ret2;exact anH
 have g:(((bs.n:Nat):Int)%16 !=0)=cy:=by rw[vL];omega
 by_cases O:bs.n<=64000;case neg=>have t:Hid (k8 bs=cw):=cz (by unfold k8;rw[cX (λh=>O h.2)]);go_enter func242,ntmps242;go_wp2;go_ret2;exact anH
 obtain⟨n,t⟩:∃n,bs.n=16*n:=⟨bs.n/16,cN⟩;have f:Hid (k8 bs=match td n bs with|none=>cw|some l=>if ou l=cx then cu l else cw):=cz (by unfold k8;rw[c8 ⟨U,O⟩,show bs.n/16=n by omega]);have hq:IntKind.i64.wrap (((bs.n:Nat):Int)/16)=(n:Int):=by rw[kX _ cN];omega
 rw[t] at L d;have Z:(((bs.n:Nat):Int)/16)=(n:Int):=cN;go_enter func242,ntmps242;go_upto_region 4 with(refine Kd S (n:=n) ib ae ae cN xY ae ae λg W S=>?_);have S:=cz S;go_loopw [0,4] (λu v wr=>∃(k m:Nat)(a:Option Addr)(c:Nat)(ps:List cQ),m+16*k=16*n/\u=bX a m c/\m<=c/\ps.n=k/\Hid (td k bs=cu ps/\eU .u8 w u (dN (bs.drop (16*k)))/\St w cw [] [] [⟨106,3,v,ps.n,iZ ps⟩] (λ_ _=>True) wr)) (λu _ _=>match u with|bX _ m _=>m|_=>0);exact⟨0,16*n,ao,cap,[],cN,ae,d,ae,ae,L.o,S.o⟩;clear S;obtain⟨k,m,a,c,ps,hk,rfl,M,D,hS⟩:=hrel;by_cases Y:k<n
 . (obtain⟨H,rfl⟩:∃H,m=H+16:=⟨m-16,cN⟩;obtain⟨c1,rfl⟩:∃c1,c=c1+16:=⟨c-16,cN⟩;have⟨hpp,hI,S⟩:=hS.o;clear hS;have p:=WQ (y:=16) hI cN;rw[XQ] at p;have s:=BJ (y:=16) hI cN M;rw[BK,drop_drop,QP,QP,show 16*k+16=16*(k+1) by omega] at s;obtain⟨b,o,rfl,-,-⟩:∃b o,a=s_ b o/\True/\True:=by(obtain⟨a',c',e1,_,_,e4⟩:=hI;simp only[lX] at e1;obtain⟨rfl,-,-⟩:=e1;have N:dN (bs.drop (16*k))≠ []:=λh=>by have:=gQ length h;rw[dA,uf] at this;simp at this;omega);obtain⟨b,o,X,_⟩:=e4 N;exact⟨b,o,X,iC,iC⟩);(have j:=cz p;have A:eU .u8 w (bX (if c1=0 then cu ⟨b,o,cw⟩ else cu ⟨b,o+16,cw⟩) H c1) (dN (bs.drop (16*(k+1)))):=by rw[Q6] at s;grind);(have J:=cz A;have K:=cz hpp;clear hI p s A hpp;have⟨x,hx⟩:=dG ((bs.drop (16*k)).take 16);rw[hx] at j;have F:=cz λu w G hc=>xd u x w G hc;have E:td (k+1) bs=match nZ x with|none=>cw|some q=>cu (ps++[q]):=by show(match td k bs with|none=>cw|some ps=>match nZ ((bs.drop (16*k)).take 16) with|none=>cw|some q=>cu (ps++[q]))=_;rw[K.o,hx]);have i:=cz E;clear E hx;cases z:nZ x with|none=>have⟨T,hT⟩:=fU (cM 3 (dE cY));rw[z,show(cw:Option cQ).getD cY=cY from ae,dk hT] at F;rw[z] at i;have V:=cz hT;clear hT z;have C:Hid (k8 bs=cw):=cz (by rw[f.o,Uw (k:=k+1) i.o cN]);go_wp2_with (first|refine je S (F.o _ _ (j.o.cP S.b) ⟨_,_,_,rfl,cN⟩) λW S=>?_|refine fu λW S=>?_);go_ret2;exact⟨_,by rw[C.o];rfl,by rw[C.o];exact aV,S.b⟩|some q=>have⟨T,hT⟩:=fU (cM 3 (dE q));rw[z,show(cu q).getD cY=q from ae,dk hT] at F;rw[z] at i;have V:=cz hT;clear hT z;go_wp2_with (first|refine je S (F.o _ _ (j.o.cP S.b) ⟨_,_,_,rfl,cN⟩) λW S=>?_|refine tE S 0 rfl 0 rfl rfl rfl rfl ib (dJ _) CU xY λg cap W S=>?_|refine fO ?_|refine fu λW S=>?_);go_roundw;exact⟨k+1,H,_,c1,ps++[q],cN,ae,cN,by simp[D],by rw[jv,jw,qd];exact cz ⟨i.o,J.o,by rw[<-D];exact S.pop.pop⟩⟩;simp
 . obtain rfl:k=n:=cN;obtain rfl:m=0:=cN;have⟨hpp,hI,S⟩:=hS.o;clear hS hI;rw[hpp] at f;have⟨b,hb2⟩:=dG (ou ps);have I:=cz λv w R=>Al ps v w cN R;rw[hb2] at I;simp only[hb2] at f;clear hb2 hpp;cases b with|true=>go_wp2_with (refine je S (I.o _ _ (ir.sl S.o0)) λW S=>?_);go_ret2;have B:k8 bs=cu ps:=f.o;exact⟨_,by rw[B];rfl,by rw[B];exact S.o0,S.b⟩|false=>go_wp2_with (refine je S (I.o _ _ (ir.sl S.o0)) λW S=>?_);go_ret2;have B:k8 bs=cw:=f.o;exact⟨_,by rw[B];rfl,by rw[B];exact aV,S.b⟩
end
section
variable {L:List R4}{O:List O4}{x:Nat}
def ait(S:St w0 d l L O X w){t:dW}{A:gJ}(i:a.eval (.tmp x)=bV A)(b:A=cM n f)(g:xm P t e n by')(c:n<=16777216)(ho:gZ e=cy)(h:∀W,St w0 d l (⟨w.h.s,e,n,f⟩::L) O X W->K (a.put (cu dst) (bX (cu ⟨w.h.s,0,cw⟩) 1 1)) W):Oper.wp P ⟨cu dst,.buildSlice t 1 #[(0,.tmp x)],t2,p,af,cw⟩ a w K Q:=by have⟨hu,zv,hi,hz,h0⟩:=g;exact Et t e (.tmp x) ae A n by' zv i hu hi h0 c (ha_ b) (h _ (S.alloc e b ho))
theorem aiu(S:St w0 d l L O X w)(k:Nat){r:R4}(n:L[k]?=cu r)(j:Nat){o:O4}(e:O[j]?=cu o){t:dW}(z:a.eval (.tmp x)=o.v)(B:a.eval (.tmp y)=bX (cu ⟨r.b,0,cw⟩) 1 1)(v:r.n=o.z)(A:xm P t o.e o.z by')(C:∀i,(r.f i).oneCell'=cx)(s:(o.n+1)*by'<=140737488355328)(q:o.n+1<=maxLen)(h:∀g cap W,St w0 d l L (O.set j ⟨o.e,o.z,bX (cu ⟨g,0,cw⟩) (o.n+1) cap,o.n+1,o.xs++(cM r.n r.f).t⟩) X W->K (a.put (cu dst) (bX (cu ⟨g,0,cw⟩) (o.n+1) cap)) W):
 Oper.wp P ⟨cu dst,.call {callee:=.builtin .append,args:=#[.tmp x,.tmp y],argTypes:=#[t,t]},t2,p,af,cw⟩ a w K Q:=by
 have⟨f,zv,hi,hz,h0⟩:=A;refine Gc (.tmp x) (.tmp y) t ae w0.h.s o.e zv o.z by' f hi hz h0 o.v o.n o.xs z (S.uV e) r.b (cM r.n r.f) r.t (0,0) B (S.pE n) (by rw[cW,v])
  (λu f=>?_) q s S.fr.size λg cap w' b m c _=>h g cap w' ?_
 grind[oD,Array.all_eq_true_iff_forall_mem];exact S.grow e m b ae c
end
theorem dg.ahN{b:Nat}{x:List c7}(h:dg w e z (bX (cu ⟨b,o,cw⟩) (n+1) (c+1)) (n+1) (x++xs))(f:x.n=z):dg w e z (bX (if c=0 then cu ⟨b,o,cw⟩ else cu ⟨b,o+z,cw⟩) n c) n xs:=by have⟨h1,ao,cap,h2,h3,h4,h5⟩:=h;simp only[lX] at h2;obtain⟨rfl,-,rfl⟩:=h2;refine⟨by grind,_,_,ae,cN,by omega,λd=>?_⟩;have⟨b',o',cs,fl,e1,hh,hc⟩:=h5 cN;cases e1;rw[cX cN];refine⟨b,o+z,cs,fl,ae,hh,λj u a=>?_⟩;simp_all[FP,IZ]
theorem x9(p:cQ)(l:List cQ):iZ (p::l)=ajS p++iZ l:=by rfl
def jR:List cQ->List cQ->Option (List cQ)
 | [],b=>cu b
 |p::a,[]=>cu (p::a)
 |p::a,q::b=>
  if nY p q=cx then(jR a (q::b)).map (p::·) else
  if nY q p=cx then(jR (p::a) b).map (q::·) else cw
termination_by a b=>a.n+b.n
def RI(p q:cQ)(A B:gJ)(a:A=cM 3 (dE p))(b:B=cM 3 (dE q))(w:cS):sW 178 #[bV A,bV B] w (bZ (nY p q)):=by rw[<-dk a,<-dk b];exact PG p q w
section
attribute[local irreducible]wpList Code.wp Calls Oper.wp wpAnyH
theorem OJ(l m:List cQ)(v u:c7)(w:cS)(hl:l.n<=100000000)(hm:m.n<=100000000)(R1:ly w v l)(R2:ly w u m):
 CP_ 134 #[v,u] w λe w'=>∃r,e=cj (cg #[r,bU cq (gq 131 (jR l m))])/\ir w' w.h.s r ((jR l m).getD [])/\dS w w':=by
 obtain⟨ao,cap,rfl,Y,-⟩:=dQ R1;obtain⟨T,a2,rfl,X,-⟩:=dQ R2;have S:=qP w;have a1:IntKind.i64.wrap ((l.n:Int)+(m.n:Int))=((l.n+m.n:Nat):Int):=by rw[kX _ cN];omega
 have⟨N,hN⟩:=fU (l.n+m.n);have a3:N<=200000000:=cN;rw[<-hN] at a1;have HN:=cz hN;clear hN;go_enter func134,ntmps134;go_upto_region 2 with(refine Kd S (n:=N) ib ae (by rw[HN.o,Int.natCast_add];rfl) cN xY ae ae λg W S=>?_);have S:=cz S;have R1:=cz R1;have R2:=cz R2;clear a1;go_loopw [0,1,6] (λx y z wr=>∃(a b M:List cQ)(ao T:Option Addr)(s t:Nat),M.n+a.n+b.n=N/\x=bX ao a.n s/\y=bX T b.n t/\a.n<=s/\b.n<=t/\Hid (jR l m=(jR a b).map (M++ ·)/\ly w x a/\ly w y b/\St w cw [] [] [⟨106,3,z,M.n,iZ M⟩] (λ_ _=>True) wr)) (λx y _ _=>(match x with|bX _ m _=>m|_=>0)+(match y with|bX _ m _=>m|_=>0));exact⟨l,m,[],ao,T,cap,a2,by rw[HN.o];simp,ae,ae,Y,X,by simp,R1.o,R2.o,S.o⟩;clear S;obtain⟨a,b,M,ao,T,s,t,f,rfl,rfl,C,E,hS⟩:=hrel;cases a with|nil=>have⟨hmm,ha,hb,S⟩:=hS.o;clear hS;have G:Hid (jR l m=cu (M++b)):=cz (by rw[hmm];simp[jR]);have D:=cz ha;have F:=cz hb;simp only[ue] at C f;clear hmm ha hb;go_wp2_with (first|refine Gm S 0 rfl (by':=24) (n:=0) (xs:=[]) rfl rfl (D.o.cP S.b) ib eQ CU xY λv1 W S=>?_|refine Gm S 0 rfl (by':=24) rfl rfl (F.o.cP S.b) ib (oO _) CU xY λv2 W S=>?_);go_ret2;refine⟨_,by rw[G.o];rfl,?_,S.b⟩;rw[G.o];have h:=S.o0;show World.ownsRow _ _ _ _ _ (M++b).n (iZ (M++b));rw[jv,jw];simpa using h|cons p a=>cases b with|nil=>have⟨hmm,ha,hb,S⟩:=hS.o;clear hS;have G:Hid (jR l m=cu (M++(p::a))):=cz (by rw[hmm];simp[jR]);have D:=cz ha;have F:=cz hb;simp only[ue,lq] at C E f D|-;clear hmm ha hb;have a4:M.n+(a.n+1)<=200000000:=cN;go_wp2_with (first|refine Gm S 0 rfl (by':=24) rfl rfl (D.o.cP S.b) ib (oO _) (by simp only[lq];omega) anN λv1 W S=>?_|refine Gm S 0 rfl (by':=24) (n:=0) (xs:=[]) rfl rfl (F.o.cP S.b) ib eQ (by simp only[lq];omega) anN λv2 W S=>?_);go_ret2;refine⟨_,by rw[G.o];rfl,?_,S.b⟩;rw[G.o];have h:=S.o0;show World.ownsRow _ _ _ _ _ (M++(p::a)).n (iZ (M++(p::a)));rw[jv,jw];simpa using h|cons q b=>(have⟨hmm,ha,hb,S⟩:=hS.o;clear hS;obtain⟨s,rfl⟩:∃c,s=c+1:=⟨s-1,by simp at C;omega⟩;obtain⟨t,rfl⟩:∃c,t=c+1:=⟨t-1,by simp at E;omega⟩;obtain⟨H,o1,rfl⟩:∃b o,ao=s_ b o:=by obtain⟨_,_,e1,_,h⟩:=dQ ha;grind);(obtain⟨I,o2,rfl⟩:∃b o,T=s_ b o:=by obtain⟨_,_,e1,_,h⟩:=dQ hb;grind);(have U:ly w (bX (if s=0 then cu ⟨H,o1,cw⟩ else cu ⟨H,o1+3,cw⟩) a.n s) a:=by have h:=ha;unfold ly at h;rw[x9] at h;exact dg.ahN h (yY p));(have V:ly w (bX (if t=0 then cu ⟨I,o2,cw⟩ else cu ⟨I,o2+3,cw⟩) b.n t) b:=by have h:=hb;unfold ly at h;rw[x9] at h;exact dg.ahN h (yY q));(have⟨A,hA⟩:=fU (cM 3 (dE p));have⟨B,hB⟩:=fU (cM 3 (dE q));have sA:=cz (kG (p::a) (i:=0) eQ hA);have sB:=cz (kG (q::b) (i:=0) eQ hB);have D:=cz hA;have F:=cz hB;have C1:=cz (RI p q A B hA hB);have C2:=cz (RI q p B A hB hA);have L:Hid (dg w 106 3 (bX (s_ H o1) (a.n+1) (s+1)) (a.n+1) (iZ (p::a))):=cz ha;have Q:Hid (dg w 106 3 (bX (s_ I o2) (b.n+1) (t+1)) (b.n+1) (iZ (q::b))):=cz hb;have O:=cz U;have R:=cz V;have Z:jR (p::a) (q::b)=if nY p q=cx then(jR a (q::b)).map (p::·) else if nY q p=cx then(jR (p::a) b).map (q::·) else cw:=by rw[jR]);rw[Z] at hmm;have k:=cz hmm;simp only[lq] at C E f|-;clear ha hb U V hA hB Z hmm;have⟨na,hna⟩:=dG a.n;have⟨nb,hnb⟩:=dG b.n;rw[hna] at C f L O|-;rw[hnb] at E f Q R|-;go_upto_region 4 with(fail);refine eO S dC λW S=>?_;refine dh 0 _ ?_;refine dh 1 (dF H o1) ?_;refine ij 2 (bV A) ae (ySl (o:=o1) (j:=0) (λw h=>by obtain⟨_,S⟩:=h;exact L.o.cP S.b) (succ_pos _) bO (vx D) sA.o fL) ?_;refine dh 3 _ ?_;refine dh 4 (dF I o2) ?_;refine ij 5 (bV B) ae (ySl (o:=o2) (j:=0) (λw h=>by obtain⟨_,S⟩:=h;exact Q.o.cP S.b) (succ_pos _) bO (vx F) sB.o fL) ?_;refine kK 6 λK d=>?_;go_wp2_with fail;refine je S (C1.o _) λW S=>?_;refine gy d ?_;clear d K;refine dh 7 _ ?_;refine qG ?_;cases h1:nY p q with|true=>rw[h1] at k;have J:Hid (jR l m=(jR a (q::b)).map ((M++[p])++ ·)):=cz (by rw[k.o,c8 ae];cases jR a (q::b)<;>simp);go_upto_region 5 with(fail);refine B5 S dC λW S=>?_;refine dh 0 _ ?_;refine dh 1 _ ?_;refine dh 2 (dF H o1) ?_;refine ij 3 (bV A) ae (ySl (o:=o1) (j:=0) (λw h=>by obtain⟨_,_,_,S⟩:=h;exact L.o.cP S.b) (succ_pos _) bO (vx D) sA.o fL) ?_;refine dh 6 _ ?_;refine ij 7 (bX (if s=0 then cu ⟨H,o1,cw⟩ else cu ⟨H,o1+3,cw⟩) na s) ae (Or.inl ⟨dC,λw hw=>by have h0:¬((na:Int)+1<1):=cN;go_simp⟩) ?_;refine kK 4 λK d=>?_;refine ait S ae D.o ib cN ae λW S=>?_;refine gy d ?_;clear d K;refine kK 5 λK d=>?_;refine aiu S 0 ae 0 ae ae ae ae ib (dJ _) CU xY λg cap W S=>?_;refine gy d ?_;clear d K;refine dh 8 _ ?_;refine dh 9 _ ?_;refine qG ?_;go_wp2;go_roundw;exact⟨a,q::b,M++[p],_,_,s,t+1,by simp;omega,by rw[hna],by rw[lq,hnb],cN,by rw[lq];omega,cz ⟨J.o,O.o,(by unfold ly;rw[lq,hnb];exact Q.o),by rw[jv,jw,qd];exact S.pop⟩⟩;simp|false=>rw[h1,cX QR] at k;go_upto_region 6 with(fail);refine eO S dC λW S=>?_;refine dh 0 _ ?_;refine dh 1 (dF I o2) ?_;refine ij 2 (bV B) ae (ySl (o:=o2) (j:=0) (λw h=>by obtain⟨_,S⟩:=h;exact Q.o.cP S.b) (succ_pos _) bO (vx F) sB.o fL) ?_;refine dh 3 _ ?_;refine dh 4 (dF H o1) ?_;refine ij 5 (bV A) ae (ySl (o:=o1) (j:=0) (λw h=>by obtain⟨_,S⟩:=h;exact L.o.cP S.b) (succ_pos _) bO (vx D) sA.o fL) ?_;refine kK 6 λK d=>?_;go_wp2_with fail;refine je S (C2.o _) λW S=>?_;refine gy d ?_;clear d K;refine dh 7 _ ?_;refine qG ?_;cases h2:nY q p with|true=>rw[h2] at k;have J:Hid (jR l m=(jR (p::a) b).map ((M++[q])++ ·)):=cz (by rw[k.o,c8 ae];cases jR (p::a) b<;>simp);go_upto_region 7 with(fail);refine B5 S dC λW S=>?_;refine dh 0 _ ?_;refine dh 1 _ ?_;refine dh 2 (dF I o2) ?_;refine ij 3 (bV B) ae (ySl (o:=o2) (j:=0) (λw h=>by obtain⟨_,_,_,S⟩:=h;exact Q.o.cP S.b) (succ_pos _) bO (vx F) sB.o fL) ?_;refine dh 6 _ ?_;refine ij 7 (bX (if t=0 then cu ⟨I,o2,cw⟩ else cu ⟨I,o2+3,cw⟩) nb t) ae (Or.inl ⟨dC,λw hw=>by have h0:¬((nb:Int)+1<1):=cN;go_simp⟩) ?_;refine kK 4 λK d=>?_;refine ait S ae F.o ib cN ae λW S=>?_;refine gy d ?_;clear d K;refine kK 5 λK d=>?_;refine aiu S 0 ae 0 ae ae ae ae ib (dJ _) CU xY λg cap W S=>?_;refine gy d ?_;clear d K;refine dh 8 _ ?_;refine dh 9 _ ?_;refine qG ?_;go_wp2;go_roundw;exact⟨p::a,b,M++[q],_,_,s+1,t,by simp;omega,by rw[lq,hna],by rw[hnb],by rw[lq];omega,cN,cz ⟨J.o,(by unfold ly;rw[lq,hna];exact L.o),R.o,by rw[jv,jw,qd];exact S.pop⟩⟩;simp|false=>rw[h2,cX QR] at k;have G:Hid (jR l m=cw):=cz (by rw[k.o];rfl);go_wp2;go_ret2;exact⟨_,by rw[G.o];rfl,by rw[G.o];exact aV,S.b⟩
end
section
variable {L:List R4}{O:List O4}{x:Nat}
def rA{SS:cS->Prop}{b:Nat}{t:dW}(d:∀w,SS w->cL w b t n f)(i:a.eval (.tmp x)=bW (cu ⟨b,0,cw⟩)){A:gJ}(c:A=cM n f)(e:ky P ty n)(g:Region.wanted ⟨cu dst,.load ty (.tmp x),t2,p,af,gd⟩ (yielded ops a.tmps)=cx:=by kernel_rfl):YieldsIf P ops SS ⟨cu dst,.load ty (.tmp x),t2,p,af,gd⟩ (bV A) a:=by have⟨⟨dd,hu,hd⟩,hi⟩:=e;have h:=yieldsIf_load_mid (P:=P) (S:=SS) (op:=⟨cu dst,.load ty (.tmp x),t2,p,af,gd⟩) (ops:=ops) g ty (.tmp x) ae b 0 i A.t dd (λw h=>BV (d w h) c) hu hd aG;omega
end
def ox:lD prog 107:=⟨⟨_,underlying107,ae⟩,dC⟩
instance in6d1de :rk 107:=⟨ox⟩
def mh(p:Nat->Bool):Nat->Nat->Nat->Nat
 |0,i,_=>i
 |f+1,i,j=>if i<j then(if p ((i+j)/2)=cx then mh p f i ((i+j)/2) else mh p f ((i+j)/2+1) j) else i
theorem CE(p:Nat->Bool):∀(f g i j:Nat),j-i<=f->j-i<=g->mh p f i j=mh p g i j:=by intro f;induction f with|zero=>(intro g i j a b;have c:¬i<j:=cN;cases g with|zero=>rfl|succ g=>unfold mh;grind)|succ f ih=>intro g i j a b;cases g with|zero=>grind|succ g=>unfold mh;grind
def Hh(p:Nat->Bool)(n:Nat):Nat:=mh p n 0 n
theorem KZ(p:Nat->Bool)(h:i<j):mh p (j-i) i j=if p ((i+j)/2)=cx then mh p ((i+j)/2-i) i ((i+j)/2) else mh p (j-((i+j)/2+1)) ((i+j)/2+1) j:=by obtain⟨f,a⟩:∃f,j-i=f+1:=⟨j-i-1,cN⟩;rw[a];show(if i<j then _ else _)=_;rw[c8 h,CE p f ((i+j)/2-i) i _ cN cN,CE p f (j-((i+j)/2+1)) _ j cN cN]
theorem OK(p:Nat->Bool):∀(f i j:Nat),i<=j->mh p f i j<=j:=by intro f;induction f<;>grind[mh]
section
attribute[local irreducible]wpList Code.wp Calls Oper.wp wpAnyH
def XR(p:Nat->Bool)(n:Nat)(v:n<=1000000000)(g:Nat)(f:gJ)(w:cS)(t:∀args w,(callFunc g args).run prog w=.ok (.enter g args) w)(hc:∀k W,k<n->dS w W->CP_ g (#[bU cq k]++f) W λe w'=>e=cj (bZ (p k))/\dS W w'):
 sW 234 #[bU cq n,.func (.func g) #[] f] w (bU cq (Hh p n:Nat)):=by
 have l:=cz hc;clear hc;have S:=cz (qP w);go_enter func234,ntmps234;go_wp2_with fail;go_loopw [5,6] (λx y wr=>∃i j:Nat,i<=j/\j<=n/\x=bU cq i/\y=bU cq j/\Hid (Hh p n=mh p (j-i) i j/\St w cw [] [] [] (λ_ _=>True) wr)) (λx y _=>(intOf y).m-(intOf x).m);exact⟨0,n,cN,by omega,ae,ae,ae,S.o⟩;clear S;obtain⟨i,j,q,u,rfl,rfl,hS⟩:=hrel;by_cases c:i<j
 . (have⟨hse,S⟩:=hS.o;clear hS;rw[KZ p c] at hse;have⟨m,hm⟩:=dG ((i+j)/2);rw[hm] at hse;have r:i<=m/\m<j:=cN;have a:=cz hse;have z:IntKind.i64.wrap ((i:Int)+(j:Int))=(((i+j:Nat):Nat):Int):=by rw[kX _ cN];omega);have A:IntKind.u64.wrap (((i+j:Nat):Nat):Int)=(((i+j:Nat):Nat):Int):=BN _ cN;have s:((i:Int)+(j:Int))/2=(m:Int):=cN;have B:IntKind.i64.wrap ((m:Nat):Int)=(m:Int):=kX _ cN;have d:=cz λW b=>l.o m W cN b;clear hse;rcases hp:p m with _|_;rotate_left
   all_goals
    rw[hp] at d a
    go_wp2_with fail
    refine aj (d.o _ S.b) λW b=>?_;replace S:=cz (And.intro a.o (S.cP b));go_wp2;go_roundw
    case rel=>first|exact⟨m+1,j,cN,by omega,by go_num,ae,S⟩|exact⟨i,m,cN,by omega,ae,ae,S⟩
    case measure=>exact qN
 . obtain rfl:i=j:=cN;have⟨hse,S⟩:=hS.o;rw[Nat.sub_self] at hse;have h:Hh p n=i:=hse;have o:=cz h;clear hS hse h;go_wp2;go_ret;exact⟨by rw[o.o];rfl,S.b⟩
def Ux(l:List cQ)(q:cQ)(v:c7)(d g:Nat)(w:cS)(j:cL w d 107 1 (λ_=>v))(m:cL w g 106 3 (dE q))(R:ly w v l)(e:k<l.n)(z:l.n<=1000000000):
 sW 235 #[bU cq k,bW (cu ⟨d,0,cw⟩),bW (cu ⟨g,0,cw⟩)] w (bZ (!nY (l.getD k cY) q)):=by obtain⟨ao,cap,rfl,n,a⟩:=dQ R;obtain⟨b,o,rfl⟩:=a cN;have R:=cz R;have s:=cz j;have t:=cz m;have⟨p,hp⟩:=dG (l[k]);rw[RG e,hp];have⟨A,hA⟩:=fU (cM 3 (dE p));have⟨B,hB⟩:=fU (cM 3 (dE q));have c:=cz (kG l e (A:=A) (by rw[hp];exact hA));have f:=cz (RI p q A B hA hB);have u:=cz hA;have x:=cz hB;have S:=qP w;clear j m hp hA hB a;generalize nY p q=r at f|-;go_enter func235,ntmps235;go_upto_region 1 with(fail);refine eO S dC λW S=>?_;refine ij 0 (bX (s_ b o) l.n cap) ae (gW (b:=d) (o:=0) (λw h=>by obtain⟨_,S⟩:=h;exact cL.cell (cL.cP s.o S.b) (i:=0) cN) ae ox) ?_;refine dh 1 _ ?_;refine dh 2 (dF b (o+k*3)) ?_;refine ij 3 (bV A) ae (ySl (λw h=>by obtain⟨_,S⟩:=h;exact R.o.cP S.b) e ae (vx u) c.o fL) ?_;refine ij 4 (bV B) ae (rA (λw h=>by obtain⟨_,S⟩:=h;exact cL.cP t.o S.b) ae x.o fL) ?_;refine kK 5 λK y=>?_;go_wp2_with fail;refine je S (f.o _) λW S=>?_;refine gy y ?_;refine dh 6 (bZ !r) ?_;refine dh 7 _ ?_;refine qG ?_;go_wp2;go_ret;exact az
end
def Gp(P:oN)(t:dW)(z:Nat):Prop:=P.underlying t=cu (.slice (P.elem t))/\∀W,(sizeOf (P.elem t)).run P W=.ok z W
section
variable {x:Nat}
theorem yZ{t:dW}(h:Gp P t z)(v:c7)(lo hi a:Option c7)(W:cS):(Instr.sliceAt t v lo hi a).run P W=(Instr.slice t v lo hi a).run P W:=by unfold Instr.sliceAt;rw[lx,yI h.1 W];rfl
theorem MA{t:dW}{z:Nat}(h:Gp P t z)(ao:Option Addr)(n c y:Nat)(a:y<=n)(W:cS):(Instr.sliceAt t (bX ao n c) (cu (.int cq y)) cw cw).run P W=.ok (bX (lz ao c y z) (n-y) (c-y)) W:=by rw[yZ h,run_slice_l W t ao n c h.1 cq (y:Nat) cN cN,h.2];rfl
theorem ad2{t:dW}{z:Nat}(h:Gp P t z)(ao:Option Addr)(n c y:Nat)(a:y<=c)(W:cS):(Instr.sliceAt t (bX ao n c) cw (cu (.int cq y)) cw).run P W=.ok (bX ao y c) W:=by rw[yZ h,run_slice_h W t ao n c h.1 cq (y:Nat) cN cN,h.2];simp only[Result.andThen,sliced,uI,yn];rcases vM c with rfl|h;rfl;simp_all[Addr.add]
def Zo(dst:Nat)(ty:dW)(x:Nat){lo hi b:Option Operand}(h:wpList P ops Q (⟨some dst,.slice ty (.tmp x) lo hi b,t2,p,af,none⟩::rest) a w):wpList P ops Q (⟨some dst,.slice ty (.tmp x) lo hi b,t2,p,af,none⟩::rest) a w:=h
theorem Uy(d:Gp P ty z)(e:a.eval (.tmp x)=.slice ao n c)(b:a.eval hi=.int .i64 y)(f:y<=c)(h:wpList P ops Q rest (a.put (some dst) (.slice ao y c)) w):
 wpList P ops Q (⟨some dst,.slice ty (.tmp x) none (some hi) none,t2,p,af,none⟩::rest) a w:=
 nH ae ty (.tmp x) none (some hi) none ae _ (by grind[ad2]) h
theorem y8(d:Gp P ty z)(e:a.eval (.tmp x)=.slice ao n c)(b:a.eval lo=.int .i64 y)(f:y<=n)(h:wpList P ops Q rest (a.put (some dst) (.slice (lz ao c y z) (n-y) (c-y))) w):
 wpList P ops Q (⟨some dst,.slice ty (.tmp x) (some lo) none none,t2,p,af,none⟩::rest) a w:=
 nH ae ty (.tmp x) (some lo) none none ae _ (by grind[MA]) h
end
theorem dg.take(h:dg w e z (bX ao n c) n xs)(hi:i<=n):dg w e z (bX ao i c) i (xs.take (i*z)):=by have⟨h1,ao',cap,h2,h3,h4,h5⟩:=h;simp only[lX] at h2;obtain⟨rfl,-,rfl⟩:=h2;have a:=I0 z hi;refine⟨by grind,ao,c,ae,cN,h4,λb=>?_⟩;grind
theorem dg.CG(h:dg w e z (bX ao n c) n xs)(hi:i<=n):dg w e z (bX (lz ao c i z) (n-i) (c-i)) (n-i) (xs.drop (i*z)):=by have⟨h1,ao',cap,h2,h3,h4,h5⟩:=h;simp only[lX] at h2;obtain⟨rfl,-,rfl⟩:=h2;refine⟨by grind[Nat.sub_mul],_,_,ae,cN,by omega,λk=>?_⟩;obtain⟨b,o,a,d,rfl,f,hc⟩:=h5 cN;refine⟨b,o+i*z,a,d,J0 b o c i z cN,f,λj u g=>?_⟩;grind
theorem EA(l:List cQ)(i:Nat):(iZ l).take (i*3)=iZ (l.take i):=by induction l generalizing i with|nil=>simp[iZ]|cons p l ih=>cases i with|zero=>simp[iZ]|succ i=>rw[take_succ_cons,x9,x9,take_append,yY,<-ih i,nV (by rw[yY];omega),show(i+1)*3-3=i*3 by omega]
theorem EC(l:List cQ)(i:Nat):(iZ l).drop (i*3)=iZ (l.drop i):=by induction l generalizing i with|nil=>simp[iZ]|cons p l ih=>cases i with|zero=>simp|succ i=>rw[drop_succ_cons,x9,drop_append,yY,<-ih i,Dc (by rw[yY];omega),show(i+1)*3-3=i*3 by omega,pL]
theorem ED:Gp prog 107 3:=⟨dC,λW=>by rfl⟩
def Uz(l:List cQ)(q:cQ):Nat:=Hh (λk=>!nY (l.getD k cY) q) l.n
def rB(l:List cQ)(q:cQ):Option (List cQ):=
 if yX q=cy then cw else
 if Uz l q<l.n/\l.getD (Uz l q) cY=q then cw else
 cu (l.take (Uz l q)++q::l.drop (Uz l q))
theorem ad3{l:List cQ}{q:cQ}(hi:i<=l.n)(h:w.ownsRow base 106 3 v n (([]++(iZ l).take (i*3))++(cM 3 (dE q)).t++(iZ l).drop (i*3))):ir w base v ((cu (l.take i++q::l.drop i)).getD []):=by
 show World.ownsRow _ _ _ _ _ (l.take i++q::l.drop i).n (iZ (l.take i++q::l.drop i));have e1:iZ (l.take i++q::l.drop i)=([]++(iZ l).take (i*3))++(cM 3 (dE q)).t++(iZ l).drop (i*3):=by rw[jw,x9,EA,EC,pL,xJ];rfl
 have e2:(l.take i++q::l.drop i).n=n:=by have:=h.1;grind[yP]
 grind
section
attribute[local irreducible]wpList Code.wp Calls Oper.wp wpAnyH
theorem UA(l:List cQ)(q:cQ)(v:c7)(A:gJ)(G:A=cM 3 (dE q))(w:cS)(Z:l.n<=100000000)(R:ly w v l):
 CP_ 186 #[v,bV A] w λe w'=>∃r,e=cj (cg #[r,bU cq (gq 131 (rB l q))])/\ir w' w.h.s r ((rB l q).getD [])/\dS w w':=by
 obtain⟨ao,cap,rfl,j,H⟩:=dQ R;have R:=cz R;have Q:=cz G;have t:=cz (Uu q A G);have S:=qP w;have⟨i,hi⟩:=dG (Uz l q);have a:i<=l.n:=by rw[<-hi];exact OK _ _ _ _ (gG _)
 have z:rB l q=if yX q=cy then cw else if i<l.n/\l.getD i cY=q then cw else cu (l.take i++q::l.drop i):=by unfold rB;rw[hi]
 have c:=cz z;have D:Hh (λk=>!nY (l.getD k cY) q) l.n=i:=hi;have N:∀args w,(callFunc 235 args).run prog w=.ok (.enter 235 args) w:=enters_of func235 dC ae;have J:=cz λ(U:gJ)W hc=>XR (λk=>!nY (l.getD k cY) q) l.n cN 235 U W N hc;rw[D] at J;clear G z hi D N H;go_enter func186,ntmps186;go_upto_region 2 with(first|(have O:=λ(k:Nat)(T:cS)(V:k<l.n)y=>Ux l q (bX ao l.n cap) _ _ T (cL.cP S.k1 y) (cL.cP S.k0 y) ((R.o.cP S.b).cP y) V cN;refine(J.o #[dF _ 0,dF _ 0] _ O).mono ?_;clear O;rintro e W ⟨rfl,y⟩;replace S:=S.cP y)|refine fO ?_|refine fu λW S=>?_)
 cases C:yX q with
 |false=>rw[C] at t;have f:Hid (rB l q=cw):=cz (by rw[c.o,c8 C]);clear C;refine eO S dC λW S=>?_;refine dh 0 (bV A) ?_;refine kK 1 λK s=>?_;go_wp2_with fail;refine je S (t.o _) λW S=>?_;refine gy s ?_;refine dh 2 (bZ cx) ?_;refine dh 3 _ ?_;refine pP 4 ?_;refine pP 5 ?_;refine pP 6 ?_;refine pP 7 ?_;refine pP 8 ?_;refine pP 9 ?_;refine pP 10 ?_;refine pP 11 ?_;refine pP 12 ?_;refine pP 13 ?_;refine pP 14 ?_;refine pP 15 ?_;refine dh 16 (bZ cx) ?_;refine qG ?_;go_wp2;go_ret2;exact anI
 |true=>
  rw[C] at t c;rw[cX eQ] at c;clear C;by_cases d:i<l.n
  . (obtain⟨b,o,rfl⟩:∃b o,ao=s_ b o:=by obtain⟨_,_,e1,_,h⟩:=dQ R.o;grind);have⟨p,hp⟩:=dG (l[i]);have⟨B,hB⟩:=fU (cM 3 (dE p));have m:=cz (kG l d (A:=B) (by rw[hp];exact hB));rw[RG d,hp] at c;have⟨e,he⟩:=dG (decide (p=q));have I:=F6 p q e he;rw[dk hB,dk Q.o] at I;have M:=cz I;have L:=cz hB;clear I hB hp;cases e with|true=>have f:Hid (rB l q=cw):=cz (by rw[c.o,c8 ⟨d,mj he⟩]);clear he;refine eO S dC λW S=>?_;refine dh 0 (bV A) ?_;refine kK 1 λK s=>?_;go_wp2_with fail;refine je S (t.o _) λW S=>?_;refine gy s ?_;refine dh 2 (bZ cy) ?_;refine dh 3 _ ?_;refine dh 4 _ ?_;refine dh 5 (bX (s_ b o) l.n cap) ?_;refine dh 6 (bU cq l.n) ?_;refine ij 7 (bZ cx) ae (Or.inl ⟨dC,λw F=>by have E:(i:Int)<(l.n:Int):=cN;go_simp⟩) ?_;refine dh 8 _ ?_;refine dh 9 (bX (s_ b o) l.n cap) ?_;refine dh 10 _ ?_;refine dh 11 (dF b (o+i*3)) ?_;refine ij 12 (bV B) ae (ySl (λw h=>by obtain⟨_,S⟩:=h;exact R.o.cP S.b) d ae (vx L) m.o fL) ?_;refine dh 13 (bV A) ?_;refine ij 14 (bZ cx) ae (Or.inl ⟨dC,λw F=>by have E:=M.o;go_simp⟩) ?_;refine dh 15 (bZ cx) ?_;refine dh 16 (bZ cx) ?_;refine qG ?_;go_wp2;go_ret2;exact anI|false=>have f:Hid (rB l q=cu (l.take i++q::l.drop i)):=cz (by rw[c.o,cX (λh=>ym he h.2)]);clear he;refine eO S dC λW S=>?_;refine dh 0 (bV A) ?_;refine kK 1 λK s=>?_;go_wp2_with fail;refine je S (t.o _) λW S=>?_;refine gy s ?_;refine dh 2 (bZ cy) ?_;refine dh 3 _ ?_;refine dh 4 _ ?_;refine dh 5 (bX (s_ b o) l.n cap) ?_;refine dh 6 (bU cq l.n) ?_;refine ij 7 (bZ cx) ae (Or.inl ⟨dC,λw F=>by have E:(i:Int)<(l.n:Int):=cN;go_simp⟩) ?_;refine dh 8 _ ?_;refine dh 9 (bX (s_ b o) l.n cap) ?_;refine dh 10 _ ?_;refine dh 11 (dF b (o+i*3)) ?_;refine ij 12 (bV B) ae (ySl (λw h=>by obtain⟨_,S⟩:=h;exact R.o.cP S.b) d ae (vx L) m.o fL) ?_;refine dh 13 (bV A) ?_;refine ij 14 (bZ cy) ae (Or.inl ⟨dC,λw F=>by have E:=M.o;go_simp⟩) ?_;refine dh 15 (bZ cy) ?_;refine dh 16 (bZ cy) ?_;refine qG ?_;go_wp2_with (first|refine Kd S (n:=l.n+1) ib rfl (by rw[Int.natCast_add];rfl) cN xY rfl rfl λg W S=>?_|refine Uy ED ae ae (ik a j) ?_|refine Gm S 0 rfl (by':=24) rfl rfl (dg.take (R.o.cP S.b) a) ib (by rw[EA];exact oO _) CU xY λX W S=>?_|refine tE S 0 rfl 0 rfl rfl rfl rfl ib (dJ _) CU xY λx u W S=>?_|refine y8 ED ae ae a ?_|refine Gm S 0 rfl (by':=24) anl rfl (dg.CG (R.o.cP S.b) a) ib (by rw[EC];exact oO _) CU xY λY W S=>?_|refine fO ?_|refine fu λW S=>?_);go_ret2;exact anJ
  . have f:Hid (rB l q=cu (l.take i++q::l.drop i)):=cz (by rw[c.o,cX (λh=>d h.1)]);refine eO S dC λW S=>?_;refine dh 0 (bV A) ?_;refine kK 1 λK s=>?_;go_wp2_with fail;refine je S (t.o _) λW S=>?_;refine gy s ?_;refine dh 2 (bZ cy) ?_;refine dh 3 _ ?_;refine dh 4 _ ?_;refine dh 5 (bX ao l.n cap) ?_;refine dh 6 (bU cq l.n) ?_;refine ij 7 (bZ cy) ae (Or.inl ⟨dC,λw F=>by have E:¬(i:Int)<(l.n:Int):=cN;go_simp⟩) ?_;refine dh 8 _ ?_;refine pP 9 ?_;refine pP 10 ?_;refine pP 11 ?_;refine pP 12 ?_;refine pP 13 ?_;refine pP 14 ?_;refine dh 15 (bZ cy) ?_;refine dh 16 (bZ cy) ?_;refine qG ?_;go_wp2_with (first|refine Kd S (n:=l.n+1) ib rfl (by rw[Int.natCast_add];rfl) cN xY rfl rfl λg W S=>?_|refine Uy ED ae ae (ik a j) ?_|refine Gm S 0 rfl (by':=24) rfl rfl (dg.take (R.o.cP S.b) a) ib (by rw[EA];exact oO _) CU xY λX W S=>?_|refine tE S 0 rfl 0 rfl rfl rfl rfl ib (dJ _) CU xY λx u W S=>?_|refine y8 ED ae ae a ?_|refine Gm S 0 rfl (by':=24) anl rfl (dg.CG (R.o.cP S.b) a) ib (by rw[EC];exact oO _) CU xY λY W S=>?_|refine fO ?_|refine fu λW S=>?_);go_ret2;exact anJ
def okC(c:Nat):Bool:=decide (97<=c/\c<=122)||decide (48<=c/\c<=57)||decide (c=45)||decide (c=95)
def ff(s:fM):Bool:=decide (1<=s.s/\s.s<=24)&& (range s.s).all λk=>okC s[k]!.toNat
theorem Hi{s:fM}(a:k<s.s)(h:okC s[k]!.toNat=cy):ff s=cy:=by unfold ff;grind
def Gq(w:cS)(s:fM)(p:Nat):dS w (w.iter s p):=(gK _ _).alloc (eN _) _
def tF (s:fM)(w:cS):sW 126 #[.string s] w (.bool (ff s)):=by
 by_cases h1:s.size<1
 . have hn:Hid (ff s=false):=cz (by unfold ff;rw[jC cN];rfl);have g1: (s.size:Int)<1:=cN;go_enter func126,ntmps126;go_wp2;go_ret;exact⟨by rw[hn.o];rfl,gK _ _⟩
 by_cases h2:24<s.size
 . have hn:Hid (ff s=false):=cz (by unfold ff;rw[jC cN];rfl);have g1: ¬(s.size:Int)<1:=cN;have g2: (24:Int)< (s.size:Int):=cN;go_enter func126,ntmps126;go_wp2;go_ret;exact⟨by rw[hn.o];rfl,gK _ _⟩
 have g1: ¬(s.size:Int)<1:=cN;have g2: ¬(24:Int)< (s.size:Int):=cN;have hb:=cz (And.intro h1 h2);clear h1 h2;go_enter func126,ntmps126;go_wp2
 go_loopw [] (λwr=>∃pos:Nat,pos<=s.size/\wr=w.iter s pos/\Hid (∀j,j<pos->okC s[j]!.toNat=true)) (λwr=>s.size - wr.iterPos w.heap.size)
 case atStart=>exact⟨0,cN,rfl,λj hj=>absurd hj (vz _)⟩
 case round=>
  obtain⟨pos,hpl,rfl,hS⟩:=hrel;by_cases hp:pos<s.size
  . have hnx: ∀ty,(Instr.next (dF w.heap.size 0) true ty).run prog (w.iter s pos)=_:=λty=>run_next_any w s pos ty hp;obtain⟨c,hc⟩:=dG (s[pos]!.toNat);have hcg: (s[pos]'hp).toNat=c:=by rw[<-hc,getElem!_pos s pos hp]
    by_cases ha:c<128
    . rw[decode_ascii s pos hp (by rw[hcg];exact ha)] at hnx;rw[hcg] at hnx;cases ho:okC c with
      | true=>
       have hS2:Hid (∀j,j<pos+1->okC s[j]!.toNat=true):=cz λj hj=>by
        rcases Df.1 hj with h | rfl
        . exact hS.o j h
        . rw[hc];exact ho
       clear hcg hc;unfold okC at ho;simp only[Bool.or_eq_true,qQ] at ho;have HO:=cz ho;clear ho;go_wp2
       all_goals first
        |(go_roundw
          case rel=>exact⟨pos+1,cN,rfl,hS2⟩
          case measure=>simp;omega)
        |(exfalso;have ho:=HO.o;simp only[lr,ne_eq] at*;omega)
      | false=>
       have hn:Hid (ff s=false):=cz (Hi hp (by rw[hc];exact ho));clear hcg hc;unfold okC at ho;simp only[Bool.or_eq_false_iff,QS] at ho;have HO:=cz ho;clear ho;go_wp2
       all_goals first|(go_ret;exact⟨by rw[hn.o];rfl,Gq _ _ _⟩)|(exfalso;have ho:=HO.o;simp only[wX] at*;omega)
    . have hd:=(decode_high s pos hp (by rw[hcg];omega)).1;have hn:Hid (ff s=false):=cz (Hi hp (by rw[hc];unfold okC;simp;omega));generalize Utf8.decode s pos=x at hnx hd;obtain⟨r,u⟩:=x;simp only at hnx hd;clear hcg hc;go_wp2
      all_goals first|(go_ret;exact⟨by rw[hn.o];rfl,Gq _ _ _⟩)
  . obtain rfl:pos=s.size:=cN;have hnx: ∀ty,(Instr.next (dF w.heap.size 0) true ty).run prog (w.iter s s.size)=_:=λty=>run_next_end w s s.size ty hp;have hn:Hid (ff s=true):=cz (by
     unfold ff;rw[wT,rJ];refine⟨gI (by have:=hb.o;omega),λk hk=>hS.o k (zA.1 hk)⟩)
    go_wp2;go_ret;exact⟨by rw[hn.o];rfl,Gq _ _ _⟩
def RJ:fM:=⟨#[64]⟩
def tp:fM:=⟨#[]⟩
def oz(iK dz:fM):fM:=
 if ff iK=cy then tp else if dz=tp then iK else if ff dz=cy then tp else iK++RJ++dz
theorem mH{s:fM}(h:ff s=cx):s.s<=24:=by simp_all[ff]
theorem AU{s:fM}(h:s≠tp):s.toList.isEmpty=false:=by rw[DF,Lz];intro a;apply h;have⟨d⟩:=s;grind[tp]
theorem Hj(iK dz:fM)(j:dz.s<=1000)(w:cS):sW 104 #[bY iK,bY dz] w (bY (oz iK dz)):=by
 have c:=cz λw=>tF iK w;have f:=cz λw=>tF dz w;have S:=qP w;cases a:ff iK with
 |false=>rw[a] at c;have b:Hid (oz iK dz=tp):=cz (by unfold oz;rw[c8 a]);clear a;go_enter func104,ntmps104;go_wp2_with (go_at_call 126;refine je S (c.o _) λW S=>?_);go_ret;exact anc
 |true=>
  rw[a] at c;by_cases d:dz=tp
  . have b:Hid (oz iK dz=iK):=cz (by unfold oz;rw[cX (by rw[a];simp),c8 d]);subst d;clear a;unfold tp;go_enter func104,ntmps104;go_wp2_with (go_at_call 126;refine je S (c.o _) λW S=>?_);go_ret;exact⟨by rw[show oz iK ⟨#[]⟩=iK from b.o];rfl,S.b⟩
  . have i:=AU d;cases e:ff dz with|false=>rw[e] at f;have b:Hid (oz iK dz=tp):=cz (by unfold oz;rw[cX (by rw[a];simp),cX d,c8 e]);clear a e d;go_enter func104,ntmps104;go_wp2_with (first|(go_at_call_has 126 dz;refine je S (f.o _) λW S=>?_)|(go_at_call 126;refine je S (c.o _) λW S=>?_));go_ret;exact anc|true=>(rw[e] at f;have b:Hid (oz iK dz=iK++RJ++dz):=cz (by unfold oz;grind);have g:¬9223372036854775807<iK.s+1:=by have:=mH a;omega);(have h:¬9223372036854775807<iK.s+1+dz.s:=by have:=mH a;have:=mH e;omega);clear a e d;go_enter func104,ntmps104;go_wp2_with (first|(go_at_call_has 126 dz;refine je S (f.o _) λW S=>?_)|(go_at_call 126;refine je S (c.o _) λW S=>?_));go_ret;exact anc
def OL(s:fM)(c:Int)(w:cS):CP_ 263 #[bY s,bU .u8 c] w λe w'=>e=cj (bU cq (firstIdx s c.m.toUInt8))/\w=w':=by
 have a:∀w,(callFunc 282 #[bY s,bU .u8 c]).run prog w=.ok (.value (bU cq (firstIdx s c.m.toUInt8))) w:=by intro w;rw[run_callFunc_extern func282 dC dC dC (e:=Extern.BytealgIndexByte.indexByte) dC,run_indexByte_string];rfl
 generalize firstIdx s c.m.toUInt8=r at a|-;go_enter func263,ntmps263;go_wp2;go_ret;exact aE
def atIdx(s:fM):Int:=firstIdx s 64
theorem XS:atIdx RJ=0:=by rfl
theorem abe{s:fM}(h:s≠RJ):([(64:UInt8)]==s.toList)=false:=by rw[DF,lr];intro a;apply h;simp_all[RJ]
def abf(s:fM)(w:cS):CP_ 231 #[bY s,bY RJ] w λe w'=>e=cj (bU cq (atIdx s))/\w=w':=by
 by_cases b:s=RJ
 . subst b;rw[XS];unfold RJ;go_enter func231,ntmps231;go_wp2_with fail;(all_goals go_ret);all_goals exact aE
 . have a:=cz λw=>OL s 64 w;rw[show firstIdx s (64:Int).m.toUInt8=atIdx s from ae] at a;generalize atIdx s=r at a|-;have c:=abe b;clear b;unfold RJ;go_enter func231,ntmps231;go_wp2_with (go_at_call 263;refine mG (a.o _) ?_);go_ret;exact aE
theorem UB(s:fM): -1<=atIdx s/\atIdx s<(s.s:Int):=by grind[atIdx,firstIdx]
def zx(s:fM):fM×fM×Bool:=
 if 0<=atIdx s then(s.extract 0 (atIdx s).m,s.extract ((atIdx s).m+1) s.s,cx) else(s,tp,cy)
def XT(s:fM)(j:s.s<=140737488355328)(w:cS):sW 174 #[bY s,bY RJ] w (cg #[bY (zx s).1,bY (zx s).2.1,bZ (zx s).2.2]):=by
 have b:=cz λw=>abf s w;have d:=UB s;have S:=qP w;by_cases a:0<=atIdx s
 . obtain⟨i,hi⟩:∃i:Nat,atIdx s=i:=⟨(atIdx s).m,cN⟩;have c:Hid (zx s=(s.extract 0 i,s.extract (i+1) s.s,cx)):=cz (by unfold zx;rw[c8 a,hi];rfl);have f:i<s.s:=cN;rw[hi] at b;clear d a hi;unfold RJ at b|-;go_enter func174,ntmps174;go_upto_region 3 with(go_at_call 231;refine mG (b.o _) ?_);refine eO S dC λW S=>?_;refine dh 0 _ ?_;refine dh 1 _ ?_;refine ij 2 (bY (s.extract 0 i)) ae (Or.inl ⟨dC,λw e=>by have a:i<=s.s:=cN;go_simp⟩) ?_;refine dh 3 _ ?_;refine dh 4 _ ?_;refine dh 5 _ ?_;refine dh 6 (bU cq 1) ?_;refine ij 7 (bU cq ((i:Int)+1)) ae (Or.inl ⟨dC,λw e=>by have a:IntKind.i64.wrap ((i:Int)+1)=(i:Int)+1:=kX _ cN;go_simp⟩) ?_;refine ij 8 (bY (s.extract (i+1) s.s)) ae (Or.inl ⟨dC,λw e=>by have a:¬((s.s:Int)<(i:Int)+1):=cN;have g:((i:Int)+1).m=i+1:=cN;have h:¬((i:Int)+1<0):=cN;go_simp⟩) ?_;refine dh 9 _ ?_;refine dh 10 _ ?_;refine dh 11 _ ?_;refine qG ?_;go_wp2;go_ret3;exact ane
 . have c:Hid (zx s=(s,tp,cy)):=cz (by unfold zx;rw[cX a]);have hi:atIdx s= -1:=cN;rw[hi] at b;clear d a hi;unfold RJ at b|-;go_enter func174,ntmps174;go_wp2_with (go_at_call 231;refine mG (b.o _) ?_);go_ret3;exact ane
def XU(s:fM)(e:s.s<=140737488355328)(w:cS):sW 125 #[bY s,bY RJ] w (cg #[bY (zx s).1,bY (zx s).2.1,bZ (zx s).2.2]):=by have d:=cz (XT s e);obtain⟨⟨a,b,c⟩,hc⟩:∃x,zx s=x:=⟨_,ae⟩;rw[hc] at d|-;clear hc;have S:=qP w;go_enter func125,ntmps125;go_wp2_with (go_at_call 174;refine je S (d.o _) λW S=>?_);go_ret3;exact az
def eW(s:fM):Option (fM×fM):=
 if ff (zx s).1=cy∨((zx s).2.2=cx/\ff (zx s).2.1=cy) then cw else cu ((zx s).1,(zx s).2.1)
def tG(s:fM)(h:s.s<=140737488355328)(w:cS):sW 63 #[bY s] w (cg #[bY ((eW s).getD (tp,tp)).1,bY ((eW s).getD (tp,tp)).2,bU cq (gq 141 (eW s))]):=by
 have e:=cz (XU s h);unfold RJ at e;obtain⟨⟨a,b,c⟩,hc⟩:∃x,zx s=x:=⟨_,ae⟩;have d:eW s=if ff a=cy∨(c=cx/\ff b=cy) then cw else cu (a,b):=by unfold eW;rw[hc]
 rw[hc] at e;clear hc;have f:=cz λw=>tF a w;have g:=cz λw=>tF b w;have S:=qP w;rcases ha:ff a with _|_;rw[ha] at f;rw[c8 (.inl ha)] at d;rotate_left;rw[ha] at f d;rcases c with _|_;rw[cX eQ] at d;rotate_left
 . rcases hb:ff b with _|_;rotate_left
   all_goals
    rw[hb] at g d
    first|rw[c8 amw] at d|rw[cX eQ] at d
    rw[d];clear ha hb d;go_enter func63,ntmps63
    go_wp2_with first|(go_at_call 125;refine je S (e.o _) λW S=>?_)|(go_at_call_has 126 a;refine je S (f.o _) λW S=>?_)|(go_at_call 126;refine je S (g.o _) λW S=>?_)
    go_ret3;exact az
 all_goals
  rw[d];clear ha d;go_enter func63,ntmps63
  go_wp2_with first|(go_at_call 125;refine je S (e.o _) λW S=>?_)|(go_at_call 126;refine je S (f.o _) λW S=>?_)
  go_ret3;exact az
end
structure vD(Y:cV->cS->Prop):Prop where
 cP:∀{B w w'},Y B w->dS w w'->Y B w'
 add:∀{B w b},Y B w->w.h.s<=b->Y (b::B) w
 mono:∀{B B' w},Y B w->(∀k∈B',k∈B)->Y B' w
 but:∀{B w w' b},Y B w->b∈B->jZ b w w'->Y B w'
 fr:∀{B w w' d l},Y B w->Fr d l w w'->Y B w'
def fF(e:dW)(z:Nat)(v:c7)(n:Nat)(xs:List c7)(d:lQ e=cy)(g:gZ e=cy):vD (yQ e z v n xs):=
 ⟨λa b=>P5 a b,λa b=>Zf a b,λa b=>Ug a b,λa b c=>Ze a b c,λa f=>adJ a f d g⟩
def vD.and{Z:cV->cS->Prop}(h:vD Y)(g:vD Z):vD (λB w=>Y B w/\Z B w):=
 ⟨λa b=>⟨h.cP a.1 b,g.cP a.2 b⟩,λa b=>⟨h.add a.1 b,g.add a.2 b⟩,λa b=>⟨h.mono a.1 b,g.mono a.2 b⟩,λa b c=>⟨h.but a.1 b c,g.but a.2 b c⟩,λa f=>⟨h.fr a.1 f,g.fr a.2 f⟩⟩
def Jq(s:List α){Y:α->cV->cS->Prop}(h:∀x∈s,vD (Y x)):vD (λB w=>∀x∈s,Y x B w):=
 ⟨λa b x d=>(h x d).cP (a x d) b,λa b x d=>(h x d).add (a x d) b,λa b x d=>(h x d).mono (a x d) b,λa b c x d=>(h x d).but (a x d) b c,λa f x d=>(h x d).fr (a x d) f⟩
def lN.still(h:lN d X)(g:vD Y):lN d (λB w=>X B w/\Y B w):=
 ⟨λa b=>⟨h.cP a.1 b,g.cP a.2 b⟩,λa b=>⟨h.add a.1 b,g.add a.2 b⟩,λa b=>⟨h.mono a.1 b,g.mono a.2 b⟩,λa b c t u v=>⟨h.but a.1 b c t u v,g.but a.2 b c⟩,λa e=>h.dev a.1 e⟩
def vD.me(g:vD Y):lN cw Y:=⟨λa b=>g.cP a b,λa b=>g.add a b,λa b=>g.mono a b,λa b c _ _ _=>g.but a b c,λ_ e=>by cases e⟩
structure du where
 id:Nat
 name:fM
 dz:Bool
 cZ:Nat
 dB:Nat
 cR:Nat
 blocks:Nat
 cO:cQ
 df:List cQ
structure dL extends du where
 ee:Option Addr
 cap:Nat
def dL.dv(x:dL):c7:=bX x.ee x.df.n x.cap
def iz(x:dL):Nat->c7:=λi=>if i=0 then bU ct x.id else if i=1 then bY x.name else if i=2 then bZ x.dz else if i=3 then bU ct x.cZ else if i=4 then bU ct x.dB else if i=5 then bU ct x.cR else if i=6 then bU cq x.blocks else if i<10 then dE x.cO (i-7) else x.dv
theorem mI(x:dL):∀i,(iz x i).oneCell'=cx:=by
 intro i;unfold iz;repeat' split
 all_goals first|rfl|exact dJ _ _
instance in0da92(x:dL):OF (iz x):=⟨mI x⟩
instance in45727(x:dL):CV (iz x) 0 (bU ct x.id):=⟨rfl⟩
instance ine4247(x:dL):CV (iz x) 1 (bY x.name):=⟨rfl⟩
instance in84358(x:dL):CV (iz x) 2 (bZ x.dz):=⟨rfl⟩
instance ina7f67(x:dL):CV (iz x) 3 (bU ct x.cZ):=⟨rfl⟩
instance in452fc(x:dL):CV (iz x) 4 (bU ct x.dB):=⟨rfl⟩
instance inc831e(x:dL):CV (iz x) 5 (bU ct x.cR):=⟨rfl⟩
instance in21e4d(x:dL):CV (iz x) 6 (bU cq x.blocks):=⟨rfl⟩
instance in2b210(x:dL):CV (iz x) 10 (bX x.ee x.df.n x.cap):=⟨rfl⟩
def UC(x:dL):List c7:=(cM 11 (iz x)).t
theorem AV(x:dL):(UC x).n=11:=by rfl
def ju(l:List dL):List c7:=l.flatMap UC
theorem oA(l:List dL):(ju l).n=l.n*11:=xp AV l
theorem xq(l m:List dL):ju (l++m)=ju l++ju m:=by grind[ju]
theorem UD(x:dL):ju [x]=UC x:=by rfl
theorem abg(l:List dL):∀u∈ju l,u.oneCell'=cx:=by
 intro u a;unfold ju at a;obtain⟨p,_,h⟩:=De.1 a;unfold UC at h;obtain⟨i,hi,rfl⟩:=xz.1 h;rw[Array.getElem_toList];have b:(cM 11 (iz p))[i]?=cu (iz p i):=by rw[dy,c8 aG]
 grind[mI]
def za(w:cS)(x:dL):Prop:=ly w x.dv x.df
def gC(w:cS)(v:c7)(l:List dL):Prop:=dg w 109 11 v l.n (ju l)/\∀x∈l,za w x
def Ke(x:dL):cV->cS->Prop:=yQ 106 3 x.dv x.df.n (iZ x.df)
def rU(v:c7)(l:List dL):cV->cS->Prop:=λB w=>yQ 109 11 v l.n (ju l) B w/\∀x∈l,Ke x B w
def B8(x:dL):vD (Ke x):=fF 106 3 _ _ _ ae ae
def fP(v:c7)(l:List dL):vD (rU v l):=(fF 109 11 v _ _ ae ae).and (Jq l λx _=>B8 x)
theorem rU.sl{l:List dL}(h:rU v l B w):gC w v l:=⟨h.1.1,λx a=>(h.2 x a).1⟩
theorem gC.x{l:List dL}(h:gC w v l):rU v l [] w:=⟨⟨h.1,λ_ _ _=>by simp⟩,λx a=>⟨h.2 x a,λ_ _ _=>by simp⟩⟩
theorem gC.cP{l:List dL}(h:gC w v l)(s:dS w w'):gC w' v l:=((fP v l).cP h.x s).sl
theorem gC.fr{d:Option Nat}{b:cV}{w w':cS}{v:c7}{l:List dL}(h:gC w v l)(s:Fr d b w w'):gC w' v l:=((fP v l).fr h.x s).sl
def sG(w:cS)(base:Nat)(x:dL):Prop:=za w x/\(0<x.df.n->∀b,x.dv.ownBlock=cu b->base<=b)
def sG.of{x:dL}(h:ir w base x.dv x.df):sG w base x:=
 ⟨h.sl,λ_ b a=>(h.lt b a).1⟩
theorem sG.x{x:dL}(h:sG w w0.h.s x)(a:∀b∈B,b<w0.h.s):Ke x B w:=
 ⟨h.1,λe b c d=>ug _ (QT (h.2 e b c) (a b d))⟩
def Ca(w:cS)(base:Nat)(v:c7)(l:List dL):Prop:=w.ownsRow base 109 11 v l.n (ju l)/\∀x∈l,sG w base x
theorem Ca.sl{l:List dL}(h:Ca w base v l):gC w v l:=⟨dg.j8 h.1,λx a=>(h.2 x a).1⟩
theorem nC(l:List dL)(hi:i<l.n){A:gJ}(a:A=cM 11 (iz l[i])):∀j,j<11->(ju l)[i*11+j]?=A[j]?:=by intro j b;rw[a];unfold ju;rw[flat_get AV l hi b];grind[UC]
def nD(w:cS)(b o:Nat)(x:dL):Prop:=∀k,k<11->w.cell? ⟨b,o+k,cw⟩=cu (iz x k)
theorem dg.cellAt{b cap:Nat}(h:dg w e z (bX (cu ⟨b,o,cw⟩) n cap) n xs)(f:0<n)(g:xs[j]?=cu u):w.cell? ⟨b,o+j,cw⟩=cu u:=by obtain⟨_,ao,a,c,_,_,d⟩:=h;have⟨b',o',cs,fl,e1,hh,hc⟩:=d f;simp only[lX] at c;obtain⟨rfl,-,-⟩:=c;cases e1<;>grind[cell_of_row]
theorem gC.at{b cap:Nat}{l:List dL}(h:gC w (bX (cu ⟨b,o,cw⟩) n cap) l){x:dL}(f:l[i]?=cu x):nD w b (o+i*11) x:=by
 intro k d;obtain⟨hi,rfl⟩:=oF.1 f;have c:=h.1;obtain⟨_,ao,a,g,_⟩:=id c;have e:n=l.n:=by grind
 subst e;rw[FP];exact c.cellAt cN (by rw[nC l hi ae k d,dy,c8 d])
theorem nD.cP{b:Nat}{x:dL}(h:nD w b o x)(c:dS w w'):nD w' b o x:=λk a=>c.cell (rM (h k a)) |>.trans (h k a)
section
variable {b:Nat}{x:dL}
def nD.c0(h:nD w b o x):w.cell? ⟨b,o,cw⟩=cu (.int ct x.id):=h 0 cN
theorem nD.c1(h:nD w b o x):w.cell? ⟨b,o+1,cw⟩=cu (.string x.name):=h 1 cN
theorem nD.c2(h:nD w b o x):w.cell? ⟨b,o+2,cw⟩=cu (.bool x.dz):=h 2 cN
theorem nD.c3(h:nD w b o x):w.cell? ⟨b,o+3,cw⟩=cu (.int ct x.cZ):=h 3 cN
theorem nD.c4(h:nD w b o x):w.cell? ⟨b,o+4,cw⟩=cu (.int ct x.dB):=h 4 cN
def nD.c5(h:nD w b o x):w.cell? ⟨b,o+5,cw⟩=cu (.int ct x.cR):=h 5 cN
def nD.c6(h:nD w b o x):w.cell? ⟨b,o+6,cw⟩=cu (.int cq x.blocks):=h 6 cN
def nD.c10(h:nD w b o x):w.cell? ⟨b,o+10,cw⟩=cu x.dv:=h 10 cN
end
def lF:Option Nat->Int
 |none=>-1
 |some k=>(k:Int)
def fp(l:List du)(id:Nat):Option Nat:=l.findIdx? λx=>decide (x.id=id)
def ez(l:List dL):List du:=l.map dL.todu
theorem mZ(l:List dL)(k:Nat):(ez l)[k]?=l[k]?.map dL.todu:=by grind[ez]
theorem iv(l:List dL):(ez l).n=l.n:=by grind[ez]
theorem Cb{p:α->Bool}{l:List α}{x:α}(c:l[k]?=cu x)(b:p x=cx)(a:∀(j:Nat)y,l[j]?=cu y->j<k->p y=cy):l.findIdx? p=cu k:=by rw[I4];grind
theorem Cc{p:α->Bool}{l:List α}(c:∀(j:Nat)y,l[j]?=cu y->j<l.n->p y=cy):l.findIdx? p=cw:=by rw[findIdx?_eq_none_iff];intro x a;obtain⟨j,b,rfl⟩:=xz.1 a;grind
theorem Kg{p:α->Bool}{l:List α}(h:l.findIdx? p=cu k):∃x,l[k]?=cu x/\p x=cx:=by grind[findIdx?_eq_some_iff_getElem]
section
attribute[local irreducible]wpList Code.wp Calls Oper.wp wpAnyH
def uu(l:List dL)(v:c7)(id:Nat)(t:l.n<=1000000)(w:cS)(R:gC w v l):sW 103 #[v,bU ct id] w (bU cq (lF (fp (ez l) id))):=by
 obtain⟨ao,cap,rfl,p,a⟩:=dQ R.1;have S:=cz (qP w);go_enter func103,ntmps103;go_upto_region 2 with(fail);go_loopw [8] (λi wr=>∃k:Nat,k<=l.n/\i=bU cq k/\Hid ((∀(j:Nat)y,(ez l)[j]?=cu y->j<k->decide (y.id=id)=cy)/\St w cw [] [] [] (λ_ _=>True) wr)) (λi _=>l.n-(intOf i).m);exact amo;clear S;obtain⟨k,s,rfl,hS⟩:=hrel;by_cases d:k<l.n
 . obtain⟨b,o,rfl⟩:=a cN;obtain⟨x,f⟩:∃x,l[k]?=cu x:=⟨_,jG d⟩;have n:=cz ((R.cP hS.o.2.fr.cP).at f);have m:=cz f;clear f;rcases Bv (x.id=id) with rfl|he
   . go_wp2_with (with_reducible refine jo 15 82 14 n.o.c0 ?_);go_ret;have e:fp (ez l) x.id=cu k:=Cb (by rw[mZ,m.o];rfl) (gI ae) hS.o.1;exact amT
   . have q:¬((x.id:Nat):Int)=(id:Nat):=cN;go_wp2_with (with_reducible refine jo 15 82 14 n.o.c0 ?_);go_roundw;refine⟨k+1,cN,by go_num,cz ⟨λj y g r=>?_,hS.o.2⟩⟩;by_cases c:j=k;subst c;rw[mZ,m.o] at g;cases g;exact jC he;exact hS.o.1 j y g cN;exact qN
 . obtain rfl:k=l.n:=cN;go_wp2;go_ret;have e:fp (ez l) id=cw:=Cc (by rw[iv];exact hS.o.1);exact amT
end
section
variable {L:List R4}{O:List O4}{x:Nat}
theorem dx(h:w.ownsRow base e z v n xs):∃ao c,v=bX ao n c:=by rcases h.2 with⟨rfl,rfl⟩|⟨g,cap,cur,rfl,_⟩<;>grind
theorem ad4(S:St w0 d l L O X w)(j:Nat){o:O4}(m:O[j]?=cu o){t:dW}(D:a.eval q=o.v)(E:a.eval r=v)(R:dg w T o.z v n xs)(ht:xm P t o.e o.z by')(H:∀u∈xs,u.oneCell'=cx)(Z:(o.n+n)*by'<=140737488355328)(Y:o.n+n<=maxLen)(h:∀ao c W,St w0 d l L (O.set j ⟨o.e,o.z,bX ao (o.n+n) c,o.n+n,o.xs++xs⟩) X W->K (a.put (cu dst) (bX ao (o.n+n) c)) W):
 Oper.wp P ⟨cu dst,.call {callee:=.builtin .append,args:=#[q,r],argTypes:=#[t,t]},t2,p,af,cw⟩ a w K Q:=by
 have y:j<O.n:=(oF.1 m).1;have C:∀v' W,St w0 d l L (O.set j ⟨o.e,o.z,v',o.n+n,o.xs++xs⟩) X W->K (a.put (cu dst) v') W:=λv' W hS=>by obtain⟨ao,c,hv⟩:=dx (hS.uV (k:=j) (by rw[Bx,c8 ae,c8 y]));grind
 have⟨hu,zv,hi,hz,h0⟩:=ht;have⟨it,hi1,hz0,hz1,hz2⟩:=oH hi;obtain⟨V,ao,cap,rfl,I,J,x⟩:=R;by_cases z:n=0;(subst z;have A:xs=[]:=yj cN;subst A;unfold Oper.wp execOp;simp only[resolve,invoke,builtin,lx,rN,nX,map_toArray,yh,map_nil,D,E,CD (P:=P) w w0.h.s t t2 o.e it o.z hu hi1 o.v o.n o.xs (S.uV m) ao cap];refine C _ _ ?_;rw[xK,wV];have e1:O.set j ⟨o.e,o.z,o.v,o.n,o.xs⟩=O:=by apply xL;simp_all[Bx]);grind;obtain⟨b,e,F,G,rfl,U,M⟩:=x cN;refine wp_append_lies w q r t ae w0.h.s o.e it zv o.z by' hu hi1 hz0 hz1 hz2 hz h0 o.v o.n o.xs D (S.uV m) ⟨b,e,cw⟩ n cap xs E V (λi u a1=>?_) H cN Y Z S.fr.size _ ae λg B w' f N s _=>C _ w' ?_;rw[show(⟨b,e,cw⟩:Addr).add i=⟨b,e+i,cw⟩ from by grind[Addr.add],cell_of_row w b _ F T G U];grind;exact S.grow m N f ae s
def apQ(S:St w0 d l L O X w)(j:Nat){o:O4}(f:O[j]?=cu o){t:dW}(k:a.eval q=o.v)(s:a.eval r=v)(R:dg w T o.z v n xs)(m:xm P t o.e o.z by')(b:∀u∈xs,u.oneCell'=cx)(i:(o.n+n)*by'<=140737488355328)(g:o.n+n<=maxLen)(h:∀ao c W,St w0 d l L (O.set j ⟨o.e,o.z,bX ao (o.n+n) c,o.n+n,o.xs++xs⟩) X W->wpList P ops Q rest (a.put (cu dst) (bX ao (o.n+n) c)) W):
 wpList P ops Q (⟨cu dst,.call {callee:=.builtin .append,args:=#[q,r],argTypes:=#[t,t]},t2,p,af,cw⟩::rest) a w:=
 mz ae λ_ e=>ad4 S j f k s R m b i g λao c W hS=>e _ _ (h ao c W hS)
def aiv(dst y:Nat)(h:wpList P ops Q (⟨cu dst,.call {callee:=.builtin .append,args:=#[.const (bX cw 0 0),.tmp y],argTypes:=ts},t2,p,af,cw⟩::rest) a w):wpList P ops Q (⟨cu dst,.call {callee:=.builtin .append,args:=#[.const (bX cw 0 0),.tmp y],argTypes:=ts},t2,p,af,cw⟩::rest) a w:=h
end
def agL:(prog.info? 109).map (·.size)=cu 11:=dC
def uX:ky prog 109 11:=⟨⟨_,underlying109,ae⟩,agL⟩
instance in836a7 :s7 109 11:=⟨uX⟩
def nj:dL:=⟨⟨0,tp,cy,0,0,0,0,cY,[]⟩,cw,0⟩
def pS:(#[bU ct 0,bY ⟨#[]⟩,bZ cy,bU ct 0,bU ct 0,bU ct 0,bU cq 0,bU cq 0,bU ct 0,bU .u32 0,bX cw 0 0]:gJ)=cM 11 (iz nj):=rfl
instance in56d2a :ZR 109 11 (iz nj):=⟨_,xP,pS⟩
def tX:lD prog 4:=⟨⟨_,underlying4,ae⟩,dC⟩
instance in6230a :rk 4:=⟨tX⟩
def Gr:lD prog 9:=⟨⟨_,yV,ae⟩,dC⟩
instance inf54d0 :rk 9:=⟨Gr⟩
def dL.UE(x:dL)(ao:Option Addr)(c:Nat):dL:=⟨x.todu,ao,c⟩
section
attribute[local irreducible]wpList Code.wp Calls Oper.wp wpAnyH
def UF(x:dL)(A:gJ)(a:A=cM 11 (iz x))(f:x.df.n<=1000000)(w:cS)(R:za w x):
 CP_ 115 #[bV A] w λe w'=>∃(B:gJ)(ao:Option Addr)(c:Nat),e=cj (bV B)/\B=cM 11 (iz (x.UE ao c))/\ir w' w.h.s (x.UE ao c).dv x.df/\dS w w':=by have d:=cz a;have S:=(qP w).Jn 106 3 ae ae;clear a;go_enter func115,ntmps115;go_wp2_with first|((with_reducible refine aiv 5 4 ?_);refine apQ S 0 ae ae ae (R.cP S.b) ib (oO _) CU xY λao c W S=>?_;rw[show(0+x.df.n)=x.df.n from pM _] at S|-;rw[show([]++iZ x.df)=iZ x.df from ae] at S)|((with_reducible refine wI 107 6 5 ?_);refine xD S 1 ae 10 (iz (x.UE ao c)) (λj b=>by have b:j<11:=b;rcases j with(_|_|_|_|_|_|_|_|_|_|_|j)<;>first|rfl|omega) rh ae ae ae ox λW S=>?_;have⟨B,HB⟩:=yw (cM 11 (iz (x.UE ao c))))|(refine mu ?_;exact⟨_,_,_,ae,ae,S.o0,S.b⟩)|refine fO ?_|refine fu λW S=>?_
def lT(X:cV->cS->Prop):Prop:=∀B w w' b,X B w->jZ b w w'->iy w b=cw->X B w'
theorem lT.t:lT (λ_ _=>True):=λ_ _ _ _ _ _ _=>iC
def lT.and(h:lT X)(g:lT Y):lT (λB w=>X B w/\Y B w):=λ_ _ _ _ c a b=>⟨h _ _ _ _ c.1 a b,g _ _ _ _ c.2 a b⟩
theorem lT.pl(P D M:Nat)(s:Pl):lT (CR P D M s):=λ_ _ _ _ h b a=>by have h:fh _ P D M s:=h;have⟨l,hl⟩:=h.dev.open;refine h.aih b hl (λc=>?_) (λe=>?_) λe=>?_;obtain⟨u,d,_⟩:=hl.ty _ c;grind;rw[e,h.tyP] at a;cases a;rw[e,h.tyM] at a;cases a
theorem Hk{w:cS}{b:Nat}{o:Obj}(h:w.h[b]?=cu o)(hc:o.isCells=cy):iy w b=cw:=by grind[iy,Obj.isCells]
theorem St.obj{L:List R4}{O:List O4}(S:St w0 d l L O X w){b:Nat}(a:jZ b w w')(s:iy w b=cw)(m:w0.h.s<=b)(p:lT X):St w0 d l L O X w':=by
 have c:∀k t,iy w k=cu t->k≠b:=λk t h e=>by grind
 have u:∀D,d=cu D->w'.h[D]?=w.h[D]?:=λD e=>a.block D (iA (S.Wo D e)) (c _ _ (S.Wo D e));refine⟨S.fr.Rg m a,λr q=>?_,λo ho=>?_,S.lo,S.nd,p _ _ _ _ S.x a s,S.me⟩;have i:=S.row r q;exact⟨cL.but i.1 a (c _ _ (cL.ty i.1)),i.2.1,i.2.2.imp id λf D e=>by grind[sD]⟩;have j:=S.own o ho;refine⟨qX j.1 (λe=>?_) a,j.2⟩;rcases j.1.2 with⟨n,_⟩|⟨g,cap,cur,n,_,v,_⟩<;>grind[Value.ownBlock,iy]
def uY{b:Nat}(a:w.grownBy w' (some b)):jZ b w w':=⟨a.os,a.tape,a.output,a.size,λk d c=>a.block k d (λe=>c (by cases e;rfl))⟩
def zd(a:w.grownBy w' none):dS w w':=⟨a.os,a.tape,a.output,a.size,λk b=>a.block k b (λe=>by cases e)⟩
def rV{γ:Type}{B:Nat}(b:w0.h.s<=B)(p:β->γ->Prop)(L:β->γ->List R4)(O:β->γ->List O4)(X:β->γ->cV->cS->Prop)(c:∀s y,lT (X s y)):
 OwnFrom B (λs W=>∃y,p s y/\St w0 d l (L s y) (O s y) (X s y) W):=by rintro s W g row ⟨y,e,S⟩ a f;refine⟨y,e,?_⟩;cases row with|none=>exact S.cP (zd a)|some r=>have⟨hB,o,ho,hc⟩:=f r ae;exact S.obj (uY a) (Hk ho hc) (ik b hB) (c s y)
structure np(bs:cV)(W W':cS):Prop where
 cP:Below 0 W W'
 same:∀k∈bs,W'.h[k]?=W.h[k]?
theorem np.trans{bs:cV}{A B C:cS}(h:np bs A B)(k:np bs B C):np bs A C:=⟨h.cP.trans k.cP,λi hi=>(k.same i hi).trans (h.same i hi)⟩
theorem np.refl(bs:cV)(W:cS):np bs W W:=⟨gK _ _,λ_ _=>ae⟩
def np.wZ(c:∀k∈bs,k<n)(W:cS)(l:Nat)(o o':Obj)(b:n<=l)(_:W.h[l]?=cu o)(_:o.isCells=cy)(_:o.isWalk=cy):np bs W (W.putObj l o'):=
 ⟨⟨ae,ae,ae,by simp,λk a=>absurd a (vz _)⟩,λk a=>World.putObj_heap_other jH⟩
def Tj(bs:cV):cV->cS->Prop:=λB w=>∀k∈bs,k∉B/\∃t,iy w k=cu t/\lQ t=cy/\gZ t=cy
def UG{t:dW}(h:iy w k=cu t)(a:dS w w'):iy w' k=cu t:=by rw[wC (a.block k (iA h))];exact h
theorem Zp{d:Option Nat}{l:cV}{w w':cS}{k:Nat}{t:dW}(f:Fr d l w w')(h:iy w k=cu t)(a:lQ t=cy)(b:gZ t=cy):w'.h[k]?=w.h[k]?:=
 f.block k (iA h) (by
  grind[PM])
theorem kH(bs:cV):vD (Tj bs):=
 ⟨λh g k a=>⟨(h k a).1,let⟨t,c,h2⟩:=(h k a).2;⟨t,UG c g,h2⟩⟩,
  fun {B w b} h g k a=>⟨λd=>by
   rcases iX.1 d with e|d
   . obtain⟨_,t,c,_⟩:=h k a;have:=iA c;omega
   . exact(h k a).1 d,(h k a).2⟩,
  λh d k a=>⟨λi=>(h k a).1 (d k i),(h k a).2⟩,
  fun {B w w' b} h hB g k a=>⟨(h k a).1,let⟨t,c,h2⟩:=(h k a).2;⟨t,by rw[wC (g.block k (iA c) (λe=>(h k a).1 (e▸hB)))];exact c,h2⟩⟩,
  λh f k a=>⟨(h k a).1,let⟨t,c,h2,h3⟩:=(h k a).2;⟨t,by grind[wC,Zp],h2,h3⟩⟩⟩
theorem lT.av(bs:cV):lT (Tj bs):=λ_ _ _ _ h b c k a=>⟨(h k a).1,let⟨t,h1,h2⟩:=(h k a).2;⟨t,by rw[wC (b.block k (iA h1) (λe=>by grind))];exact h1,h2⟩⟩
def L7(bs:cV)(W:cS):cV->cS->Prop:=λB w=>Tj bs B w/\KeepsOthers W w/\np bs W w
def Hl(a:dS w w'):KeepsOthers w w':=⟨a.s,λk o b _=>(a.block k (rI.1 b).1).trans b⟩
theorem K0{b:Nat}{t:dW}(a:jZ b w w')(d:iy w b=some t):KeepsOthers w w':=
 ⟨a.size,λk o c ho=>(a.block k (rI.1 c).1 (λe=>by grind[Hk])).trans c⟩
theorem MC(f:Fr d l w w'):KeepsOthers w w':=
 ⟨f.size,λk o a ho=>(f.block k (rI.1 a).1 (λ⟨t,h,_⟩=>by grind[Hk])).trans a⟩
def Hm(a:dS w w'):Below 0 w w':=a.mono (gG _)
def XV{b:Nat}(a:jZ b w w'):Below 0 w w':=⟨a.os,a.tape,a.output,a.size,λk c=>absurd c (vz _)⟩
def abh(f:Fr d l w w'):Below 0 w w':=⟨f.os,f.tape,f.output,f.size,λk a=>absurd a (vz _)⟩
def Gs(h:np bs W w)(a:Below 0 w w')(b:∀k∈bs,w'.h[k]?=w.h[k]?):np bs W w':=h.trans ⟨a,b⟩
theorem lN.eS(bs:cV)(W:cS)(h:lN d X):lN d (λB w=>X B w/\L7 bs W B w):=
 ⟨fun {B w w'} a c=>⟨h.cP a.1 c,(kH bs).cP a.2.1 c,a.2.2.1.trans (Hl c),Gs a.2.2.2 (Hm c) λk f=>c.block k (let⟨_,h1,_⟩:=(a.2.1 k f).2;iA h1)⟩,
  λa c=>⟨h.add a.1 c,(kH bs).add a.2.1 c,a.2.2⟩,
  λa g=>⟨h.mono a.1 g,(kH bs).mono a.2.1 g,a.2.2⟩,
  fun {B w w' b t} a hB c ht h1 h2=>⟨h.but a.1 hB c ht h1 h2,(kH bs).but a.2.1 hB c,a.2.2.1.trans (K0 c ht),Gs a.2.2.2 (XV c) λk f=>c.block k (let⟨_,h1,_⟩:=(a.2.1 k f).2;iA h1) (λe=>(a.2.1 k f).1 (e▸hB))⟩,
  λa e=>h.dev a.1 e⟩
def Hn(h:L7 bs W B w)(f:Fr d l w w'):L7 bs W B w':=
 ⟨(kH bs).fr h.1 f,h.2.1.trans (MC f),Gs h.2.2 (abh f) λk a=>let⟨_,h1,h2,h3⟩:=(h.1 k a).2;Zp f h1 h2 h3⟩
theorem St.eS{L:List R4}{O:List O4}(S:St w0 d l L O (λB w=>X B w/\Tj bs B w) w):St w0 d l L O (λB W=>(X B W/\Tj bs B W)/\L7 bs w B W) w:=
 ⟨S.fr,S.row,S.own,S.lo,S.nd,⟨S.x,S.x.2,KeepsOthers.refl _,np.refl _ _⟩,lN.eS bs w S.me⟩
def St.kept{L:List R4}{O:List O4}(S:St w0 d l L O (λB w=>X B w/\L7 bs W B w) w)(a:lN d X):KeepsOthers W w/\np bs W w/\St w0 d l L O X w:=
 ⟨S.x.2.2.1,S.x.2.2.2,S.fr,S.row,S.own,S.lo,S.nd,S.x.1,a⟩
def St.UH{L:List R4}{O:List O4}(S:St w0 d l L O X w)(e:dS w w')(h:∀k∈bs,(w.h.s<=k∨k<w0.h.s)/\∃t,iy w' k=cu t/\lQ t=cy/\gZ t=cy):St w0 d l L O (λB w=>X B w/\Tj bs B w) w':=by have a:=S.cP e;refine⟨a.fr,a.row,a.own,a.lo,a.nd,⟨a.x,λk b=>⟨λc=>?_,(h k b).2⟩⟩,a.me.still (kH bs)⟩;rcases(h k b).1 with h1|h1;have:=S.lt k c;omega;have:=S.lo k c;omega
def dK(s:du):Nat×fM:=if s.dz=cx then(s.cZ,s.name) else(0,s.name)
def sP(c:Nat×fM):Nat->c7:=λi=>if i=0 then bU ct c.1 else bY c.2
def P9(c:Nat×fM):∀i,(sP c i).oneCell'=cx:=by intro i;unfold sP;split<;>rfl
instance ina6fa9(x:Nat×fM):OF (sP x):=⟨P9 x⟩
theorem DG(c:Nat×fM):cM 2 (sP c)=#[bU ct c.1,bY c.2]:=rfl
def agM:(#[bU ct 0,bY ⟨#[]⟩]:gJ)=cM 2 (sP (0,tp)):=rfl
instance in3a7d0 :ZR 258 2 (sP (0,tp)):=⟨_,zeroValue258,agM⟩
def ahQ:ky prog 258 2:=⟨⟨_,underlying258,ae⟩,dC⟩
instance ina5a31 :s7 258 2:=⟨ahQ⟩
theorem aiw(c d:Nat×fM)(r:Bool)(h:decide (c=d)=r)(w:cS):(binOp .eql 258 (.agg #[.int .u64 c.1,.string c.2]) (.agg #[.int .u64 d.1,.string d.2])).run prog w=.ok (.bool r) w:=by
 have k:(Op.equal 258 (.agg #[.int .u64 c.1,.string c.2]) (.agg #[.int .u64 d.1,.string d.2])).run prog w=.ok r w:=by
  unfold Op.equal Op.maxDepth;rw[run_equalIn_struct (P:=prog) w 9999 258 _ _ dC dC];obtain⟨l,f⟩:∃p,(prog.fieldsOf 258).toList=[⟨ "owner",82,0,false, "",p,0⟩,⟨ "name",9,1,false, "",p,8⟩]:=⟨(prog.fieldsOf 258)[0]!.pkgPath,dC⟩;rw[f];simp[Op.eqFields,part,isAgg82,isAgg9,Result.andThen,I' w 9998 82 .u64 .u64 _ _ underlying82,run_equalIn_string w 9998 9 _ _ yV];rw[<-h];have⟨a,s⟩:=c;have⟨b,t⟩:=d;simp only;have g:s.toList=t.toList↔s=t:=by rw[DF,DF];exact⟨λe=>by have⟨⟨x⟩⟩:=s;simp_all,λe=>by rw[e]⟩
  by_cases i:a=b;by_cases j:s=t<;>simp_all;have:¬((a:Int)=(b:Int)):=cN;simp_all
 simp_all[binOp]
def MD(b o:Nat)(x:dL)(w:cS)(h:nD w b o x):sW 199 #[bW (cu ⟨b,o,cw⟩)] w (bV (cM 2 (sP (dK x.todu)))):=by
 have R:=cz h;clear h;have S:=qP w;cases a:x.dz with
 |true=>
  have hc:dK x.todu=(x.cZ,x.name):=by unfold dK;rw[c8 a]
  rw[hc];have c:Value.bool x.dz=bZ cx:=by rw[a]
  have d:=cz c;have⟨A,HA⟩:=yw (cM 2 (sP (x.cZ,x.name)));clear a hc c;go_enter func199,ntmps199;go_upto_region 2 with(first|(refine jF (R.o.cP S.b).c2 ae tX ?_;rw[d.o])|refine fu λW S=>?_);refine B5 S dC λW S=>?_;refine dh 0 _ ?_;refine dh 1 (dF b o) ?_;refine dh 2 (dF b (o+3)) ?_;refine ij 3 (bU ct x.cZ) ae (gW (λw h=>by obtain⟨_,_,_,S⟩:=h;exact(R.o.cP S.b).c3) ae gi) ?_;refine dh 4 _ ?_;refine dh 5 (dF b o) ?_;refine dh 6 (dF b (o+1)) ?_;refine ij 7 (bY x.name) ae (gW (λw h=>by obtain⟨_,_,_,S⟩:=h;exact(R.o.cP S.b).c1) ae Gr) ?_;refine ij 8 (bV A) ae (yU ae amY) ?_;refine kK 9 λK e=>?_;refine km S 0 ae ae ae HA.o ahQ (P9 _) λW S=>?_;refine gy e ?_;refine qG ?_;go_wp2_with (refine mu ?_;exact az)
 |false=>
  have hc:dK x.todu=(0,x.name):=by unfold dK;rw[cX (by rw[a];simp)]
  rw[hc];have c:Value.bool x.dz=bZ cy:=by rw[a]
  have d:=cz c;have⟨A,HA⟩:=yw (cM 2 (sP (0,x.name)));clear a hc c;go_enter func199,ntmps199;go_wp2_with first|refine jo 19 9 18 (R.o.cP S.b).c1 ?_|(refine jF (R.o.cP S.b).c2 ae tX ?_;rw[d.o])|refine lE (cells:=A) ae amY ?_|(refine mu ?_;exact az)|refine fu λW S=>?_
def rW(l:List du)(c:Nat×fM):Option Nat:=l.findIdx? λx=>decide (dK x=c)
def Kh(l:List dL)(v:c7)(c:Nat×fM)(A:gJ)(u:A=cM 2 (sP c))(L:l.n<=1000000)(w:cS)(R:gC w v l):sW 164 #[v,bV A] w (bU cq (lF (rW (ez l) c))):=by
 obtain⟨ao,cap,rfl,z,e⟩:=dQ R.1;have C:=cz u;clear u;have S:=qP w;go_enter func164,ntmps164;go_upto_region 2 with(refine fu λW S=>?_);have S:=cz S;go_loopw [8] (λi wr=>∃k:Nat,k<=l.n/\i=bU cq k/\Hid ((∀(j:Nat)y,(ez l)[j]?=cu y->j<k->decide (dK y=c)=cy)/\St w cw [] [⟨w.h.s,258,2,sP c⟩] [] (λ_ _=>True) wr)) (λi _=>l.n-(intOf i).m);exact amo;clear S;obtain⟨k,J,rfl,hS⟩:=hrel;by_cases g:k<l.n
 . obtain⟨b,o,rfl⟩:=e cN;obtain⟨x,n⟩:∃x,l[k]?=cu x:=⟨_,jG g⟩;have⟨hold,S⟩:=hS.o;clear hS;have d:=cz λW(G:dS w W)=>MD b (o+k*11) x W ((R.cP G).at n);have t:=cz n;have⟨D,HD⟩:=sV (dK x.todu);rw[HD.o] at d;have⟨r,hr⟩:=dG (decide (D=c));have a:=aiw D c r hr;rw[<-DG,<-DG] at a;have⟨B,hB⟩:=fU (cM 2 (sP D));rw[<-hB] at a d;rw[<-C.o] at a;have E:=cz a;have q:=cz hold;have s:=cz hr;clear n a hold hr hB;go_wp2;refine eO S dC λW S=>?_;refine dh 0 _ ?_;refine dh 1 _ ?_;refine dh 2 (dF b (o+k*11)) ?_;refine dh 4 (bV A) ?_;refine kK 3 λK F=>?_;go_wp2_with fail;refine je S (d.o _ S.b) λW S=>?_;refine gy F ?_;refine ij 5 (bZ r) ae (Or.inl ⟨dC,λw M=>by have H:=E.o;go_simp⟩) ?_;refine qG ?_;cases r with|true=>go_wp2;go_ret;have m:rW (ez l) c=cu k:=Cb (by rw[mZ,t.o];rfl) (by rw[HD.o];exact s.o) q.o;exact⟨by rw[m];rfl,S.b⟩|false=>go_wp2;go_roundw;refine⟨k+1,cN,by go_num,cz ⟨λj y p I=>?_,S⟩⟩;by_cases f:j=k;subst f;rw[mZ,t.o] at p;cases p;rw[HD.o];exact s.o;exact q.o j y p cN;exact qN
 . obtain rfl:k=l.n:=cN;go_wp2;go_ret;have m:rW (ez l) c=cw:=Cc (by rw[iv];exact hS.o.1);exact⟨by rw[m];rfl,hS.o.2.fr.cP⟩
def adR:prog.built 109 []=cu #[bU ct 0,bY ⟨#[]⟩,bZ cy,bU ct 0,bU ct 0,bU ct 0,bU cq 0,bU cq 0,bU ct 0,bU .u32 0,bX cw 0 0]:=dC
def oI:du:=nj.todu
def dH(l:List du)(k:Nat):du:=l.getD k oI
def P'(l:List du):Option Nat->du
 |none=>oI
 |some k=>dH l k
theorem lG{l:List dL}{k:Nat}{x:dL}(a:l[k]?=cu x):dH (ez l) k=x.todu:=by grind[dH,mZ]
theorem kP{l:List dL}{id k:Nat}(h:fp (ez l) id=cu k):k<l.n/\∃x,l[k]?=cu x/\x.id=id:=by have⟨x,hx,hp⟩:=Kg h;rw[mZ] at hx;grind
theorem ME{l:List dL}{c:Nat×fM}(h:rW (ez l) c=cu k):k<l.n/\∃x,l[k]?=cu x/\dK x.todu=c:=by have⟨x,hx,hp⟩:=Kg h;rw[mZ] at hx;grind
def ze(w':cS)(base:Nat)(B:gJ)(t:du):Prop:=∃y:dL,B=cM 11 (iz y)/\y.todu=t/\ir w' base y.dv y.df
def sH(w:cS)(base:Nat):ze w base (cM 11 (iz nj)) oI:=⟨nj,ae,ae,ir.nil _ _⟩
def qv(x:dL)(A:gJ)(a:A=cM 11 (iz x))(b:x.df.n<=1000000)(w:cS)(R:za w x):
 CP_ 115 #[bV A] w λe w'=>∃(B:gJ)(y:dL),e=cj (bV B)/\B=cM 11 (iz y)/\(y.todu=x.todu/\ir w' w.h.s y.dv y.df)/\dS w w':=
 (UF x A a b w R).mono λe w' h=>by
  have⟨B,ao,c,h1,h2,h3,h4⟩:=h;exact⟨B,x.UE ao c,h1,h2,⟨ae,h3⟩,h4⟩
def ajT(s:List du):Prop:=∀t∈s,t.df.n<=1000000/\t.name.s<=1000
def rC(l:List dL):Prop:=ajT (ez l)
theorem rC.at{l:List dL}(h:rC l){x:dL}(a:x∈l):x.df.n<=1000000/\x.name.s<=1000:=h x.todu (gT.2 ⟨x,a,ae⟩)
def Ki(l:List dL)(v:c7)(id:Nat)(u:l.n<=1000000)(t:rC l)(w:cS)(R:gC w v l):CP_ 160 #[v,bU ct id] w λe w'=>∃B,e=cj (cg #[bV B,bZ (fp (ez l) id).isSome])/\ze w' w.h.s B (P' (ez l) (fp (ez l) id))/\dS w w':=by
 obtain⟨ao,cap,rfl,n,h⟩:=dQ R.1;have R:=cz R;have c:=cz λW(a:dS w W)=>uu l _ id u W (R.o.cP a);have S:=qP w;rcases hp:fp (ez l) id with _|k;rw[hp] at c;simp only[lF] at c;clear hp;rotate_left;rw[hp] at c;simp only[lF] at c;obtain⟨C,x,g,-⟩:=kP hp;clear hp;obtain⟨b,o,rfl⟩:=h cN;have⟨hi,hxx⟩:=oF.1 g;have⟨A,hA⟩:=fU (cM 11 (iz x));have f:=cz (nC l hi (A:=A) am6);have j:=cz hA;have i:=lu g;have p:=cz λW(a:dS w W)=>qv x A j.o (t.at i).1 W ((R.o.cP a).2 x i);have q:=cz (lG g);clear hA hxx i g
 all_goals
  go_enter func160,ntmps160
  go_wp2_with first|refine je S (c.o _ S.b) λW S=>?_|(refine(p.o _ S.b).mono ?_;rintro e W ⟨B,y,rfl,m,d,a⟩;have z:=cz m;replace d:=d;have s:=S;replace S:=S.iw a d.2 ae ae;have r:=cz d.1;clear a m d s)|refine CB (R.o.cP S.b).1 hi (vx j) f.o ?_|refine fO ?_|refine fu λW S=>?_|(refine mu ?_;exact⟨_,ae,sH _ _,S.b⟩)|(refine mu ?_;exact⟨_,ae,⟨y,ae,r.o.trans q.o.symm,S.o0⟩,S.b⟩)
def nJ(l:List du)(cT:fM):Option Nat×Int:=
 match eW cT with
 |none=>(cw,141)
 |some (iK,dz)=>match rW l (0,iK) with
  |none=>(cw,161)
  |some i=>if dz=tp then(cu i,0) else match rW l ((dH l i).id,dz) with
   |none=>(cw,161)
   |some j=>(cu j,0)
def Ho(l:List dL)(v:c7)(cT:fM)(N:cT.size<=140737488355328)(L:l.length<=1000000)(K:rC l)(w:cS)(R:gC w v l):CP_ 107 #[v,.string cT] w λe w'=>∃B,e=.returned (.tuple #[.agg B,.int .i64 (nJ (ez l) cT).2])/\ze w' w.heap.size B (P' (ez l) (nJ (ez l) cT).1)/\dS w w':=by
 obtain⟨ao,cap,rfl,J,E⟩:=dQ R.1;have R:=cz R;have m:=cz (tG cT N);have S:=qP w;rcases hn:eW cT with _|p;have h:Hid (nJ (ez l) cT=(none,141)):=cz (by unfold nJ;rw[hn]);rw[hn] at m;clear hn;rotate_left;have⟨iK,dz⟩:=p;rw[hn] at m;have⟨A1,hA1⟩:=fU (cM 2 (sP (0,iK)));have f:=cz λW(a:dS w W)=>Kh l _ (0,iK) A1 hA1 L W (R.o.cP a);have t:=cz hA1;clear hA1;rcases h1:rW (ez l) (0,iK) with _|i;have h:Hid (nJ (ez l) cT=(none,161)):=cz (by unfold nJ;rw[hn];simp only[h1]);rw[h1] at f;simp only[lF] at f;clear hn h1;rotate_left;rw[h1] at f;simp only[lF] at f;obtain⟨hi,x,s,-⟩:=ME h1;have q:=lG s;have O:(0:Int)<=(i:Int):=Int.natCast_nonneg i;have Q:¬((i:Int)<0):=cN;obtain⟨b,o,rfl⟩:=E cN;have z:=cz s;by_cases r:dz=tp;have h:Hid (nJ (ez l) cT=(some i,0)):=cz am8;have⟨hi9,hxx⟩:=oF.1 z.o;have⟨A,hA⟩:=fU (cM 11 (iz x));have c:=cz (nC l hi9 (A:=A) am6);have n:=cz hA;have d:=lu z.o;have F:=cz λW(a:dS w W)=>qv x A n.o (K.at d).1 W ((R.o.cP a).2 x d);have G:=cz q;clear hA q hxx d;subst r;unfold tp at m;clear hn h1;rotate_left;have X:=AU r;have⟨A2,hA2⟩:=fU (cM 2 (sP (x.id,dz)));have g:=cz λW(a:dS w W)=>Kh l _ (x.id,dz) A2 hA2 L W (R.o.cP a);have u:=cz hA2;clear hA2;rcases h2:rW (ez l) (x.id,dz) with _|j;have h:Hid (nJ (ez l) cT=(none,161)):=cz am8;rw[h2] at g;simp only[lF] at g;clear hn h1 h2 r q s;rotate_left;have h:Hid (nJ (ez l) cT=(some j,0)):=cz am8;rw[h2] at g;simp only[lF] at g;obtain⟨Y,y,M,-⟩:=ME h2;have k:=lG M;have T:¬((j:Int)<0):=cN;have H:=cz M;clear s;have⟨hi9,hxx⟩:=oF.1 H.o;have⟨A,hA⟩:=fU (cM 11 (iz y));have c:=cz (nC l hi9 (A:=A) am6);have n:=cz hA;have d:=lu H.o;have F:=cz λW(a:dS w W)=>qv y A n.o (K.at d).1 W ((R.o.cP a).2 y d);have G:=cz k;clear hA k hxx d;clear hn h1 h2 r q
 all_goals
  rw[h.o];go_enter func107,ntmps107
  go_wp2_with first|(go_at_call_has 164 A1;refine je S (f.o _ S.b) λW S=>?_)|(go_at_call_has 164 A2;refine je S (g.o _ S.b) λW S=>?_)|refine je S (m.o _) λW S=>?_|((with_reducible refine BY 22 258 ?_);refine lE (cells:=A1) ae (by rw[t.o];kernel_rfl) ?_)|refine je S (f.o _ S.b) λW S=>?_|(refine(F.o _ S.b).mono ?_;rintro e W ⟨B,U,rfl,I,D,a⟩;have V:=cz I;replace S:=S.iw a D.2 ae ae;have C:=cz D.1;clear a I D)|refine jo 35 82 34 ((R.o.cP S.b).at z.o).c0 ?_|((with_reducible refine BY 37 258 ?_);refine lE (cells:=A2) ae (by rw[u.o];kernel_rfl) ?_)|refine CB (R.o.cP S.b).1 hi9 (vx n) c.o ?_|refine fO ?_|refine fu λW S=>?_|(refine mu ?_;exact⟨_,ae,sH _ _,S.b⟩)|(refine mu ?_;exact⟨_,ae,⟨U,ae,C.o.trans G.o.symm,S.o0⟩,S.b⟩)
def gr(l:List du)(id:Nat):Nat:=
 match fp l id with
 |none=>0
 |some i=>if(dH l i).dB=0 then 0 else match fp l (dH l i).dB with
  |none=>0
  |some j=>(dH l j).cR
def EF(l:List dL)(v:c7)(id:Nat)(B:l.n<=1000000)(w:cS)(R:gC w v l):sW 114 #[v,bU ct id] w (bU ct (gr (ez l) id:Nat)):=by
 obtain⟨ao,cap,rfl,s,n⟩:=dQ R.1;have R:=cz R;have a:=cz λ(id:Nat)W(u:dS w W)=>uu l _ id B W (R.o.cP u);have S:=qP w;cases c:fp (ez l) id with
 |none=>have f:Hid (gr (ez l) id=0):=cz (by unfold gr;rw[c]);have a:=cz (a.o id);rw[c] at a;simp only[lF] at a;clear c;go_enter func114,ntmps114;go_wp2_with (refine je S (a.o _ S.b) λW S=>?_);go_ret;exact amf
 |some i=>
  obtain⟨hi,x,k,-⟩:=kP c;have h:=lG k;obtain⟨b,o,rfl⟩:=n cN;have z:¬((i:Int)<0):=cN;have m:=cz (a.o id);rw[c] at m;simp only[lF] at m;have r:=cz k;have⟨pv,hpv⟩:=dG x.dB;have q:Hid (Value.int ct x.dB=bU ct pv):=cz (by rw[hpv]);by_cases g:pv=0;have f:Hid (gr (ez l) id=0):=cz (by unfold gr;rw[c];simp only[h];rw[c8 (hpv.trans g)]);subst g;clear c k h hpv a;rotate_left;have C:((pv:Int)==0)=cy:=by rw[lr];omega
  have e:=cz (a.o pv);have d:gr (ez l) id=match fp (ez l) pv with|none=>0|some j=>(dH (ez l) j).cR:=by unfold gr;rw[c];simp only[h];rw[cX (by rw[hpv];exact g),hpv]
  rcases hp2:fp (ez l) pv with _|j;rw[hp2] at d e;simp only[lF] at e;have f:Hid (gr (ez l) id=0):=cz d;clear c k h hpv a d hp2 g;rotate_left;rw[hp2] at d e;simp only[lF] at e;obtain⟨D,y,p,-⟩:=kP hp2;have A:¬((j:Int)<0):=cN;simp only[lG p] at d;have f:Hid (gr (ez l) id=y.cR):=cz d;have t:=cz p;clear c k h hpv a d hp2 g p
  all_goals
   go_enter func114,ntmps114
   go_wp2_with first|(go_at_call_has 103 (Value.int ct id);refine je S (m.o _ S.b) λW S=>?_)|(go_at_call_has 103 (Value.int ct pv);refine je S (e.o _ S.b) λW S=>?_)|refine je S (m.o _ S.b) λW S=>?_|(refine mf dC<|jF ((R.o.cP S.b).at r.o).c4 ae gi ?_;rw[q.o])|(refine jF ((R.o.cP S.b).at r.o).c4 ae gi ?_;rw[q.o])|refine jo 32 82 31 ((R.o.cP S.b).at t.o).c5 ?_
   go_ret;exact amf
def AW(l:List du)(id:Nat):fM:=
 match fp l id with
 |none=>tp
 |some i=>if(dH l i).dz=cy then oz (dH l i).name tp else match fp l (dH l i).cZ with
  |none=>tp
  |some j=>oz (dH l j).name (dH l i).name
def ad5(l:List dL)(v:c7)(id:Nat)(F:l.n<=1000000)(C:rC l)(w:cS)(R:gC w v l):sW 44 #[v,bU ct id] w (bY (AW (ez l) id)):=by
 obtain⟨ao,cap,rfl,t,q⟩:=dQ R.1;have R:=cz R;have a:=cz λ(id:Nat)W(B:dS w W)=>uu l _ id F W (R.o.cP B);have S:=qP w;cases c:fp (ez l) id with
 |none=>have f:Hid (AW (ez l) id=tp):=cz (by unfold AW;rw[c]);have a:=cz (a.o id);rw[c] at a;simp only[lF] at a;clear c;go_enter func44,ntmps44;go_wp2_with (refine je S (a.o _ S.b) λW S=>?_);go_ret;exact amf
 |some i=>
  obtain⟨hi,x,k,-⟩:=kP c;have n:=lG k;obtain⟨b,o,rfl⟩:=q cN;have D:¬((i:Int)<0):=cN;have m:=cz (a.o id);rw[c] at m;simp only[lF] at m;have g:=cz k;rcases hs:x.dz with _|_;have p:Hid (Value.bool x.dz=bZ cy):=cz (by rw[hs]);have f:Hid (AW (ez l) id=oz x.name tp):=cz (by unfold AW;rw[c];simp only[n];rw[c8 hs]);have d:=cz (Hj x.name tp kM);unfold tp at d;clear c k n a hs;rotate_left;have p:Hid (Value.bool x.dz=bZ cx):=cz (by rw[hs]);have⟨ow,how⟩:=dG x.cZ;have s:Hid (Value.int ct x.cZ=bU ct ow):=cz (by rw[how]);have d:=cz (a.o ow);have e:AW (ez l) id=match fp (ez l) ow with|none=>tp|some j=>oz (dH (ez l) j).name x.name:=by unfold AW;rw[c];simp only[n];rw[cX (by rw[hs];simp),how]
  rcases hp2:fp (ez l) ow with _|j;rw[hp2] at e d;simp only[lF] at d;have f:Hid (AW (ez l) id=tp):=cz e;clear c k n a hs e hp2 how;rotate_left
  . rw[hp2] at e d;simp only[lF] at d;obtain⟨G,y,r,-⟩:=kP hp2;have E:¬((j:Int)<0):=cN;simp only[lG r] at e;have u:=cz (Hj y.name x.name (C.at (lu k)).2);have f:Hid (AW (ez l) id=oz y.name x.name):=cz e;have z:=cz r;clear c k n a hs e hp2 how r;go_enter func44,ntmps44;go_upto_region 9 with(first|(go_at_call_has 103 (Value.int ct id);refine je S (m.o _ S.b) λW S=>?_)|(refine jF ((R.o.cP S.b).at g.o).c2 ae tX ?_;rw[p.o])|(refine jF ((R.o.cP S.b).at g.o).c3 ae gi ?_;rw[s.o])|(go_at_call_has 103 (Value.int ct ow);refine je S (d.o _ S.b) λW S=>?_));refine eO S dC λW S=>?_;refine dh 0 _ ?_;refine dh 1 _ ?_;refine dh 2 (dF b (o+j*11)) ?_;refine dh 3 (dF b (o+j*11+1)) ?_;refine ij 4 (bY y.name) ae (gW (λw h=>by obtain⟨_,S⟩:=h;exact((R.o.cP S.b).at z.o).c1) ae Gr) ?_;refine dh 5 _ ?_;refine dh 6 _ ?_;refine dh 7 (dF b (o+i*11)) ?_;refine dh 8 (dF b (o+i*11+1)) ?_;refine ij 9 (bY x.name) ae (gW (λw h=>by obtain⟨_,S⟩:=h;exact((R.o.cP S.b).at g.o).c1) ae Gr) ?_;refine kK 10 λK A=>?_;go_wp2_with fail;refine je S (u.o _) λW S=>?_;refine gy A ?_;refine dh 11 _ ?_;refine qG ?_;go_wp2;go_ret;exact amf
  all_goals
   go_enter func44,ntmps44
   go_wp2_with first|(go_at_call_has 103 (Value.int ct id);refine je S (m.o _ S.b) λW S=>?_)|(go_at_call_has 103 (Value.int ct ow);refine je S (d.o _ S.b) λW S=>?_)|refine jo 22 9 21 ((R.o.cP S.b).at g.o).c1 ?_|refine je S (m.o _ S.b) λW S=>?_|(refine jF ((R.o.cP S.b).at g.o).c2 ae tX ?_;rw[p.o])|refine je S (d.o _) λW S=>?_|(refine jF ((R.o.cP S.b).at g.o).c3 ae gi ?_;rw[s.o])
   go_ret;exact amf
def zV(l:List du)(id:Nat):Nat->cV->Nat->cV×Nat
 |0,chain,dB=>(chain,dB)
 |f+1,chain,dB=>if dB=0 then(chain,dB) else match fp l dB with
  |none=>(chain,dB)
  |some i=>if(dH l i).cZ=id then zV l id f (chain++[dB]) (dH l i).dB else(chain,dB)
def uZ(l:List du)(id:Nat):cV×Nat:=
 match fp l id with
 |none=>([],0)
 |some i=>if(dH l i).dz=cx then([],0) else zV l id 32 [] (dH l i).dB
theorem XW(l:List du)(id f:Nat)(a:cV):zV l id f a 0=(a,0):=by cases f<;>simp[zV]
def K1(l:cV):List c7:=l.map λ(n:Nat)=>Value.int ct (n:Int)
def ad6:xm prog 78 82 1 8:=⟨vU,_,Aj,ae,cN⟩
def Hp(k:IntKind)(l:List Int):∀i,(Mt k l i).oneCell'=cx:=λ_=>ae
def Zq(l:List dL)(v:c7)(id:Nat)(T:l.n<=1000000)(w:cS)(R:gC w v l):CP_ 105 #[v,bU ct id] w λe w'=>∃r,e=cj (cg #[r,bU ct ((uZ (ez l) id).2:Nat)])/\KV w' w.h.s r (uZ (ez l) id).1/\dS w w':=by
 obtain⟨ao,cap,rfl,J,F⟩:=dQ R.1;have R:=cz R;have k:=cz λ(id:Nat)W(N:dS w W)=>uu l _ id T W (R.o.cP N);have S:=qP w;cases h:fp (ez l) id with
 |none=>have m:Hid (uZ (ez l) id=([],0)):=cz (by unfold uZ;rw[h]);have k:=cz (k.o id);rw[h] at k;simp only[lF] at k;clear h;rw[m.o];go_enter func105,ntmps105;go_wp2_with (refine je S (k.o _ S.b) λW S=>?_);go_ret2;exact aH
 |some i=>
  obtain⟨hi,x,A,-⟩:=kP h;have z:=lG A;obtain⟨b,o,rfl⟩:=F cN;have O:¬((i:Int)<0):=cN;have u:=cz (k.o id);rw[h] at u;simp only[lF] at u;have D:=cz A;cases t:x.dz with
  |true=>have B:Hid (Value.bool x.dz=bZ cx):=cz (by rw[t]);have m:Hid (uZ (ez l) id=([],0)):=cz (by unfold uZ;rw[h];simp only[z];rw[c8 t]);clear h A z k t;rw[m.o];go_enter func105,ntmps105;go_wp2_with (first|refine je S (u.o _ S.b) λW S=>?_|(refine mf dC<|jF ((R.o.cP S.b).at D.o).c2 ae tX ?_;rw[B.o]));go_ret2;exact aH
  |false=>
   have B:Hid (Value.bool x.dz=bZ cy):=cz (by rw[t]);have m:Hid (zV (ez l) id 32 [] x.dB=uZ (ez l) id):=cz (by unfold uZ;rw[h];simp only[z];rw[cX (by rw[t];simp)]);have⟨WW,hWW⟩:=dG (uZ (ez l) id);rw[hWW] at m|-;clear h A z t hWW;go_enter func105,ntmps105;go_upto_region 6 with(first|refine jo 25 82 24 ((R.o.cP S.b).at D.o).c4 ?_|refine je S (u.o _ S.b) λW S=>?_|(refine mf dC<|jF ((R.o.cP S.b).at D.o).c2 ae tX ?_;rw[B.o]));have S:=cz (S.Jn 82 1 ae ae);go_loopw [7,8] (λc p wr=>∃(d:cV)(dB f:Nat)(a:Option Addr)(q:Nat),d.n+f=32/\c=bX a d.n q/\p=bU ct dB/\Hid (zV (ez l) id f d dB=WW/\St w cw [] [] [⟨82,1,bX a d.n q,d.n,K1 d⟩] (λ_ _=>True) wr)) (λc _ _=>match c with|bX _ n _=>32-n|_=>0);exact⟨[],x.dB,32,cw,0,ae,ae,ae,cz ⟨m.o,S.o⟩⟩;clear S m u;obtain⟨d,dB,f,a,q,V,rfl,rfl,hS⟩:=hrel;have⟨hgo,S⟩:=hS.o;clear hS;rcases Bv (dB=0) with rfl|h0
   . rw[XW] at hgo;subst hgo;go_wp2;go_ret2;exact bw
   . (have U:((dB:Int) !=0)=cx:=by rw[fK];omega);rcases vM f with rfl|hf0
     . subst hgo;have hc:¬((d.n:Int)<32):=cN;go_wp2;go_ret2;exact bw
     . obtain⟨f,rfl⟩:∃g,f=g+1:=⟨f-1,cN⟩;have hc:((d.n:Int)<32):=cN;have s:=cz (k.o dB);unfold zV at hgo;rw[cX h0] at hgo;rcases hp2:fp (ez l) dB with _|j;rw[hp2] at hgo s;simp only[lF] at s;subst hgo;clear hp2;rotate_left;obtain⟨X,y,G,-⟩:=kP hp2;have Q:¬((j:Int)<0):=cN;rw[hp2] at hgo s;simp only[lF] at s;simp only[lG G] at hgo;have E:=cz G;have⟨H,how⟩:=dG y.cZ;have I:Hid (Value.int ct y.cZ=bU ct H):=cz (by rw[how]);rw[how] at hgo;clear G hp2 how;rcases Bv (H=id) with rfl|hoi
       . rw[c8 ae] at hgo;have C:=cz hgo;clear hgo;go_wp2_with (first|refine jo 55 82 54 ((R.o.cP S.b).at E.o).c4 ?_|refine je S (s.o _ S.b) λW S=>?_|(refine mf dC<|jF ((R.o.cP S.b).at E.o).c3 ae gi ?_;rw[I.o])|refine mF S ct [(dB:Int)] vU Aj cN cN rfl rfl rfl λW S=>?_|refine tE S 0 rfl 0 rfl rfl rfl rfl ad6 (Hp _ _) CU xY λM L W S=>?_);go_roundw;exact⟨d++[dB],y.dB,f,s_ M 0,L,by simp;omega,by simp,ae,cz ⟨C.o,by have S:=S.pop;unfold K1;rw[nM,jv];exact S⟩⟩;simp;omega
       (have K:((H:Int)!=(id:Int))=cx:=by rw[fK];omega);rw[cX hoi] at hgo;subst hgo
       all_goals
        go_wp2_with first|refine je S (s.o _ S.b) λW S=>?_|(refine mf dC<|jF ((R.o.cP S.b).at E.o).c3 ae gi ?_;rw[I.o])
        go_ret2;exact bw
def Qa(l:List dL)(v:c7)(id:Nat)(c:l.n<=1000000)(w:cS)(R:gC w v l):CP_ 128 #[v,bU ct id] w λe w'=>∃r,e=cj r/\KV w' w.h.s r (uZ (ez l) id).1/\dS w w':=by have a:=cz (Zq l v id c w R);clear R;go_enter func128,ntmps128;go_wp2_with (refine a.o.mono ?_;rintro e W ⟨r,rfl,ho,b⟩);go_ret;exact⟨_,ae,ho,b⟩
def MF(l:List dL)(v:c7)(id:Nat)(c:l.n<=1000000)(w:cS)(R:gC w v l):sW 45 #[v,bU ct id] w (bU ct ((uZ (ez l) id).2:Nat)):=by have a:=cz (Zq l v id c w R);clear R;go_enter func45,ntmps45;go_wp2_with (refine a.o.mono ?_;rintro e W ⟨r,rfl,ho,b⟩);go_ret;exact⟨ae,b⟩
end