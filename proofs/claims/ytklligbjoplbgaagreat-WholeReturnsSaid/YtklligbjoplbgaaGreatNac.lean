/- Part 3 of the proof of WholeReturns. No conditions. -/
import Derived.Test.YtklligbjoplbgaaGreatNab
import Derived.Laws.AppendOwnNone
import Derived.Deep.RegionHeld3
import Derived.StillTailTactics
import Derived.BigRegion
import Derived.Deep.MidRow
import Derived.Deep.DeepCutAuto
import Derived.Great.FillDense
import Derived.Great.BuildSlice
import Derived.Deep.AppendLies
import Derived.OrdersHeld
import Derived.Laws.CopyRow
set_option linter.all false
namespace Go.Proofs.YtklligbjoplbgaaGreat
set_option maxRecDepth 100000
set_option maxHeartbeats 64000000
open Go.RowKit Lib List Nat _root_.Go.Proofs.Tryz
variable {C tmps:fJ}{a:Act}{K:Act->cB->Prop}{listed:Array Bool}{ops:Array Oper}{Q:Exit->Act->cB->Prop}{fn:Func}{l l2:cD}{ps:List (Nat×cD)}{bs:List Int}{ms:List km}{rest:List Oper}{xs:List cI}{B D E b base c fuel g i k n size sz:Nat}{nw s:Nat->cD}{st:Nat->Nat}{f:Nat->cI}{o rf op:Oper}{d:Option Nat}{P:kS}{Q':Prop}{T e t:dC}{p q:Tmp}{v x y z:cI}{w w' w1 w2 w4 w5 w6:cB}{S:cB->Prop}
def CI(s:Nat):Nat:=if s%2=1 then s/2 ^^^ 2197175160 else s/2
def xv:Nat->Nat->Nat
 |0,s=>s
 |k+1,s=>CI (xv k s)
def wB(s c:Nat):Nat:=xv 8 (s ^^^ c)
def Fq(s:Nat)(bs:cD):Nat:=4294967295 ^^^ bs.foldl wB (4294967295 ^^^ s)
def j9(bs:cD):Nat:=Fq 0 bs
theorem Ku{s:Nat}(h:s<4294967296):CI s<4294967296:=by unfold CI;split;exact xor_lt_two_pow (n:=32) cw cw;omega
theorem RW{s:Nat}(h:s<4294967296):xv k s<4294967296:=by induction k<;>grind[Ku,xv]
theorem U5{s c:Nat}(h:s<4294967296)(hc:c<256):wB s c<4294967296:=
 RW (xor_lt_two_pow (n:=32) cw cw)
theorem YD(s:Nat)(bs:cD)(k:Nat)(h:k<bs.length):(bs.take (k+1)).foldl wB s=wB ((bs.take k).foldl wB s) bs[k]:=by grind[take_succ_eq_append_getElem]
theorem aeg(s:Nat)(bs:cD)(a:s<4294967296)(h:∀x∈bs,x<256):bs.foldl wB s<4294967296:=by induction bs generalizing s<;>grind[U5]
def Pu{a:Nat}(c:a<4294967296)(d:b<4294967296):a ^^^ b<4294967296:=xor_lt_two_pow (n:=32) cw cw
def Kv(s:Nat)(bs:cD)(a:s<4294967296)(h:∀x∈bs,x<256):Fq s bs<4294967296:=Pu jR (aeg _ _ (Pu jR a) h)
def Xk(s:Nat)(a:s<4294967296):bits .xor .u32 IntKind.u32.max (s:Int)=((4294967295 ^^^ s:Nat):Int):=u32_xor_nat 4294967295 s jR a
theorem aa9(s:Nat)(U:s<4294967296)(u:cI)(bs:cD)(w:cB)(hu:dR .u8 w u (dh bs)):
 CP_ 220 #[.int .u32 s,u] w λe w'=>e=.returned (.int .u32 (Fq s bs:Nat))/\w=w':=by
 obtain⟨uo,V,rfl,B,T,hc⟩:=hu;have F:=cq (Ak T);clear T;have X:=cq hc;clear hc;rw[cV] at B|-;have K:=Xk s U;have⟨s0,hs0⟩:=c8 (4294967295 ^^^ s);have D:s0<4294967296:=by rw[<-hs0];exact Pu br U
 rw[hs0] at K;have H:=cq hs0;clear hs0;have Z:=cq K;clear K;go_enter func220,ntmps220;go_wp2_with fail;rw[Z.o]
 go_loop [0,6,7,12] (λv _ _ i=>∃(k z:Nat),k<=bs.length/\i=.int .i64 k/\v=.int .u32 z/\z<4294967296/\Hid (z=(bs.take k).foldl wB s0))
  (λ_ _ _ i=>bs.length-(intOf i).toNat)
 exact⟨0,s0,fN _,ae,ae,D,ae⟩;obtain⟨k,z,hk,rfl,rfl,N,Q⟩:=hrel;by_cases m:k<bs.length
 . (obtain⟨b,o,rfl,a1,l⟩:=X.o bJ;have hc:=l k (by rw[cV];exact m);rw[rG] at hc;clear l;have J:=F.o _ (lU m);have r:=cq (YD s0 bs k m);have⟨c,hcc⟩:=c8 (bs[k]);rw[hcc] at hc J r;clear hcc;have L:=u32_xor_nat z c N cw;have E:z ^^^ c<4294967296:=Pu N cw;have t:Hid (xv 8 (z ^^^ c)=(bs.take (k+1)).foldl wB s0):=by unfold Hid;rw[r.o,<-Q.o];rfl);have⟨x,hxx⟩:=c8 (z ^^^ c);rw[hxx] at L E t;clear hxx;have HX:=cq L;clear L;have R:(k:Int)<(bs.length:Int):=cw;go_wp2_with fail;rw[HX.o]
   go_loop [0,7,20] (λv _ i=>∃(j y:Nat),j<=8/\i=.int .i64 j/\v=.int .u32 y/\y<4294967296/\Hid (y=xv j x))
    (λ_ _ i=>8-(intOf i).toNat)
   exact⟨0,x,cw,ae,ae,E,ae⟩;obtain⟨j,y,hj,rfl,rfl,M,O⟩:=hrel;by_cases a4:j<8
   . (have a3:(j:Int)<8:=cw;have g:=u32_and_nat y 1 M br;rw[and_one_is_mod] at g;have a:bits .and .u32 (y:Int) 1=((y%2:Nat):Int):=g;clear g;have f:xv (j+1) x=CI y:=by rw[O.o];rfl);(have p:=Ku M;by_cases d:y%2=1;have n:=u32_xor_nat (y/2) 2197175160 cw br;have A:CI y=y/2 ^^^ 2197175160:=cL d;rw[A] at f p;have⟨q,hq⟩:=c8 (y/2 ^^^ 2197175160);rw[hq] at n f p;have I:=cq f;clear f;have ht:(bits .and .u32 (y:Int) 1==1)=true:=by rw[a,d];rfl);have a5:bits .xor .u32 ((y:Int)/2) 2197175160=(q:Int):=n;clear A hq d a n;rotate_left;(have A:CI y=y/2:=cM d;rw[A] at f p;have I:=cq f;clear f;have ht:(bits .and .u32 (y:Int) 1==1)=false:=by rw[a,show y%2=0 from by omega];rfl);clear A d a
     all_goals
      go_wp2
      go_round
      case rel=>grind
      case measure=>simp[intOf];omega
   . (obtain rfl:j=8:=cw;have Y:Hid (y=(bs.take (k+1)).foldl wB s0):=by unfold Hid;rw[<-t.o];exact O.o);go_wp2;go_round;exact⟨k+1,y,cw,by go_num,ae,M,Y⟩;simp[intOf];omega
 . (obtain rfl:k=bs.length:=cw;have a2:¬(bs.length:Int)<(bs.length:Int):=cw;have HR:Hid ((4294967295 ^^^ z:Nat)=Fq s bs):=by unfold Hid Fq;rw[H.o,Q.o,oT]);have C:=Xk z N;have G:=cq C;clear C;go_wp2;go_ret;exact⟨by rw[G.o,HR.o];rfl,ae⟩
def U6(u:cI)(bs:cD)(w:cB)(a:dR .u8 w u (dh bs)):
 CP_ 166 #[u] w λe w'=>e=.returned (.int .u32 (j9 bs:Nat))/\w=w':=by have b:=cq a;clear a;go_enter func166,ntmps166;go_wp2_with fail;refine(aa9 0 jR _ bs _ b.o).mono ?_;rintro e w' ⟨rfl,rfl⟩;go_wp2;go_ret;exact ay
abbrev cy:=Nat×Nat×Nat
def lT(p:cy):cI:=.agg #[.int .i64 p.1,.int .u64 p.2.1,.int .u32 p.2.2]
def cH:cy:=(0,0,0)
theorem Kw(a b c d e f:Int)(w:cB)(n:Nat):
 (Op.equalIn (n+2) 106 (.agg #[.int .i64 a,.int .u64 b,.int .u32 c]) (.agg #[.int .i64 d,.int .u64 e,.int .u32 f])).run prog w=.ok ((a==d)&& ((b==e)&& (c==f))) w:=by rw[run_equalIn_struct (P:=prog) w (n+1) 106 _ _ cX cX];have g:(prog.fieldsOf 106).toList=[{name:= "At",type:=3,offset:=0,embedded:=false,tag:= "",pkgPath:= "",byteOffset:=0},{name:= "Birth",type:=82,offset:=1,embedded:=false,tag:= "",pkgPath:= "",byteOffset:=8},{name:= "Sum",type:=104,offset:=2,embedded:=false,tag:= "",pkgPath:= "",byteOffset:=16}]:=cX;rw[g];simp[Op.eqFields,part,isAgg3,isAgg82,isAgg104,Result.andThen,G3 w n 3 .i64 .i64 _ _ uh,G3 w n 82 .u64 .u64 _ _ underlying82,G3 w n 104 .u32 .u32 _ _ underlying104];grind
theorem U7(p q:cy):(((p.1:Int)==(q.1:Int))&& (((p.2.1:Int)==(q.2.1:Int))&& ((p.2.2:Int)==(q.2.2:Int))))=decide (p=q):=by grind
theorem Ev(p q:cy)(r:Bool)(h:decide (p=q)=r)(w:cB):(binOp .eql 106 (lT p) (lT q)).run prog w=.ok (.bool r) w:=by
 have a:(Op.equal 106 (lT p) (lT q)).run prog w=.ok r w:=by grind[Op.equal,Op.maxDepth,lT,Kw,U7]
 simp_all[lT,binOp]
theorem Ew(p q:cy)(r:Bool)(h:decide (p=q)=r)(w:cB):(binOp .neq 106 (lT p) (lT q)).run prog w=.ok (.bool !r) w:=by
 have a:(Op.equal 106 (lT p) (lT q)).run prog w=.ok r w:=by grind[Op.equal,Op.maxDepth,lT,Kw,U7]
 simp_all[lT,binOp]
def fY(p:cy):Bool:=decide (p=cH∨(4<=p.1/\p.1<1024/\1<=p.2.1/\p.2.1<=281474976710655))
def kN(p q:cy):Bool:=if p.2.1≠q.2.1 then decide (p.2.1<q.2.1) else if p.1≠q.1 then decide (p.1<q.1) else decide (p.2.2<q.2.2)
def iP(p:cy)(s:Nat):Bool:=decide (p≠cH/\s<p.2.1)
theorem xw(p:cy)(w:cB):rF 241 #[lT p] w (.bool (fY p)):=by
 have q:dz w (w.alloc (.cells #[.int .i64 p.1,.int .u64 p.2.1,.int .u32 p.2.2] 106)):=(fO _ _).alloc (dK _) _;have g:=cq q;clear q;by_cases d:p=cH;have e:fY p=true:=fQ (.inl d);rw[e];have j:∀w,(binOp .eql 106 (.agg #[.int .i64 p.1,.int .u64 p.2.1,.int .u32 p.2.2]) (.agg #[.int .i64 0,.int .u64 0,.int .u32 0])).run prog w=.ok (.bool true) w:=λw=>Ev p cH true (fQ d) w;have⟨a,b,c⟩:=p;simp only at j g;unfold lT;simp only;clear e d;rotate_left;have j:∀w,(binOp .eql 106 (.agg #[.int .i64 p.1,.int .u64 p.2.1,.int .u32 p.2.2]) (.agg #[.int .i64 0,.int .u64 0,.int .u32 0])).run prog w=.ok (.bool false) w:=λw=>Ev p cH false (iC d) w;have e:fY p=decide (4<=p.1/\p.1<1024/\1<=p.2.1/\p.2.1<=281474976710655):=by unfold fY;grind
 rw[e];clear e d;have⟨a,b,c⟩:=p;simp only at j g|-;unfold lT;simp only;by_cases l:4<=a;by_cases m:a<1024;by_cases n:1<=b;by_cases o:b<=281474976710655;rw[fQ ⟨l,m,n,o⟩];have f:decide ((4:Int)<=(a:Int))=true:=fQ cw;have i:decide ((a:Int)<1024)=true:=fQ cw;have k:decide ((1:Int)<=(b:Int))=true:=fQ cw;have r:decide ((b:Int)<=281474976710655)=true:=fQ cw;rotate_left;rw[iC (λh=>o h.2.2.2)];have f:decide ((4:Int)<=(a:Int))=true:=fQ cw;have i:decide ((a:Int)<1024)=true:=fQ cw;have k:decide ((1:Int)<=(b:Int))=true:=fQ cw;have r:decide ((b:Int)<=281474976710655)=false:=iC cw;rotate_left;rw[iC (λh=>n h.2.2.1)];have f:decide ((4:Int)<=(a:Int))=true:=fQ cw;have i:decide ((a:Int)<1024)=true:=fQ cw;have k:decide ((1:Int)<=(b:Int))=false:=iC cw;rotate_left;rw[iC (λh=>m h.2.1)];have f:decide ((4:Int)<=(a:Int))=true:=fQ cw;have i:decide ((a:Int)<1024)=false:=iC cw;rotate_left;rw[iC (λh=>l h.1)];have f:decide ((4:Int)<=(a:Int))=false:=iC cw
 all_goals
  go_enter func241,ntmps241;go_wp2;go_ret;exact⟨ae,g.o⟩
def YE(w:cB)(x y:Obj):dz w ((w.alloc x).alloc y):=((fO _ _).alloc (dK _) _).alloc dU _
theorem N4(p q:cy)(w:cB):rF 178 #[lT p,lT q] w (.bool (kN p q)):=by
 have⟨a,b,c⟩:=p;have⟨d,e,f⟩:=q;have k:=YE w (.cells #[.int .i64 a,.int .u64 b,.int .u32 c] 106) (.cells #[.int .i64 d,.int .u64 e,.int .u32 f] 106);have l:=cq k;clear k;unfold lT;simp only;by_cases h:b=e;by_cases j:a=d;have g:kN (a,b,c) (d,e,f)=decide (c<f):=by unfold kN;grind
 rw[g];have i:((b:Int)!=(e:Int))=false:=by rw[tX];omega
 have m:((a:Int)!=(d:Int))=false:=by rw[tX];omega
 clear g h j;have⟨r,g⟩:=c8 (decide (c<f));rotate_left;have g:kN (a,b,c) (d,e,f)=decide (a<d):=by unfold kN;grind
 rw[g];have i:((b:Int)!=(e:Int))=false:=by rw[tX];omega
 have m:((a:Int)!=(d:Int))=true:=by rw[eO];omega
 clear g h j;have⟨r,g⟩:=c8 (decide (a<d));rotate_left;have g:kN (a,b,c) (d,e,f)=decide (b<e):=by unfold kN;simp only;rw[cL h]
 rw[g];have i:((b:Int)!=(e:Int))=true:=by rw[eO];omega
 clear g h;have⟨r,g⟩:=c8 (decide (b<e))
 all_goals
  rw[g];go_enter func178,ntmps178;go_wp2;go_ret;exact⟨ae,l.o⟩
theorem Am(p:cy)(s:Nat)(w:cB):rF 154 #[lT p,.int .u64 s] w (.bool (iP p s)):=by
 have i:dz w (w.alloc (.cells #[.int .i64 p.1,.int .u64 p.2.1,.int .u32 p.2.2] 106)):=(fO _ _).alloc (dK _) _;have f:=cq i;clear i;by_cases e:p=cH;have d:iP p s=false:=iC (λh=>h.1 e);rw[d];have g:∀w,(binOp .neq 106 (.agg #[.int .i64 p.1,.int .u64 p.2.1,.int .u32 p.2.2]) (.agg #[.int .i64 0,.int .u64 0,.int .u32 0])).run prog w=.ok (.bool false) w:=λw=>Ew p cH true (fQ e) w;have⟨a,b,c⟩:=p;simp only at g f;unfold lT;simp only;clear d e;rotate_left;have g:∀w,(binOp .neq 106 (.agg #[.int .i64 p.1,.int .u64 p.2.1,.int .u32 p.2.2]) (.agg #[.int .i64 0,.int .u64 0,.int .u32 0])).run prog w=.ok (.bool true) w:=λw=>Ew p cH false (iC e) w;have d:iP p s=decide (s<p.2.1):=by unfold iP;grind
 rw[d];clear d e;have⟨a,b,c⟩:=p;simp only at g f|-;unfold lT;simp only;have⟨r,d⟩:=c8 (decide (s<b));rw[d]
 all_goals
  go_enter func154,ntmps154;go_wp2;go_ret;exact⟨ae,f.o⟩
theorem U8{k:IntKind}{W:cB}{a:Addr}{l:List Int}(h:dR k w (.slice (some a) n c) l)(g:dz w W):
 n=l.length/\∀j u,(l.map (Value.int k))[j]?=some u->W.cell? (a.add j)=some u:=by obtain⟨r,cap,d,_,_,hc⟩:=h;simp only[kM] at d;obtain⟨rfl,rfl,rfl⟩:=d;refine⟨ae,λj u f=>?_⟩;by_cases m:l=[];grind;have⟨b,o,e,hbs,hcell⟩:=hc m;obtain rfl:=ve e;simp only[ql,yP] at f;obtain⟨x,q,rfl⟩:=f;obtain⟨i,rfl⟩:=mQ.1 q;rw[Addr.add_lit];exact(g.cell (p:=⟨b,o+j,none⟩) hbs).trans (hcell j i)
def rH(x:km):List Int:=[if x.1=true then 1 else 0,x.2.1%256,x.2.1/256,x.2.2%256,x.2.2/256]
def UF(x:km):Bool:=jC x.2.1 x.2.2
def oa(ms:List km):Option (List Int):=if ms.length<=4096/\ms.all UF=true then some (ms.flatMap rH) else none
def zw(bs:List Int)(k:Nat):km:=(bs.getD (5*k) 0==1,bs.getD (5*k+1) 0+256*bs.getD (5*k+2) 0,bs.getD (5*k+3) 0+256*bs.getD (5*k+4) 0)
def okB(bs:List Int)(k:Nat):Bool:=decide (bs.getD (5*k) 0<=1)&&UF (zw bs k)
def zx(bs:List Int):Option (List km):=
 if bs.length%5=0/\bs.length<=20480/\(range (bs.length/5)).all (okB bs)=true then some ((range (bs.length/5)).map (zw bs)) else none
theorem BI(x:km):(rH x).length=5:=rfl
theorem xx(ms:List km):(ms.flatMap rH).length=5*ms.length:=by induction ms<;>grind[BI]
theorem aba(ms:List km){k:Nat}(h:k<ms.length)(j:Nat)(a:j<5):(ms.flatMap rH).getD (5*k+j) 0=(rH ms[k]).getD j 0:=by induction ms generalizing k with|nil=>simp at h|cons x r ih=>rw[zY];cases k with|zero=>rw[Nat.mul_zero,ou,tY,GR (by grind[BI]),<-tY];rfl|succ k=>grind[BI]
theorem Xl(ms:List km){k:Nat}(h:k<ms.length)(a:UF ms[k]=true):zw (ms.flatMap rH) k=ms[k]/\okB (ms.flatMap rH) k=true:=by
 have g:=(fm _ _).1 a;have b:=aba ms h 0 cw;rw[wi] at b;have c:zw (ms.flatMap rH) k=ms[k]:=by grind[zw,aba,rH,Prod.ext]
 refine⟨c,?_⟩;unfold okB;rw[c,a,b];generalize ms[k]=x;grind[rH]
theorem RX(h:oa ms=some bs):zx bs=some ms/\bs.length=5*ms.length:=by
 unfold oa at h;split at h;next hc=>cases h;have b:∀k(a:k<ms.length),UF ms[k]=true:=λk a=>qk.1 hc.2 _ (lU a);refine⟨?_,xx ms⟩;unfold zx;rw[xx,show 5*ms.length/5=ms.length from by omega,cL];congr 1;refine ext_getElem dU λk c d=>?_;grind[Xl];refine⟨cw,cw,?_⟩;simp_all[Xl]
 cases h
def N5{α:Type}(o:Option α):Int:=if o.isSome=true then 0 else 81
theorem RY(h:¬ms.length<=4096):oa ms=none:=by unfold oa;grind
theorem U9(a:k<ms.length)(h:UF ms[k]=false):oa ms=none:=by unfold oa;grind
theorem Kx(h:ms.length<=4096)(b:∀k(a:k<ms.length),UF ms[k]=true):oa ms=some (ms.flatMap rH):=by
 unfold oa;rw[cL ⟨h,qk.2 λx c=>by
  obtain⟨k,a,rfl⟩:=yk c
  grind⟩]
theorem abb(h:k<ms.length):(ms.take (k+1)).flatMap rH=(ms.take k).flatMap rH++rH ms[k]:=by grind[take_succ_eq_append_getElem]
theorem agf(b:∀x∈ms,UF x=true):∀y∈ms.flatMap rH,(Lit.int .u8 y).wf=true:=by intro y a;have⟨x,hx,a⟩:=By.1 a;have g:=(fm _ _).1 (b x hx);simp only[rH,ib,iS,sM] at a;rcases a with rfl|rfl|rfl|rfl|rfl;grind[WalkArith.wf_u8];all_goals grind[WalkArith.wf_u8]
def U'{k:IntKind}{l:List Int}(h:dR k w v l)(d:l≠ []):
 ∃b o c,v=.slice (some ⟨b,o,none⟩) l.length c/\∀j u,(l.map (Value.int k))[j]?=some u->w.cell? ((⟨b,o,none⟩:Addr).add j)=some u:=by have a:=h;obtain⟨e,cap,rfl,_,_,hc⟩:=h;obtain⟨b,o,rfl,_,_⟩:=hc d;exact⟨b,o,cap,ae,(U8 a (fO _ _)).2⟩
def RZ(b:dz w w')(h:w.cell? ⟨E,1,none⟩=some x)(a:w.cell? ⟨E,2,none⟩=some y):
 w'.cell? ⟨E,1,none⟩=some x/\w'.cell? ⟨E,2,none⟩=some y:=
 ⟨(b.cell (p:=⟨E,1,none⟩) (q9 h)).trans h,(b.cell (p:=⟨E,2,none⟩) (q9 a)).trans a⟩
theorem CK(w:cB)(x y z:cI)(t:dC):((w.alloc (.cells #[x,y,z] t)).cell? ⟨w.heap.size,0,none⟩=some x/\(w.alloc (.cells #[x,y,z] t)).cell? ⟨w.heap.size,1,none⟩=some y/\(w.alloc (.cells #[x,y,z] t)).cell? ⟨w.heap.size,2,none⟩=some z)/\w.heap.size<(w.alloc (.cells #[x,y,z] t)).heap.size:=
 by simp_all
def YF(a:Below (w.alloc (.cells #[x,y,z] t)).heap.size (w.alloc (.cells #[x,y,z] t)) w'):(w'.cell? ⟨w.heap.size,0,none⟩=some x/\w'.cell? ⟨w.heap.size,1,none⟩=some y/\w'.cell? ⟨w.heap.size,2,none⟩=some z)/\w.heap.size<w'.heap.size:=
 have h:=CK w x y z t
 ⟨⟨(a.cell (p:=⟨_,0,none⟩) h.2).trans h.1.1,(a.cell (p:=⟨_,1,none⟩) h.2).trans h.1.2.1,(a.cell (p:=⟨_,2,none⟩) h.2).trans h.1.2.2⟩,oS h.2 a.size⟩
def Ex(a:Below (w.alloc (.cells #[x,y,z] t)).drew.heap.size (w.alloc (.cells #[x,y,z] t)).drew w'):(w'.cell? ⟨w.heap.size,0,none⟩=some x/\w'.cell? ⟨w.heap.size,1,none⟩=some y/\w'.cell? ⟨w.heap.size,2,none⟩=some z)/\w.heap.size<w'.heap.size:=
 YF ((fO _ _).drew.trans a)
def abc{o:Obj}(a:Below w4.drew.heap.size w4.drew w5)(b:Below (w5.alloc o).heap.size (w5.alloc o) w6):dz w4 w6:=by have c:dz w4 w5:=(fO _ _).drew.trans a;have d:=c.alloc c.size o;exact Below.step d d.size b
def abd{o:Obj}(a:Below (w4.alloc o).drew.heap.size (w4.alloc o).drew w5)(b:dz w5 w6):dz w4 w6:=by have c:dz w4 (w4.alloc o):=(fO _ _).alloc (dK _) o;have d:dz w4 w5:=Below.step c c.size ((fO _ _).drew.trans a);exact Below.step d d.size b
def abe(t s n b c:Nat)(g:t<=1)(f:s<4096)(d:n<=4096)(w:cB)(a:dR .i64 w (.slice (some ⟨b,0,none⟩) 3 3) [1,2,2])(hc:(w.cell? ⟨c,0,none⟩=some (.int .u64 t)/\w.cell? ⟨c,1,none⟩=some (.int .u64 s)/\w.cell? ⟨c,2,none⟩=some (.int .u64 n))/\c<w.heap.size):
 CP_ 73 #[.slice (some ⟨b,0,none⟩) 3 3,.slice (some ⟨c,0,none⟩) 3 3] w λe w'=>∃r,e=.returned (.tuple #[r,.int .i64 0])/\dR .u8 w' r [(t:Int),(s:Int)%256,(s:Int)/256,(n:Int)%256,(n:Int)/256]/\dz w w':=
 aee b c t s n g f d w a hc.1 hc.2
section
attribute[local irreducible]wpList Code.wp Calls Oper.wp wpAnyH
def YG(u:cI)(ms:List km)(w:cB)(hu:vR w u ms):
 CP_ 249 #[u] w λe w'=>∃r,e=.returned (.tuple #[r,.int .i64 (N5 (oa ms))])/\dR .u8 w' r ((oa ms).getD [])/\yr r/\dz w w':=by
 obtain⟨i0,hi,c5,a1,c6⟩:=nB JX;obtain⟨uo,e4,rfl,e1,c4,c3⟩:=hu;have HU:=cq c3;clear c3;have HW:=cq c4;clear c4;obtain⟨S,HS⟩:=xm (oa ms);rw[<-HS.o];have d5:=fO w.heap.size w;by_cases D:¬ms.length<=4096
 . have HN:Hid (S=none):=by unfold Hid;rw[HS.o,RY D]
   have hl:(4096:Int)<(ms.length:Int):=cw;go_enter func249,ntmps249;go_wp2;refine gE (v:=.tuple #[.slice none 0 0,.int .i64 81]) (by simp[results,results249,go_sem]) ae ⟨_,by rw[HN.o];rfl,by rw[HN.o];exact GZ _ _,G6,d5⟩
 have d8:ms.length<=4096:=cw;have hl:¬(4096:Int)<(ms.length:Int):=cw;clear D;go_enter func249,ntmps249
 go_wp2_with (refine Kq (o:=⟨some 16,_,_,_,_,_⟩) _ ae _ _ 22 ae w.heap.size 5 i0 (.int .u8 0) 1 nK hi c5 a1 .i64 .i64 _ (5*ms.length) ae ae cw (by rw[c6];omega) aI (dK _) ?_;intro w2 I l)
 have b3:dz w w2:=(fO _ _).grown l (dK _) (λk e=>by cases e);clear l
 go_loopw [4,19] (λv i wr=>∃(k:Nat),k<=ms.length/\i=.int .i64 k/\wr.ownsRow w.heap.size 5 1 v ((ms.take k).flatMap rH).length (((ms.take k).flatMap rH).map (Value.int .u8))/\Hid (∀j(M:j<ms.length),j<k->UF ms[j]=true)/\dz w wr)
  (λ_ i _=>ms.length-(intOf i).toNat)
 case atStart=>exact⟨0,fN _,ae,I,λj M h=>absurd h (u' _),b3⟩
 case round=>
  clear I b3;obtain⟨k,hk,rfl,d,a3,hbel⟩:=hrel;have c2:=hbel.size;by_cases F:k<ms.length
  . obtain⟨b,o,rfl,d7,C⟩:=HU.o (by intro h;simp[h] at F);obtain⟨h1,h2,h3⟩:=Kl d7 C hbel F;clear C;have hw:=HW.o _ (lU F);have HT:Hid ((ms.take (k+1)).flatMap rH=(ms.take k).flatMap rH++rH ms[k]):=abb F;have T:Hid (UF ms[k]=false->S=none):=λh=>by rw[HS.o,U9 F h]
    have z:Hid (UF ms[k]=true->∀j(M:j<ms.length),j<k+1->UF ms[j]=true):=by
     intro h j M e6;by_cases b8:j=k
     . subst b8;exact h
     . exact a3.o j M cw
    obtain⟨⟨t,s,n⟩,hx⟩:∃x,x=ms[k]:=⟨_,ae⟩;rw[<-hx] at h1 h2 h3 hw HT T z;clear hx;simp only at h1 h2 h3 hw;have d2:=cq hw;clear hw;obtain⟨c,HC⟩:=q8 (jC s n);obtain⟨L,hL⟩:=eW ((ms.take k).flatMap rH);rw[<-hL] at d HT;have A:L.length=5*k:=by rw[hL,xx,kL];omega
    clear hL;have b1:=cq A;clear A
    go_wp2_with fail
    obtain⟨U,f⟩:=eW (wr.alloc (.cells #[.bool t,.int .i64 s,.int .i64 n] 334));have p0:U.cell? ⟨wr.heap.size,0,none⟩=some (.bool t):=by rw[f];exact aT
    have p1:U.cell? ⟨wr.heap.size,1,none⟩=some (.int .i64 s):=by rw[f];exact aT
    have p2:U.cell? ⟨wr.heap.size,2,none⟩=some (.int .i64 n):=by rw[f];exact aT
    have d9:U.heap.size=wr.heap.size+1:=by rw[f];simp
    have a6:dz w U:=by rw[f];exact hbel.alloc c2 _
    have H:=d.alloc (.cells #[.bool t,.int .i64 s,.int .i64 n] 334);rw[<-f] at H;rw[<-f];clear f hbel d h1 h2 h3;obtain⟨E,hE⟩:=eW wr.heap.size;rw[<-hE] at p0 p1 p2 d9 c2|-;clear hE;refine(Es t s n d2.o _).mono ?_;rw[HC.o];rintro e w4 ⟨rfl,g⟩;have a5:=Below.step a6 a6.size g;have c1:=kY H g;have q0:=(g.cell (p:=⟨E,0,none⟩) (by show E<U.heap.size;omega)).trans p0;have q1:=(g.cell (p:=⟨E,1,none⟩) (by show E<U.heap.size;omega)).trans p1;have q2:=(g.cell (p:=⟨E,2,none⟩) (by show E<U.heap.size;omega)).trans p2;have e7:=g.size;clear p0 p1 p2 a6 H g;cases c with
    |false=>
     have HN:Hid (S=none):=T.o HC.o;go_wp2;refine gE (v:=.tuple #[.slice none 0 0,.int .i64 81]) (by simp[results,results249,go_sem]) ae ⟨_,by rw[HN.o];rfl,by rw[HN.o];exact GZ _ _,G6,a5⟩
    |true=>
     obtain⟨g1,g2,g3,g4⟩:=(fm s n).1 HC.o;obtain⟨a,rfl⟩:∃a:Nat,s=(a:Int):=⟨s.toNat,cw⟩;obtain⟨m,rfl⟩:∃a:Nat,n=(a:Int):=⟨n.toNat,cw⟩;have e5:E<w4.heap.size:=cw;have e8:IntKind.u64.wrap (a:Int)=(a:Int):=An _ cw;have e9:IntKind.u64.wrap (m:Int)=(m:Int):=An _ cw;have hA:a<4096:=cw;have hM:m<=4096:=cw;have d3:(0:Nat)<=1:=by decide
     have d4:(1:Nat)<=1:=by decide
     have e2:=World.new_ne w4 ⟨E,1,none⟩ q1;have e3:=World.new_ne w4 ⟨E,2,none⟩ q2;have d1:=cq (z.o HC.o);cases t
     all_goals
      go_wp2_with fail
      go_region_held3 (λW=>W.cell? ⟨E,1,none⟩=some (.int .i64 (a:Int))/\W.cell? ⟨E,2,none⟩=some (.int .i64 (m:Int)))
       (first|go_keep|(go_split_ands;exact RZ B aK aK)|(go_split_ands;exact RZ y aK aK))
       (first|(go_at_call 245;refine(Ko _).mono ?_;rintro e w5 ⟨b5,rfl,K,-,y⟩)|(go_at_call 73;refine(abe 0 a m _ _ d3 hA hM _ ?_ ?_).mono ?_;(first|exact K|exact K.cx ((fO _ _).alloc (dK _) _));(first|exact CK _ _ _ _ _|exact Ex y);rintro e w6 ⟨r6,rfl,Q,B⟩)|(go_at_call 73;refine(abe 1 a m _ _ d4 hA hM _ ?_ ?_).mono ?_;(first|exact K|exact K.cx ((fO _ _).alloc (dK _) _));(first|exact CK _ _ _ _ _|exact Ex y);rintro e w6 ⟨r6,rfl,Q,B⟩))
      all_goals
       have a4:dz w4 w6:=by first|exact abc y B|exact abd y B
       have b4:=Below.step a5 a5.size a4;have Z:=kY c1 a4;clear y B K a4
       first
        |(have J:dR .u8 w6 r6 (rH (false,(a:Int),(m:Int))):=Q
          generalize hN:rH (false,(a:Int),(m:Int))=N at J HT;have O:Hid (N.length=5):=by rw[<-hN];rfl)
        |(have J:dR .u8 w6 r6 (rH (true,(a:Int),(m:Int))):=Q
          generalize hN:rH (true,(a:Int),(m:Int))=N at J HT;have O:Hid (N.length=5):=by rw[<-hN];rfl)
       clear Q hN;obtain⟨rb,ro,rc,rfl,G⟩:=U' J (by intro h;have:=O.o;simp[h] at this);clear J;have a2:=cq G;clear G;have Y:∀u∈N.map (Value.int .u8),u.oneCell'=true:=by simp[Value.oneCell']
       have b2:=cq Y;clear Y;have b6:L.length+N.length<=maxLen:=by have:=b1.o;have:=O.o;unfold maxLen;omega
       have b7:(L.length+N.length)*1<=140737488355328:=by have:=b1.o;have:=O.o;omega
       have c8:=cq b6;clear b6;have c9:=cq b7;clear b7;have c7:=b4.size
       go_wp2_with (first|(at_builtin;refine xq _ ae (.tmp 45) (.tmp 46) 22 ae w.heap.size 5 i0 (.int .u8 0) 1 1 nK hi c5 a1 c6 ae jR _ _ _ ae Z ⟨rb,ro,none⟩ N.length rc (N.map (Value.int .u8)) ae dU a2.o b2.o c8.o c9.o c7 ?_;intro v7 w7 a7 q _))
       have d6:=b4.grown q c7 (λj h=>(Z.lt j h).1);clear q;go_roundw
       case rel=>
        refine⟨k+1,cw,by go_num,?_,d1.o,d6⟩;rw[HT.o,ik,mI];exact a7
       case measure=>exact oV
  . obtain rfl:k=ms.length:=cw;have R:Hid (S=some (ms.flatMap rH)):=by unfold Hid;rw[HS.o,Kx d8 (λj M=>a3.o j M M)]
    rw[oT] at d;have b9:∀x∈ms,UF x=true:=by
     intro x hx;obtain⟨j,M,rfl⟩:=yk hx;exact a3.o j M M
    have X:=pJ d (agf b9) (by rw[xx];omega);have V:=UU d;have a9:=cq X;clear X d b9;have a8:=cq V;clear V;go_wp2;refine gE (v:=.tuple #[u4,.int .i64 0]) (by simp[results,results249,go_sem]) ae ⟨_,by rw[R.o];rfl,by rw[R.o];exact a9.o,a8.o,hbel⟩
end
section
def YH(i dst:Nat)(v:cI)(f:ops[i]?=some rf)(k:YieldsIf prog ops S rf v a)(hS:S w)(q:Q')(b:rf.dst=some dst:=by rfl)(h:Q'->wpAnyH prog .any ops Q S fuel (listed.setIfInBounds i true) (a.put (some dst) v) w:=by intro q;simp only[MH];exact q)(j:Region.noSelect ops=true:=by kernel_rfl)(e:Region.free .any ops listed i=true:=by kernel_rfl)(g:(Region.ready .any ops listed).contains i=true:=by kernel_rfl)(d:∀c a w,Q (.panic c) (a.put (some dst) v) w->Q (.panic c) a w:=by exact λ_ _ _ h=>h):wpAnyH prog .any ops Q S (fuel+1) listed a w:=
 wpAnyH_take f j e g (by rw[b];exact d) k hS (by rw[b];exact h q)
def Fh(i dst:Nat)(v:cI)(hS:S w)(q:Q')(f:ops[i]?=some rf:=by rfl)(k:YieldsIf prog ops S rf v a:=by exact Or.inl ⟨cX,λw l=>by go_simp⟩)(d:rf.dst=some dst:=by rfl)(h:Q'->wpAnyH prog .any ops Q S fuel (listed.setIfInBounds i true) (a.put (some dst) v) w:=by intro q;simp only[MH];exact q)(j:Region.noSelect ops=true:=by kernel_rfl)(e:Region.free .any ops listed i=true:=by kernel_rfl)(g:(Region.ready .any ops listed).contains i=true:=by kernel_rfl)(b:∀c a w,Q (.panic c) (a.put (some dst) v) w->Q (.panic c) a w:=by exact λ_ _ _ h=>h):wpAnyH prog .any ops Q S (fuel+1) listed a w:=
 YH i dst v f k hS q d h j e g b
end
def gK(p:cy):cD:=pE 4 p.1++(pE 8 p.2.1++pE 4 p.2.2)
theorem ff(p:cy):(gK p).length=16:=by rfl
theorem oE(p:cy):∀x∈gK p,x<256:=by intro x a;unfold gK at a;rcases fL.1 a with h|h;exact xt _ _ x h;rcases fL.1 h with h|h<;>exact xt _ _ x h
section
attribute[local irreducible]wpList Code.wp Calls Oper.wp wpAnyH
def IJ(w:cB):CP_ 240 #[] w λe w'=>∃b,e=.returned (.slice (some ⟨b,0,none⟩) 3 3)/\dR .i64 w' (.slice (some ⟨b,0,none⟩) 3 3) [4,8,4]/\b=w.heap.size/\dz w w':=by go_enter func240,ntmps240;go_wp2;go_ret;exact⟨_,ae,NT w [4,8,4] _ _ ae jR jR _ _ ae,ae,(fO _ _).alloc (dK _) _⟩
theorem abf(p:cy)(a:p.1<4294967296)(b:p.2.1<18446744073709551616)(c:p.2.2<4294967296):uj [4,8,4] [p.1,p.2.1,p.2.2]=some (gK p):=by unfold uj;rw[cL ⟨by decide,ae,by grind[fitAll]⟩];rfl
theorem wf_u64{x:Nat}(h:x<18446744073709551616):(Lit.int .u64 (x:Int)).wf=true:=by grind[Lit.wf,IntKind.min,IntKind.max,IntKind.signed,IntKind.bits]
theorem aeh(p:cy)(f:p.1<4294967296)(g:p.2.1<18446744073709551616)(h:p.2.2<4294967296)(b c:Nat)(w:cB)(i:dR .i64 w (.slice (some ⟨b,0,none⟩) 3 3) [4,8,4])(hc:(w.cell? ⟨c,0,none⟩=some (.int .u64 p.1)/\w.cell? ⟨c,1,none⟩=some (.int .u64 p.2.1)/\w.cell? ⟨c,2,none⟩=some (.int .u64 p.2.2))/\c<w.heap.size):
 CP_ 73 #[.slice (some ⟨b,0,none⟩) 3 3,.slice (some ⟨c,0,none⟩) 3 3] w λe w'=>∃r,e=.returned (.tuple #[r,.int .i64 0])/\lS w' w.heap.size r (gK p)/\dz w w':=by
 have l:dR .i64 w (.slice (s_ b 0) 3 3) (dh [4,8,4]):=i;have k:dR .u64 w (.slice (s_ c 0) 3 3) (dh [p.1,p.2.1,p.2.2]):=by refine⟨some ⟨c,0,none⟩,3,ae,by simp[dh],?_,λ_=>⟨c,0,ae,hc.2,?_⟩⟩;intro x d;simp[dh] at d;rcases d with rfl|rfl|rfl<;>exact wf_u64 cw;grind[dh]
 refine(Fp _ _ [4,8,4] [p.1,p.2.1,p.2.2] jR w l k).mono ?_;rw[abf p f g h];rintro e w' ⟨r,rfl,j,a⟩;exact⟨r,ae,j,a⟩
def Ey(b:dz w w')(h:w.cell? ⟨E,0,none⟩=some x)(c:w.cell? ⟨E,1,none⟩=some y)(a:w.cell? ⟨E,2,none⟩=some z):
 w'.cell? ⟨E,0,none⟩=some x/\w'.cell? ⟨E,1,none⟩=some y/\w'.cell? ⟨E,2,none⟩=some z:=
 ⟨(b.cell (p:=⟨E,0,none⟩) (q9 h)).trans h,(b.cell (p:=⟨E,1,none⟩) (q9 c)).trans c,(b.cell (p:=⟨E,2,none⟩) (q9 a)).trans a⟩
def cY(p:cy):Prop:=p.1<4294967296/\p.2.1<18446744073709551616/\p.2.2<4294967296
def wC(p:cy)(H:cY p)(w:cB):
 CP_ 233 #[lT p] w λe w'=>∃r,e=.returned (.tuple #[r,.int .i64 (if fY p=true then 0 else 51)])/\lS w' w.heap.size r (if fY p=true then gK p else [])/\dz w w':=by
 have⟨hp1,hp2,hp3⟩:=H;have⟨W0,HW0⟩:=xm (w.alloc (.cells #[.int .i64 p.1,.int .u64 p.2.1,.int .u32 p.2.2] 106));have h:dz w W0:=by rw[HW0.o];exact aN
 have q:W0.cell? ⟨w.heap.size,0,none⟩=some (.int .i64 p.1):=by rw[HW0.o];exact aT
 have s:W0.cell? ⟨w.heap.size,1,none⟩=some (.int .u64 p.2.1):=by rw[HW0.o];exact aT
 have t:W0.cell? ⟨w.heap.size,2,none⟩=some (.int .u32 p.2.2):=by rw[HW0.o];exact aT
 have x:W0.heap.size=w.heap.size+1:=by rw[HW0.o];simp
 have⟨E,HE⟩:=xm w.heap.size;rw[<-HE.o] at q s t x;have y:=cq q;clear q;have z:=cq s;clear s;have A:=cq t;clear t;have⟨r,HR⟩:=q8 (fY p);rw[HR.o];have B:=cq (xw p);have k:=cq (aeh p hp1 hp2 hp3);have⟨a,b,c⟩:=p;simp only at hp1 hp2 hp3;unfold lT;simp only;go_enter func233,ntmps233;go_wp2_with fail
 rw[<-HW0.o,<-HE.o];refine(B.o _).mono ?_;rw[HR.o];rintro e w1 ⟨rfl,i⟩;have f:=Below.step h h.size i;have⟨q0,q1,q2⟩:=Ey i y.o z.o A.o;clear y z A i h HW0 B;have I:=f.size;have n:Hid (lS w1 w.heap.size (.slice none 0 0) []):=gz w1 w.heap.size 5 1;cases r with
 |false=>go_wp2;refine gE (v:=.tuple #[.slice none 0 0,.int .i64 51]) (by simp[results,results233,go_sem]) ae ⟨_,ae,n.o,f⟩
 |true=>
  have K:IntKind.u64.wrap (a:Int)=(a:Int):=An _ cw;have L:IntKind.u64.wrap (c:Int)=(c:Int):=An _ cw;have C:=World.new_ne w1 ⟨E,0,none⟩ q0;have D:=World.new_ne w1 ⟨E,1,none⟩ q1;have F:=World.new_ne w1 ⟨E,2,none⟩ q2;go_wp2_with fail
  go_region_held3 (λW=>W.cell? ⟨E,0,none⟩=some (.int .i64 (a:Int))/\W.cell? ⟨E,1,none⟩=some (.int .u64 (b:Int))/\W.cell? ⟨E,2,none⟩=some (.int .u32 (c:Int)))
   (first|go_keep|(go_split_ands;exact Ey g aK aK aK)|(go_split_ands;exact Ey d aK aK aK))
   (first|(go_at_call 240;refine(IJ _).mono ?_;rintro e w5 ⟨M,rfl,j,-,d⟩)|(go_at_call 73;refine(k.o _ _ _ ?_ ?_).mono ?_;(first|exact j|exact j.cx ((fO _ _).alloc (dK _) _));(first|exact CK _ _ _ _ _|exact Ex d);rintro e w6 ⟨J,rfl,m,g⟩))
  all_goals
   have l:dz w1 w6:=by first|exact abc d g|exact abd d g
   have u:=Below.step f f.size l;have o:=cq (Yz m (base':=w.heap.size) (by have G:=d.size;simp at G|-;omega));clear d g j l m;go_wp2;refine gE (v:=.tuple #[J,.int .i64 0]) (by simp[results,results233,go_sem]) ae ⟨_,ae,o.o,u⟩
theorem R3{ty:dC}{d:TypeDesc}(h:fn.results=#[.cell p ty])(j:tmps.getD p undef=.pointer (some ⟨g,0,none⟩))(c:cu w g t n f)(e:P.underlying ty=some d)(b:(match d with| .struct _| .array _ _=>true|_=>false)=true)(i:(P.info? ty).map (·.size)=some n):
 (results fn tmps).run P w=.ok (.agg (ct n f)) w:=by
 have a:tmps[p]?.getD undef=cZ g 0:=by simp_all
 simp[results,h,a,asAddr,G8 w g t ty (ct n f) (0,0) d c e b aD]
theorem lG{ty:dC}{d:TypeDesc}(h:fn.results=#[.cell p ty,.tmp q])(j:tmps.getD p undef=.pointer (some ⟨g,0,none⟩))(c:cu w g t n f)(e:P.underlying ty=some d)(b:(match d with| .struct _| .array _ _=>true|_=>false)=true)(i:(P.info? ty).map (·.size)=some n):
 (results fn tmps).run P w=.ok (.tuple #[.agg (ct n f),tmps.getD q undef]) w:=by
 have a:tmps[p]?.getD undef=cZ g 0:=by simp_all
 simp[results,h,a,asAddr,G8 w g t ty (ct n f) (0,0) d c e b aD,Result.andThen]
theorem MT{r:Tmp}{ty:dC}{d:TypeDesc}(h:fn.results=#[.cell p ty,.tmp q,.tmp r])(j:tmps.getD p undef=.pointer (some ⟨g,0,none⟩))(c:cu w g t n f)(e:P.underlying ty=some d)(b:(match d with| .struct _| .array _ _=>true|_=>false)=true)(i:(P.info? ty).map (·.size)=some n):
 (results fn tmps).run P w=.ok (.tuple #[.agg (ct n f),tmps.getD q undef,tmps.getD r undef]) w:=by
 have a:tmps[p]?.getD undef=cZ g 0:=by simp_all
 simp[results,h,a,asAddr,G8 w g t ty (ct n f) (0,0) d c e b aD,Result.andThen]
def c7(p:cy):Nat->cI:=λi=>if i=0 then .int .i64 p.1 else if i=1 then .int .u64 p.2.1 else .int .u32 p.2.2
theorem df(p:cy):∀i,(c7 p i).oneCell'=true:=by intro i;unfold c7;split;rfl;split<;>rfl
theorem yu(p:cy):ct 3 (c7 p)=#[.int .i64 p.1,.int .u64 p.2.1,.int .u32 p.2.2]:=rfl
theorem Fs(p:cy):Value.agg (ct 3 (c7 p))=lT p:=rfl
def jD:(prog.info? 106).map (·.size)=some 3:=cX
def DF(w:cB)(b:Nat)(p:cy):Prop:=cu w b 106 3 (c7 p)
theorem DF.new(w:cB)(p:cy):DF (w.alloc (.cells #[.int .i64 p.1,.int .u64 p.2.1,.int .u32 p.2.2] 106)) w.heap.size p:=zq _ _
def zy(bs:cD):cy:=(iH (bs.take 4),iH ((bs.drop 4).take 8),iH ((bs.drop 12).take 4))
def mU(bs:cD):Option cy:=if bs.length=16/\fY (zy bs)=true then some (zy bs) else none
theorem BJ(h:∀x∈l,x<256)(a:l.length<=n):iH l<256^n:=
 by grind[Nat.lt_of_lt_of_le,Kr,Nat.pow_le_pow_right]
theorem Ez{bs:cD}(h:∀x∈bs,x<256):cY (zy bs):=by refine⟨?_,?_,?_⟩;exact BJ (n:=4) (λx a=>h x (lu a)) (length_take_le _ _);exact BJ (n:=8) (λx a=>h x (mR (lu a))) (length_take_le _ _);exact BJ (n:=4) (λx a=>h x (mR (lu a))) (length_take_le _ _)
theorem abg(bs:cD):qQ [4,8,4] bs=if bs.length=16 then some [(zy bs).1,(zy bs).2.1,(zy bs).2.2] else none:=by unfold qQ;simp_all[nZ,zy,okW,ru]
theorem vh(u:cI)(bs:cD)(w:cB)(F:dR .u8 w u (dh bs))(z:yr u):
 rF 195 #[u] w (.tuple #[lT ((mU bs).getD cH),.int .i64 (fp 51 (mU bs))]):=by
 have T:∀x∈bs,x<256:=Ak (by obtain⟨_,_,_,_,h,_⟩:=F;exact h);have L:=cq F;clear F;have H:=cq z;clear z;have⟨W0,hW0⟩:=eW (w.alloc (.cells #[.int .i64 0,.int .u64 0,.int .u32 0] 106));have A:dz w W0:=by rw[hW0];exact aN
 have Y:DF W0 w.heap.size cH:=by rw[hW0];exact DF.new w cH
 have G:W0.heap.size=w.heap.size+1:=by rw[hW0];simp
 have F:dR .u8 W0 u (dh bs):=L.o.cx (by rw[hW0];exact aN);have Q:=cq hW0;clear hW0;have M:=cq F;clear F;have J:=cq Y;clear Y;have⟨E,hE⟩:=eW w.heap.size;rw[<-hE] at G;have D:w.heap.size<=E:=cw;have I:=cq hE;clear hE;have G:∃a n c,u=.slice a n c:=by obtain⟨a,c,h,_⟩:=L.o;exact⟨_,_,_,h⟩
 go_enter func195,ntmps195;go_wp2_with fail;rw[<-Q.o,<-I.o];refine(IJ _).mono ?_;rintro e w1 ⟨F,rfl,F,-,v⟩;have B:=Below.step A A.size v;have Z:=cu.cx J.o v;have N:=cq (M.o.cx v);have K:=cq Z;have O:=cq F;clear Z F J M v A Q;obtain⟨a,n,c,rfl⟩:=G;go_wp2_with fail;refine(II _ _ [4,8,4] bs br _ O.o N.o H.o).mono ?_;rw[abg];rintro e w2 ⟨F,rfl,b,C⟩;have s:=Below.step B B.size C;have j:=cu.cx K.o C;rw[<-I.o] at j;have m:=cq j;clear j K N O C B;by_cases G:bs.length=16;case neg=>rw[cM G];have F:mU bs=none:=cM (λh=>G h.1);have I:=cq F;clear F b;have hc:fp 21 (none:Option cD)=21:=rfl;rw[hc];clear hc;go_wp2_with (refine wpList_store_row (o:=⟨none,.store 106 (.tmp 2) (.tmp 15),_,_,_,none⟩) ae 106 (.tmp 2) (.tmp 15) ae E ae 3 (c7 cH) _ ae (yu cH).symm 106 (c7 cH) m.o jD (df _) ?_);refine gE (lG (p:=2) (q:=3) (ty:=106) ae ae (cu.setRow m.o (c7 cH)) yS ae jD) ae ⟨by rw[I.o];rfl,Below.setRow s D _⟩
 rw[cL G] at b|-;have hc:fp 21 (some [(zy bs).1,(zy bs).2.1,(zy bs).2.2])=0:=rfl;rw[hc];clear hc;have F:=Ez T;have⟨hp1,hp2,hp3⟩:=F;have F:mU bs=if fY (zy bs)=true then some (zy bs) else none:=by unfold mU;grind
 have l:=cq F;clear F T G;have⟨r,hr⟩:=c8 (fY (zy bs));rw[hr] at l;have L:=cq hr;clear hr;have⟨p,hpd⟩:=c8 (zy bs);rw[hpd] at l L b hp1 hp2 hp3;clear hpd;rcases b.2 with⟨_,H⟩|⟨g,d,F,rfl,F,G,_⟩;simp at H;have J:=G7 b 0 dU;have N:=G7 b 1 dU;have O:=G7 b 2 dU;simp at J N O;have H:g<w2.heap.size:=(qj.1 G).1;clear b G F;have R:IntKind.i64.wrap (p.1:Int)=(p.1:Int):=j0 _ cw;have Y:IntKind.u32.wrap (p.2.2:Int)=(p.2.2:Int):=IntWalk.u32_in _ cw;have U:=World.new_ne w2 ⟨g,0,none⟩ J;have V:=World.new_ne w2 ⟨g,1,none⟩ N;have X:=World.new_ne w2 ⟨g,2,none⟩ O;go_wp2_with fail;go_region_held3 (λW=>W.cell? ⟨g,0,none⟩=some (.int .u64 (p.1:Int))/\W.cell? ⟨g,1,none⟩=some (.int .u64 (p.2.1:Int))/\W.cell? ⟨g,2,none⟩=some (.int .u64 (p.2.2:Int))) (go_keep) (fail);have f:DF (w2.alloc (.cells #[.int .i64 p.1,.int .u64 p.2.1,.int .u32 p.2.2] 106)).drew w2.heap.size p:=DF.new w2 p;have i:DF (w2.alloc (.cells #[.int .i64 p.1,.int .u64 p.2.1,.int .u32 p.2.2] 106)).drew E cH:=cu.alloc_old m.o _;have t:dz w (w2.alloc (.cells #[.int .i64 p.1,.int .u64 p.2.1,.int .u32 p.2.2] 106)).drew:=(s.alloc s.size _).drew;have⟨w3,hw3⟩:=eW ((w2.alloc (.cells #[.int .i64 p.1,.int .u64 p.2.1,.int .u32 p.2.2] 106)).drew);rw[<-hw3] at f i t|-;have⟨F,hF⟩:=eW w2.heap.size;rw[<-hF] at f|-;have H:=cq f;clear f;have G:=cq i;clear i hw3 hF m s J N O U V X R Y;go_wp2_with (refine rT (o:=⟨some 28,.load 106 (.tmp 6),_,_,_,none⟩) ae 106 (.tmp 6) ae F ae 3 106 _ H.o _ yS ae jD ?_;rw[yu]);refine(xw p _).mono ?_;rw[L.o];rintro e w4 ⟨rfl,y⟩;have R:=Below.step t t.size y;have J:=cq (show DF w4 F p from cu.cx H.o y);have k:=cq (show DF w4 E cH from cu.cx G.o y);clear y H G t;cases r with|false=>have I:Hid (mU bs=none):=l.o;go_wp2_with (refine wpList_store_row (o:=⟨none,.store 106 (.tmp 2) (.tmp 31),_,_,_,none⟩) ae 106 (.tmp 2) (.tmp 31) ae E ae 3 (c7 cH) _ ae (yu cH).symm 106 (c7 cH) k.o jD (df _) ?_);refine gE (lG (p:=2) (q:=3) (ty:=106) ae ae (cu.setRow k.o (c7 cH)) yS ae jD) ae ⟨by rw[I.o];rfl,Below.setRow R D _⟩|true=>have I:Hid (mU bs=some p):=l.o;go_wp2_with (first|(refine rT (o:=⟨some 32,.load 106 (.tmp 6),_,_,_,none⟩) ae 106 (.tmp 6) ae F ae 3 106 _ J.o _ yS ae jD ?_;rw[yu])|refine wpList_store_row (o:=⟨none,.store 106 (.tmp 2) (.tmp 32),_,_,_,none⟩) ae 106 (.tmp 2) (.tmp 32) ae E ae 3 (c7 p) _ ae (yu p).symm 106 (c7 cH) k.o jD (df _) ?_);refine gE (lG (p:=2) (q:=3) (ty:=106) ae ae (cu.setRow k.o (c7 p)) yS ae jD) ae ⟨by rw[I.o];rfl,Below.setRow R D _⟩
def oX(st:Nat->Nat)(s:Nat):Nat->Nat
 |0=>0
 |k+1=>oX st s k+if st (s+k)=1 then 1 else 0
def jt(st:Nat->Nat)(k:Nat):Nat:=oX st (64*k) 64
def jP(st:Nat->Nat)(i v:Nat):Nat->Nat:=λj=>if j=i then v else st j
def Ft(st:Nat->Nat):Nat->Nat
 |0=>0
 |k+1=>Ft st k+jt st k
def eF(st:Nat->Nat):Nat:=Ft st 16
def ry(st:Nat->Nat):Nat->Nat
 |0=>0
 |k+1=>if jt st (ry st k)<jt st k then k else ry st k
def Ky(st:Nat->Nat):Nat:=ry st 16
def lX(st:Nat->Nat)(s:Nat):Nat->Option Nat
 |0=>none
 |k+1=>match lX st s k with
  |some i=>some i
  |none=>if st (s+k)=1 then some (s+k) else none
def mC(st:Nat->Nat):Option Nat:=lX st (64*Ky st) 64
def il(st:Nat->Nat):Nat->cD×(Nat->Nat)
 |0=>([],st)
 |k+1=>match mC (il st k).2 with
  |some i=>((il st k).1++[i],jP (il st k).2 i 2)
  |none=>il st k
def qR(T:Int):Nat->Nat:=λi=>if 4<=i/\(i:Int)<T/\i<1024 then 1 else 0
def lY(st:Nat->Nat):Nat->Nat:=λi=>if st i=3 then 1 else st i
theorem Ao(st:Nat->Nat)(s k:Nat):oX st s (k+1)=oX st s k+if st (s+k)=1 then 1 else 0:=rfl
theorem Kz(st:Nat->Nat)(s k:Nat):oX st s k<=k:=by induction k with|zero=>simp[oX]|succ k ih=>grind[oX]
def R6(st:Nat->Nat)(k:Nat):jt st k<=64:=Kz _ _ _
theorem IK{st a:Nat->Nat}{s k:Nat}(h:∀i,s<=i->i<s+k->st i=a i):oX st s k=oX a s k:=by induction k<;>grind[oX]
theorem YI(st:Nat->Nat)(s k m:Nat):oX st s (k+m)=oX st s k+oX st (s+k) m:=by induction m with|zero=>rfl|succ m ih=>rw[show k+(m+1)=(k+m)+1 from ae,Ao,Ao,ih,GS s k m];omega
theorem G9(st:Nat->Nat)(i v:Nat):jP st i v i=v:=by simp[jP]
theorem EA(st:Nat->Nat){i j:Nat}(v:Nat)(h:j≠i):jP st i v j=st j:=by simp[jP,h]
theorem YJ{st:Nat->Nat}{i v:Nat}(h:st i=v):jP st i v=st:=by grind[jP]
theorem YK(st:Nat->Nat)(i v u:Nat):jP (jP st i v) i u=jP st i u:=by grind[jP]
theorem DG(st:Nat->Nat){i s k:Nat}(v:Nat)(h:¬(s<=i/\i<s+k)):oX (jP st i v) s k=oX st s k:=
 by grind[IK,EA]
theorem N6(st:Nat->Nat){i s k:Nat}(v:Nat)(a:s<=i)(b:i<s+k):
 oX (jP st i v) s k+(if st i=1 then 1 else 0)=oX st s k+(if v=1 then 1 else 0):=by induction k<;>grind[oX,DG,G9,EA]
theorem MU(st:Nat->Nat){i k:Nat}(v:Nat)(h:i/64≠k):jt (jP st i v) k=jt st k:=
 DG st v cw
def YL(st:Nat->Nat)(v:Nat)(h:i/64=k):
 jt (jP st i v) k+(if st i=1 then 1 else 0)=jt st k+(if v=1 then 1 else 0):=
 N6 st v cw cw
theorem R7(st:Nat->Nat)(k:Nat):Ft st k=oX st 0 (64*k):=by induction k with|zero=>rfl|succ k ih=>unfold Ft;rw[ih,show 64*(k+1)=64*k+64 from by omega,YI,ou];rfl
theorem CM(st:Nat->Nat):eF st=oX st 0 1024:=R7 st 16
theorem R8(st:Nat->Nat)(k:Nat):Ft st k<=64*k:=by grind[R7,Kz]
theorem Va(st:Nat->Nat)(v:Nat)(h:i<1024):
 eF (jP st i v)+(if st i=1 then 1 else 0)=eF st+(if v=1 then 1 else 0):=by grind[CM,N6]
theorem N7(st:Nat->Nat)(a:0<k):ry st k<k:=by induction k with|zero=>omega|succ k ih=>unfold ry;split;omega;rcases tZ k with rfl|h;simp_all[ry];omega
theorem abh(st:Nat->Nat):Ky st<16:=N7 st cw
theorem Vb(st:Nat->Nat)(k:Nat):∀j,j<k->jt st j<=jt st (ry st k)/\(j<ry st k->jt st j<jt st (ry st k)):=by induction k with|zero=>omega|succ k ih=>intro j c;unfold ry;by_cases b:jt st (ry st k)<jt st k;grind;rw[cM b];by_cases a:j=k;subst a;refine⟨cw,λh=>?_⟩;rcases tZ j with rfl|h0;grind[ry];have:=N7 st h0;omega;grind
theorem YM(st:Nat->Nat){j:Nat}(h:j<16):jt st j<=jt st (Ky st):=(Vb st 16 j h).1
theorem xy{s:Nat}(h:lX st s k=some i):s<=i/\i<s+k/\st i=1/\∀j,s<=j->j<i->st j≠1:=by
 have a:∀m,lX st s m=none->∀j,s<=j->j<s+m->st j≠1:=by intro m;induction m<;>grind[lX]
 induction k<;>grind[lX]
theorem KA{s:Nat}(h:lX st s k=none):oX st s k=0:=by induction k with|zero=>rfl|succ k ih=>unfold lX at h;split at h;cases h;simp_all[oX]
theorem G'{s:Nat}(a:s<=i)(b:i<s+k)(h:st i=1):0<oX st s k:=by induction k with|zero=>omega|succ k ih=>unfold oX;grind
theorem Pv{s:Nat}(b:∀j,j<k->st (s+j)≠1)(h:st (s+k)=1)(m:Nat)(e:k<m):lX st s m=some (s+k):=by
 have c:lX st s k=none:=by cases a:lX st s k with|none=>rfl|some i=>have:=xy a;have d:=b (i-s) cw;grind
 induction m<;>grind[lX]
theorem Pw{s:Nat}(b:∀j,j<k->st (s+j)≠1):lX st s k=none:=by cases a:lX st s k with|none=>rfl|some i=>have:=xy a;have c:=b (i-s) cw;grind
theorem oY(h:mC st=some i):i<1024/\st i=1/\i/64=Ky st/\∀j,64*Ky st<=j->j<i->st j≠1:=by have:=xy h;grind[abh]
theorem Bb(st:Nat->Nat):mC st=none↔eF st=0:=by constructor;(intro h;have b:jt st (Ky st)=0:=KA h;have c:∀k,k<=16->Ft st k=0:=by intro k;induction k<;>grind[Ft,YM]);simp_all[eF];intro h;cases a:mC st with|none=>rfl|some i=>have:=oY a;rw[CM] at h;have:=G' (st:=st) (s:=0) (k:=1024) (i:=i) cw cw this.2.1;omega
theorem EC(h:0<eF st):∃i,mC st=some i:=by cases a:mC st with|none=>grind[Bb]|some i=>grind
theorem Px(h:mC st=some i):eF (jP st i 2)+1=eF st:=by have:=oY h;have a:=Va st 2 this.1;grind
theorem Ap(st:Nat->Nat)(h:mC (il st k).2=some i):il st (k+1)=((il st k).1++[i],jP (il st k).2 i 2):=by rw[show il st (k+1)=(match mC (il st k).2 with|some i=>((il st k).1++[i],jP (il st k).2 i 2)|none=>il st k) from ae,h]
theorem yv(st:Nat->Nat)(h:k<=eF st):eF (il st k).2+k=eF st/\(il st k).1.length=k:=by induction k with|zero=>exact ay|succ k ih=>have⟨h1,h2⟩:=ih cw;obtain⟨i,a⟩:=EC (st:=(il st k).2) cw;have:=Px a;rw[Ap st a];grind
structure iU(b:Nat)(w w':cB):Prop where
 os:w'.os=w.os
 tape:w'.tape=w.tape
 output:w'.output=w.output
 size:w.heap.size<=w'.heap.size
 block:∀k,k<w.heap.size->k≠b->w'.heap[k]?=w.heap[k]?
theorem iU.refl(b:Nat)(w:cB):iU b w w:=⟨ae,ae,ae,dK _,λ_ _ _=>ae⟩
theorem iU.trans{b:Nat}{w w1 w2:cB}(h:iU b w w1)(k:iU b w1 w2):iU b w w2:=
 ⟨k.os.trans h.os,k.tape.trans h.tape,k.output.trans h.output,gO h.size k.size,λi c a=>(k.block i (oS c h.size) a).trans (h.block i c a)⟩
theorem iU.sX{b:Nat}{w w':cB}(h:dz w w'):iU b w w':=⟨h.os,h.tape,h.output,h.size,λk a _=>h.block k a⟩
theorem iU.drew(h:iU b w w'):iU b w w'.drew:=⟨h.os,h.tape,h.output,h.size,h.block⟩
def iU.setCell(h:iU b w w')(o:Nat)(v:cI):iU b w (w'.setCell ⟨b,o,none⟩ v):=
 h.trans ⟨ae,ae,ae,by simp,λk _ a=>G1 w' ⟨b,o,none⟩ k v a⟩
theorem iU.cx(h:iU b w w')(a:B<=b)(d:B<=w.heap.size):Below B w w':=
 ⟨h.os,h.tape,h.output,h.size,λk c=>h.block k cw cw⟩
def rY(st a:Nat->Nat):Nat->cI:=λi=>if i<1024 then .int .u8 (st i:Nat) else .int .i64 (a (i-1024):Nat)
theorem KB(st a:Nat->Nat){i:Nat}(h:i<1024):rY st a i=.int .u8 (st i:Nat):=cL h
theorem N8(st a:Nat->Nat)(k:Nat):rY st a (1024+k)=.int .i64 (a k:Nat):=by simp_all[rY]
def eE(w:cB)(b:Nat)(st:Nat->Nat):Prop:=cu w b 206 1040 (rY st (jt st))
def eE.qt(h:eE w c st)(a:iU b w w')(hc:c≠b):eE w' c st:=by unfold eE cu;rw[a.block c (cu.lt h) hc];exact h
theorem eE.cx(h:eE w b st)(a:dz w w'):eE w' b st:=cu.cx h a
theorem eE.state(h:eE w b st)(a:i<1024):w.cell? ⟨b,i,none⟩=some (.int .u8 (st i:Nat)):=by have:=cu.cell h (i:=i) cw;grind[KB]
theorem eE.room(h:eE w b st)(a:k<16):w.cell? ⟨b,1024+k,none⟩=some (.int .i64 (jt st k:Nat)):=by have:=cu.cell h (i:=1024+k) cw;grind[N8]
theorem YN(st a:Nat->Nat)(q r:Nat):∀j,(if j=1024+q then(.int .i64 r:cI) else rY st a j)=rY st (λk=>if k=q then r else a k) j:=by intro j;unfold rY;grind
theorem BK(b:Nat)(st:Nat->Nat)(i:Int)(s:Nat)(w:cB)(h:eE w b st)(f:ee i):
 CP_ 136 #[.pointer (some ⟨b,0,none⟩),.int .i64 i,.int .u8 s] w λe w'=>e=.returned (.bool (decide (0<=i/\i<1024/\st i.toNat=s)))/\w=w':=by
 unfold ee at f;by_cases o:i<0;have a:decide (0<=i/\i<1024/\st i.toNat=s)=false:=iC cw;rw[a];have c:decide (0<=i)=false:=iC cw;clear a;rotate_left;by_cases p:¬i<1024;have a:decide (0<=i/\i<1024/\st i.toNat=s)=false:=iC cw;rw[a];have c:decide (0<=i)=true:=fQ cw;have d:decide (i<1024)=false:=iC cw;clear a;rotate_left;obtain⟨k,rfl⟩:∃k:Nat,i=(k:Int):=⟨i.toNat,cw⟩;have g:k<1024:=cw;have hc:=h.state g;have a:decide (0<=(k:Int)/\(k:Int)<1024/\st (k:Int).toNat=s)=((st k:Int)==(s:Int)):=by grind
 rw[a];have⟨x,hx⟩:=c8 (st k);rw[hx] at hc|-;have⟨r,hr⟩:=c8 (((x:Int)==(s:Int)));rw[hr];clear a hx;have j:decide ((0:Int)<=(k:Int))=true:=fQ cw;have l:decide ((k:Int)<1024)=true:=fQ cw;have m:(0:Int)<=(k:Int):=cw;have n:(k:Int)<1024:=cw
 all_goals
  go_enter func136,ntmps136;go_wp2;go_ret;exact ay
structure Head where
 n:Nat
 sb:Nat
 nb:Nat
 pv:cI
 ops:Nat
 left:Int
 cO:Bool
def oz(h:Head):Nat->cI:=λi=>
 if i=0 then .slice (some ⟨h.sb,0,none⟩) h.n h.n else if i=1 then .slice (some ⟨h.nb,0,none⟩) h.n h.n else if i=2 then h.pv
 else if i=3 then .int .i64 h.ops else if i=4 then .int .i64 h.left else .bool h.cO
def jJ(w:cB)(D:Nat)(h:Head):Prop:=cu w D 127 6 (oz h)
theorem jJ.cells{h:Head}(a:jJ w D h):
 w.cell? ⟨D,0,none⟩=some (.slice (some ⟨h.sb,0,none⟩) h.n h.n)/\w.cell? ⟨D,1,none⟩=some (.slice (some ⟨h.nb,0,none⟩) h.n h.n)/\w.cell? ⟨D,2,none⟩=some h.pv/\
 w.cell? ⟨D,3,none⟩=some (.int .i64 h.ops)/\w.cell? ⟨D,4,none⟩=some (.int .i64 h.left)/\w.cell? ⟨D,5,none⟩=some (.bool h.cO):=
 ⟨cu.cell a (i:=0) cw,cu.cell a (i:=1) cw,cu.cell a (i:=2) cw,cu.cell a (i:=3) cw,cu.cell a (i:=4) cw,cu.cell a (i:=5) cw⟩
theorem jJ.set{h b:Head}(a:jJ w D h)(i:Nat)(v:cI)(c:∀j,j<6->(if j=i then v else oz h j)=oz b j):jJ (w.setCell ⟨D,i,none⟩ v) D b:=
 (cu.set a i v).congr c
theorem qS(D:Nat)(w:cB)(i:Nat)(v:cI):iU D w (w.setCell ⟨D,i,none⟩ v):=(iU.refl D w).setCell i v
def aei(D:Nat)(h:Head)(w:cB)(a:jJ w D h):CP_ 84 #[.pointer (some ⟨D,0,none⟩)] w λe w'=>e=.returned (.int .i64 h.n)/\w=w':=by obtain⟨b,-,-,-,-,-⟩:=a.cells;clear a;go_enter func84,ntmps84;go_wp2;go_ret;exact ay
def abi(D:Nat)(h:Head)(w:cB)(a:jJ w D h):CP_ 82 #[.pointer (some ⟨D,0,none⟩)] w λe w'=>e=.returned (.bool h.cO)/\w=w':=by obtain⟨-,-,-,-,-,b⟩:=a.cells;clear a;go_enter func82,ntmps82;go_wp2;go_ret;exact ay
def zz(h:Head)(i:Int):Bool:=decide (0<=i/\i<(h.n:Int))
theorem Py(D:Nat)(h:Head)(i:Int)(w:cB)(a:jJ w D h):CP_ 182 #[.pointer (some ⟨D,0,none⟩),.int .i64 i] w λe w'=>e=.returned (.bool (zz h i))/\w=w':=by
 obtain⟨f,-,-,-,-,-⟩:=a.cells;clear a;by_cases c:0<=i;have b:zz h i=decide (i<(h.n:Int)):=by unfold zz;grind
 rw[b];have d:decide (0<=i)=true:=fQ c;clear b;have⟨r,b⟩:=c8 (decide (i<(h.n:Int)));rw[b];rotate_left;have b:zz h i=false:=iC (λx=>c x.1);rw[b];have d:decide (0<=i)=false:=iC c;clear b
 all_goals
  go_enter func182,ntmps182;go_wp2;go_ret;exact ay
def iv(h:Head):Head:=if h.ops<4611686018427387903 then {h with ops:=h.ops+1} else h
def zA(D:Nat)(h:Head)(w:cB)(a:jJ w D h):CP_ 219 #[.pointer (some ⟨D,0,none⟩)] w λe w'=>e=.returned (.tuple #[])/\jJ w' D (iv h)/\iU D w w':=by
 obtain⟨-,-,-,k,-,-⟩:=a.cells;have m:=cu.frozen a 3;have f:=cq a;clear a;by_cases c:h.ops<4611686018427387903
 . (have hc:iv h= {h with ops:=h.ops+1}:=cL c;rw[hc];have b:(h.ops:Int)<4611686018427387903:=cw;have l:∀j,j<6->(if j=3 then(.int .i64 ((h.ops:Int)+1):cI) else oz h j)=oz {h with ops:=h.ops+1} j:=by intro j n;by_cases d:j=3;subst d;rw[cL ae];unfold oz;simp;rw[cM d];unfold oz;simp[d]);have i:=cq (f.o.set 3 (.int .i64 ((h.ops:Int)+1)) l);have g:=cq (qS D w 3 (.int .i64 ((h.ops:Int)+1)));clear hc c l;have⟨o,HO⟩:=q8 h.ops;rw[HO.o] at k b i g;go_enter func219,ntmps219;go_wp2;go_end0;exact⟨ae,by rw[HO.o];exact i.o,g.o⟩
 . have hc:iv h=h:=cM c;rw[hc];have b:¬(h.ops:Int)<4611686018427387903:=cw;clear hc c;have⟨o,HO⟩:=q8 h.ops;rw[HO.o] at k b;go_enter func219,ntmps219;go_wp2;go_end0;exact⟨ae,f.o,iU.refl _ _⟩
def ky(h:Head):Head×Bool:=
 if h.left=0 then({h with cO:=true},false) else if h.cO=true then(h,false) else if 0<h.left then({h with left:=h.left-1},true) else(h,true)
theorem N9(h:Head)(x:Int):∀j,j<6->(if j=4 then(.int .i64 x:cI) else oz h j)=oz {h with left:=x} j:=by intro j b;by_cases a:j=4;subst a;rfl;simp_all[oz]
theorem N'(h:Head)(x:Bool):∀j,j<6->(if j=5 then(.bool x:cI) else oz h j)=oz {h with cO:=x} j:=by intro j b;by_cases a:j=5;subst a;rfl;rw[cM a];grind[oz]
def CR(D:Nat)(h:Head)(d: -1<=h.left/\h.left<=9223372036854775807)(w:cB)(a:jJ w D h):CP_ 261 #[.pointer (some ⟨D,0,none⟩)] w λe w'=>e=.returned (.bool (ky h).2)/\jJ w' D (ky h).1/\iU D w w':=by
 obtain⟨-,-,-,-,j,p⟩:=a.cells;have q:=cu.frozen a 4;have r:=cu.frozen a 5;have n:=cq a;clear a;by_cases b:h.left=0
 . have hc:ky h=({h with cO:=true},false):=cL b;rw[hc];have i:=cq (n.o.set 5 (.bool true) (N' h true));have g:=cq (qS D w 5 (.bool true));rw[b] at j;clear hc b d;go_enter func261,ntmps261;go_wp2;go_ret;exact⟨ae,i.o,g.o⟩
 by_cases c:h.cO=true;have hc:ky h=(h,false):=by unfold ky;rw[cM b,cL c]
 rw[hc];rw[c] at p;have k:((h.left:Int)==0)=false:=by rw[lx];exact b
 clear hc b c d;have⟨l,d⟩:=c8 h.left;rw[d] at j k;have o:=cq d;clear d;rotate_left;have f:h.cO=false:=by simpa using c
 rw[f] at p;have k:((h.left:Int)==0)=false:=by rw[lx];exact b
 by_cases m:0<h.left
 . (have hc:ky h=({h with left:=h.left-1},true):=by unfold ky;rw[cM b,cM c,cL m]);rw[hc];have i:=cq (n.o.set 4 (.int .i64 (h.left-1)) (N9 h (h.left-1)));have g:=cq (qS D w 4 (.int .i64 (h.left-1)));clear hc b c f;have⟨l,hl2⟩:=c8 h.left;rw[hl2] at j k m d i g;have o:=cq hl2;clear hl2;go_enter func261,ntmps261;go_wp2;go_ret;exact⟨ae,by rw[o.o];exact i.o,g.o⟩
 have hc:ky h=(h,true):=by unfold ky;rw[cM b,cM c,cM m]
 rw[hc];clear hc b c f;have⟨l,hl2⟩:=c8 h.left;rw[hl2] at j k m d;clear hl2
 all_goals
  go_enter func261,ntmps261;go_wp2;go_ret;exact⟨ae,n.o,iU.refl _ _⟩
def cN(s:cD):Nat->cI:=λj=>.int .u8 (s.getD j 0:Nat)
def iJ(s:cD):∀i,(cN s i).oneCell'=true:=λ_=>ae
def eP:cD:=replicate 128 0
def Du(s:Nat->cD):Nat->cI:=λi=>.int .u8 ((s (i/128)).getD (i%128) 0:Nat)
def jS(w:cB)(b n:Nat)(s:Nat->cD):Prop:=cu w b 36 (n*128) (Du s)
theorem aej(s:Nat->cD)(i j:Nat)(h:j<128):Du s (i*128+j)=cN (s i) j:=by grind[Du,cN]
def jS.range(h:jS w b n s)(c:i<n):w.rangeAt b (i*128) (ct 128 (cN (s i))).toList:=by
 intro j v a;rw[mj,cU] at a;split at a;next hj=>cases a;rw[<-aej s i j hj];exact cu.cell h cw
 cases a
def oc:(prog.info? 36).map (·.size)=some 128:=cX
theorem uq:zeroCells36=ct 128 (cN eP):=cX
structure yw(w:cB)(D:Nat)(h:Head)(st nw:Nat->cD):Prop where
 head:jJ w D h
 ki:jS w h.sb h.n st
 kz:jS w h.nb h.n nw
 apart:h.sb≠h.nb
 pK:h.n<=1024
def Fu(h:Head)(nw:Nat->cD)(i:Int):cD×Int:=
 if zz h i=true then(if h.cO=true then(eP,42) else(nw i.toNat,0)) else(eP,41)
theorem yw.but{w w':cB}{D:Nat}{h c:Head}{st nw:Nat->cD}(a:yw w D h st nw)(d:iU D w w')(g:jJ w' D c)(e:c.n=h.n/\c.sb=h.sb/\c.nb=h.nb):yw w' D c st nw:=by
 have⟨e1,e2,e3⟩:=e;have f:∀{b:Nat},jS w b h.n st∨jS w b h.n nw->b≠D:=by intro b j e;have i:=a.head;grind[jJ,cu,jS]
 refine⟨g,?_,?_,by rw[e2,e3];exact a.apart,by rw[e1];exact a.pK⟩;rw[e1,e2];have:=f (.inl a.ki);unfold jS cu;rw[d.block _ a.ki.lt this];exact a.ki;rw[e1,e3];have:=f (.inr a.kz);unfold jS cu;rw[d.block _ a.kz.lt this];exact a.kz
def yw.setRow{h:Head}{st:Nat->cD}(a:yw w D h st nw)(e:D≠E)(c:h.sb≠E)(d:h.nb≠E)(b:fJ):yw (w.setRow E b) D h st nw:=
 ⟨cu.setRow_other a.head e b,cu.setRow_other a.ki c b,cu.setRow_other a.kz d b,a.apart,a.pK⟩
def iU.setRow(h:iU D w w1)(d:w.heap.size<=E)(b:fJ):iU D w (w1.setRow E b):=
 ⟨h.os,h.tape,h.output,by rw[setRow_size];exact h.size,λk c a=>(setRow_other w1 E k b cw).trans (h.block k c a)⟩
theorem mJ(h:Head):(iv h).n=h.n/\(iv h).sb=h.sb/\(iv h).nb=h.nb/\(iv h).cO=h.cO/\(iv h).left=h.left/\(iv h).pv=h.pv:=by unfold iv;grind
def abj(D:Nat)(h:Head)(st nw:Nat->cD)(i:Int)(F:ee i)(w:cB)(a:yw w D h st nw):
 CP_ 165 #[.pointer (some ⟨D,0,none⟩),.int .i64 i] w λe w'=>∃A,e=.returned (.tuple #[.agg A,.int .i64 (Fu h nw i).2])/\A=ct 128 (cN (Fu h nw i).1)/\yw w' D (iv h) st nw/\iU D w w':=by
 have G:=cq F;clear F;have⟨W0,hW0⟩:=eW (w.alloc (.cells zeroCells36 36));have B:cu W0 w.heap.size 36 128 (cN eP):=by rw[hW0,uq];exact bg
 have l:dz w W0:=by rw[hW0];exact aN
 have K:yw W0 D h st nw:=a.but (iU.sX l) (cu.cx a.head l) ⟨ae,ae,ae⟩;have X:D<w.heap.size:=a.head.lt;have F:h.sb<w.heap.size:=a.ki.lt;have Y:h.nb<w.heap.size:=a.kz.lt;have⟨E,hE⟩:=eW w.heap.size;rw[<-hE] at B X F Y;have F:w.heap.size<=E:=cw;have r:iU D w W0:=iU.sX l;have G:=cq hE;clear hE;have I:=cq hW0;clear hW0;have s:=cq K;clear K a l;have t:=cq B;clear B;obtain⟨n,x,y,z,_,_⟩:=mJ h;have⟨h2,hh2⟩:=c8 (iv h);rw[hh2] at n x y z|-;have k:=cq (And.intro n (And.intro x y));have U:=cq z;have g:zz h2 i=zz h i:=by unfold zz;rw[n]
 clear n x y z;have T:=cq hh2;clear hh2;have⟨hs,hhs⟩:=c8 (zz h i);rw[hhs] at g;have R:=cq g;clear g;have j:=cq hhs;clear hhs;go_enter func165,ntmps165;go_wp2_with fail;rw[<-I.o,<-G.o];refine(zA D h _ s.o.head).mono ?_;rw[T.o];rintro e w1 ⟨rfl,N,m⟩;have u:=r.trans m;have d:=cq (s.o.but m N k.o);have O:cu w1 E 36 128 (cN eP):=by unfold cu;rw[m.block E t.o.lt cw];exact t.o
 have f:=cq O;clear O N m t s I r;go_wp2_with fail
 refine(Py D h2 i _ d.o.head).mono ?_;rw[R.o];rintro e w2 ⟨rfl,rfl⟩;cases hs with
 |false=>
  have c:Fu h nw i=(eP,41):=by unfold Fu;rw[j.o];rfl
  have b:=cq c;clear c;go_wp2_with (refine wpList_store_row (o:=⟨none,.store 36 (.tmp 4) (.tmp 12),_,_,_,none⟩) ae 36 (.tmp 4) (.tmp 12) ae E ae 128 (cN eP) zeroCells36 ae uq 36 (cN eP) f.o oc (iJ _) ?_);exact gE (lG (p:=4) (q:=5) (ty:=36) ae ae (cu.setRow f.o (cN eP)) uu ae oc) ae<|⟨_,by rw[b.o];rfl,by rw[b.o],d.o.setRow cw akm akn _,u.setRow F _⟩
 |true=>
  have⟨hi0,hin⟩:=lr (j.o:decide (0<=i/\i<(h.n:Int))=true);obtain⟨-,I,-,-,-,V⟩:=d.o.head.cells;rw[U.o] at V;by_cases L:h.cO=true
  . (have c:Fu h nw i=(eP,42):=by unfold Fu;rw[j.o,L];rfl);have b:=cq c;clear c;rw[L] at V;clear L I hi0 hin;go_wp2_with (refine wpList_store_row (o:=⟨none,.store 36 (.tmp 4) (.tmp 17),_,_,_,none⟩) ae 36 (.tmp 4) (.tmp 17) ae E ae 128 (cN eP) zeroCells36 ae uq 36 (cN eP) f.o oc (iJ _) ?_);exact gE (lG (p:=4) (q:=5) (ty:=36) ae ae (cu.setRow f.o (cN eP)) uu ae oc) ae<|⟨_,by rw[b.o];rfl,by rw[b.o],d.o.setRow cw akm akn _,u.setRow F _⟩
  . (have v:h.cO=false:=by simpa using L);(rw[v] at V;obtain⟨q,rfl⟩:∃q:Nat,i=(q:Int):=⟨i.toNat,cw⟩;have G:q<h.n:=cw;have c:Fu h nw (q:Int)=(nw q,0):=by unfold Fu;rw[j.o,v,sO];rfl);(have b:=cq c;clear c L v;have C:=d.o.kz.range (i:=q) (by have:=k.o.1;omega);have Z:(q:Int)<(h2.n:Int):=by have:=k.o.1;omega);(have G:(0:Int)<=(q:Int):=cw;have M:=d.o.pK;have⟨A,hA⟩:=eW (ct 128 (cN (nw q)));rw[<-hA] at C;have J:A.toList.length=128:=by rw[hA,mq,cF]);have Q:=cq hA;clear hA;have H:=cq C;clear C;have G:=cq J;clear J;have⟨nb,hnb⟩:=c8 h2.nb;have⟨nn,hnn⟩:=c8 h2.n;rw[hnb,hnn] at I;rw[hnn] at Z M;rw[hnb] at H;have I:=cq hnb;clear hnb;have I:=cq hnn;clear hnn;go_upto_region 6 with(fail);go_wp2_with (refine wpList_load_mid (op:=⟨some 24,.load 36 (.tmp 23),_,_,_,none⟩) ae 36 (.tmp 23) ae nb (q*128) ae A.toList _ H.o uu ae (by rw[G.o];exact oc) ?_;rw[tO];refine wpList_store_row (o:=⟨none,.store 36 (.tmp 4) (.tmp 24),_,_,_,none⟩) ae 36 (.tmp 4) (.tmp 24) ae E ae 128 (cN (nw q)) A ae Q.o 36 (cN eP) f.o oc (iJ _) ?_);exact gE (lG (p:=4) (q:=5) (ty:=36) ae ae (cu.setRow f.o (cN (nw q))) uu ae oc) ae<|⟨_,by rw[b.o];rfl,by rw[b.o],d.o.setRow cw akm akn _,u.setRow F _⟩
def agh:(prog.info? 36).map (λi=>(i.zero,i.size,i.bytes))=some (some (.agg zeroCells36),128,128):=cX
def qu(n:Nat):fJ:=ct (n*128) (Du λ_=>eP)
theorem YO(n:Nat):madeCells (Value.agg zeroCells36).cells (n*128)=qu n:=by
 have hc:(Value.agg zeroCells36).cells=ct 128 (cN eP):=by rfl
 rw[hc];apply xb;intro j;unfold qu;rw[cU];unfold madeCells;by_cases h:j<n*128;rw[cL h];simp only[Array.getElem?_map,cF];have a:j%128<128:=cw;simp_all[cN,getElem!_def,cU,Du];grind
theorem Ha(n:Nat)(a:n<=1024)(W:cB):(Instr.makeSlice 124 (.int .i64 n) (.int .i64 n)).run prog W=.ok (.slice (some ⟨W.heap.size,0,none⟩) n n) (W.alloc (.cells (qu n) 36)):=by have⟨i0,hi,hz0,hz1,hz2⟩:=nB agh;rw[run_make W 124 36 i0 (.agg zeroCells36) underlying124 hi hz0 .i64 .i64 (n:Nat) (n:Nat) cw cw iG cw,hz1];grind[YO]
def IL(s:Int):Nat:=(min (max s 0) 1024).toNat
def xz(n b a:Nat):Head:=⟨n,b,a,.slice none 0 0,0,-1,false⟩
theorem R'(n b a:Nat):(#[Value.slice (some ⟨b,0,none⟩) n n,.slice (some ⟨a,0,none⟩) n n,.slice none 0 0,.int .i64 0,.int .i64 (-1),.bool false]:fJ)=ct 6 (oz (xz n b a)):=by rfl
theorem Sa(w:cB)(n:Nat)(l:n<=1024)(W:cB)(h:W=(w.alloc (.cells (qu n) 36)).alloc (.cells (qu n) 36))(d c:Nat)(p:(d=w.heap.size/\c=w.heap.size+1)∨(d=w.heap.size+1/\c=w.heap.size))(g:cB)(e:g=(W.alloc (.cells #[.slice (some ⟨d,0,none⟩) n n,.slice (some ⟨c,0,none⟩) n n,.slice none 0 0,.int .i64 0,.int .i64 (-1),.bool false] 127)).drew):
 yw g (w.heap.size+1+1) (xz n d c) (λ_=>eP) (λ_=>eP)/\dz w g:=by
 have r:jS (w.alloc (.cells (qu n) 36)) w.heap.size n λ_=>eP:=cu.alloc _ _ _ _;have i:(w.alloc (.cells (qu n) 36)).heap.size=w.heap.size+1:=by simp
 have j:jS W (w.heap.size+1) n λ_=>eP:=by rw[h,<-i];exact bg
 have o:Below (w.heap.size+1) (w.alloc (.cells (qu n) 36)) W:=by rw[h];exact(fO _ _).alloc cw _
 have q:W.heap.size=w.heap.size+1+1:=by simp_all
 have f:jS W w.heap.size n λ_=>eP:=by grind[cu.alloc_old,jS]
 rw[R'] at e;have k:jJ (W.alloc (.cells (ct 6 (oz (xz n d c))) 127)) (w.heap.size+1+1) (xz n d c):=by grind[cu.alloc,jJ]
 have a:jS (W.alloc (.cells (ct 6 (oz (xz n d c))) 127)) w.heap.size n λ_=>eP:=cu.alloc_old f _;have b:jS (W.alloc (.cells (ct 6 (oz (xz n d c))) 127)) (w.heap.size+1) n λ_=>eP:=cu.alloc_old j _;have m:dz w g:=by rw[e,h];exact((((fO _ _).alloc (dK _) _).alloc cw _).alloc iG _).drew
 refine⟨?_,m⟩;rw[e];rcases p with⟨rfl,rfl⟩|⟨rfl,rfl⟩;exact⟨k,a,b,by grind[xz],l⟩;exact⟨k,b,a,by grind[xz],l⟩
def aek(s:Int)(g:ee s)(w:cB):
 CP_ 37 #[.int .i64 s] w λe w'=>∃D d c,e=.returned (.pointer (some ⟨D,0,none⟩))/\(yw w' D (xz (IL s) d c) (λ_=>eP) (λ_=>eP)/\dz w w')/\w.heap.size<=D/\w.heap.size<=d/\w.heap.size<=c:=by
 have⟨n,hn⟩:=c8 (IL s);rw[hn];unfold ee at g;have f:n<=1024:=by unfold IL at hn;omega
 have a:=cq (Sa w n f _ ae);by_cases h:s<0;obtain rfl:n=0:=by unfold IL at hn;omega
 have b:∀W:cB,(Instr.makeSlice 124 (.int .i64 0) (.int .i64 0)).run prog W=.ok (.slice (s_ W.heap.size 0) 0 0) (W.alloc (.cells (qu 0) 36)):=λW=>Ha 0 cw W;rotate_left;by_cases i:1024<s;obtain rfl:n=1024:=by unfold IL at hn;omega
 have b:∀W:cB,(Instr.makeSlice 124 (.int .i64 1024) (.int .i64 1024)).run prog W=.ok (.slice (s_ W.heap.size 0) 1024 1024) (W.alloc (.cells (qu 1024) 36)):=λW=>Ha 1024 cw W;rotate_left;obtain rfl:s=(n:Int):=by unfold IL at hn;omega
 have b:∀W:cB,(Instr.makeSlice 124 (.int .i64 n) (.int .i64 n)).run prog W=.ok (.slice (s_ W.heap.size 0) n n) (W.alloc (.cells (qu n) 36)):=λW=>Ha n cw W
 all_goals
  clear hn;go_enter func37,ntmps37;go_wp2
  go_region
  all_goals(go_wp2;go_ret;first|exact⟨_,_,_,ae,a.o _ _ cj _ ae,cw,by omega,cw⟩|exact⟨_,_,_,ae,a.o _ _ aj0 _ ae,cw,by omega,cw⟩)
structure sI(B:Nat)(l:cD)(w w':cB):Prop where
 os:w'.os=w.os
 tape:w'.tape=w.tape
 output:w'.output=w.output
 size:w.heap.size<=w'.heap.size
 block:∀k,k<B->k∉l->w'.heap[k]?=w.heap[k]?
theorem sI.trans{B:Nat}{l:cD}{w w1 w2:cB}(h:sI B l w w1)(k:sI B l w1 w2):sI B l w w2:=
 ⟨k.os.trans h.os,k.tape.trans h.tape,k.output.trans h.output,gO h.size k.size,λi a b=>(k.block i a b).trans (h.block i a b)⟩
theorem sI.drew(h:sI B l w w'):sI B l w w'.drew:=⟨h.os,h.tape,h.output,h.size,h.block⟩
theorem sI.sX{B:Nat}{w w':cB}(h:Below B w w')(l:cD):sI B l w w':=⟨h.os,h.tape,h.output,h.size,λk a _=>h.block k a⟩
def sI.qt(h:iU b w w')(a:B<=w.heap.size)(c:b∈l∨B<=b):sI B l w w':=
 ⟨h.os,h.tape,h.output,h.size,λk d e=>h.block k cw iG⟩
def sI.setCell(h:sI B l w w')(d:b∈l∨B<=b)(o:Nat)(v:cI):sI B l w (w'.setCell ⟨b,o,none⟩ v):=
 ⟨h.os,h.tape,h.output,by simpa using h.size,λk a c=>(G1 w' ⟨b,o,none⟩ k v iG).trans (h.block k a c)⟩
def cu.oQ(h:cu w b t n f)(s:sI B l w w')(a:b<B)(c:b∉l):cu w' b t n f:=by unfold cu;rw[s.block b a c];exact h
theorem Pz{e:Nat}(h:w.ownsRow base e size v n xs)(s:sI B l w w')(a:∀b,v.ownBlock=some b->b<B/\b∉l):w'.ownsRow base e size v n xs:=by refine⟨h.1,?_⟩;rcases h.2 with h2|⟨g,cap,cur,rfl,h1,h2,h3⟩;grind;have⟨hg,hgl⟩:=a g ae;exact .inr ⟨g,cap,cur,ae,h1,by rw[s.block g hg hgl];exact h2,h3⟩
def vi(ps:List (Nat×cD)):List cI:=ps.flatMap λp=>.int .i64 (p.1:Nat):: (ct 128 (cN p.2)).toList
theorem Vc(ps:List (Nat×cD))(i:Nat)(s:cD):vi (ps++[(i,s)])=vi ps++(.int .i64 i:: (ct 128 (cN s)).toList):=by grind[vi]
structure mV(w:cB)(D:Nat)(h:Head)(st nw:Nat->cD)(ps:List (Nat×cD)):Prop extends yw w D h st nw where
 vj:w.ownsRow 0 129 129 h.pv ps.length (vi ps)
 inside:∀p∈ps,p.1<h.n
def fi(D:Nat)(h:Head):cD:=D::h.sb::h.nb:: (match h.pv.ownBlock with|some b=> [b]|none=> [])
def mV.oQ{h:Head}{st:Nat->cD}(a:mV w D h st nw ps)(s:sI B l w w')(c:∀k∈fi D h,k<B/\k∉l):mV w' D h st nw ps:=by have d:=c D bz;have f:=c h.sb bz;have e:=c h.nb bz;refine⟨⟨cu.oQ a.head s d.1 d.2,cu.oQ a.ki s f.1 f.2,cu.oQ a.kz s e.1 e.2,a.apart,a.pK⟩,Pz a.vj s λb g=>c b (by simp[fi,g]),a.inside⟩
theorem vl(h:Head):(ky h).1.n=h.n/\(ky h).1.sb=h.sb/\(ky h).1.nb=h.nb/\(ky h).1.pv=h.pv:=by unfold ky;grind
def Fv(D:Nat)(h:Head)(z: -1<=h.left/\h.left<=9223372036854775807)(i:Int)(A:fJ)(w:cB)(a:jJ w D h)(b:zz h i=false∨(ky (iv h)).2=false):
 CP_ 227 #[.pointer (some ⟨D,0,none⟩),.int .i64 i,.agg A] w λe w'=>
  (e=.returned (.int .i64 (if zz h i=true then 42 else 41)))/\jJ w' D (if zz h i=true then(ky (iv h)).1 else iv h)/\iU D w w':=by
 have⟨W0,HW0⟩:=xm (w.alloc (.cells A 36));have f:dz w W0:=by rw[HW0.o];exact aN
 have m:jJ W0 D h:=cu.cx a f;have n:iU D w W0:=iU.sX f;have j:=cq m;clear m a f;obtain⟨s,-,-,-,t,-⟩:=mJ h;have c:zz (iv h) i=zz h i:=by unfold zz;rw[s]
 have g: -1<=(iv h).left/\(iv h).left<=9223372036854775807:=by rw[t];exact z
 have k:=cq c;clear c s t z;have⟨h2,HH2⟩:=q8 (iv h);rw[HH2.o] at b g|-;have B:=cq g;clear g;have⟨hs,HHS⟩:=q8 (zz h i);rw[HHS.o] at b|-;have y:=cq b;clear b;go_enter func227,ntmps227;go_wp2_with fail;rw[<-HW0.o];refine(zA D h _ j.o).mono ?_;rw[HH2.o];rintro e w1 ⟨rfl,q,o⟩;have l:=cq (n.trans o);have d:=cq q;clear q o j n;go_wp2_with fail
 refine(Py D h2 i _ d.o).mono ?_;rw[<-HH2.o,k.o,HHS.o];rintro e w2 ⟨rfl,rfl⟩;cases hs with
 |false=>go_wp2_with fail;go_ret;exact⟨by simp,by simpa using d.o,l.o⟩
 |true=>
  go_wp2_with fail;refine(CR D h2 B.o _ d.o).mono ?_;have u:(ky h2).2=false:=by have:=y.o;simpa using this
  rw[u];clear u;rintro e C ⟨rfl,r,p⟩;have x:=cq (l.o.trans p);have v:=cq r;clear r p;go_wp2_with fail;go_ret;exact⟨by simp,by simpa using v.o,x.o⟩
def KC(f:Nat->cI)(o n:Nat)(g:Nat->cI):Nat->cI:=λi=>if o<=i/\i<o+n then g (i-o) else f i
theorem cu.setCells{b:Nat}{t:dC}{n:Nat}:∀(a:List cI)(o:Nat){w:cB}{f:Nat->cI},cu w b t n f->
 cu (w.setCells b o a) b t n (KC f o a.length λj=>a.getD j (.int .u8 0))
 | [],o,w,f,h=>cu.congr h λj _=>by simp_all[KC,cM]
 |v::r,o,w,f,h=>by
  rw[World.setCells];refine cu.congr (cu.setCells r (o+1) (cu.set h o v)) λj _=>?_;unfold KC
  grind
theorem iU.setCells(b:Nat):∀(a:List cI)(o:Nat)(w:cB),iU b w (w.setCells b o a)
 | [],_,w=>iU.refl b w
 |v::r,o,w=>by
  rw[World.setCells];exact(qS b w o v).trans (iU.setCells b r (o+1) _)
def iQ(s:Nat->cD)(q:Nat)(x:cD):Nat->cD:=λi=>if i=q then x else s i
theorem jS.put(h:jS w b n s)(q:Nat)(x:cD):
 jS (w.setCells b (q*128) (ct 128 (cN x)).toList) b n (iQ s q x):=by
 refine cu.congr (cu.setCells (ct 128 (cN x)).toList (q*128) h) λj _=>?_;unfold KC Du iQ;rw[mq,cF];by_cases a:q*128<=j/\j<q*128+128;rw[cL a,cL (show j/128=q from cw),show j%128=j-q*128 from by omega];show(ct 128 (cN x)).toList.getD (j-q*128) (.int .u8 0)=_;rw[tY,mj,cU,cL cw];rfl
 grind
def jS.there{q:Nat}(h:jS w b n s)(c:q<n):w.there b (q*128) 128:=λj a=>
 ⟨by rw[cu.cell h cw];rfl,cu.frozen h _⟩
def PD:(prog.info? 129).map (λi=>(i.zero,i.size,i.bytes))=some (some (.agg zeroCells129),129,136):=cX
theorem ael(x:cI)(A:fJ)(a:A.size=128):
 Array.foldl (λ(b:fJ)(y:cI×Nat)=>b.setIfInBounds (1+y.snd) y.fst) (zeroCells129.setIfInBounds 0 x) A.zipIdx 0 128=#[x]++A:=by have e:zeroCells129.size=129:=cX;generalize zeroCells129=Z at e;rw[show 128=A.zipIdx.size from by simp[a],<-Array.foldl_toList,Array.toList_zipIdx];apply xb;intro k;have d:=λc=>(Great.foldl_set 1 A.toList 0 c).2 k;rw[d];simp only[mq,a];by_cases f:k=0;grind;by_cases g:k<129;rw[cL az,Array.getElem?_append_right az];simp;grind
def gx(w:cB)(k:Nat):Option dC:=match w.heap[k]? with|some (.cells _ t _)=>some t|_=>none
def kO(t:dC):Bool:=decide (t=127∨t=129∨t=36)
def fT(t:dC):Bool:=decide (t=206∨t=147∨t=145∨t=101)
def nL(w:cB)(D:Nat):cD:=match w.heap[D]? with
 |some (.cells cs _ _)=>D:: (((cs[0]?.bind Value.ownBlock).toList++(cs[1]?.bind Value.ownBlock).toList)++(cs[2]?.bind Value.ownBlock).toList)
 |_=> []
theorem qT{w w':cB}{D:Nat}(h:w'.heap[D]?=w.heap[D]?):nL w' D=nL w D:=by grind[nL]
def Oa(w:cB)(d:Option Nat)(l:cD)(k:Nat):Prop:=∃t,gx w k=some t/\((∃D,d=some D/\kO t=true/\k∈nL w D)∨(fT t=true/\k∈l))
structure Fr(d:Option Nat)(l:cD)(w w':cB):Prop where
 os:w'.os=w.os
 tape:w'.tape=w.tape
 output:w'.output=w.output
 size:w.heap.size<=w'.heap.size
 block:∀k,k<w.heap.size->¬Oa w d l k->w'.heap[k]?=w.heap[k]?
 dty:∀D,d=some D->gx w D=some 127/\gx w' D=some 127
 dev:∀D,d=some D->∀k∈nL w' D,k∈nL w D∨w.heap.size<=k
theorem uO{w w':cB}{k:Nat}(h:w'.heap[k]?=w.heap[k]?):gx w' k=gx w k:=by grind[gx]
theorem gr(h:gx w b=some t):b<w.heap.size:=by grind[gx]
theorem cu.ty(h:cu w b t n f):gx w b=some t:=by grind[cu,gx]
theorem abk(h:w'.heap[D]?=w.heap[D]?):∀k∈nL w' D,k∈nL w D∨w.heap.size<=k:=by grind[qT]
theorem Fr.refl(d:Option Nat)(l:cD)(w:cB)(a:∀D,d=some D->gx w D=some 127):Fr d l w w:=⟨ae,ae,ae,dK _,λ_ _ _=>ae,λD e=>⟨a D e,a D e⟩,λD _ k b=>.inl b⟩
theorem Fr.sX{w w':cB}(h:dz w w')(d:Option Nat)(l:cD)(a:∀D,d=some D->gx w D=some 127):Fr d l w w':=
 ⟨h.os,h.tape,h.output,h.size,λk b _=>h.block k b,λD e=>⟨a D e,by rw[uO (h.block D (gr (a D e)))];grind⟩,λD e=>abk (h.block D (gr (a D e)))⟩
theorem Fr.CU(h:dz w w')(l:cD):Fr none l w w':=by grind[Fr.sX]
theorem Fr.cx(h:Fr none [] w w'):dz w w':=
 ⟨h.os,h.tape,h.output,h.size,λk a=>h.block k a (by grind[Oa])⟩
theorem Fr.step{d2:Option Nat}(h:Fr d l w w1)(g:Fr d2 l2 w1 w2)(n:∀D,d2=some D->d=some D)(r:∀k∈l2,k∈l∨w.heap.size<=k):Fr d l w w2:=by
 have f:∀D,d=some D->d2≠some D->w2.heap[D]?=w1.heap[D]?:=by intro D e i;have p:=(h.dty D e).2;refine g.block D (gr p) ?_;rintro⟨t,m,hc⟩;rw[p] at m;cases m;rcases hc with⟨q,a,b,c⟩|⟨a,b⟩;grind;exact absurd a jR
 refine⟨g.os.trans h.os,g.tape.trans h.tape,g.output.trans h.output,gO h.size g.size,λk j o=>?_,λD e=>⟨(h.dty D e).1,?_⟩,λD e k j=>?_⟩;have e:=h.block k j o;rw[<-e];refine g.block k (oS j h.size) ?_;rintro⟨t,m,hc⟩;rw[uO e] at m;refine o ⟨t,m,?_⟩;rcases hc with⟨D,a,b,c⟩|⟨a,b⟩;exact .inl ⟨D,n D a,b,(h.dev D (n D a) k c).resolve_right cw⟩;grind;by_cases i:d2=some D;exact(g.dty D i).2;rw[uO (f D e i)];exact(h.dty D e).2;by_cases i:d2=some D;rcases g.dev D i k j with h3|h3;exact h.dev D e k h3;exact .inr (gO h.size h3);rw[qT (f D e i)] at j;exact h.dev D e k j
theorem Fr.trans{d:Option Nat}{l:cD}{w w1 w2:cB}(h:Fr d l w w1)(a:Fr d l w1 w2):Fr d l w w2:=h.step a (λ_ e=>e) λ_ b=>.inl b
def Fr.ahK(h:Fr d l w w1)(a:Fr none l2 w1 w2)(b:∀k∈l2,k∈l∨w.heap.size<=k):Fr d l w w2:=h.step a aH b
def Fr.mono{d':Option Nat}{a:cD}(h:Fr d l w w')(b:∀D,d'=some D->gx w D=some 127)(c:∀D,d=some D->d'=some D)(e:∀k∈l,k∈a∨w.heap.size<=k):Fr d' a w w':=(Fr.refl d' a w b).step h c e
def Fr.abl(h:Fr d l w w1)(a:dz w1 w2):Fr d l w w2:=h.ahK (Fr.CU a []) dU
def Fr.PF(h:Fr d l w w1)(i:w.heap.size<=b)(c:iU b w1 w2):Fr d l w w2:=by
 have a:∀D,d=some D->w2.heap[D]?=w1.heap[D]?:=λD e=>c.block D (gr (h.dty D e).2) (by rintro rfl;exact absurd (gr (h.dty _ e).1) cw)
 exact⟨c.os.trans h.os,c.tape.trans h.tape,c.output.trans h.output,gO h.size c.size,λk f g=>(c.block k (oS f h.size) cw).trans (h.block k f g),
  λD e=>⟨(h.dty D e).1,by rw[uO (a D e)];exact(h.dty D e).2⟩,λD e k f=>by rw[qT (a D e)] at f;exact h.dev D e k f⟩
theorem Fr.grown{d:Option Nat}{l:cD}{w w' w2:cB}{row:Option Nat}(h:Fr d l w w')(a:w'.grownBy w2 row)(e:∀k,row=some k->w.heap.size<=k):Fr d l w w2:=by cases row with|none=>exact h.abl ⟨a.os,a.tape,a.output,a.size,λk c=>a.block k c dU⟩|some b=>exact h.PF (e b ae) ⟨a.os,a.tape,a.output,a.size,λk c f=>a.block k c iG⟩
def Fr.qt(h:iU b w w')(e:gx w b=some t)(ho:fT t=true)(a:b∈l):Fr none l w w':=
 ⟨h.os,h.tape,h.output,h.size,λk c d=>h.block k c (by rintro rfl;exact d ⟨t,e,.inr ⟨ho,a⟩⟩),aH,aH⟩
theorem Fr.fV(h:Fr d l w w')(a:gx w k=some t)(b:d=none∨kO t=false)(c:fT t=false∨k∉l):w'.heap[k]?=w.heap[k]?:=by refine h.block k (gr a) ?_;grind[Oa]
theorem Fr.KD(h:Fr (some D) l w w')(a:gx w k=some t)(b:k∉nL w D)(c:fT t=false∨k∉l):w'.heap[k]?=w.heap[k]?:=by refine h.block k (gr a) ?_;grind[Oa]
theorem Fr.abm{D:Nat}{l:cD}{w w':cB}(h:Fr (some D) l w w'){k:Nat}(c:k<w.heap.size)(b:k∉nL w D):k∉nL w' D:=λa=>by rcases h.dev D ae k a with h2|h2<;>grind
theorem cu.fr{d:Option Nat}{l:cD}{w w':cB}{b:Nat}{t:dC}{n:Nat}{f:Nat->cI}(h:cu w b t n f)(s:Fr d l w w')(a:d=none∨kO t=false)(c:fT t=false∨b∉l):cu w' b t n f:=by have:=s.fV h.ty a c;grind[cu]
theorem cu.frX(h:cu w b t n f)(s:Fr (some D) l w w')(a:b∉nL w D)(c:fT t=false∨b∉l):cu w' b t n f:=by have:=s.KD h.ty a c;grind[cu]
theorem Aq{d:Option Nat}{l:cD}{w w':cB}{base:Nat}{e:dC}{size:Nat}{v:cI}{n:Nat}{xs:List cI}(h:w.ownsRow base e size v n xs)(s:Fr d l w w')(a:d=none∨kO e=false)(b:fT e=false):w'.ownsRow base e size v n xs:=by refine⟨h.1,?_⟩;rcases h.2 with h3|⟨g,cap,cur,rfl,hb,hg,hr⟩;grind;refine .inr ⟨g,cap,cur,ae,hb,?_,hr⟩;rw[s.fV (t:=e) (by grind[gx]) a (.inl b)];exact hg
theorem Ar{w:cB}{base base':Nat}{e:dC}{size:Nat}{v:cI}{n:Nat}{xs:List cI}(h:w.ownsRow base e size v n xs)(a:base'<=base):w.ownsRow base' e size v n xs:=
 ⟨h.1,h.2.imp id λ⟨g,cap,cur,h1,h2,r⟩=>⟨g,cap,cur,h1,gO a h2,r⟩⟩
theorem eE.fr{d:Option Nat}{l:cD}{w w':cB}{b:Nat}{st:Nat->Nat}(h:eE w b st)(s:Fr d l w w')(a:b∉l):eE w' b st:=cu.fr h s au (.inr a)
structure Dv where
 n:Nat
 st:Nat->cD
 nw:Nat->cD
 ps:List (Nat×cD)
 ops:Nat
 left:Int
 cO:Bool
def Dv.head(d:Dv)(b a:Nat)(pv:cI):Head:=⟨d.n,b,a,pv,d.ops,d.left,d.cO⟩
def iY(s:cD):Prop:=s.length=128/\∀x∈s,x<256
structure pH(d:Dv):Prop where
 st:∀i,iY (d.st i)
 nw:∀i,iY (d.nw i)
 ps:∀p∈d.ps,iY p.2
 pK:d.ps.length<=d.ops
 ops:d.ops<=4611686018427387903
 left: -1<=d.left/\d.left<=9223372036854775807
def iK(w:cB)(D:Nat)(d:Dv):Prop:=pH d/\∃b a pv,mV w D (d.head b a pv) d.st d.nw d.ps
def iK.ok{d:Dv}(h:iK w D d):pH d:=h.1
theorem mV.nL{w:cB}{D:Nat}{h:Head}{st nw:Nat->cD}{ps:List (Nat×cD)}(a:mV w D h st nw ps):nL w D=fi D h:=by have e:w.heap[D]?=some (.cells (ct 6 (oz h)) 127 (0,0)):=a.head;unfold Proofs.YtklligbjoplbgaaGreat.nL fi;rw[e];have b:(ct 6 (oz h))[0]?=some (.slice (s_ h.sb 0) h.n h.n):=rfl;have c:(ct 6 (oz h))[1]?=some (.slice (s_ h.nb 0) h.n h.n):=rfl;have d:(ct 6 (oz h))[2]?=some h.pv:=rfl;simp only[b,c,d,vO];cases h.pv.ownBlock<;>rfl
theorem mV.abn{h:Head}{st:Nat->cD}(a:mV w D h st nw ps):∀k∈fi D h,∃t,gx w k=some t/\kO t=true:=by intro k b;unfold fi at b;simp only[ib] at b;rcases b with rfl|rfl|rfl|b;exact⟨127,cu.ty a.head,ae⟩;exact⟨36,cu.ty a.ki,ae⟩;exact⟨36,cu.ty a.kz,ae⟩;rcases a.vj.2 with⟨c,_⟩|⟨g,cap,d,c,_,e,_⟩;grind[Value.ownBlock];rw[c] at b;simp only[Value.ownBlock,ib,iS,sM] at b;subst b;exact⟨129,by grind[gx],ae⟩
theorem iK.fr{l:cD}{w w':cB}{D:Nat}{d:Dv}(h:iK w D d)(s:Fr none l w w'):iK w' D d:=by have⟨h0,sb,nb,pv,a⟩:=h;refine⟨h0,sb,nb,pv,⟨⟨cu.fr a.head s ax ax,cu.fr a.ki s ax ax,cu.fr a.kz s ax ax,a.apart,a.pK⟩,Aq a.vj s ax ae,a.inside⟩⟩
theorem iK.cx{d:Dv}(h:iK w D d)(s:dz w w'):iK w' D d:=h.fr (Fr.CU s [])
def eG(d:Dv):Dv:=if d.ops<4611686018427387903 then {d with ops:=d.ops+1} else d
def iZ(d:Dv):Dv×Bool:=
 if d.left=0 then({d with cO:=true},false) else if d.cO=true then(d,false) else if 0<d.left then({d with left:=d.left-1},true) else(d,true)
def PG(d:Dv)(i:Int):Bool:=decide (0<=i/\i<(d.n:Int))
theorem yx(d:Dv)(b a:Nat)(pv:cI):(eG d).head b a pv=iv (d.head b a pv):=by grind[eG,iv,Dv.head]
theorem IM(d:Dv)(b a:Nat)(pv:cI):(iZ d).1.head b a pv=(ky (d.head b a pv)).1/\(iZ d).2=(ky (d.head b a pv)).2:=by grind[iZ,ky,Dv.head]
theorem vm(d:Dv):(eG d).n=d.n/\(eG d).st=d.st/\(eG d).nw=d.nw/\(eG d).ps=d.ps/\(eG d).left=d.left/\(eG d).cO=d.cO:=by unfold eG;grind
theorem vq(d:Dv):(iZ d).1.n=d.n/\(iZ d).1.st=d.st/\(iZ d).1.nw=d.nw/\(iZ d).1.ps=d.ps/\(iZ d).1.ops=d.ops:=by unfold iZ;grind
theorem Vd(d:Dv)(h:d.ops<=4611686018427387903):d.ops<=(eG d).ops/\(eG d).ops<=d.ops+1/\(eG d).ops<=4611686018427387903:=by unfold eG;grind
def CX{d:Dv}(h:pH d):pH (eG d):=by have⟨e1,e2,e3,e4,e5,e6⟩:=vm d;have⟨o1,o2,o3⟩:=Vd d h.ops;refine⟨by rw[e2];exact h.st,by rw[e3];exact h.nw,by rw[e4];exact h.ps,by rw[e4];exact gO h.pK o1,o3,by rw[e5];exact h.left⟩
theorem Sb{d:Dv}(h: -1<=d.left/\d.left<=9223372036854775807): -1<=(iZ d).1.left/\(iZ d).1.left<=9223372036854775807:=by grind[iZ]
def Ob{d:Dv}(h:pH d):pH (iZ d).1:=by have⟨e1,e2,e3,e4,e5⟩:=vq d;exact⟨by rw[e2];exact h.st,by rw[e3];exact h.nw,by rw[e4];exact h.ps,by rw[e4,e5];exact h.pK,by rw[e5];exact h.ops,Sb h.left⟩
def fZ(d:Dv)(i:Int):Dv×(cD×Int):=
 (eG d,if PG d i=true then(if d.cO=true then(eP,42) else(d.nw i.toNat,0)) else(eP,41))
theorem vr:iY eP:=⟨by rfl,λx a=>by grind[eP]⟩
theorem Hb{d:Dv}(h:pH d)(i:Int):iY (fZ d i).2.1:=by unfold fZ;simp only;split;split;exact vr;exact h.nw _;exact vr
def gu(d:Dv)(i:Int)(s:cD):Dv×Int:=
 if PG d i=true then
  (if(iZ (eG d)).2=true then({(iZ (eG d)).1 with nw:=iQ d.nw i.toNat s,ps:=d.ps++[(i.toNat,s)]},0) else((iZ (eG d)).1,42))
 else(eG d,41)
def rz(st:Nat->cD)(ps:List (Nat×cD)):Nat->cD:=ps.foldl (λs p=>iQ s p.1 p.2) st
def gZ(d:Dv):Dv×Int:=
 if(iZ (eG d)).2=true then({(iZ (eG d)).1 with st:=rz d.st d.ps,ps:=[]},0) else((iZ (eG d)).1,42)
def rh(st:Nat->cD)(fV:List Bool):Nat->List (Nat×cD)->(Nat->cD)
 |_,[]=>st
 |k,p::ps=>rh (if fV.getD k false=true then iQ st p.1 p.2 else st) fV (k+1) ps
def wD(d:Dv)(fV:List Bool):Dv:=
 {d with st:=rh d.st fV 0 d.ps,nw:=rh d.st fV 0 d.ps,ps:=[],left:=-1,cO:=false}
theorem abo(A:fJ)(s:Nat)(b:0<s)(cells:fJ)(a:A.size=s)(hc:cells.size=1*s):
 Instr.fill (λi=>some (i*s,s)) cells [(0,.agg A)]=some A:=by
 have h:=Great.fill_whole b [Value.agg A] cells (by intro v c;cases eV.1 c;exact a) iG;have e:([Value.agg A].flatMap λv=>v.cells.toList).toArray=A:=by have:(Value.agg A).cells=A:=rfl;simp[this]
 grind
theorem CY(t e:dC)(x:Operand)(ho:o.op=.buildSlice t 1 #[(0,x)])(A:fJ)(s b:Nat)(z:cI)(k:a.eval x=.agg A)(f:P.underlying t=some (.slice e))(c:(P.info? e).map (λi=>(i.zero,i.size,i.bytes))=some (some z,s,b))(j:0<s)(d:s<=16777216)(g:A.size=s)(h:K (a.put o.dst (.slice (some ⟨w.heap.size,0,none⟩) 1 1)) (w.alloc (.cells A e))):o.wp P a w K Q:=by have⟨it,hi1,hz,hz1,hz2⟩:=nB c;refine wp_buildSlice t e 1 #[(0,x)] ho A it z f hi1 hz cw cw ?_ h;grind[abo]
def MV(c:o.guard=none)(t e:dC)(x:Operand)(ho:o.op=.buildSlice t 1 #[(0,x)])(A:fJ)(s b:Nat)(z:cI)(m:a.eval x=.agg A)(l:P.underlying t=some (.slice e))(j:(P.info? e).map (λi=>(i.zero,i.size,i.bytes))=some (some z,s,b))(k:0<s)(d:s<=16777216)(f:A.size=s)(h:wpList P ops Q rest (a.put o.dst (.slice (some ⟨w.heap.size,0,none⟩) 1 1)) (w.alloc (.cells A e))):wpList P ops Q (o::rest) a w:=
 lF c λ_ g=>CY t e x ho A s b z m l j k d f (g _ _ h)
def ED(s x:Operand)(t:dC)(ho:o.op=.call {callee:=.builtin .append,args:=#[s,x],argTypes:=#[t,t]})(base:Nat)(e:dC)(z:cI)(size b:Nat)(y:P.underlying t=some (.slice e))(q:(P.info? e).map (λi=>(i.zero,i.size,i.bytes))=some (some z,size,b))(l:z.cells.size=size)(k:0<size)(v:cI)(n:Nat)(xs:List cI)(r:a.eval s=v)(f:w.ownsRow base e size v n xs)(B:Nat)(A:fJ)(D:dC)(fr:Nat×Nat)(C:a.eval x=.slice (some ⟨B,0,none⟩) 1 1)(p:w.heap[B]?=some (.cells A D fr))(E:A.size=size)(m:∀u∈A.toList,u.oneCell'=true)(j:n+1<=maxLen)(c:(n+1)*b<=140737488355328)(d:base<=w.heap.size)(h:∀g cap w',w'.ownsRow base e size (.slice (some ⟨g,0,none⟩) (n+1) cap) (n+1) (xs++A.toList)->w.grownBy w' v.ownBlock->(v.ownBlock=some g∨g=w.heap.size)->g<w'.heap.size->K (a.put o.dst (.slice (some ⟨g,0,none⟩) (n+1) cap)) w'):o.wp P a w K Q:=by have⟨it,hi1,hz,hz1,hz2⟩:=nB q;exact wp_append_lies w s x t ho base e it z size b y hi1 hz hz1 hz2 l k v n xs r f ⟨B,0,none⟩ 1 1 A.toList C iG (World.news_of_block p) m cw j c d _ ae h
def KE(k:o.guard=none)(s x:Operand)(t:dC)(ho:o.op=.call {callee:=.builtin .append,args:=#[s,x],argTypes:=#[t,t]})(base:Nat)(e:dC)(z:cI)(size b:Nat)(J:P.underlying t=some (.slice e))(H:(P.info? e).map (λi=>(i.zero,i.size,i.bytes))=some (some z,size,b))(m:z.cells.size=size)(l:0<size)(v:cI)(n:Nat)(xs:List cI)(I:a.eval s=v)(f:w.ownsRow base e size v n xs)(B:Nat)(A:fJ)(p:dC)(fr:Nat×Nat)(K:a.eval x=.slice (some ⟨B,0,none⟩) 1 1)(F:w.heap[B]?=some (.cells A p fr))(E:A.size=size)(q:∀u∈A.toList,u.oneCell'=true)(j:n+1<=maxLen)(c:(n+1)*b<=140737488355328)(d:base<=w.heap.size)(h:∀g cap w',w'.ownsRow base e size (.slice (some ⟨g,0,none⟩) (n+1) cap) (n+1) (xs++A.toList)->w.grownBy w' v.ownBlock->(v.ownBlock=some g∨g=w.heap.size)->g<w'.heap.size->wpList P ops Q rest (a.put o.dst (.slice (some ⟨g,0,none⟩) (n+1) cap)) w'):wpList P ops Q (o::rest) a w:=
 lF k λ_ G=>ED s x t ho base e z size b J H m l v n xs I f B A p fr K F E q j c d λg cap w' r y C D=>G _ _ (h g cap w' r y C D)
theorem od{w:cB}{b:Nat}{t:dC}{n:Nat}{f:Nat->cI}(h:cu w b t n f):w.rangeAt b 0 (ct n f).toList:=by
 intro j v a;rw[mj,cU] at a;split at a;next hj=>cases a;rw[ou];exact cu.cell h hj
 cases a
def DH(i:Region.wanted op (yielded ops a.tmps)=true)(ty:dC)(x:Operand)(ho:op.op=.load ty x)(g n:Nat)(t:dC)(f:Nat->cI)(j:a.eval x=.pointer (some ⟨g,0,none⟩))(A:fJ)(b:A=ct n f)(d:TypeDesc)(hS:∀w,S w->cu w g t n f)(e:P.underlying ty=some d)(c:d.isRow=true)(k:(P.info? ty).map (·.size)=some n):YieldsIf P ops S op (.agg A) a:=by subst b;have h:=yieldsIf_load_mid (P:=P) (S:=S) i ty x ho g 0 j (ct n f).toList d (λw h=>od (hS w h)) e c aD;omega
def uP(e:Region.wanted op (yielded ops a.tmps)=true)(ty:dC)(x:Operand)(ho:op.op=.load ty x)(g o:Nat)(f:a.eval x=.pointer (some ⟨g,o,none⟩))(A:fJ)(d:TypeDesc)(hS:∀w,S w->w.rangeAt g o A.toList)(c:P.underlying ty=some d)(b:d.isRow=true)(i:(P.info? ty).map (·.size)=some A.size):YieldsIf P ops S op (.agg A) a:=by have h:=yieldsIf_load_mid (P:=P) (S:=S) e ty x ho g o f A.toList d hS c b cw;omega
theorem PH(w:cB)(Z A:fJ)(T:dC):(w.alloc (.cells Z T)).setRow w.heap.size A=w.alloc (.cells A T):=by unfold World.setRow World.alloc;simp only[World.mk.injEq,true_and,and_true];grind
def As(b:o.guard=none)(ty:dC)(x y:Operand)(ho:o.op=.store ty x y)(Z A:fJ)(n:Nat)(f:a.eval x=.pointer (some ⟨w.heap.size,0,none⟩))(g:a.eval y=.agg A)(i:(P.info? ty).map (·.size)=some n)(e:Z.size=n)(d:A.size=n)(c:A.all (·.oneCell')=true)(h:wpList P ops Q rest (a.put o.dst undef) (w.alloc (.cells A ty))):wpList P ops Q (o::rest) a (w.alloc (.cells Z ty)):=by refine KF b ty x y ho w.heap.size A f g ty Z (zq _ _) iG (by rw[e,d]) c ?_;rw[PH];exact h
def mD(b:o.guard=none)(t:dC)(x:Operand)(d c e:Option Operand)(ho:o.op=.slice t x d c e)(v:cI)(g:(Instr.sliceAt t (a.eval x) (d.map a.eval) (c.map a.eval) (e.map a.eval)).run P w=.ok v w)(h:wpList P ops Q rest (a.put o.dst v) w):wpList P ops Q (o::rest) a w:=
 lF b λK f=>by
  unfold Oper.wp execOp;simp only[ho,kj,g,mS];exact f _ _ h
def Fw(b:o.guard=none)(t:dC)(x i:Operand)(ho:o.op=.index t x i)(v:cI)(d:(Instr.index t (a.eval x) (a.eval i)).run P w=.ok v w)(h:wpList P ops Q rest (a.put o.dst v) w):wpList P ops Q (o::rest) a w:=
 lF b λK c=>by
  unfold Oper.wp execOp;simp only[ho,kj,d,mS];exact c _ _ h
def ux(b:o.guard=none)(t:dC)(x i:Operand)(ho:o.op=.indexAddr t x i)(v:cI)(d:(Instr.indexAt t (a.eval x) (a.eval i)).run P w=.ok v w)(h:wpList P ops Q rest (a.put o.dst v) w):wpList P ops Q (o::rest) a w:=
 lF b λK c=>by
  unfold Oper.wp execOp;simp only[ho,kj,d,mS];exact c _ _ h
theorem uQ(h:w.ownsRow base e size v n xs)(a:v.ownBlock=some b):gx w b=some e:=by rcases h.2 with⟨rfl,_⟩|⟨g,cap,c,rfl,_,d,_⟩;cases a;cases a<;>grind[gx]
theorem qU(h:w.ownsRow base e size v n xs)(c:gx w b=some t)(d:t≠e):v.ownBlock≠some b:=λa=>by rw[uQ h a] at c;grind
theorem pL{w w':cB}{base:Nat}{e:dC}{size:Nat}{v:cI}{n:Nat}{xs:List cI}(h:w.ownsRow base e size v n xs){b:Nat}(a:v.ownBlock≠some b)(s:iU b w w'):w'.ownsRow base e size v n xs:=by refine⟨h.1,h.2.imp id λ⟨g,cap,cur,h1,h2,hg,r⟩=>⟨g,cap,cur,h1,h2,?_,r⟩⟩;rw[s.block g (qj.1 hg).1 (by rintro rfl;exact a (by rw[h1];rfl))];exact hg
def uy(h:gx w b=some t)(s:dz w w'):gx w' b=some t:=by rw[uO (s.block b (gr h))];exact h
theorem nu{n:Nat}(f:Nat->cI)(h:∀i,(f i).oneCell'=true):(ct n f).all (·.oneCell')=true:=by rw[Array.all_eq_true];simp_all[ct]
theorem uR{E:Prop}(b:o.guard=none)(h:o.wp P a w K Q):
 if Region.wanted o (yielded ops a.tmps)=true then Oper.wp P o a w K Q else E:=by simp_all[Region.wanted]
theorem PI(h:Head)(v:cI):∀j,j<6->(if j=2 then v else oz h j)=oz {h with pv:=v} j:=by intro j b;by_cases a:j=2;subst a;rfl;simp_all[oz]
structure wE(w5:cB)(D:Nat)(h h5:Head)(st nw:Nat->cD)(ps:List (Nat×cD))(w:cB):Prop where
 head:jJ w5 D h5
 ki:jS w5 h.sb h.n st
 kz:jS w5 h.nb h.n nw
 vj:w5.ownsRow 0 129 129 h5.pv ps.length (vi ps)
 oQ:sI w.heap.size (fi D h) w w5
 dns:D≠h.sb
 dnn:D≠h.nb
 pnn:h5.pv.ownBlock≠some h.nb
theorem YP(D:Nat)(h i:Head)(st nw:Nat->cD)(ps:List (Nat×cD))(q:Nat)(s:cD)(w r t w4:cB)(A B:fJ)(E:Nat)(z:cI)(g cap:Nat)(a:mV w D h st nw ps)(K:(ky (iv h)).1=i)(Q:i.pv=z)(u:r=w.alloc (.cells A 36))(b:iU D r t)(c:(t.drew.alloc (.cells B 129)).grownBy w4 z.ownBlock)(m:w4.ownsRow 0 129 129 (.slice (some ⟨g,0,none⟩) (ps.length+1) cap) (ps.length+1) (vi ps++B.toList))(N: #[Value.int .i64 q]++A=B)(M:A=ct 128 (cN s))(l:cu w4 D 127 6 (oz i)):
 wE (w4.setCell ⟨D,2,none⟩ (.slice (some ⟨g,0,none⟩) (ps.length+1) cap)) D h {i with pv:=.slice (some ⟨g,0,none⟩) (ps.length+1) cap} st nw (ps++[(q,s)]) w:=by
 have p:z=h.pv:=by grind[vl,mJ]
 have j:dz w r:=by rw[u];exact aN
 have R:=a.head.ty;have ts:=cu.ty a.ki;have L:=cu.ty a.kz;have f:D≠h.sb:=λe=>by grind
 have d:D≠h.nb:=λe=>by grind
 have I:z.ownBlock≠some h.sb:=by rw[p];exact qU a.vj ts jR
 have H:z.ownBlock≠some h.nb:=by rw[p];exact qU a.vj L jR
 have base:∀k,k<w.heap.size->k≠D->z.ownBlock≠some k->w4.heap[k]?=w.heap[k]?:=by intro k x C F;have n:k<r.heap.size:=oS x j.size;have y:k<t.heap.size:=oS n b.size;rw[c.block k (by simp_all[lt_succ_of_lt]) (oU F)];rw[Below.heap_alloc t.drew (.cells B 129) k y];exact(b.block k n C).trans (j.block k x)
 have sz:w.heap.size<=w4.heap.size:=gO j.size (gO b.size (by have:=c.size;simp at this;omega));have G:jS w4 h.sb h.n st:=by have:=base h.sb a.ki.lt (oU f) I;unfold jS cu;rw[this];exact a.ki
 have o:jS w4 h.nb h.n nw:=by have:=base h.nb a.kz.lt (oU d) H;unfold jS cu;rw[this];exact a.kz
 have J:(Value.slice (s_ g 0) (ps.length+1) cap).ownBlock≠some D:=qU m l.ty jR;have v:(Value.slice (s_ g 0) (ps.length+1) cap).ownBlock≠some h.nb:=qU m (cu.ty o) jR;refine⟨jJ.set (h:=i) l 2 _ (PI i _),cu.zr G _ (oU f) _,cu.zr o _ (oU d) _,?_,?_,f,d,v⟩;grind[Vc,pL,qS];refine sI.setCell ⟨?_,?_,?_,sz,λk x O=>?_⟩ bY 2 _;rw[c.os];exact b.os.trans j.os;rw[c.tape];exact b.tape.trans j.tape;rw[c.output];exact b.output.trans j.output;grind[fi]
theorem wE.drew{h a:Head}{st:Nat->cD}(m:wE w5 D h a st nw ps w):wE w5.drew D h a st nw ps w:=⟨m.head,m.ki,m.kz,m.vj,m.oQ.drew,m.dns,m.dnn,m.pnn⟩
theorem Sc{q:Nat}{s:cD}(h:∀p∈ps,p.1<n)(a:q<n):∀p∈ps++[(q,s)],p.1<n:=by grind
theorem YQ{h b:Head}{st:Nat->cD}(m:wE w5 D h b st nw ps w)(i:b.n=h.n/\b.sb=h.sb/\b.nb=h.nb)(c:h.sb≠h.nb)(d:h.n<=1024)(j:∀p∈ps,p.1<h.n)(q:Nat)(s:cD):
 mV (w5.setCells h.nb (q*128) (ct 128 (cN s)).toList) D b st (iQ nw q s) ps/\sI w.heap.size (fi D h) w (w5.setCells h.nb (q*128) (ct 128 (cN s)).toList):=by have⟨e1,e2,e3⟩:=i;have a:=iU.setCells h.nb (ct 128 (cN s)).toList (q*128) w5;refine⟨⟨⟨?_,?_,?_,cw,cw⟩,pL m.vj m.pnn a,by grind⟩,?_⟩;unfold jJ cu;rw[a.block D m.head.lt m.dnn];exact m.head;rw[e1,e2];unfold jS cu;rw[a.block h.sb m.ki.lt c];exact m.ki;rw[e1,e3];exact m.kz.put q s;exact⟨a.os.trans m.oQ.os,a.tape.trans m.oQ.tape,a.output.trans m.oQ.output,gO m.oQ.size a.size,λk f g=>(a.block k (oS f m.oQ.size) (λe=>g (by grind[fi]))).trans (m.oQ.block k f g)⟩
def zB:(Value.agg zeroCells129).cells.size=129:=cX
theorem MX(D:Nat)(h:Head)(st nw:Nat->cD)(ps:List (Nat×cD))(hl: -1<=h.left/\h.left<=9223372036854775807)(f3:ps.length<=1000000000)(q:Nat)(s:cD)(A:fJ)(hA:A=ct 128 (cN s))(w:cB)(a:mV w D h st nw ps)(hq:q<h.n)(J:(ky (iv h)).2=true):
 CP_ 227 #[.pointer (some ⟨D,0,none⟩),.int .i64 q,.agg A] w λe w'=>
  ∃pv,(e=.returned (.int .i64 0))/\(∀b,pv.ownBlock=some b->h.pv.ownBlock=some b∨w.heap.size<=b)/\mV w' D {(ky (iv h)).1 with pv:=pv} st (iQ nw q s) (ps++[(q,s)])/\sI w.heap.size (fi D h) w w':=by
 have⟨W0,hW0⟩:=eW (w.alloc (.cells A 36));have a9:dz w W0:=by rw[hW0];exact aN
 have c4:cu W0 w.heap.size 36 128 (cN s):=by rw[hW0,hA];exact bg
 have U:jJ W0 D h:=cu.cx a.head a9;have f2:iU D w W0:=iU.sX a9;have f:=cq hA;clear hA;have Q:=cq hW0;clear hW0;have c6:=cq U;have Z:=cq U;clear U;have a6:=cq c4;clear c4;have G:=cq a;clear a;obtain⟨d7,-,-,-,d8,-⟩:=mJ h;have H:zz (iv h) (q:Int)=true:=by unfold zz;rw[d7];exact fQ ⟨cw,cw⟩
 have b9: -1<=(iv h).left/\(iv h).left<=9223372036854775807:=by rw[d8];exact hl
 have a5:=cq H;clear H;have a8:=cq J;clear J;have HL:=cq b9;clear b9;go_enter func227,ntmps227
 go_wp2_with fail
 rw[<-Q.o];refine ah (zA D h _ c6.o) λw1⟨b8,d3⟩=>?_;have a4:=cq b8;clear b8
 go_wp2_with fail
 refine(Py D _ _ _ a4.o).mono ?_;rw[a5.o];rintro e w2 ⟨rfl,rfl⟩
 go_wp2_with fail
 refine(CR D _ HL.o _ a4.o).mono ?_;rw[a8.o];rintro e x ⟨rfl,l,d4⟩;have M:=cq (d3.trans d4);have y:=cq l;clear l;have⟨h3,l⟩:=c8 ((ky (iv h)).1);rw[l] at y;have m:=cq l;clear l;have⟨z,hz⟩:=c8 h3.pv;have c2:=y.o.cells.2.2.1;rw[hz] at c2;have HZ:=cq hz;clear hz;have e9:D<w.heap.size:=G.o.head.lt;have v:cu x w.heap.size 36 128 (cN s):=by
  unfold cu;rw[M.o.block _ a6.o.lt cw];exact a6.o
 -- REGION 6
 have d:x.ownsRow 0 129 129 z ps.length (vi ps):=by
  have e1:z=h.pv:=by rw[<-HZ.o,<-m.o,(vl _).2.2.2,(mJ h).2.2.2.2.2]
  rw[e1];have hp:W0.ownsRow 0 129 129 h.pv ps.length (vi ps):=by rw[Q.o];exact G.o.vj.alloc _
  exact pL hp (qU hp (Z.o.ty) jR) M.o
 have c7:=cq d;have c3:z.ownBlock≠some w.heap.size:=qU d v.ty jR;have d9:z.ownBlock≠some D:=qU d y.o.ty jR;clear d;have⟨E,hE⟩:=c8 w.heap.size;rw[hE] at v c3;have f1:E<x.heap.size:=v.lt;have e8:D≠E:=cw;have F:A.size=128:=by rw[f.o,cF]
 have d5:=ael (.int .i64 q) A F;have⟨B,hB⟩:=c8 (#[Value.int .i64 q]++A);rw[hB] at d5;have T:B.size=129:=by rw[<-hB];simp[F]
 have R:∀u∈B.toList,u.oneCell'=true:=by
  intro u I;rw[<-hB,f.o] at I;simp only[Array.toList_append,fL] at I;rcases I with I|I
  . simp at I;rw[I];rfl
  . obtain⟨j,hj,rfl⟩:=xh.1 I;have:(ct 128 (cN s)).toList[j]=cN s j:=by
     have:=cU 128 (cN s) j
     grind
    rw[this];rfl
 skip
 go_upto_region 6 with(fail)
 refine wp_region_held_drew (S:=λW=>cu W E 36 128 (cN s)) cX v (λc=>?_);refine Fh 0 16 (cZ D 0) c ?_;refine Fh 1 17 (cZ D 0) c ?_;refine Fh 2 18 (cZ D 0) c ?_;refine Fh 3 19 (cZ D 2) c ?_;refine Fh 5 21 (.int .i64 q) c ?_;refine YH 6 22 (.agg A) ae (DH cX 36 (.tmp 5) mB E 128 36 (cN s) mB A f.o _ (λw h=>h) uu ae oc) c ?_;refine YH 7 23 (.agg B) ae (Or.inl ⟨cX,λw _=>by go_simp;skip⟩) c ?_;have e5:x.drew.cell? ⟨D,2,none⟩=some z:=c2;have N:=cq c;refine wpAnyH_ready (rs:=[4,8]) cX dU ?_;refine AllReadyH.cons (o:=⟨some 20,Op.load 125 (Operand.tmp 19),125,_,_,none⟩) mB (λK k=>uR ae ?_) ?_
 -- the load first
 have O:=N;go_simp;refine k.out _ _ O.o (λp=>?_);refine wpAnyH_ready (rs:=[8]) cX dU ?_;refine AllReadyH.cons (o:=⟨some 24,Op.buildSlice 125 1 #[(0,Operand.tmp 23)],125,_,_,none⟩) mB (λK k=>uR ae ?_) AllReadyH.nil;refine CY 125 129 (.tmp 23) mB B 129 136 (.agg zeroCells129) mB underlying125 PD cw cw T ?_;simp only[MH];have n:=cq (cu.alloc_old N.o (.cells B 129));refine k.out _ _ n.o (λp=>?_)
 rotate_left
 -- the build first
 refine AllReadyH.cons (o:=⟨some 24,Op.buildSlice 125 1 #[(0,Operand.tmp 23)],125,_,_,none⟩) mB (λK k=>uR ae ?_) AllReadyH.nil;refine CY 125 129 (.tmp 23) mB B 129 136 (.agg zeroCells129) mB underlying125 PD cw cw T ?_;simp only[MH];have n:=cq (cu.alloc_old N.o (.cells B 129));refine k.out _ _ n.o (λp=>?_);refine wpAnyH_ready (rs:=[4]) cX dU ?_;refine AllReadyH.cons (o:=⟨some 20,Op.load 125 (Operand.tmp 19),125,_,_,none⟩) mB (λK k=>uR ae ?_) AllReadyH.nil;have O:=n;have e6:(x.alloc (.cells B 129)).cell? ⟨D,2,none⟩=some z:=by rw[World.cell?_alloc_some _ _ _ (by rw[c2];rfl)];exact c2
 go_simp;refine k.out _ _ O.o (λp=>?_)
 all_goals
  refine wpAnyH_ready (rs:=[9]) cX dU ?_;refine AllReadyH.cons (o:=⟨some 25,Op.call {callee:=Callee.builtin Builtin.append,args:=#[Operand.tmp 20,Operand.tmp 24],argTypes:=#[125,125]},125,_,_,none⟩) mB (λK k=>uR ae ?_) AllReadyH.nil;refine ED (.tmp 20) (.tmp 24) 125 mB 0 129 (.agg zeroCells129) 129 136 underlying125 PD zB cw z ps.length (vi ps) mB ((c7.o:x.drew.ownsRow 0 129 129 z ps.length (vi ps)).alloc _) x.drew.heap.size B 129 (0,0) mB (zq _ _) T R aI cw cw ?_;intro g cap w4 X V d2 d6;simp only[MH];have a7:=cq (cu.grown n.o V c3);have L:=cq (cu.grown (cu.alloc_old (show cu x.drew D 127 6 (oz h3) from y.o) (.cells B 129)) V d9);have c9:=cq (And.intro d2 d6);refine k.out _ _ a7.o (λc=>?_);refine Fh 10 26 (cZ D 0) c ?_;refine Fh 11 27 (cZ D 2) c ?_;refine wpAnyH_ready (rs:=[12]) cX dU ?_;refine AllReadyH.cons (o:=⟨none,Op.store 125 (Operand.tmp 27) (Operand.tmp 25),0,_,_,none⟩) mB (λK k=>uR ae ?_) AllReadyH.nil;have e4:w4.cell? ⟨D,2,none⟩=some z:=by have:=(jJ.cells (h:=h3) L.o).2.2.1;rw[HZ.o] at this;exact this
  have e7:w4.frozen? ⟨D,2,none⟩=false:=cu.frozen L.o 2;go_simp;have C:=cq (cu.zr a7.o ⟨D,2,none⟩ (by show E≠D;omega) (.slice (s_ g 0) (ps.length+1) cap));refine k.out _ _ C.o (λp=>?_);refine wpAnyH_done cX ?_ _;have i:=cq (YP D h h3 st nw ps q s w W0 x w4 A B E z g cap G.o m.o HZ.o Q.o M.o V X hB f.o L.o);generalize hw5:w4.setCell ⟨D,2,none⟩ (.slice (s_ g 0) (ps.length+1) cap)=w5 at*;have⟨nb,hnb⟩:=c8 h.nb;have⟨Y,hnn⟩:=c8 h.n;have c1:=(jJ.cells (h:={h3 with pv:=.slice (s_ g 0) (ps.length+1) cap}) i.o.head).2.1;have t:h3.n=h.n/\h3.sb=h.sb/\h3.nb=h.nb:=by
   obtain⟨a1,a2,a3,_⟩:=vl (iv h);obtain⟨b1,b2,b3,_,_,_⟩:=mJ h;rw[<-m.o];exact⟨a1.trans b1,a2.trans b2,a3.trans b3⟩
  simp only[t.1,t.2.2,hnb,hnn] at c1;have c5:=i.o.kz.there hq;rw[hnb] at c5;have f5:(q:Int)<(Y:Int):=cw;have f4:(0:Int)<=(q:Int):=cw;have b7:=G.o.pK;rw[hnn] at b7
  go_upto_region 7 with(fail)
  refine wp_region_held_drew (S:=λW=>W.cell? ⟨D,1,none⟩=some (.slice (s_ nb 0) Y Y)/\cu W E 36 128 (cN s)) cX ⟨c1,C.o⟩ (λc=>?_);refine Fh 0 28 (cZ D 0) c ?_;refine Fh 1 29 (cZ D 0) c ?_;refine Fh 2 30 (cZ D 1) c ?_;refine YH 3 31 (.slice (s_ nb 0) Y Y) ae (Or.inl ⟨cX,λw hw=>by have h1:=hw.1;go_simp⟩) c ?_;refine Fh 4 32 (.int .i64 q) c ?_;refine YH 5 33 (.agg A) ae (DH cX 36 (.tmp 5) mB E 128 36 (cN s) mB A f.o _ (λw h=>h.2) uu ae oc) c ?_;refine Fh 6 34 (cZ nb (q*128)) c ?_;refine wpAnyH_ready (rs:=[7]) cX dU ?_;refine AllReadyH.cons (o:=⟨none,Op.store 36 (Operand.tmp 34) (Operand.tmp 33),0,_,_,none⟩) mB (λK k=>uR ae ?_) AllReadyH.nil;refine wp_store_mid 36 (.tmp 34) (.tmp 33) mB nb (q*128) A mB mB (by rw[F];exact c5) (by rw[F];exact oc) (by rw[f.o];exact nu _ (λ_=>ae)) ?_;have b6:=iU.setCells nb A.toList (q*128) w5.drew;have e2:nb<w5.heap.size:=by have:=i.o.kz.lt;rw[hnb] at this;exact this
  have e3:nb<w.heap.size:=by have:=G.o.kz.lt;rw[hnb] at this;exact this
  have b5:E≠nb:=by rw[<-hE];omega
  have b4:D≠nb:=by have:=i.o.dnn;rw[hnb] at this;exact this
  have d1:(w5.drew.setCells nb (q*128) A.toList).cell? ⟨D,1,none⟩=some (.slice (s_ nb 0) Y Y)/\cu (w5.drew.setCells nb (q*128) A.toList) E 36 128 (cN s):=
   ⟨by rw[xp (w:=w5.drew) (b6.block D i.o.head.lt b4)];exact c1,by unfold cu;rw[b6.block E (cu.lt C.o) b5];exact C.o⟩
  refine k.out _ _ d1 (λp=>?_);refine wpAnyH_done cX ?_ _;have r:=YQ i.o.drew t G.o.apart G.o.pK (Sc G.o.inside hq) q s;rw[hnb,<-f.o] at r;generalize w5.drew.setCells nb (q*128) A.toList=w6 at*;go_wp2;go_ret;refine⟨_,ae,?_,by rw[m.o];exact r.1,r.2⟩;intro b hb;cases hb;have e1:z=h.pv:=by rw[<-HZ.o,<-m.o,(vl _).2.2.2,(mJ h).2.2.2.2.2]
  rcases c9.o.1 with h5|h5
  . left;rw[<-e1];exact h5
  right;have h6:x.heap.size<=g:=by rw[h5];simp
  have h7:=hE;have h8:=cu.lt v;show w.heap.size<=g;omega
def xA(w:cB)(D:Nat)(d:Dv)(l:cD):Prop:=pH d/\∃b a pv,mV w D (d.head b a pv) d.st d.nw d.ps/\l=fi D (d.head b a pv)
theorem iK.UG{d:Dv}(h:iK w D d):gx w D=some 127:=by have⟨h0,sb,nb,pv,h1⟩:=h;exact cu.ty h1.head
def iK.open{d:Dv}(h:iK w D d):∃l,xA w D d l:=by have⟨h0,sb,nb,pv,h1⟩:=h;exact⟨_,h0,sb,nb,pv,h1,ae⟩
theorem xA.shut{d:Dv}(h:xA w D d l):iK w D d:=by obtain⟨a,e,c,pv,b,_⟩:=h;grind[iK]
theorem xA.ty{d:Dv}(h:xA w D d l):∀k∈l,∃t,gx w k=some t/\kO t=true:=by obtain⟨b,e,c,pv,a,rfl⟩:=h;exact a.abn
theorem xA.lt{w:cB}{D:Nat}{d:Dv}{l:cD}(h:xA w D d l):∀k∈l,k<w.heap.size:=λk a=>by obtain⟨t,b,_⟩:=h.ty k a;exact gr b
def xA.oQ{d:Dv}{m:cD}(h:xA w D d l)(s:sI B m w w')(c:∀k∈l,k<B/\k∉m):xA w' D d l:=by obtain⟨a,f,e,pv,b,rfl⟩:=h;exact⟨a,f,e,pv,b.oQ s c,ae⟩
structure sY(w w':cB)(D:Nat)(d':Dv)(l:cD):Prop where
 at_:∃l',xA w' D d' l'/\∀k∈l',k∈l∨w.heap.size<=k
 oQ:sI w.heap.size l w w'
theorem xA.nL{w:cB}{D:Nat}{d:Dv}{l:cD}(h:xA w D d l):nL w D=l:=by obtain⟨b,e,c,pv,a,rfl⟩:=h;exact a.nL
theorem xA.UG{d:Dv}(h:xA w D d l):gx w D=some 127:=by obtain⟨b,e,c,pv,a,_⟩:=h;exact cu.ty a.head
theorem sY.fr{w w':cB}{D:Nat}{d d':Dv}{l:cD}(s:sY w w' D d' l)(h:xA w D d l)(m:cD):Fr (some D) m w w':=by have⟨l',h',hk⟩:=s.at_;refine⟨s.oQ.os,s.oQ.tape,s.oQ.output,s.oQ.size,λk b g=>s.oQ.block k b λc=>?_,λf e=>?_,λf e k a=>?_⟩;have⟨t,ht,hd⟩:=h.ty k c;exact g ⟨t,ht,.inl ⟨D,ae,hd,by rw[h.nL];exact c⟩⟩;cases e;exact⟨h.UG,h'.UG⟩;cases e;rw[h'.nL] at a;rw[h.nL];grind
def sY.shut{d':Dv}(s:sY w w' D d' l):iK w' D d':=by obtain⟨a,h,_⟩:=s.at_;exact h.shut
theorem sY.JZ{w w':cB}{D:Nat}{d d':Dv}{c b:Nat}{pv:cI}(a:mV w D (d.head c b pv) d.st d.nw d.ps)(g:jJ w' D (d'.head c b pv))(f:iU D w w')
 (ok:pH d') (e:d'.n=d.n/\d'.st=d.st/\d'.nw=d.nw/\d'.ps=d.ps):sY w w' D d' (fi D (d.head c b pv)):=by have⟨e1,e2,e3,e4⟩:=e;refine⟨⟨fi D (d'.head c b pv),⟨ok,c,b,pv,⟨?_,?_,?_⟩,ae⟩,λk h=>.inl h⟩,sI.qt f (dK _) bY⟩;rw[e2,e3];exact a.toyw.but f g ⟨e1,ae,ae⟩;rw[e4];exact pL a.vj (qU a.vj a.head.ty jR) f;rw[e4];intro p i;show p.1<d'.n;rw[e1];exact a.inside p i
def yT(D:Nat)(d:Dv)(w:cB)(a:iK w D d):CP_ 84 #[.pointer (some ⟨D,0,none⟩)] w λe w'=>e=.returned (.int .i64 d.n)/\w=w':=by obtain⟨_,c,b,pv,h⟩:=a;exact aei D _ w h.head
def J0(D:Nat)(d:Dv)(w:cB)(a:iK w D d):CP_ 82 #[.pointer (some ⟨D,0,none⟩)] w λe w'=>e=.returned (.bool d.cO)/\w=w':=by obtain⟨_,c,b,pv,h⟩:=a;exact abi D _ w h.head
def aen(D:Nat)(d:Dv)(l:cD)(i:Int)(q:ee i)(w:cB)(a:xA w D d l):
 CP_ 165 #[.pointer (some ⟨D,0,none⟩),.int .i64 i] w λe w'=>∃A,e=.returned (.tuple #[.agg A,.int .i64 (fZ d i).2.2])/\A=ct 128 (cN (fZ d i).2.1)/\sY w w' D (fZ d i).1 l:=by obtain⟨o,s,r,pv,b,rfl⟩:=a;refine(abj D _ d.st d.nw i q w b.toyw).mono ?_;rintro e w' ⟨A,g,c,f,p⟩;have n:Fu (d.head s r pv) d.nw i=(fZ d i).2:=rfl;rw[n] at g c;rw[<-yx] at f;obtain⟨h,j,k,m,_,_⟩:=vm d;exact⟨A,g,c,sY.JZ (d':=eG d) b f.head p (CX o) ⟨h,j,k,m⟩⟩
theorem Hc{s:Nat->cD}{x:cD}(h:∀i,iY (s i))(a:iY x)(q:Nat):∀i,iY (iQ s q x i):=by grind[iQ]
theorem Ve{d:Dv}(h:pH d)(i:Int){s:cD}(e:iY s):d.ops<4611686018427387903->pH (gu d i s).1:=by intro ho;have hc:=CX h;have a:=Ob hc;unfold gu;split;split;(next h2 h3=>(have⟨e1,e2,e3,e4,e5⟩:=vq (eG d);obtain⟨f,g,j,k,_,_⟩:=vm d;have c:(eG d).ops=d.ops+1:=by simp_all[eG]);refine⟨a.st,Hc h.nw e _,?_,?_,a.ops,a.left⟩;intro p b;rcases fL.1 b with b|b;exact h.ps p b;grind;show(d.ps++[(i.toNat,s)]).length<=(iZ (eG d)).1.ops;rw[e5,c,ik,length_singleton];have:=h.pK;omega);omega;exact hc
theorem abp(D:Nat)(d:Dv)(l:cD)(ho:d.ops<=1000000000)(i:Int)(s:cD)(J:iY s)(A:fJ)(E:A=ct 128 (cN s))(w:cB)(a:xA w D d l):
 CP_ 227 #[.pointer (some ⟨D,0,none⟩),.int .i64 i,.agg A] w λe w'=>e=.returned (.int .i64 (gu d i s).2)/\sY w w' D (gu d i s).1 l:=by obtain⟨m,j,g,pv,p,rfl⟩:=a;have c:=Ve m i J cw;have v:=m.pK;have⟨e1,e2,e3,e4,e5⟩:=vq (eG d);obtain⟨K,B,L,M,_,_⟩:=vm d;have z:=IM (eG d) j g pv;rw[yx] at z;by_cases x:PG d i=true;by_cases N:(iZ (eG d)).2=true;(have n:gu d i s=({(iZ (eG d)).1 with nw:=iQ d.nw i.toNat s,ps:=d.ps++[(i.toNat,s)]},0):=by simp_all[gu]);have⟨hi0,hin⟩:=lr (x:decide (0<=i/\i<(d.n:Int))=true);obtain⟨q,rfl⟩:∃q:Nat,i=(q:Int):=⟨i.toNat,cw⟩;rw[n] at c|-;rw[sO] at c|-;refine(MX D (d.head j g pv) d.st d.nw d.ps m.left cw q s A E w p (by show q<d.n;omega) iG).mono ?_;rintro e w' ⟨h,u,y,o,t⟩;rw[<-z.1] at o;refine⟨u,⟨⟨_,⟨c,j,g,h,?_,ae⟩,?_⟩,t⟩⟩;(have C:d.st=(iZ (eG d)).1.st:=by rw[e2,B]);rw[C] at o;exact o;intro k f;by_cases I:w.heap.size<=k;omega;refine .inl ?_;simp only[fi,ib] at f|-;rcases f with f|f|f|f;omega;exact .inr (.inl f);exact .inr (.inr (.inl f));(have F:h.ownBlock=some k:=by change k∈(match h.ownBlock with|some b=> [b]|none=> []) at f;grind);grind;(have n:gu d i s=((iZ (eG d)).1,42):=by simp_all[gu]);rw[n] at c|-;refine(Fv D (d.head j g pv) m.left i A w p.head (.inr iG)).mono ?_;rintro e w' ⟨u,o,F⟩;have H:zz (d.head j g pv) i=true:=x;simp_all[sY.JZ];(have G:PG d i=false:=by grind);(have n:gu d i s=(eG d,41):=by simp_all[gu]);rw[n] at c|-;have r:zz (d.head j g pv) i=false:=G;refine(Fv D (d.head j g pv) m.left i A w p.head (.inl r)).mono ?_;simp_all[yx,sY.JZ]
def Ro(i:Nat)(s:cD):Nat->cI:=λj=>if j=0 then .int .i64 i else cN s (j-1)
def Xm(i:Nat)(s:cD):∀j,(Ro i s j).oneCell'=true:=by intro j;unfold Ro;split<;>rfl
theorem aeo(i:Nat)(s:cD):(Value.int .i64 i:: (ct 128 (cN s)).toList)=(ct 129 (Ro i s)).toList:=by apply wm;intro j;rw[mj (xs:=ct 129 (Ro i s)),cU];cases j with|zero=>rfl|succ j=>rw[getElem?_cons_succ,mj (xs:=ct 128 (cN s)),cU];by_cases h:j<128;simp_all[Ro];grind
theorem abq(ps:List (Nat×cD)){k:Nat}(b:k<ps.length){j:Nat}(a:j<129):(vi ps)[k*129+j]?=some (Ro ps[k].1 ps[k].2 j):=by
 induction ps generalizing k with
 |nil=>grind
 |cons p ps ih=>
  have e:vi (p::ps)=(ct 129 (Ro p.1 p.2)).toList++vi ps:=by grind[vi,aeo]
  rw[e];cases k with|zero=>rw[xi,ou,GR aD,mj,cU,cL a];rfl|succ k=>rw[GO aD,mq,cF,show(k+1)*129+j-129=k*129+j from by omega];grind
theorem Oc(h:w.ownsRow 0 129 129 v ps.length (vi ps)):
 ∃a cap,v=.slice a ps.length cap/\ps.length<=cap/\∀k(j:k<ps.length),∃g,a=some ⟨g,0,none⟩:=by rcases h.2 with⟨c,d⟩|⟨g,cap,b,c,d,e,f,i⟩<;>grind
theorem KG{cap:Nat}(h:w.ownsRow 0 129 129 (.slice (some ⟨g,0,none⟩) ps.length cap) ps.length (vi ps))(b:k<ps.length):
 w.rangeAt g (k*129) (ct 129 (Ro ps[k].1 ps[k].2)).toList:=by
 intro j v a;rw[mj,cU] at a;split at a;next hj=>cases a;rw[h.cellAt (k*129+j) cw];grind[abq]
 cases a
def yy:(prog.info? 129).map (·.size)=some 129:=cX
theorem Od{s:cD}(h:cu w E 129 129 (Ro i s))(b:C=ct 128 (cN s)):w.rangeAt E 1 C.toList:=by
 intro j v a;rw[b,mj (xs:=ct 128 (cN s)),cU] at a;split at a;next hj=>cases a;have:=cu.cell h (i:=1+j) cw;simp_all[Ro]
 cases a
theorem Sd(st:Nat->cD)(ps:List (Nat×cD))(a:k<ps.length):rz st (ps.take (k+1))=iQ (rz st (ps.take k)) ps[k].1 ps[k].2:=by grind[rz,take_succ_eq_append_getElem]
theorem wE.cx{h b:Head}{st:Nat->cD}(m:wE w5 D h b st nw ps w)(a:dz w5 w6):wE w6 D h b st nw ps w:=
 ⟨cu.cx m.head a,cu.cx m.ki a,cu.cx m.kz a,kY m.vj a,m.oQ.trans (sI.sX (a.mono m.oQ.size) _),m.dns,m.dnn,m.pnn⟩
theorem wE.Oe{h c:Head}{st:Nat->cD}(m:wE w5 D h c st nw ps w)(b:h.sb≠h.nb)(q:Nat)(s:cD):
 wE (w5.setCells h.sb (q*128) (ct 128 (cN s)).toList) D h c (iQ st q s) nw ps w:=by have a:=iU.setCells h.sb (ct 128 (cN s)).toList (q*128) w5;refine⟨?_,m.ki.put q s,?_,?_,?_,m.dns,m.dnn,m.pnn⟩;unfold jJ cu;rw[a.block D m.head.lt m.dns];exact m.head;unfold jS cu;rw[a.block h.nb m.kz.lt (oU b)];exact m.kz;exact pL m.vj (qU m.vj (cu.ty m.ki) jR) a;exact⟨a.os.trans m.oQ.os,a.tape.trans m.oQ.tape,a.output.trans m.oQ.output,gO m.oQ.size a.size,λk d f=>(a.block k (oS d m.oQ.size) (λe=>f (by grind[fi]))).trans (m.oQ.block k d f)⟩
theorem wE.J1{h c h6:Head}{st:Nat->cD}{ps':List (Nat×cD)}(m:wE w5 D h c st nw ps w)(i:Nat)(v:cI)(e:∀j,j<6->(if j=i then v else oz c j)=oz h6 j)(d:h6.pv=c.pv/\ps'=ps∨h6.pv=.slice none 0 0/\ps'=[]):wE (w5.setCell ⟨D,i,none⟩ v) D h h6 st nw ps' w:=by refine⟨m.head.set i v e,cu.zr m.ki _ (oU m.dns) _,cu.zr m.kz _ (oU m.dnn) _,?_,m.oQ.setCell bY i v,m.dns,m.dnn,?_⟩;rcases d with⟨a,b⟩|⟨a,b⟩;rw[a,b];exact pL m.vj (qU m.vj m.head.ty jR) (qS D w5 i v);grind[World.ownsRow_nil,vi];rcases d with⟨a,b⟩|⟨a,b⟩;rw[a];exact m.pnn;grind[Value.ownBlock]
theorem mV.mid{g:cB}{h f:Head}{st:Nat->cD}(a:mV w D h st nw ps)(i:jJ g D f)(d:iU D w g)(e:f.pv=h.pv):wE g D h f st nw ps w:=by
 have j:=a.head.ty;have ts:=cu.ty a.ki;have k:=cu.ty a.kz;have c:D≠h.sb:=λe=>by grind
 have b:D≠h.nb:=λe=>by grind
 refine⟨i,?_,?_,?_,sI.qt d (dK _) bY,c,b,?_⟩;unfold jS cu;rw[d.block _ a.ki.lt (oU c)];exact a.ki;unfold jS cu;rw[d.block _ a.kz.lt (oU b)];exact a.kz;rw[e];exact pL a.vj (qU a.vj j jR) d;rw[e];exact qU a.vj k jR
theorem wE.fin{h a:Head}{st:Nat->cD}(m:wE w5 D h a st nw ps w)(d:a.n=h.n/\a.sb=h.sb/\a.nb=h.nb)(c:h.sb≠h.nb)(b:h.n<=1024)(e:∀p∈ps,p.1<h.n):
 mV w5 D a st nw ps:=by have⟨e1,e2,e3⟩:=d;refine⟨⟨m.head,by rw[e1,e2];exact m.ki,by rw[e1,e3];exact m.kz,cw,cw⟩,m.vj,by grind⟩
def PJ(D:Nat)(h:Head)(k: -1<=h.left/\h.left<=9223372036854775807)(w:cB)(a:jJ w D h)(j:(ky (iv h)).2=false):
 CP_ 226 #[.pointer (some ⟨D,0,none⟩)] w λe w'=>e=.returned (.int .i64 42)/\jJ w' D (ky (iv h)).1/\iU D w w':=by
 have i: -1<=(iv h).left/\(iv h).left<=9223372036854775807:=by rw[(mJ h).2.2.2.2.1];exact k
 go_enter func226,ntmps226;go_wp2_with fail;refine ah (zA D h _ a) λw1⟨f,c⟩=>?_;go_wp2_with fail;refine(CR D _ i _ f).mono ?_;rw[j];rintro e l ⟨rfl,g,d⟩;have b:=cq (c.trans d);go_wp2_with fail;go_ret;exact⟨ae,g,b.o⟩
def MY(D:Nat)(h:Head)(st nw:Nat->cD)(ps:List (Nat×cD))(hl: -1<=h.left/\h.left<=9223372036854775807)(d7:ps.length<=1000000000)(w:cB)(a:mV w D h st nw ps)(b8:(ky (iv h)).2=true):
 CP_ 226 #[.pointer (some ⟨D,0,none⟩)] w λe w'=>e=.returned (.int .i64 0)/\mV w' D {(ky (iv h)).1 with pv:=.slice none 0 0} (rz st ps) nw []/\sI w.heap.size (fi D h) w w':=by
 have d6: -1<=(iv h).left/\(iv h).left<=9223372036854775807:=by rw[(mJ h).2.2.2.2.1];exact hl
 obtain⟨F,f⟩:=c8 ((ky (iv h)).1);rw[f];have d:F.n=h.n/\F.sb=h.sb/\F.nb=h.nb/\F.pv=h.pv:=by
  obtain⟨a1,a2,a3,a4⟩:=vl (iv h);obtain⟨b1,b2,b3,_,_,b4⟩:=mJ h;rw[<-f];exact⟨a1.trans b1,a2.trans b2,a3.trans b3,a4.trans b4⟩
 have c4:=cq f;clear f;go_enter func226,ntmps226
 go_wp2_with fail
 refine ah (zA D h _ a.head) λw1⟨d5,a6⟩=>?_;have b9:=cq a6;have x:=cq d5;clear a6
 go_wp2_with fail
 refine(CR D _ d6 _ x.o).mono ?_;rw[b8];rintro e w3 ⟨rfl,f,d4⟩;have c1:=cq (b9.o.trans d4);have Q:=cq f;clear f;rw[c4.o] at Q;have d:=d;have hm:=a.mid Q.o c1.o d.2.2.2;obtain⟨ao,cap,b6,a8,d3⟩:=Oc hm.vj;have c2:=hm.head.cells.2.2.1;rw[b6] at c2;obtain⟨r,n⟩:=c8 h.sb;obtain⟨O,v⟩:=c8 h.n;obtain⟨L,hL⟩:=c8 ps.length;rw[hL] at c2 a8 d7;have a9:=a.pK;rw[v] at a9;clear d
 go_wp2_with fail
 go_loopw [15] (λc wr=>∃k:Nat,k<=L/\c=.int .i64 k/\Hid (wE wr D h F (rz st (ps.take k)) nw ps w)) (λc _=>L-(intOf c).toNat)
 case atStart=>exact⟨0,fN _,ae,hm⟩
 case round=>
  obtain⟨k,hk,rfl,hrel⟩:=hrel;by_cases b5:k<L
  . obtain⟨g,hg⟩:=d3 k (by rw[hL];exact b5);subst hg;have I:k<ps.length:=by rw[hL];exact b5
    obtain⟨p,hp⟩:=c8 (ps[k]);have j:=hrel.o.vj;rw[b6] at j;have m:=KG j I;have l:=Sd st ps I;have H:=a.inside p (by rw[<-hp];exact lU I);rw[hp] at m l;rw[v] at H;obtain⟨i,s⟩:=p;simp only at m l H;clear hp j;obtain⟨A,hA⟩:=eW (ct 129 (Ro i s));rw[<-hA] at m;have Y:A.toList.length=129:=by rw[hA,mq,cF]
    have R:=cq hA;clear hA;have c6:=cq m;clear m;have y:=cq Y;clear Y;obtain⟨B,h6⟩:=eW ((wr.alloc (.cells zeroCells129 129)).setRow wr.heap.size A);have M:cu B wr.heap.size 129 129 (Ro i s):=by
     rw[h6,R.o];exact setRow_heap _ _ _ _ _ _ (zq _ _)
    have c9:dz wr B:=by rw[h6];exact alb
    have H6:=cq h6;clear h6;have t:=hrel.o.cx c9;have X:=t.head.cells.1;rw[d.2.1,d.1,n,v] at X;have b7:r≠wr.heap.size:=by have:=hrel.o.ki.lt;rw[n] at this;omega
    have N:=t.ki.there (q:=i) (by rw[v];exact H);rw[n] at N;have c7:=cq N;clear N;have T:=cq t;clear t;have Z:A.all (·.oneCell')=true:=by rw[R.o];exact nu _ (Xm i s)
    obtain⟨C,hC⟩:=eW (ct 128 (cN s));have G:C.size=128:=by rw[hC,cF]
    have a5:C.all (·.oneCell')=true:=by rw[hC];exact nu _ (λ_=>ae)
    have HC:=cq hC;clear hC;have c3:=cq a5;clear a5;have x:=cq Z;clear Z;obtain⟨E,hE⟩:=c8 wr.heap.size;rw[hE] at M b7;have HE:=cq hE;have e3:(0:Int)<=(i:Int):=cw;have e4:(i:Int)<(O:Int):=cw;have e1:D≠E:=by have:=hrel.o.head.lt;rw[<-hE];omega
    have d1:D≠r:=by have:=hrel.o.dns;rw[n] at this;exact this
    clear hE
    go_upto_region 7 with(first|(refine wpList_load_mid (op:=⟨some 18,.load 129 (.tmp 17),_,_,_,none⟩) ae 129 (.tmp 17) ae g (k*129) ae A.toList _ c6.o underlying129 ae (by rw[y.o];exact yy) ?_;rw[tO])|(refine KF (o:=⟨none,.store 129 (.tmp 4) (.tmp 18),_,_,_,none⟩) ae 129 (.tmp 4) (.tmp 18) ae wr.heap.size A ae ae 129 zeroCells129 (zq _ _) (by rw[<-mq,y.o];exact yy) (by rw[<-mq (xs:=A),y.o];exact zB) x.o ?_;rw[<-H6.o]))
    simp only[HE.o];have z:=cq M;clear M;have V:=cq (And.intro X z.o);refine wp_region_held_drew (S:=λW=>W.cell? ⟨D,0,none⟩=some (.slice (s_ r 0) O O)/\cu W E 129 129 (Ro i s)) cX V.o (λb=>?_);refine Fh 0 19 (cZ D 0) b ?_;refine Fh 1 20 (cZ D 0) b ?_;refine Fh 2 21 (cZ D 0) b ?_;refine YH 3 22 (.slice (s_ r 0) O O) ae (Or.inl ⟨cX,λw hw=>by have h1:=hw.1;go_simp⟩) b ?_;refine Fh 4 23 (cZ E 0) b ?_;refine YH 5 24 (.int .i64 i) ae (Or.inl ⟨cX,λw hw=>by have h1:w.cell? ⟨E,0,none⟩=some (.int .i64 i):=cu.cell hw.2 (i:=0) cw;go_simp⟩) b ?_;refine Fh 6 25 (cZ E 1) b ?_;refine YH 7 26 (.agg C) ae (uP cX 36 (.tmp 25) mB E 1 mB C _ (λw hw=>Od hw.2 HC.o) uu ae (by rw[G];exact oc)) b ?_;refine Fh 8 27 (cZ r (i*128)) b ?_;refine wpAnyH_ready (rs:=[9]) cX dU ?_;refine AllReadyH.cons (o:=⟨none,Op.store 36 (Operand.tmp 27) (Operand.tmp 26),0,_,_,none⟩) mB (λK hK=>uR ae ?_) AllReadyH.nil;refine wp_store_mid 36 (.tmp 27) (.tmp 26) mB r (i*128) C mB mB (by rw[G];exact c7.o) (by rw[G];exact oc) c3.o ?_;have a7:=iU.setCells r C.toList (i*128) B.drew;have d2:(B.drew.setCells r (i*128) C.toList).cell? ⟨D,0,none⟩=some (.slice (s_ r 0) O O)/\cu (B.drew.setCells r (i*128) C.toList) E 129 129 (Ro i s):=
     ⟨by rw[xp (w:=B.drew) (a7.block D T.o.head.lt d1)];exact V.o.1,by unfold cu;rw[a7.block E (cu.lt z.o) (oU b7)];exact z.o⟩
    refine hK.out _ _ d2 (λe2=>?_);refine wpAnyH_done cX ?_ _;have u:=(T.o.drew).Oe a.apart i s;rw[n,<-HC.o] at u;rw[<-l] at u;have c5:=cq u;clear u;generalize B.drew.setCells r (i*128) C.toList=w7 at*;go_wp2;go_roundw
    case rel=>exact⟨k+1,cw,by go_num,c5.o⟩
    case measure=>exact oV
  . obtain rfl:k=L:=cw;have d8:=hrel.o.head.cells.2.2.1;have d9:=cu.frozen hrel.o.head 2;have J:=hrel.o.J1 2 (.slice none 0 0) (h6:={F with pv:=.slice none 0 0}) (ps':=[]) (PI F _) aj0;rw[nz (by rw[hL];exact dK _)] at J;have U:=cq J;clear J;go_wp2;go_ret;exact⟨ae,U.o.fin ⟨d.1,d.2.1,d.2.2.1⟩ a.apart a.pK dU,U.o.oQ⟩
end
def cK(w:cB)(T:dC)(sz:Nat)(v:cI)(n:Nat)(xs:List cI):Prop:=
 xs.length=n*sz/\∃a cap,v=.slice a n cap/\n<=cap/\cap<=maxLen/\
  (0<n->∃b o c d,a=some ⟨b,o,none⟩/\w.heap[b]?=some (.cells c T d)/\∀j u,xs[j]?=some u->c[o+j]?=some u)
def cK.nil(w:cB)(T:dC)(sz:Nat):cK w T sz (.slice none 0 0) 0 []:=⟨by simp,none,0,ae,dK _,fN _,λh=>absurd h (tP _)⟩
theorem cK.iW(h:w.ownsRow base T sz v n xs):cK w T sz v n xs:=by refine⟨h.1,?_⟩;rcases h.2 with⟨rfl,rfl⟩|⟨g,cap,a,rfl,_,f,b,c,d,e⟩<;>grind
theorem cK.ty(h:cK w T sz v n xs)(c:v.ownBlock=some b)(d:0<n):gx w b=some T:=by obtain⟨_,e,cap,rfl,_,_,a⟩:=h;obtain⟨g,o,f,i,rfl,j,_⟩:=a d;cases c<;>grind[gx]
theorem cK.fV(h:cK w T sz v n xs)(g:∀b,gx w b=some T->w'.heap[b]?=w.heap[b]?):cK w' T sz v n xs:=by obtain⟨c,a,cap,rfl,d,e,f⟩:=h;refine⟨c,a,cap,ae,d,e,λi=>?_⟩;grind[gx]
theorem cK.fr{d:Option Nat}{l:cD}{w w':cB}{T:dC}{sz:Nat}{v:cI}{n:Nat}{xs:List cI}(h:cK w T sz v n xs)(s:Fr d l w w')(a:d=none∨kO T=false)(b:fT T=false):cK w' T sz v n xs:=
 h.fV λ_ c=>s.fV c a (.inl b)
theorem cK.cx(h:cK w T sz v n xs)(s:dz w w'):cK w' T sz v n xs:=
 h.fV λb a=>s.block b (gr a)
theorem cK.but{w w':cB}{T t:dC}{sz:Nat}{v:cI}{n:Nat}{xs:List cI}(h:cK w T sz v n xs){c:Nat}(s:iU c w w')(hc:gx w c=some t)(d:t≠T):cK w' T sz v n xs:=
 h.fV λb a=>s.block b (gr a) iG
theorem cK.form(h:cK w T sz v n xs):
 ∃a cap,v=.slice a n cap/\n<=cap/\n<=maxLen/\∀k,k<n->∃b o,a=some ⟨b,o,none⟩/\gx w b=some T/\b<w.heap.size/\∀j u,xs[j]?=some u->w.cell? ⟨b,o+j,none⟩=some u:=by obtain⟨e,a,cap,rfl,c,d,f⟩:=h;refine⟨a,cap,ae,c,gO c d,λk g=>?_⟩;grind[gx,cell_of_row]
def EE(l:List Bool):List cI:=l.map Value.bool
theorem YR{l:List Bool}(h:k<l.length):(EE l)[k]?=some (.bool (l.getD k false)):=by grind[EE]
def KH(w:cB)(v:cI)(l:List Bool):Prop:=cK w 4 1 v l.length (EE l)
theorem Vf(fV:List Bool)(ps:List (Nat×cD))(p:Nat×cD):∀(st:Nat->cD)(k:Nat),rh st fV k (ps++[p])=if fV.getD (k+ps.length) false=true then iQ (rh st fV k ps) p.1 p.2 else rh st fV k ps:=by induction ps<;>grind[rh]
def Vg(st:Nat->cD)(fV:List Bool)(ps:List (Nat×cD))(a:k<ps.length):
 rh st fV 0 (ps.take (k+1))=if fV.getD k false=true then iQ (rh st fV 0 (ps.take k)) ps[k].1 ps[k].2 else rh st fV 0 (ps.take k):=by rw[xf a,Vf,ou,kL,tW cw]
theorem DI(w:cB)(m x ty c:dC)(g o e h:Nat)(a:Addr)(f l:Nat)(b:fJ)(t:dC)(d:List cI)(sz n:Nat)(C:P.underlying m=some (.slice c))(B:(P.info? c).map (·.size)=some sz)(s:w.heap[g]?=some (.cells b t (0,0)))(z:n=Nat.min f e)(r:d.length=n*sz)(k:∀j v,d[j]?=some v->w.cell? (a.add j)=some v)(p:o+d.length<=b.size)(q:∀v∈d,v.oneCell'=true):
 (Builtin.copy_ #[m,x] ty #[.slice (some ⟨g,o,none⟩) e h,.slice (some a) f l]).run P w=
  .ok (goInt n) (w.setRow g (b.toList.take o++d++b.toList.drop (o+d.length)).toArray):=by have y:=run_loadCells_list (P:=P) w a d k;have u:=run_storeCells_at P g o t d 0 b w s cw q;cases A:P.info? c with|none=>grind|some i=>simp_all[Builtin.copy_,xC,Builtin.lenOf,Builtin.firstCells,sizeOf,typeInfo]
theorem MZ(d s:Operand)(p u:dC)(ho:o.op=.call {callee:=.builtin .copy,args:=#[d,s],argTypes:=#[p,u]})(b:dC)(E:P.underlying p=some (.slice b))(sz:Nat)(q:(P.info? b).map (·.size)=some sz)(g n c h:Nat)(x:Nat)(z:a.eval d=.slice (some ⟨g,0,none⟩) n c)(D:a.eval s=.slice (some ⟨h,0,none⟩) n x)(t y:dC)(f k:Nat->cI)(A:cu w g t (n*sz) f)(B:cu w h y (n*sz) k)(F:∀i,(k i).oneCell'=true)(C:K (a.put o.dst (goInt n)) (w.setRow g (ct (n*sz) k))):o.wp P a w K Q:=by
 have l:=DI (P:=P) w p u o.type b g 0 n c ⟨h,0,none⟩ n x (ct (n*sz) f) t (ct (n*sz) k).toList sz n E q A dU aD
  (λj v r=>by
   have m:(⟨h,0,none⟩:Addr).add j=⟨h,j,none⟩:=by grind[Addr.add]
   rw[m,cell_of_row w h j _ y _ B]
   grind) aD (λv r=>by
   obtain⟨j,G,rfl⟩:=xh.1 r;have:=cU (n*sz) k j
   grind)
 have e:((ct (n*sz) f).toList.take 0++(ct (n*sz) k).toList++(ct (n*sz) f).toList.drop (0+(ct (n*sz) k).toList.length)).toArray=ct (n*sz) k:=by grind[cF]
 rw[e] at l;unfold Oper.wp;simp[execOp,ho,resolve,invoke,builtin,z,D,l,Result.andThen];exact C
end Go.Proofs.YtklligbjoplbgaaGreat