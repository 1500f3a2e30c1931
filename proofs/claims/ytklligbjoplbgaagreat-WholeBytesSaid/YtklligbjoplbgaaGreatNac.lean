/- Part 3 of 15 of the proof of WholeBytes; no conditions. -/
import Derived.Test.YtklligbjoplbgaaGreatNab
import Derived.Laws.AppendOwnNone
import Derived.Deep.RegionHeld3
import Derived.StillTailTactics
import Derived.BigRegion
import Derived.Deep.MidRow
import Derived.Deep.DeepCutAuto
import Derived.Great.FillDense
import Derived.Great.BuildSlice
import Derived.Deep.AppendLies
import Derived.OrdersHeld
namespace Go.Proofs.YtklligbjoplbgaaGreat
set_option linter.all false
set_option maxRecDepth 100000
set_option maxHeartbeats 64000000
open Go.RowKit Lib List Nat _root_.Go.Proofs.Tryz
variable {tmps:iw}{a:Act}{K:Act->aD->Prop}{listed:Array Bool}{ops:Array Oper}{Q:Exit->Act->aD->Prop}{fn:Func}{l l' l2:aK}{ps:List (Nat×aK)}{ms:List fL}{rest:List Oper}{xs:List bh}{B D E b base c fuel g i k n size:Nat}{nw s:Nat->aK}{st:Nat->Nat}{f:Nat->bh}{o ym op:Oper}{d:Option Nat}{P:pw}{Q':Prop}{e t:dD}{p q:Tmp}{v x y z:bh}{w w' w1 w2 w4 w5 w6:aD}{S:aD->Prop}
theorem aa5 (ao:Option Addr)(l h cap:Nat)(W:aD): ((sizeOf (prog.elem 22)).run prog W).andThen (λs w=>.ok (sliced ao l h cap s) w)=.ok (sliced ao l h cap 1) W:=by
 rfl
theorem X9 (n:Nat) (h:n<256):tw 1 n=[n]:=by
 grind[tw]
theorem U0 (n:Nat) (h:n<65536):tw 2 n=[n % 256,n / 256]:=by
 grind[tw,range_succ]
theorem Vu (t s n:Nat)(ht:t<=1)(hs:s<4096)(hn:n<=4096):mX [1,2,2] [t,s,n]=some [t,s % 256,s / 256,n % 256,n / 256]:=by
 unfold mX;rw[bC ⟨by decide,rfl,by grind[fitAll]⟩]
 grind[ez,X9,U0]
theorem Ya (b c:Nat)(t s n:Nat)(ht:t<=1)(hs:s<4096)(hn:n<=4096)(w:aD)(hb:br .i64 w (.slice (some ⟨b,0,none⟩) 3 3) [1,2,2])(hc:w.cell? ⟨c,0,none⟩=some (.int .u64 t)/\w.cell? ⟨c,1,none⟩=some (.int .u64 s)/\w.cell? ⟨c,2,none⟩=some (.int .u64 n))(hcl:c<w.heap.size):
 Calls prog 73 #[.slice (some ⟨b,0,none⟩) 3 3,.slice (some ⟨c,0,none⟩) 3 3] w λe w'=>∃r,e=.returned (.tuple #[r,.int .i64 0])/\br .u8 w' r [(t:Int),(s:Int) % 256,(s:Int) / 256,(n:Int) % 256,(n:Int) / 256]/\dp w w':=by
 have hv:br .i64 w (.slice (s_ b 0) 3 3) (aW [1,2,2]):=hb;have hu:br .u64 w (.slice (s_ c 0) 3 3) (aW [t,s,n]):=by
  refine⟨some ⟨c,0,none⟩,3,rfl,by simp[aW],?_,λ_=>⟨c,0,rfl,hcl,?_⟩⟩
  . intro x hx;simp[aW] at hx;rcases hx with rfl | rfl | rfl <;>(grind[Lit.wf,IntKind.min,IntKind.max,IntKind.bits])
  grind[aW]
 refine(wi _ _ [1,2,2] [t,s,n] nh w hv hu).mono ?_;rw[Vu t s n ht hs hn];rintro e w' ⟨r,rfl,hr,hb'⟩;refine⟨r,rfl,?_,hb'⟩;have:=Pv hr fh rE
 grind[aW]
theorem Vv (x0 x1 x2 x3 x4:Nat):kx [1,2,2] [x0,x1,x2,x3,x4]=some [x0,x1+256*x2,x3+256*x4]:=by
 rfl
theorem Yb (b c o cap:Nat)(x0 x1 x2 x3 x4:Nat)(hx:x0<256/\x1<256/\x2<256/\x3<256/\x4<256)(hcap:5<=cap)(w:aD)(hb:br .i64 w (.slice (some ⟨b,0,none⟩) 3 3) [1,2,2])(hc:w.cell? ⟨c,o,none⟩=some (.int .u8 x0)/\w.cell? ⟨c,o+1,none⟩=some (.int .u8 x1)/\w.cell? ⟨c,o+2,none⟩=some (.int .u8 x2)/\w.cell? ⟨c,o+3,none⟩=some (.int .u8 x3)/\w.cell? ⟨c,o+4,none⟩=some (.int .u8 x4))(hcl:c<w.heap.size):
 Calls prog 29 #[.slice (some ⟨b,0,none⟩) 3 3,.slice (some ⟨c,o,none⟩) 5 cap] w λe w'=>∃g d,e=.returned (.tuple #[.slice (some ⟨g,0,none⟩) 3 d,.int .i64 0])/\
  (w'.cell? ⟨g,0,none⟩=some (.int .u64 x0)/\w'.cell? ⟨g,1,none⟩=some (.int .u64 ((x1:Int)+256* (x2:Int)))/\w'.cell? ⟨g,2,none⟩=some (.int .u64 ((x3:Int)+256* (x4:Int))))/\g<w'.heap.size/\w.heap.size<=g/\dp w w':=by
 have hv:br .i64 w (.slice (s_ b 0) 3 3) (aW [1,2,2]):=hb;have hu:br .u8 w (.slice (s_ c o) 5 cap) (aW [x0,x1,x2,x3,x4]):=by
  refine⟨some ⟨c,o,none⟩,cap,rfl,by simp[aW],?_,λ_=>⟨c,o,rfl,hcl,?_⟩⟩
  . intro x hx2;simp[aW] at hx2;rcases hx2 with rfl | rfl | rfl | rfl | rfl <;> exact WalkArith.wf_u8 au
  grind[aW]
 refine(yC _ _ [1,2,2] [x0,x1,x2,x3,x4] nh w hv hu ⟨_,_,_,rfl,hcap⟩).mono ?_;rw[Vv];rintro e w' ⟨r,rfl,hr,hb'⟩;rcases hr.2 with⟨_,h0⟩ | ⟨g,d,cur,rfl,hbg,hg,_⟩
 . simp at h0
 . have h0:=SU hr 0 fh;have h1:=SU hr 1 fh;have h2:=SU hr 2 fh;refine⟨g,d,rfl,⟨h0,?_,?_⟩,(zY.1 hg).1,hbg,hb'⟩
   . grind
   grind
def xP (s:Nat):Nat:=if s % 2=1 then s / 2 ^^^ 2197175160 else s / 2
def sQ:Nat->Nat->Nat
 | 0,s=>s
 | k+1,s=>xP (sQ k s)
def qT (s c:Nat):Nat:=sQ 8 (s ^^^ c)
def Ao (s:Nat) (bs:aK):Nat:=4294967295 ^^^ bs.foldl qT (4294967295 ^^^ s)
def vH (bs:aK):Nat:=Ao 0 bs
theorem Fl {s:Nat} (h:s<4294967296):xP s<4294967296:=by
 unfold xP;split
 . exact xor_lt_two_pow (n:=32) au au
 . omega
theorem MG {s:Nat}(h:s<4294967296):sQ k s<4294967296:=by
 induction k<;>grind[Fl,sQ]
theorem Py {s c:Nat} (h:s<4294967296) (hc:c<256):qT s c<4294967296:=
 MG (xor_lt_two_pow (n:=32) au au)
theorem SV (s:Nat)(bs:aK)(k:Nat)(h:k<bs.length): (bs.take (k+1)).foldl qT s=qT ((bs.take k).foldl qT s) bs[k]:=by
 grind[take_succ_eq_append_getElem]
theorem Yc (s:Nat)(bs:aK)(hs:s<4294967296)(h: ∀x∈bs,x<256):bs.foldl qT s<4294967296:=by
 induction bs generalizing s<;>grind[Py]
theorem Ku {a:Nat}(ha:a<4294967296)(hb:b<4294967296):a ^^^ b<4294967296:=xor_lt_two_pow (n:=32) au au
theorem Fm (s:Nat)(bs:aK)(hs:s<4294967296)(h: ∀x∈bs,x<256):Ao s bs<4294967296:=Ku nh (Yc _ _ (Ku nh hs) h)
theorem Rt (s:Nat)(hs:s<4294967296):bits .xor .u32 IntKind.u32.max (s:Int)=((4294967295 ^^^ s:Nat):Int):=u32_xor_nat 4294967295 s nh hs
theorem Vw (s:Nat)(hs:s<4294967296)(u:bh)(bs:aK)(w:aD)(hu:br .u8 w u (aW bs)):
 Calls prog 220 #[.int .u32 s,u] w λe w'=>e=.returned (.int .u32 (Ao s bs:Nat))/\w=w':=by
 obtain⟨uo,ucap,rfl,hlen,hr,hc⟩:=hu;have HBY:=ae (sP hr);clear hr;have HC:=ae hc;clear hc;rw[aI] at hlen ⊢;have hn:=Rt s hs;obtain⟨s0,hs0⟩:=cM (4294967295 ^^^ s);have hs0l:s0<4294967296:=by rw[<-hs0];exact Ku (by decide) hs
 rw[hs0] at hn;have HS0:=ae hs0;clear hs0;have HN:=ae hn;clear hn;go_enter func220,ntmps220
 go_wp2_with fail
 rw[HN.o]
 go_loop [0,6,7,12] (λv _ _ i=>∃(k z:Nat),k<=bs.length/\i=.int .i64 k/\v=.int .u32 z/\z<4294967296/\Hid (z=(bs.take k).foldl qT s0))
  (λ_ _ _ i=>bs.length - (intOf i).toNat)
 case atStart=>exact⟨0,s0,kf _,rfl,rfl,hs0l,rfl⟩
 case round=>
  obtain⟨k,z,hk,rfl,rfl,hz,HZ⟩:=hrel;by_cases hlt:k<bs.length
  . obtain⟨b,o,rfl,hbs,hcell⟩:=HC.o (by intro h;rw[<-Mk,aI] at h;omega);have hc:=hcell k (by rw[aI];exact hlt);rw[nk] at hc;clear hcell;have hcl:=HBY.o _ (tW hlt);have HFS:=ae (SV s0 bs k hlt);obtain⟨c,hcc⟩:=cM (bs[k]);rw[hcc] at hc hcl HFS;clear hcc;have hx:=u32_xor_nat z c hz au;have hxl:z ^^^ c<4294967296:=Ku hz au;have HNX:Hid (sQ 8 (z ^^^ c)=(bs.take (k+1)).foldl qT s0):=by unfold Hid;rw[HFS.o,<-HZ.o];rfl
    obtain⟨x,hxx⟩:=cM (z ^^^ c);rw[hxx] at hx hxl HNX;clear hxx;have HX:=ae hx;clear hx;have hlt': (k:Int)< (bs.length:Int):=au
    go_wp2_with fail
    rw[HX.o]
    go_loop [0,7,20] (λv _ i=>∃(j y:Nat),j<=8/\i=.int .i64 j/\v=.int .u32 y/\y<4294967296/\Hid (y=sQ j x))
     (λ_ _ i=>8 - (intOf i).toNat)
    case atStart=>exact⟨0,x,au,rfl,rfl,hxl,rfl⟩
    case round=>
     obtain⟨j,y,hj,rfl,rfl,hy,HY⟩:=hrel;by_cases hjl:j<8
     . have hj': (j:Int)<8:=au;have hand:=u32_and_nat y 1 hy (by decide);rw[and_one_is_mod] at hand;have hand':bits .and .u32 (y:Int) 1=((y % 2:Nat):Int):=hand;clear hand;have hst:sQ (j+1) x=xP y:=by rw[HY.o];rfl
       have hyl:=Fl hy;by_cases hodd:y % 2=1;have hx2:=u32_xor_nat (y / 2) 2197175160 au (by decide);have he:xP y=y / 2 ^^^ 2197175160:=bC hodd;rw[he] at hst hyl;obtain⟨q,hq⟩:=cM (y / 2 ^^^ 2197175160);rw[hq] at hx2 hst hyl;have HST:=ae hst;clear hst;have ht: (bits .and .u32 (y:Int) 1==1)=true:=by rw[hand',hodd];rfl
       have hx3:bits .xor .u32 ((y:Int) / 2) 2197175160=(q:Int):=hx2;clear he hq hodd hand' hx2
       rotate_left
       have he:xP y=y / 2:=bX hodd;rw[he] at hst hyl;have HST:=ae hst;clear hst;have ht: (bits .and .u32 (y:Int) 1==1)=false:=by rw[hand',show y % 2=0 from by omega];rfl
       clear he hodd hand'
       all_goals
        go_wp2
        go_round
        case rel=>grind
        case measure=>simp[intOf];omega
     . obtain rfl:j=8:=au;have HF:Hid (y=(bs.take (k+1)).foldl qT s0):=by unfold Hid;rw[<-HNX.o];exact HY.o
       go_wp2
       go_round
       case rel=>exact⟨k+1,y,au,by go_num,rfl,hy,HF⟩
       case measure=>simp[intOf];omega
  . obtain rfl:k=bs.length:=au;have hge: ¬(bs.length:Int)< (bs.length:Int):=au;have HR:Hid ((4294967295 ^^^ z:Nat)=Ao s bs):=by
     unfold Hid Ao;rw[HS0.o,HZ.o,wh]
    have hn2:=Rt z hz;have HN2:=ae hn2;clear hn2;go_wp2;go_ret;exact⟨by rw[HN2.o,HR.o];rfl,rfl⟩
theorem Pz (u:bh)(bs:aK)(w:aD)(hu:br .u8 w u (aW bs)):
 Calls prog 166 #[u] w λe w'=>e=.returned (.int .u32 (vH bs:Nat))/\w=w':=by
 have HU:=ae hu;clear hu;go_enter func166,ntmps166
 go_wp2_with fail
 refine(Vw 0 nh _ bs _ HU.o).mono ?_;rintro e w' ⟨rfl,rfl⟩;go_wp2;go_ret;exact⟨rfl,rfl⟩
abbrev aq:=Nat×Nat×Nat
def iy (p:aq):bh:=.agg #[.int .i64 p.1,.int .u64 p.2.1,.int .u32 p.2.2]
def hole:aq:=(0,0,0)
theorem Fo (a b c d e f:Int) (w:aD) (n:Nat):
 (Op.equalIn (n+2) 106 (.agg #[.int .i64 a,.int .u64 b,.int .u32 c]) (.agg #[.int .i64 d,.int .u64 e,.int .u32 f])).run prog w=.ok ((a==d)&& ((b==e)&& (c==f))) w:=by
 rw[run_equalIn_struct (P:=prog) w (n+1) 106 _ _ cm cm];have hf: (prog.fieldsOf 106).toList=[{name:= "At",type:=3,offset:=0,embedded:=false,tag:= "",pkgPath:= "",byteOffset:=0},{name:= "Birth",type:=82,offset:=1,embedded:=false,tag:= "",pkgPath:= "",byteOffset:=8},{name:= "Sum",type:=104,offset:=2,embedded:=false,tag:= "",pkgPath:= "",byteOffset:=16}]:=cm;rw[hf];simp[Op.eqFields,part,isAgg3,isAgg82,isAgg104,Result.andThen,Vx w n 3 .i64 .i64 _ _ underlying3,Vx w n 82 .u64 .u64 _ _ underlying82,Vx w n 104 .u32 .u32 _ _ underlying104]
 grind
theorem PD (p q:aq): (((p.1:Int)==(q.1:Int))&& (((p.2.1:Int)==(q.2.1:Int))&& ((p.2.2:Int)==(q.2.2:Int))))=decide (p=q):=by
 grind
theorem zz (p q:aq)(r:Bool)(h:decide (p=q)=r)(w:aD): (binOp .eql 106 (iy p) (iy q)).run prog w=.ok (.bool r) w:=by
 have hs: (Op.equal 106 (iy p) (iy q)).run prog w=.ok r w:=by
  grind[Op.equal,Op.maxDepth,iy,Fo,PD]
 simp_all[iy,binOp]
theorem BZ (p q:aq)(r:Bool)(h:decide (p=q)=r)(w:aD): (binOp .neq 106 (iy p) (iy q)).run prog w=.ok (.bool !r) w:=by
 have hs: (Op.equal 106 (iy p) (iy q)).run prog w=.ok r w:=by
  grind[Op.equal,Op.maxDepth,iy,Fo,PD]
 simp_all[iy,binOp]
def fP (p:aq):Bool:=decide (p=hole∨(4<=p.1/\p.1<1024/\1<=p.2.1/\p.2.1<=281474976710655))
def mQ (p q:aq):Bool:=if p.2.1≠q.2.1 then decide (p.2.1<q.2.1) else if p.1≠q.1 then decide (p.1<q.1) else decide (p.2.2<q.2.2)
def fv (p:aq) (s:Nat):Bool:=decide (p≠hole/\s<p.2.1)
theorem rG (p:aq)(w:aD):yr 241 #[iy p] w (.bool (fP p)):=by
 have hb:dp w (w.alloc (.cells #[.int .i64 p.1,.int .u64 p.2.1,.int .u32 p.2.2] 106)):=(iU _ _).alloc (eO _) _;have HB:=ae hb;clear hb;by_cases hh:p=hole;have hr:fP p=true:=ly (.inl hh);rw[hr];have he: ∀w,(binOp .eql 106 (.agg #[.int .i64 p.1,.int .u64 p.2.1,.int .u32 p.2.2]) (.agg #[.int .i64 0,.int .u64 0,.int .u32 0])).run prog w=.ok (.bool true) w:=λw=>zz p hole true (ly hh) w;obtain⟨a,b,c⟩:=p;simp only at he HB;unfold iy;simp only;clear hr hh
 rotate_left
 have he: ∀w,(binOp .eql 106 (.agg #[.int .i64 p.1,.int .u64 p.2.1,.int .u32 p.2.2]) (.agg #[.int .i64 0,.int .u64 0,.int .u32 0])).run prog w=.ok (.bool false) w:=λw=>zz p hole false (iE hh) w;have hr:fP p=decide (4<=p.1/\p.1<1024/\1<=p.2.1/\p.2.1<=281474976710655):=by
  unfold fP
  grind
 rw[hr];clear hr hh;obtain⟨a,b,c⟩:=p;simp only at he HB ⊢;unfold iy;simp only;by_cases h1:4<=a;by_cases h2:a<1024;by_cases h3:1<=b;by_cases h4:b<=281474976710655;rw[ly ⟨h1,h2,h3,h4⟩];have g1:decide ((4:Int)<=(a:Int))=true:=ly au;have g2:decide ((a:Int)<1024)=true:=ly au;have g3:decide ((1:Int)<=(b:Int))=true:=ly au;have g4:decide ((b:Int)<=281474976710655)=true:=ly au
 rotate_left
 rw[iE (λh=>h4 h.2.2.2)];have g1:decide ((4:Int)<=(a:Int))=true:=ly au;have g2:decide ((a:Int)<1024)=true:=ly au;have g3:decide ((1:Int)<=(b:Int))=true:=ly au;have g4:decide ((b:Int)<=281474976710655)=false:=iE au
 rotate_left
 rw[iE (λh=>h3 h.2.2.1)];have g1:decide ((4:Int)<=(a:Int))=true:=ly au;have g2:decide ((a:Int)<1024)=true:=ly au;have g3:decide ((1:Int)<=(b:Int))=false:=iE au
 rotate_left
 rw[iE (λh=>h2 h.2.1)];have g1:decide ((4:Int)<=(a:Int))=true:=ly au;have g2:decide ((a:Int)<1024)=false:=iE au
 rotate_left
 rw[iE (λh=>h1 h.1)];have g1:decide ((4:Int)<=(a:Int))=false:=iE au
 all_goals
  go_enter func241,ntmps241;go_wp2;go_ret;exact⟨rfl,HB.o⟩
theorem SW (w:aD)(x y:Obj):dp w ((w.alloc x).alloc y):=((iU _ _).alloc (eO _) _).alloc fh _
theorem JD (p q:aq)(w:aD):yr 178 #[iy p,iy q] w (.bool (mQ p q)):=by
 obtain⟨a,b,c⟩:=p;obtain⟨d,e,f⟩:=q;have hB:=SW w (.cells #[.int .i64 a,.int .u64 b,.int .u32 c] 106) (.cells #[.int .i64 d,.int .u64 e,.int .u32 f] 106);have HB:=ae hB;clear hB;unfold iy;simp only;by_cases h1:b=e;by_cases h2:a=d;have hr:mQ (a,b,c) (d,e,f)=decide (c<f):=by
  unfold mQ
  grind
 rw[hr];have g1: ((b:Int) !=(e:Int))=false:=by rw[DY];omega
 have g2: ((a:Int) !=(d:Int))=false:=by rw[DY];omega
 clear hr h1 h2;obtain⟨r,hr⟩:=cM (decide (c<f))
 rotate_left
 have hr:mQ (a,b,c) (d,e,f)=decide (a<d):=by
  unfold mQ
  grind
 rw[hr];have g1: ((b:Int) !=(e:Int))=false:=by rw[DY];omega
 have g2: ((a:Int) !=(d:Int))=true:=by rw[lh];omega
 clear hr h1 h2;obtain⟨r,hr⟩:=cM (decide (a<d))
 rotate_left
 have hr:mQ (a,b,c) (d,e,f)=decide (b<e):=by
  unfold mQ;simp only;rw[bC h1]
 rw[hr];have g1: ((b:Int) !=(e:Int))=true:=by rw[lh];omega
 clear hr h1;obtain⟨r,hr⟩:=cM (decide (b<e))
 all_goals
  rw[hr];go_enter func178,ntmps178;go_wp2;go_ret;exact⟨rfl,HB.o⟩
theorem uX (p:aq)(s:Nat)(w:aD):yr 154 #[iy p,.int .u64 s] w (.bool (fv p s)):=by
 have hb:dp w (w.alloc (.cells #[.int .i64 p.1,.int .u64 p.2.1,.int .u32 p.2.2] 106)):=(iU _ _).alloc (eO _) _;have HB:=ae hb;clear hb;by_cases hh:p=hole;have hr:fv p s=false:=iE (λh=>h.1 hh);rw[hr];have he: ∀w,(binOp .neq 106 (.agg #[.int .i64 p.1,.int .u64 p.2.1,.int .u32 p.2.2]) (.agg #[.int .i64 0,.int .u64 0,.int .u32 0])).run prog w=.ok (.bool false) w:=λw=>BZ p hole true (ly hh) w;obtain⟨a,b,c⟩:=p;simp only at he HB;unfold iy;simp only;clear hr hh
 rotate_left
 have he: ∀w,(binOp .neq 106 (.agg #[.int .i64 p.1,.int .u64 p.2.1,.int .u32 p.2.2]) (.agg #[.int .i64 0,.int .u64 0,.int .u32 0])).run prog w=.ok (.bool true) w:=λw=>BZ p hole false (iE hh) w;have hr:fv p s=decide (s<p.2.1):=by
  unfold fv
  grind
 rw[hr];clear hr hh;obtain⟨a,b,c⟩:=p;simp only at he HB ⊢;unfold iy;simp only;obtain⟨r,hr⟩:=cM (decide (s<b));rw[hr]
 all_goals
  go_enter func154,ntmps154;go_wp2;go_ret;exact⟨rfl,HB.o⟩
theorem PF {k:IntKind}{W:aD}{a:Addr}{l:List Int}(h:br k w (.slice (some a) n c) l)(hb:dp w W):
 n=l.length/\∀j u,(l.map (Value.int k))[j]? =some u->W.cell? (a.add j)=some u:=by
 obtain⟨ao,cap,he,_,_,hc⟩:=h;simp only[mA] at he;obtain⟨rfl,rfl,rfl⟩:=he;refine⟨rfl,λj u hu=>?_⟩;by_cases hl:l=[]
 . grind
 . obtain⟨b,o,e,hbs,hcell⟩:=hc hl;obtain rfl:=El e;simp only[tY,XY] at hu;obtain⟨x,hx,rfl⟩:=hu;obtain⟨hj,rfl⟩:=sy.1 hx;rw[Addr.add_lit];exact(hb.cell (p:=⟨b,o+j,none⟩) hbs).trans (hcell j hj)
def qB (x:fL):List Int:=[if x.1=true then 1 else 0,x.2.1 % 256,x.2.1 / 256,x.2.2 % 256,x.2.2 / 256]
def Ru (x:fL):Bool:=fj x.2.1 x.2.2
def lI (ms:List fL):Option (List Int):=if ms.length<=4096/\ms.all Ru=true then some (ms.flatMap qB) else none
def vI (bs:List Int) (k:Nat):fL:=(bs.getD (5*k) 0==1,bs.getD (5*k+1) 0+256*bs.getD (5*k+2) 0,bs.getD (5*k+3) 0+256*bs.getD (5*k+4) 0)
def okB (bs:List Int) (k:Nat):Bool:=decide (bs.getD (5*k) 0<=1)&&Ru (vI bs k)
def vJ (bs:List Int):Option (List fL):=
 if bs.length % 5=0/\bs.length<=20480/\(range (bs.length / 5)).all (okB bs)=true then some ((range (bs.length / 5)).map (vI bs)) else none
theorem Aa (x:fL): (qB x).length=5:=rfl
theorem uY (ms:List fL): (ms.flatMap qB).length=5*ms.length:=by
 induction ms<;>grind[Aa]
def Fp {α:Type} (o:Option α):Int:=if o.isSome=true then 0 else 81
theorem MH (h: ¬ms.length<=4096):lI ms=none:=by
 unfold lI;grind
theorem PG (hk:k<ms.length)(h:Ru ms[k]=false):lI ms=none:=by
 unfold lI
 grind
theorem PH (h:ms.length<=4096)(hok: ∀k (hk:k<ms.length),Ru ms[k]=true):lI ms=some (ms.flatMap qB):=by
 unfold lI;rw[bC ⟨h,Ak.2 λx hx=>by
  obtain⟨k,hk,rfl⟩:=getElem_of_mem hx
  grind⟩]
theorem Vy (h:k<ms.length): (ms.take (k+1)).flatMap qB=(ms.take k).flatMap qB++qB ms[k]:=by
 grind[take_succ_eq_append_getElem]
theorem ZK (hok: ∀x∈ms,Ru x=true): ∀y∈ms.flatMap qB,(Lit.int .u8 y).wf=true:=by
 intro y hy;obtain⟨x,hx,hy⟩:=List.mem_flatMap.1 hy;have g:=(cW _ _).1 (hok x hx);simp only[qB,iI,kz,tZ] at hy;rcases hy with rfl | rfl | rfl | rfl | rfl
 . grind[WalkArith.wf_u8]
 all_goals grind[WalkArith.wf_u8]
theorem PI {k:IntKind}{l:List Int}(h:br k w v l)(hl:l≠ []):
 ∃b o c,v=.slice (some ⟨b,o,none⟩) l.length c/\∀j u,(l.map (Value.int k))[j]? =some u->w.cell? ((⟨b,o,none⟩:Addr).add j)=some u:=by
 have h':=h;obtain⟨ao,cap,rfl,_,_,hc⟩:=h;obtain⟨b,o,rfl,_,_⟩:=hc hl;exact⟨b,o,cap,rfl,(PF h' (iU _ _)).2⟩
theorem JE (hb:dp w w')(h:w.cell? ⟨E,1,none⟩=some x)(h':w.cell? ⟨E,2,none⟩=some y):
 w'.cell? ⟨E,1,none⟩=some x/\w'.cell? ⟨E,2,none⟩=some y:=
 ⟨(hb.cell (p:=⟨E,1,none⟩) (vG h)).trans h,(hb.cell (p:=⟨E,2,none⟩) (vG h')).trans h'⟩
theorem xQ (w:aD)(x y z:bh)(t:dD): ((w.alloc (.cells #[x,y,z] t)).cell? ⟨w.heap.size,0,none⟩=some x/\(w.alloc (.cells #[x,y,z] t)).cell? ⟨w.heap.size,1,none⟩=some y/\(w.alloc (.cells #[x,y,z] t)).cell? ⟨w.heap.size,2,none⟩=some z)/\w.heap.size< (w.alloc (.cells #[x,y,z] t)).heap.size:=
 by simp_all
theorem SX (hb:Below (w.alloc (.cells #[x,y,z] t)).heap.size (w.alloc (.cells #[x,y,z] t)) w'): (w'.cell? ⟨w.heap.size,0,none⟩=some x/\w'.cell? ⟨w.heap.size,1,none⟩=some y/\w'.cell? ⟨w.heap.size,2,none⟩=some z)/\w.heap.size<w'.heap.size:=
 have h:=xQ w x y z t
 ⟨⟨(hb.cell (p:=⟨_,0,none⟩) h.2).trans h.1.1,(hb.cell (p:=⟨_,1,none⟩) h.2).trans h.1.2.1,(hb.cell (p:=⟨_,2,none⟩) h.2).trans h.1.2.2⟩,uj h.2 hb.size⟩
theorem zA (hb:Below (w.alloc (.cells #[x,y,z] t)).drew.heap.size (w.alloc (.cells #[x,y,z] t)).drew w'): (w'.cell? ⟨w.heap.size,0,none⟩=some x/\w'.cell? ⟨w.heap.size,1,none⟩=some y/\w'.cell? ⟨w.heap.size,2,none⟩=some z)/\w.heap.size<w'.heap.size:=
 SX ((iU _ _).drew.trans hb)
theorem Vz {o:Obj}(hb5:Below w4.drew.heap.size w4.drew w5)(hb6:Below (w5.alloc o).heap.size (w5.alloc o) w6):dp w4 w6:=by
 have h1:dp w4 w5:=(iU _ _).drew.trans hb5;have h2:=h1.alloc h1.size o;exact Below.step h2 h2.size hb6
theorem VA {o:Obj}(hb5:Below (w4.alloc o).drew.heap.size (w4.alloc o).drew w5)(hb6:dp w5 w6):dp w4 w6:=by
 have h0:dp w4 (w4.alloc o):=(iU _ _).alloc (eO _) o;have h1:dp w4 w5:=Below.step h0 h0.size ((iU _ _).drew.trans hb5);exact Below.step h1 h1.size hb6
theorem VB (t s n b c:Nat)(ht:t<=1)(hs:s<4096)(hn:n<=4096)(w:aD)(hb:br .i64 w (.slice (some ⟨b,0,none⟩) 3 3) [1,2,2])(hc: (w.cell? ⟨c,0,none⟩=some (.int .u64 t)/\w.cell? ⟨c,1,none⟩=some (.int .u64 s)/\w.cell? ⟨c,2,none⟩=some (.int .u64 n))/\c<w.heap.size):
 Calls prog 73 #[.slice (some ⟨b,0,none⟩) 3 3,.slice (some ⟨c,0,none⟩) 3 3] w λe w'=>∃r,e=.returned (.tuple #[r,.int .i64 0])/\br .u8 w' r [(t:Int),(s:Int) % 256,(s:Int) / 256,(n:Int) % 256,(n:Int) / 256]/\dp w w':=
 Ya b c t s n ht hs hn w hb hc.1 hc.2
theorem OY (u:bh)(ms:List fL)(w:aD)(hu:mR w u ms):
 Calls prog 249 #[u] w λe w'=>∃r,e=.returned (.tuple #[r,.int .i64 (Fp (lI ms))])/\br .u8 w' r ((lI ms).getD [])/\qN r/\dp w w':=by
 obtain⟨i0,hi,hz0,hz1',hz2⟩:=sC UZ;obtain⟨uo,ucap,rfl,hulen,huw,huc⟩:=hu;have HU:=ae huc;clear huc;have HW:=ae huw;clear huw;obtain⟨S,HS⟩:=BU (lI ms);rw[<-HS.o];have hB0:=iU w.heap.size w;by_cases hlong: ¬ms.length<=4096
 . have HN:Hid (S=none):=by unfold Hid;rw[HS.o,MH hlong]
   have hl: (4096:Int)< (ms.length:Int):=au;go_enter func249,ntmps249;go_wp2;refine kg (v:=.tuple #[.slice none 0 0,.int .i64 81]) (by simp[results,results249,go_sem]) rfl ⟨_,by rw[HN.o];rfl,by rw[HN.o];exact xI _ _,xM,hB0⟩
 have hl4:ms.length<=4096:=au;have hl: ¬(4096:Int)< (ms.length:Int):=au;clear hlong;go_enter func249,ntmps249
 go_wp2_with (refine Vp (o:=⟨some 16,_,_,_,_,_⟩) _ rfl _ _ 22 rfl w.heap.size 5 i0 (.int .u8 0) 1 oC hi hz0 hz1' .i64 .i64 _ (5*ms.length) rfl rfl au (by rw[hz2];omega) (by unfold maxLen;omega) (eO _) ?_;intro w2 hown2 hgrow2)
 have hB2:dp w w2:=(iU _ _).grown hgrow2 (eO _) (λk e=>by cases e);clear hgrow2
 go_loopw [4,19] (λv i wr=>∃(k:Nat),k<=ms.length/\i=.int .i64 k/\wr.ownsRow w.heap.size 5 1 v ((ms.take k).flatMap qB).length (((ms.take k).flatMap qB).map (Value.int .u8))/\Hid (∀j (hj:j<ms.length),j<k->Ru ms[j]=true)/\dp w wr)
  (λ_ i _=>ms.length - (intOf i).toNat)
 case atStart=>exact⟨0,kf _,rfl,hown2,λj hj h=>absurd h (ES _),hB2⟩
 case round=>
  clear hown2 hB2;obtain⟨k,hk,rfl,hown,HOK,hbel⟩:=hrel;have hsz:=hbel.size;by_cases hlt:k<ms.length
  . obtain⟨b,o,rfl,hbs,hcell⟩:=HU.o (by intro h;simp[h] at hlt);obtain⟨h1,h2,h3⟩:=BW hbs hcell hbel hlt;clear hcell;have hw:=HW.o _ (tW hlt);have HT:Hid ((ms.take (k+1)).flatMap qB=(ms.take k).flatMap qB++qB ms[k]):=Vy hlt;have HBAD:Hid (Ru ms[k]=false->S=none):=λh=>by rw[HS.o,PG hlt h]
    have HGOOD:Hid (Ru ms[k]=true->∀j (hj:j<ms.length),j<k+1->Ru ms[j]=true):=by
     intro h j hj hjk;by_cases hjk2:j=k
     . subst hjk2;exact h
     . exact HOK.o j hj au
    obtain⟨⟨t,s,n⟩,hx⟩: ∃x,x=ms[k]:=⟨_,rfl⟩;rw[<-hx] at h1 h2 h3 hw HT HBAD HGOOD;clear hx;simp only at h1 h2 h3 hw;have HWW:=ae hw;clear hw;obtain⟨c,HC⟩:=qI (fj s n);obtain⟨L,hL⟩:=gq ((ms.take k).flatMap qB);rw[<-hL] at hown HT;have hLlen:L.length=5*k:=by rw[hL,uY,pM];omega
    clear hL;have HLL:=ae hLlen;clear hLlen
    go_wp2_with fail
    obtain⟨We,hWe⟩:=gq (wr.alloc (.cells #[.bool t,.int .i64 s,.int .i64 n] 334));have p0:We.cell? ⟨wr.heap.size,0,none⟩=some (.bool t):=by rw[hWe];exact Hk _ _ _ _ rfl
    have p1:We.cell? ⟨wr.heap.size,1,none⟩=some (.int .i64 s):=by rw[hWe];exact Hk _ _ _ _ rfl
    have p2:We.cell? ⟨wr.heap.size,2,none⟩=some (.int .i64 n):=by rw[hWe];exact Hk _ _ _ _ rfl
    have hse:We.heap.size=wr.heap.size+1:=by rw[hWe];simp
    have hBe:dp w We:=by rw[hWe];exact hbel.alloc hsz _
    have howe:=hown.alloc (.cells #[.bool t,.int .i64 s,.int .i64 n] 334);rw[<-hWe] at howe;rw[<-hWe];clear hWe hbel hown h1 h2 h3;obtain⟨E,hE⟩:=gq wr.heap.size;rw[<-hE] at p0 p1 p2 hse hsz ⊢;clear hE;refine(wE t s n HWW.o _).mono ?_;rw[HC.o];rintro e w4 ⟨rfl,hb4⟩;have hB4:=Below.step hBe hBe.size hb4;have how4:=fR howe hb4;have q0:=(hb4.cell (p:=⟨E,0,none⟩) (by show E<We.heap.size;omega)).trans p0;have q1:=(hb4.cell (p:=⟨E,1,none⟩) (by show E<We.heap.size;omega)).trans p1;have q2:=(hb4.cell (p:=⟨E,2,none⟩) (by show E<We.heap.size;omega)).trans p2;have hs4:=hb4.size;clear p0 p1 p2 hBe howe hb4;cases c with
    | false=>
     have HN:Hid (S=none):=HBAD.o HC.o;go_wp2;refine kg (v:=.tuple #[.slice none 0 0,.int .i64 81]) (by simp[results,results249,go_sem]) rfl ⟨_,by rw[HN.o];rfl,by rw[HN.o];exact xI _ _,xM,hB4⟩
    | true=>
     obtain⟨g1,g2,g3,g4⟩:=(cW s n).1 HC.o;obtain⟨a,rfl⟩: ∃a:Nat,s=(a:Int):=⟨s.toNat,au⟩;obtain⟨m,rfl⟩: ∃a:Nat,n=(a:Int):=⟨n.toNat,au⟩;have hEl:E<w4.heap.size:=au;have wu1:IntKind.u64.wrap (a:Int)=(a:Int):=D4 _ au;have wu2:IntKind.u64.wrap (m:Int)=(m:Int):=D4 _ au;have hA:a<4096:=au;have hM:m<=4096:=au;have h0T: (0:Nat)<=1:=by decide
     have h1T: (1:Nat)<=1:=by decide
     have hne1:=World.new_ne w4 ⟨E,1,none⟩ q1;have hne2:=World.new_ne w4 ⟨E,2,none⟩ q2;have HGD:=ae (HGOOD.o HC.o);cases t
     all_goals
      go_wp2_with fail
      go_region_held3 (λW=>W.cell? ⟨E,1,none⟩=some (.int .i64 (a:Int))/\W.cell? ⟨E,2,none⟩=some (.int .i64 (m:Int)))
       (first|go_keep|(go_split_ands;exact JE hb6 (by assumption) (by assumption))|(go_split_ands;exact JE hb5 (by assumption) (by assumption)))
       (first|(go_at_call 245;refine(Fh _).mono ?_;rintro e w5 ⟨b5,rfl,hv5,-,hb5⟩)|(go_at_call 73;refine(VB 0 a m _ _ h0T hA hM _ ?_ ?_).mono ?_;(first | exact hv5 | exact hv5.below ((iU _ _).alloc (eO _) _));(first | exact xQ _ _ _ _ _ | exact zA hb5);rintro e w6 ⟨r6,rfl,hr6,hb6⟩)|(go_at_call 73;refine(VB 1 a m _ _ h1T hA hM _ ?_ ?_).mono ?_;(first | exact hv5 | exact hv5.below ((iU _ _).alloc (eO _) _));(first | exact xQ _ _ _ _ _ | exact zA hb5);rintro e w6 ⟨r6,rfl,hr6,hb6⟩))
      all_goals
       have h46:dp w4 w6:=by first | exact Vz hb5 hb6 | exact VA hb5 hb6
       have hB6:=Below.step hB4 hB4.size h46;have how6:=fR how4 h46;clear hb5 hb6 hv5 h46
       first
        |(have hr7:br .u8 w6 r6 (qB (false,(a:Int),(m:Int))):=hr6
          generalize hN:qB (false,(a:Int),(m:Int))=N at hr7 HT;have HNL:Hid (N.length=5):=by rw[<-hN];rfl)
        |(have hr7:br .u8 w6 r6 (qB (true,(a:Int),(m:Int))):=hr6
          generalize hN:qB (true,(a:Int),(m:Int))=N at hr7 HT;have HNL:Hid (N.length=5):=by rw[<-hN];rfl)
       clear hr6 hN;obtain⟨rb,ro,rc,rfl,hnews⟩:=PI hr7 (by intro h;have:=HNL.o;simp[h] at this);clear hr7;have HNEWS:=ae hnews;clear hnews;have hone: ∀u∈N.map (Value.int .u8),u.oneCell'=true:=by simp[Value.oneCell']
       have HONE:=ae hone;clear hone;have hb1:L.length+N.length<=maxLen:=by have:=HLL.o;have:=HNL.o;unfold maxLen;omega
       have hb2: (L.length+N.length)*1<=140737488355328:=by have:=HLL.o;have:=HNL.o;omega
       have HB1:=ae hb1;clear hb1;have HB2:=ae hb2;clear hb2;have hz6:=hB6.size
       go_wp2_with (first |(at_builtin;refine Fc _ rfl (.tmp 45) (.tmp 46) 22 rfl w.heap.size 5 i0 (.int .u8 0) 1 1 oC hi hz0 hz1' hz2 rfl nh _ _ _ rfl how6 ⟨rb,ro,none⟩ N.length rc (N.map (Value.int .u8)) rfl fh HNEWS.o HONE.o HB1.o HB2.o hz6 ?_;intro v7 w7 hown7 hgrow7 _))
       have hB7:=hB6.grown hgrow7 hz6 (λj h=>(how6.lt j h).1);clear hgrow7;go_roundw
       case rel=>
        refine⟨k+1,au,by go_num,?_,HGD.o,hB7⟩;rw[HT.o,kh,pt];exact hown7
       case measure=>exact uO
  . obtain rfl:k=ms.length:=au;have HALL:Hid (S=some (ms.flatMap qB)):=by unfold Hid;rw[HS.o,PH hl4 (λj hj=>HOK.o j hj hj)]
    rw[wh] at hown;have hok: ∀x∈ms,Ru x=true:=by
     intro x hx;obtain⟨j,hj,rfl⟩:=getElem_of_mem hx;exact HOK.o j hj hj
    have hfin:=lz hown (ZK hok) (by rw[uY];omega);have hcap:=Po hown;have HFIN:=ae hfin;clear hfin hown hok;have HCAP:=ae hcap;clear hcap;go_wp2;refine kg (v:=.tuple #[u4,.int .i64 0]) (by simp[results,results249,go_sem]) rfl ⟨_,by rw[HALL.o];rfl,by rw[HALL.o];exact HFIN.o,HCAP.o,hbel⟩
section
theorem Yd (i dst:Nat)(v:bh)(hi:ops[i]? =some ym)(hy:YieldsIf prog ops S ym v a)(hS:S w)(q:Q')(hd:ym.dst=some dst:=by rfl)(h:Q'->wpAnyH prog .any ops Q S fuel (listed.setIfInBounds i true) (a.put (some dst) v) w:=by intro q;simp only[ax];exact q)(hs:Region.noSelect ops=true:=by kernel_rfl)(hf:Region.free .any ops listed i=true:=by kernel_rfl)(hr: (Region.ready .any ops listed).contains i=true:=by kernel_rfl)(hQ: ∀c a w,Q (.panic c) (a.put (some dst) v) w->Q (.panic c) a w:=by exact λ_ _ _ h=>h):wpAnyH prog .any ops Q S (fuel+1) listed a w:=
 wpAnyH_take hi hs hf hr (by rw[hd];exact hQ) hy hS (by rw[hd];exact h q)
theorem He (i dst:Nat)(v:bh)(hS:S w)(q:Q')(hi:ops[i]? =some ym:=by rfl)(hy:YieldsIf prog ops S ym v a:=by exact Or.inl ⟨cm,λw hw=>by go_simp⟩)(hd:ym.dst=some dst:=by rfl)(h:Q'->wpAnyH prog .any ops Q S fuel (listed.setIfInBounds i true) (a.put (some dst) v) w:=by intro q;simp only[ax];exact q)(hs:Region.noSelect ops=true:=by kernel_rfl)(hf:Region.free .any ops listed i=true:=by kernel_rfl)(hr: (Region.ready .any ops listed).contains i=true:=by kernel_rfl)(hQ: ∀c a w,Q (.panic c) (a.put (some dst) v) w->Q (.panic c) a w:=by exact λ_ _ _ h=>h):wpAnyH prog .any ops Q S (fuel+1) listed a w:=
 Yd i dst v hi hy hS q hd h hs hf hr hQ
end
def gZ (p:aq):aK:=tw 4 p.1++(tw 8 p.2.1++tw 4 p.2.2)
theorem ep (p:aq): (gZ p).length=16:=by
 rfl
theorem o5 (p:aq): ∀x∈gZ p,x<256:=by
 intro x hx;unfold gZ at hx;rcases jn.1 hx with h | h
 . exact vW _ _ x h
 . rcases jn.1 h with h | h <;> exact vW _ _ x h
theorem C' (w:aD):Calls prog 240 #[] w λe w'=>∃b,e=.returned (.slice (some ⟨b,0,none⟩) 3 3)/\br .i64 w' (.slice (some ⟨b,0,none⟩) 3 3) [4,8,4]/\b=w.heap.size/\dp w w':=by
 go_enter func240,ntmps240;go_wp2;go_ret;exact⟨_,rfl,Jy w [4,8,4] _ _ rfl nh nh _ _ rfl,rfl,(iU _ _).alloc (eO _) _⟩
theorem VC (p:aq)(h1:p.1<4294967296)(h2:p.2.1<18446744073709551616)(h3:p.2.2<4294967296):mX [4,8,4] [p.1,p.2.1,p.2.2]=some (gZ p):=by
 unfold mX;rw[bC ⟨by decide,rfl,by grind[fitAll]⟩];rfl
theorem wf_u64 {x:Nat}(h:x<18446744073709551616): (Lit.int .u64 (x:Int)).wf=true:=by
 grind[Lit.wf,IntKind.min,IntKind.max,IntKind.signed,IntKind.bits]
theorem Ye (p:aq)(h1:p.1<4294967296)(h2:p.2.1<18446744073709551616)(h3:p.2.2<4294967296)(b c:Nat)(w:aD)(hb:br .i64 w (.slice (some ⟨b,0,none⟩) 3 3) [4,8,4])(hc: (w.cell? ⟨c,0,none⟩=some (.int .u64 p.1)/\w.cell? ⟨c,1,none⟩=some (.int .u64 p.2.1)/\w.cell? ⟨c,2,none⟩=some (.int .u64 p.2.2))/\c<w.heap.size):
 Calls prog 73 #[.slice (some ⟨b,0,none⟩) 3 3,.slice (some ⟨c,0,none⟩) 3 3] w λe w'=>∃r,e=.returned (.tuple #[r,.int .i64 0])/\gI w' w.heap.size r (gZ p)/\dp w w':=by
 have hv:br .i64 w (.slice (s_ b 0) 3 3) (aW [4,8,4]):=hb;have hu:br .u64 w (.slice (s_ c 0) 3 3) (aW [p.1,p.2.1,p.2.2]):=by
  refine⟨some ⟨c,0,none⟩,3,rfl,by simp[aW],?_,λ_=>⟨c,0,rfl,hc.2,?_⟩⟩
  . intro x hx;simp[aW] at hx;rcases hx with rfl | rfl | rfl <;> exact wf_u64 au
  grind[aW]
 refine(wi _ _ [4,8,4] [p.1,p.2.1,p.2.2] nh w hv hu).mono ?_;rw[VC p h1 h2 h3];rintro e w' ⟨r,rfl,hr,hb'⟩;exact⟨r,rfl,hr,hb'⟩
theorem wG (hb:dp w w')(h:w.cell? ⟨E,0,none⟩=some x)(h':w.cell? ⟨E,1,none⟩=some y)(h'':w.cell? ⟨E,2,none⟩=some z):
 w'.cell? ⟨E,0,none⟩=some x/\w'.cell? ⟨E,1,none⟩=some y/\w'.cell? ⟨E,2,none⟩=some z:=
 ⟨(hb.cell (p:=⟨E,0,none⟩) (vG h)).trans h,(hb.cell (p:=⟨E,1,none⟩) (vG h')).trans h',(hb.cell (p:=⟨E,2,none⟩) (vG h'')).trans h''⟩
def bt (p:aq):Prop:=p.1<4294967296/\p.2.1<18446744073709551616/\p.2.2<4294967296
theorem qU (p:aq)(hp:bt p)(w:aD):
 Calls prog 233 #[iy p] w λe w'=>∃r,e=.returned (.tuple #[r,.int .i64 (if fP p=true then 0 else 51)])/\gI w' w.heap.size r (if fP p=true then gZ p else [])/\dp w w':=by
 obtain⟨hp1,hp2,hp3⟩:=hp;obtain⟨W0,HW0⟩:=BU (w.alloc (.cells #[.int .i64 p.1,.int .u64 p.2.1,.int .u32 p.2.2] 106));have hB0:dp w W0:=by rw[HW0.o];exact(iU _ _).alloc (eO _) _
 have c0:W0.cell? ⟨w.heap.size,0,none⟩=some (.int .i64 p.1):=by rw[HW0.o];exact Hk _ _ _ _ rfl
 have c1:W0.cell? ⟨w.heap.size,1,none⟩=some (.int .u64 p.2.1):=by rw[HW0.o];exact Hk _ _ _ _ rfl
 have c2:W0.cell? ⟨w.heap.size,2,none⟩=some (.int .u32 p.2.2):=by rw[HW0.o];exact Hk _ _ _ _ rfl
 have hs0:W0.heap.size=w.heap.size+1:=by rw[HW0.o];simp
 obtain⟨E,HE⟩:=BU w.heap.size;rw[<-HE.o] at c0 c1 c2 hs0;have C0:=ae c0;clear c0;have C1:=ae c1;clear c1;have C2:=ae c2;clear c2;obtain⟨r,HR⟩:=qI (fP p);rw[HR.o];have HP:=ae (rG p);have HPUT:=ae (Ye p hp1 hp2 hp3);obtain⟨a,b,c⟩:=p;simp only at hp1 hp2 hp3;unfold iy;simp only;go_enter func233,ntmps233
 go_wp2_with fail
 rw[<-HW0.o,<-HE.o];refine(HP.o _).mono ?_;rw[HR.o];rintro e w1 ⟨rfl,hb1⟩;have hB1:=Below.step hB0 hB0.size hb1;obtain⟨q0,q1,q2⟩:=wG hb1 C0.o C1.o C2.o;clear C0 C1 C2 hb1 hB0 HW0 HP;have hz1:=hB1.size;have HO0:Hid (gI w1 w.heap.size (.slice none 0 0) []):=ju w1 w.heap.size 5 1;cases r with
 | false=>
  go_wp2;refine kg (v:=.tuple #[.slice none 0 0,.int .i64 51]) (by simp[results,results233,go_sem]) rfl ⟨_,rfl,HO0.o,hB1⟩
 | true=>
  have wu1:IntKind.u64.wrap (a:Int)=(a:Int):=D4 _ au;have wu2:IntKind.u64.wrap (c:Int)=(c:Int):=D4 _ au;have hne0:=World.new_ne w1 ⟨E,0,none⟩ q0;have hne1:=World.new_ne w1 ⟨E,1,none⟩ q1;have hne2:=World.new_ne w1 ⟨E,2,none⟩ q2
  go_wp2_with fail
  go_region_held3 (λW=>W.cell? ⟨E,0,none⟩=some (.int .i64 (a:Int))/\W.cell? ⟨E,1,none⟩=some (.int .u64 (b:Int))/\W.cell? ⟨E,2,none⟩=some (.int .u32 (c:Int)))
   (first|go_keep|(go_split_ands;exact wG hb6 (by assumption) (by assumption) (by assumption))|(go_split_ands;exact wG hb5 (by assumption) (by assumption) (by assumption)))
   (first|(go_at_call 240;refine(C' _).mono ?_;rintro e w5 ⟨b5,rfl,hv5,-,hb5⟩)|(go_at_call 73;refine(HPUT.o _ _ _ ?_ ?_).mono ?_;(first | exact hv5 | exact hv5.below ((iU _ _).alloc (eO _) _));(first | exact xQ _ _ _ _ _ | exact zA hb5);rintro e w6 ⟨r6,rfl,hr6,hb6⟩))
  all_goals
   have h16:dp w1 w6:=by first | exact Vz hb5 hb6 | exact VA hb5 hb6
   have hB6:=Below.step hB1 hB1.size h16;have HR6:=ae (SO hr6 (base':=w.heap.size) (by have h1:=hb5.size;simp at h1 ⊢;omega));clear hb5 hb6 hv5 h16 hr6;go_wp2;refine kg (v:=.tuple #[r6,.int .i64 0]) (by simp[results,results233,go_sem]) rfl ⟨_,rfl,HR6.o,hB6⟩
theorem MI {ty:dD}{d:TypeDesc}(h:fn.results=#[.cell p ty])(hp:tmps.getD p undef=.pointer (some ⟨g,0,none⟩))(hg:ag w g t n f)(hu:P.underlying ty=some d)(hd: (match d with | .struct _ | .array _ _=>true | _=>false)=true)(hi: (P.info? ty).map (·.size)=some n):
 (results fn tmps).run P w=.ok (.agg (ah n f)) w:=by
 have hp':tmps[p]?.getD undef=bZ g 0:=by simp_all
 simp[results,h,hp',asAddr,SY w g t ty (ah n f) (0,0) d hg hu hd (by grind[aj])]
theorem ib {ty:dD}{d:TypeDesc}(h:fn.results=#[.cell p ty,.tmp q])(hp:tmps.getD p undef=.pointer (some ⟨g,0,none⟩))(hg:ag w g t n f)(hu:P.underlying ty=some d)(hd: (match d with | .struct _ | .array _ _=>true | _=>false)=true)(hi: (P.info? ty).map (·.size)=some n):
 (results fn tmps).run P w=.ok (.tuple #[.agg (ah n f),tmps.getD q undef]) w:=by
 have hp':tmps[p]?.getD undef=bZ g 0:=by simp_all
 simp[results,h,hp',asAddr,SY w g t ty (ah n f) (0,0) d hg hu hd (by grind[aj]),Result.andThen]
theorem Ib {r:Tmp}{ty:dD}{d:TypeDesc}(h:fn.results=#[.cell p ty,.tmp q,.tmp r])(hp:tmps.getD p undef=.pointer (some ⟨g,0,none⟩))(hg:ag w g t n f)(hu:P.underlying ty=some d)(hd: (match d with | .struct _ | .array _ _=>true | _=>false)=true)(hi: (P.info? ty).map (·.size)=some n):
 (results fn tmps).run P w=.ok (.tuple #[.agg (ah n f),tmps.getD q undef,tmps.getD r undef]) w:=by
 have hp':tmps[p]?.getD undef=bZ g 0:=by simp_all
 simp[results,h,hp',asAddr,SY w g t ty (ah n f) (0,0) d hg hu hd (by grind[aj]),Result.andThen]
def aN (p:aq):Nat->bh:=λi=>if i=0 then .int .i64 p.1 else if i=1 then .int .u64 p.2.1 else .int .u32 p.2.2
theorem aE (p:aq): ∀i,(aN p i).oneCell'=true:=by
 intro i;unfold aN;split
 . rfl
 . split <;> rfl
theorem sR (p:aq):ah 3 (aN p)=#[.int .i64 p.1,.int .u64 p.2.1,.int .u32 p.2.2]:=rfl
theorem Ap (p:aq):Value.agg (ah 3 (aN p))=iy p:=rfl
theorem eT: (prog.info? 106).map (·.size)=some 3:=cm
def vK (w:aD) (b:Nat) (p:aq):Prop:=ag w b 106 3 (aN p)
theorem vK.cells {p:aq}(h:vK w b p):w.cell? ⟨b,0,none⟩=some (.int .i64 p.1)/\w.cell? ⟨b,1,none⟩=some (.int .u64 p.2.1)/\w.cell? ⟨b,2,none⟩=some (.int .u32 p.2.2):=
 ⟨ag.cell h (i:=0) au,ag.cell h (i:=1) au,ag.cell h (i:=2) au⟩
theorem vK.new (w:aD)(p:aq):vK (w.alloc (.cells #[.int .i64 p.1,.int .u64 p.2.1,.int .u32 p.2.2] 106)) w.heap.size p:=Ju _ _
def wm (bs:aK):aq:=(et (bs.take 4),et ((bs.drop 4).take 8),et ((bs.drop 12).take 4))
def ks (bs:aK):Option aq:=if bs.length=16/\fP (wm bs)=true then some (wm bs) else none
theorem wH (h: ∀x∈l,x<256)(hn:l.length<=n):et l<256 ^ n:=
 by grind[Nat.lt_of_lt_of_le,Am,Nat.pow_le_pow_right]
theorem zB {bs:aK} (h: ∀x∈bs,x<256):bt (wm bs):=by
 refine⟨?_,?_,?_⟩
 . exact wH (n:=4) (λx hx=>h x (rD hx)) (length_take_le _ _)
 . exact wH (n:=8) (λx hx=>h x (vF (rD hx))) (length_take_le _ _)
 . exact wH (n:=4) (λx hx=>h x (vF (rD hx))) (length_take_le _ _)
theorem VD (bs:aK):kx [4,8,4] bs=if bs.length=16 then some [(wm bs).1,(wm bs).2.1,(wm bs).2.2] else none:=by
 unfold kx
 simp_all[getAll,wm,okW,nN]
theorem qg (u:bh)(bs:aK)(w:aD)(hu:br .u8 w u (aW bs))(hcap:qN u):
 yr 195 #[u] w (.tuple #[iy ((ks bs).getD hole),.int .i64 (codeF 51 (ks bs))]):=by
 have hby: ∀x∈bs,x<256:=sP (by obtain⟨_,_,_,_,h,_⟩:=hu;exact h);have HU:=ae hu;clear hu;have HCAP:=ae hcap;clear hcap;obtain⟨W0,hW0⟩:=gq (w.alloc (.cells #[.int .i64 0,.int .u64 0,.int .u32 0] 106));have hB0:dp w W0:=by rw[hW0];exact(iU _ _).alloc (eO _) _
 have hr0:vK W0 w.heap.size hole:=by rw[hW0];exact vK.new w hole
 have hs0:W0.heap.size=w.heap.size+1:=by rw[hW0];simp
 have hu0:br .u8 W0 u (aW bs):=HU.o.below (by rw[hW0];exact(iU _ _).alloc (eO _) _);have HW0:=ae hW0;clear hW0;have HU0:=ae hu0;clear hu0;have HR0:=ae hr0;clear hr0;obtain⟨E,hE⟩:=gq w.heap.size;rw[<-hE] at hs0;have hwE:w.heap.size<=E:=au;have HE:=ae hE;clear hE;have hvu: ∃a n c,u=.slice a n c:=by obtain⟨a,c,h,_⟩:=HU.o;exact⟨_,_,_,h⟩
 go_enter func195,ntmps195
 go_wp2_with fail
 rw[<-HW0.o,<-HE.o];refine(C' _).mono ?_;rintro e w1 ⟨b1,rfl,hv1,-,hb1⟩;have hB1:=Below.step hB0 hB0.size hb1;have hr1:=ag.below HR0.o hb1;have HU1:=ae (HU0.o.below hb1);have HR1:=ae hr1;have HV1:=ae hv1;clear hr1 hv1 HR0 HU0 hb1 hB0 HW0;obtain⟨a,n,c,rfl⟩:=hvu
 go_wp2_with fail
 refine(yC _ _ [4,8,4] bs (by decide) _ HV1.o HU1.o HCAP.o).mono ?_;rw[VD];rintro e w2 ⟨r2,rfl,hr2,hb2⟩;have hB2:=Below.step hB1 hB1.size hb2;have hrow:=ag.below HR1.o hb2;rw[<-HE.o] at hrow;have HRW:=ae hrow;clear hrow HR1 HU1 HV1 hb2 hB1;by_cases hl:bs.length=16
 case neg=>
  rw[bX hl];have hp:ks bs=none:=bX (λh=>hl h.1);have HP:=ae hp;clear hp hr2;have hc:codeF 21 (none:Option aK)=21:=rfl;rw[hc];clear hc
  go_wp2_with ((with_reducible refine gO ⟨none,.store 106 (.tmp 2) (.tmp 15),_,_,_,none⟩ ?_);refine wpList_store_row (o:=⟨none,.store 106 (.tmp 2) (.tmp 15),_,_,_,none⟩) rfl 106 (.tmp 2) (.tmp 15) rfl E rfl 3 (aN hole) _ rfl (sR hole).symm 106 (aN hole) HRW.o eT (aE _) ?_)
  refine kg (ib (p:=2) (q:=3) (ty:=106) rfl rfl (ag.setRow HRW.o (aN hole)) Ic rfl eT) rfl ⟨by rw[HP.o];rfl,Below.setRow hB2 hwE _⟩
 rw[bC hl] at hr2 ⊢;have hc:codeF 21 (some [(wm bs).1,(wm bs).2.1,(wm bs).2.2])=0:=rfl;rw[hc];clear hc;have hpp:=zB hby;obtain⟨hp1,hp2,hp3⟩:=hpp;have hrd:ks bs=if fP (wm bs)=true then some (wm bs) else none:=by
  unfold ks
  grind
 have HRD:=ae hrd;clear hrd hby hl;obtain⟨r,hr⟩:=cM (fP (wm bs));rw[hr] at HRD;have HRP:=ae hr;clear hr;obtain⟨p,hpd⟩:=cM (wm bs);rw[hpd] at HRD HRP hr2 hp1 hp2 hp3;clear hpd;rcases hr2.2 with⟨_,h0⟩ | ⟨g,d,cur,rfl,hbg,hg,_⟩
 . simp at h0
 have e0:=SU hr2 0 fh;have e1:=SU hr2 1 fh;have e2:=SU hr2 2 fh;simp at e0 e1 e2;have hgl:g<w2.heap.size:=(zY.1 hg).1;clear hr2 hg hbg;have wu1:IntKind.i64.wrap (p.1:Int)=(p.1:Int):=mT _ au;have wu2:IntKind.u32.wrap (p.2.2:Int)=(p.2.2:Int):=IntWalk.u32_in _ au;have hne0:=World.new_ne w2 ⟨g,0,none⟩ e0;have hne1:=World.new_ne w2 ⟨g,1,none⟩ e1;have hne2:=World.new_ne w2 ⟨g,2,none⟩ e2
 go_wp2_with fail
 go_region_held3 (λW=>W.cell? ⟨g,0,none⟩=some (.int .u64 (p.1:Int))/\W.cell? ⟨g,1,none⟩=some (.int .u64 (p.2.1:Int))/\W.cell? ⟨g,2,none⟩=some (.int .u64 (p.2.2:Int))) (go_keep) (fail)
 have hW3a:vK (w2.alloc (.cells #[.int .i64 p.1,.int .u64 p.2.1,.int .u32 p.2.2] 106)).drew w2.heap.size p:=vK.new w2 p;have hW3b:vK (w2.alloc (.cells #[.int .i64 p.1,.int .u64 p.2.1,.int .u32 p.2.2] 106)).drew E hole:=ag.alloc_old HRW.o _;have hB3:dp w (w2.alloc (.cells #[.int .i64 p.1,.int .u64 p.2.1,.int .u32 p.2.2] 106)).drew:=(hB2.alloc hB2.size _).drew;obtain⟨w3,hw3⟩:=gq ((w2.alloc (.cells #[.int .i64 p.1,.int .u64 p.2.1,.int .u32 p.2.2] 106)).drew);rw[<-hw3] at hW3a hW3b hB3 ⊢;obtain⟨F,hF⟩:=gq w2.heap.size;rw[<-hF] at hW3a ⊢;have HA:=ae hW3a;clear hW3a;have HBH:=ae hW3b;clear hW3b hw3 hF HRW hB2 e0 e1 e2 hne0 hne1 hne2 wu1 wu2
 go_wp2_with ((with_reducible refine gO ⟨some 28,.load 106 (.tmp 6),_,_,_,none⟩ ?_);refine my (o:=⟨some 28,.load 106 (.tmp 6),_,_,_,none⟩) rfl 106 (.tmp 6) rfl F rfl 3 106 _ HA.o _ Ic rfl eT ?_;rw[sR])
 refine(rG p _).mono ?_;rw[HRP.o];rintro e w4 ⟨rfl,hb4⟩;have hB4:=Below.step hB3 hB3.size hb4;have HA4:=ae (show vK w4 F p from ag.below HA.o hb4);have HB4:=ae (show vK w4 E hole from ag.below HBH.o hb4);clear hb4 HA HBH hB3;cases r with
 | false=>
  have HP:Hid (ks bs=none):=HRD.o
  go_wp2_with ((with_reducible refine gO ⟨none,.store 106 (.tmp 2) (.tmp 31),_,_,_,none⟩ ?_);refine wpList_store_row (o:=⟨none,.store 106 (.tmp 2) (.tmp 31),_,_,_,none⟩) rfl 106 (.tmp 2) (.tmp 31) rfl E rfl 3 (aN hole) _ rfl (sR hole).symm 106 (aN hole) HB4.o eT (aE _) ?_)
  refine kg (ib (p:=2) (q:=3) (ty:=106) rfl rfl (ag.setRow HB4.o (aN hole)) Ic rfl eT) rfl ⟨by rw[HP.o];rfl,Below.setRow hB4 hwE _⟩
 | true=>
  have HP:Hid (ks bs=some p):=HRD.o
  go_wp2_with (first|((with_reducible refine gO ⟨some 32,.load 106 (.tmp 6),_,_,_,none⟩ ?_);refine my (o:=⟨some 32,.load 106 (.tmp 6),_,_,_,none⟩) rfl 106 (.tmp 6) rfl F rfl 3 106 _ HA4.o _ Ic rfl eT ?_;rw[sR])|((with_reducible refine gO ⟨none,.store 106 (.tmp 2) (.tmp 32),_,_,_,none⟩ ?_);refine wpList_store_row (o:=⟨none,.store 106 (.tmp 2) (.tmp 32),_,_,_,none⟩) rfl 106 (.tmp 2) (.tmp 32) rfl E rfl 3 (aN p) _ rfl (sR p).symm 106 (aN hole) HB4.o eT (aE _) ?_))
  refine kg (ib (p:=2) (q:=3) (ty:=106) rfl rfl (ag.setRow HB4.o (aN p)) Ic rfl eT) rfl ⟨by rw[HP.o];rfl,Below.setRow hB4 hwE _⟩
def lF (st:Nat->Nat) (s:Nat):Nat->Nat
 | 0=>0
 | k+1=>lF st s k+if st (s+k)=1 then 1 else 0
def ey (st:Nat->Nat) (k:Nat):Nat:=lF st (64*k) 64
def ig (st:Nat->Nat) (i v:Nat):Nat->Nat:=λj=>if j=i then v else st j
def Aq (st:Nat->Nat):Nat->Nat
 | 0=>0
 | k+1=>Aq st k+ey st k
def cZ (st:Nat->Nat):Nat:=Aq st 16
def nq (st:Nat->Nat):Nat->Nat
 | 0=>0
 | k+1=>if ey st (nq st k)<ey st k then k else nq st k
def Da (st:Nat->Nat):Nat:=nq st 16
def firstFree (st:Nat->Nat) (s:Nat):Nat->Option Nat
 | 0=>none
 | k+1=>match firstFree st s k with
  | some i=>some i
  | none=>if st (s+k)=1 then some (s+k) else none
def iF (st:Nat->Nat):Option Nat:=firstFree st (64*Da st) 64
def manyN (st:Nat->Nat):Nat->aK×(Nat->Nat)
 | 0=>([],st)
 | k+1=>match iF (manyN st k).2 with
  | some i=>((manyN st k).1++[i],ig (manyN st k).2 i 2)
  | none=>manyN st k
def xR (T:Int):Nat->Nat:=λi=>if 4<=i/\(i:Int)<T/\i<1024 then 1 else 0
def qV (st:Nat->Nat):Nat->Nat:=λi=>if st i=3 then 1 else st i
theorem zC (st:Nat->Nat)(s k:Nat):lF st s (k+1)=lF st s k+if st (s+k)=1 then 1 else 0:=rfl
theorem Fq (st:Nat->Nat) (s k:Nat):lF st s k<=k:=by
 induction k with
 | zero=>simp[lF]
 | succ k ih=>grind[lF]
theorem MJ (st:Nat->Nat)(k:Nat):ey st k<=64:=Fq _ _ _
theorem Db {st st':Nat->Nat} {s k:Nat} (h: ∀i,s<=i->i<s+k->st i=st' i):lF st s k=lF st' s k:=by
 induction k<;>grind[lF]
theorem SZ (st:Nat->Nat)(s k m:Nat):lF st s (k+m)=lF st s k+lF st (s+k) m:=by
 induction m with
 | zero=>rfl
 | succ m ih=>
  rw[show k+ (m+1)=(k+m)+1 from rfl,zC,zC,ih,Vb s k m];omega
theorem Ab (st:Nat->Nat) (i v:Nat):ig st i v i=v:=by simp[ig]
theorem wI (st:Nat->Nat) {i j:Nat} (v:Nat) (h:j≠i):ig st i v j=st j:=by simp[ig,h]
theorem S4 {st:Nat->Nat} {i v:Nat} (h:st i=v):ig st i v=st:=by
 grind[ig]
theorem S5 (st:Nat->Nat) (i v u:Nat):ig (ig st i v) i u=ig st i u:=by
 grind[ig]
theorem yD (st:Nat->Nat) {i s k:Nat} (v:Nat) (h: ¬(s<=i/\i<s+k)):lF (ig st i v) s k=lF st s k:=
 by grind[Db,wI]
theorem JF (st:Nat->Nat) {i s k:Nat} (v:Nat) (h1:s<=i) (h2:i<s+k):
 lF (ig st i v) s k+ (if st i=1 then 1 else 0)=lF st s k+ (if v=1 then 1 else 0):=by
 induction k<;>grind[lF,yD,Ab,wI]
theorem Ie (st:Nat->Nat) {i k:Nat} (v:Nat) (h:i / 64≠k):ey (ig st i v) k=ey st k:=
 yD st v au
theorem S6 (st:Nat->Nat)(v:Nat)(h:i / 64=k):
 ey (ig st i v) k+ (if st i=1 then 1 else 0)=ey st k+ (if v=1 then 1 else 0):=
 JF st v au au
theorem MK (st:Nat->Nat) (k:Nat):Aq st k=lF st 0 (64*k):=by
 induction k with
 | zero=>rfl
 | succ k ih=>
  unfold Aq;rw[ih,show 64* (k+1)=64*k+64 from by omega,SZ,rC];rfl
theorem Ac (st:Nat->Nat):cZ st=lF st 0 1024:=MK st 16
theorem MM (st:Nat->Nat)(k:Nat):Aq st k<=64*k:=by grind[MK,Fq]
theorem PJ (st:Nat->Nat)(v:Nat)(h:i<1024):
 cZ (ig st i v)+ (if st i=1 then 1 else 0)=cZ st+ (if v=1 then 1 else 0):=by
 grind[Ac,JF]
theorem JG (st:Nat->Nat)(hk:0<k):nq st k<k:=by
 induction k with
 | zero=>omega
 | succ k ih=>
  unfold nq;split
  . omega
  . rcases Hy k with rfl | h
    . simp_all[nq]
    omega
theorem Rv (st:Nat->Nat):Da st<16:=JG st au
theorem Kv (st:Nat->Nat)(k:Nat): ∀j,j<k->ey st j<=ey st (nq st k)/\(j<nq st k->ey st j<ey st (nq st k)):=by
 induction k with
 | zero=>omega
 | succ k ih=>
  intro j hj;unfold nq;by_cases hlt:ey st (nq st k)<ey st k
  . grind
  . rw[bX hlt];by_cases hjk:j=k
    . subst hjk;refine⟨au,λh=>?_⟩;rcases Hy j with rfl | h0
      . grind[nq]
      . have:=JG st h0;omega
    grind
theorem S7 (st:Nat->Nat) {j:Nat} (h:j<16):ey st j<=ey st (Da st):=(Kv st 16 j h).1
theorem rH {s:Nat}(h:firstFree st s k=some i):s<=i/\i<s+k/\st i=1/\∀j,s<=j->j<i->st j≠1:=by
 have hn: ∀m,firstFree st s m=none->∀j,s<=j->j<s+m->st j≠1:=by
  intro m
  induction m<;>grind[firstFree]
 induction k<;>grind[firstFree]
theorem Fs {s:Nat}(h:firstFree st s k=none):lF st s k=0:=by
 induction k with
 | zero=>rfl
 | succ k ih=>
  unfold firstFree at h;split at h
  . cases h
  simp_all[lF]
theorem B5 {s:Nat}(h1:s<=i)(h2:i<s+k)(h:st i=1):0<lF st s k:=by
 induction k with
 | zero=>omega
 | succ k ih=>
  unfold lF
  grind
theorem Kw {s:Nat}(hn: ∀j,j<k->st (s+j)≠1)(h:st (s+k)=1)(m:Nat)(hm:k<m):firstFree st s m=some (s+k):=by
 have h0:firstFree st s k=none:=by
  cases hf:firstFree st s k with
  | none=>rfl
  | some i=>
   have:=rH hf;have h2:=hn (i - s) au
   grind
 induction m<;>grind[firstFree]
theorem Kx {s:Nat}(hn: ∀j,j<k->st (s+j)≠1):firstFree st s k=none:=by
 cases hf:firstFree st s k with
 | none=>rfl
 | some i=>
  have:=rH hf;have h2:=hn (i - s) au
  grind
theorem nW (h:iF st=some i):i<1024/\st i=1/\i / 64=Da st/\∀j,64*Da st<=j->j<i->st j≠1:=by
 have:=rH h
 grind[Rv]
theorem D5 (st:Nat->Nat):iF st=none↔cZ st=0:=by
 constructor
 . intro h;have h0:ey st (Da st)=0:=Fs h;have hs: ∀k,k<=16->Aq st k=0:=by
    intro k
    induction k<;>grind[Aq,S7]
   simp_all[cZ]
 . intro h;cases ha:iF st with
   | none=>rfl
   | some i=>
    have:=nW ha;rw[Ac] at h;have:=B5 (st:=st) (s:=0) (k:=1024) (i:=i) au au this.2.1;omega
theorem Ft (h:0<cZ st): ∃i,iF st=some i:=by
 cases ha:iF st with
 | none=>grind[D5]
 | some i=>grind
theorem Ky (h:iF st=some i):cZ (ig st i 2)+1=cZ st:=by
 have:=nW h;have h2:=PJ st 2 this.1
 grind
theorem wJ (st:Nat->Nat)(h:iF (manyN st k).2=some i):manyN st (k+1)=((manyN st k).1++[i],ig (manyN st k).2 i 2):=by
 rw[show manyN st (k+1)=(match iF (manyN st k).2 with | some i=>((manyN st k).1++[i],ig (manyN st k).2 i 2) | none=>manyN st k) from rfl,h]
theorem wK (st:Nat->Nat)(h:k<=cZ st):cZ (manyN st k).2+k=cZ st/\(manyN st k).1.length=k:=by
 induction k with
 | zero=>exact⟨rfl,rfl⟩
 | succ k ih=>
  obtain⟨h1,h2⟩:=ih au;obtain⟨i,hi⟩:=Ft (st:=(manyN st k).2) au;have:=Ky hi;rw[wJ st hi]
  grind
structure ek (b:Nat) (w w':aD):Prop where
 os:w'.os=w.os
 tape:w'.tape=w.tape
 output:w'.output=w.output
 size:w.heap.size<=w'.heap.size
 block: ∀k,k<w.heap.size->k≠b->w'.heap[k]? =w.heap[k]?
theorem ek.refl (b:Nat)(w:aD):ek b w w:=⟨rfl,rfl,rfl,eO _,λ_ _ _=>rfl⟩
theorem ek.trans (h:ek b w w1)(k:ek b w1 w2):ek b w w2:=
 ⟨k.os.trans h.os,k.tape.trans h.tape,k.output.trans h.output,kL h.size k.size,λi hi hb=>(k.block i (uj hi h.size) hb).trans (h.block i hi hb)⟩
theorem ek.lk {b:Nat} {w w':aD} (h:dp w w'):ek b w w':=⟨h.os,h.tape,h.output,h.size,λk hk _=>h.block k hk⟩
theorem ek.drew (h:ek b w w'):ek b w w'.drew:=⟨h.os,h.tape,h.output,h.size,h.block⟩
theorem ek.setCell (h:ek b w w')(o:Nat)(v:bh):ek b w (w'.setCell ⟨b,o,none⟩ v):=
 h.trans ⟨rfl,rfl,rfl,by simp,λk _ hk=>SH w' ⟨b,o,none⟩ k v hk⟩
theorem ek.below (h:ek b w w')(hB:B<=b)(hw:B<=w.heap.size):Below B w w':=
 ⟨h.os,h.tape,h.output,h.size,λk hk=>h.block k au au⟩
def mY (st rm:Nat->Nat):Nat->bh:=λi=>if i<1024 then .int .u8 (st i:Nat) else .int .i64 (rm (i - 1024):Nat)
theorem Dc (st rm:Nat->Nat) {i:Nat} (h:i<1024):mY st rm i=.int .u8 (st i:Nat):=bC h
theorem JH (st rm:Nat->Nat) (k:Nat):mY st rm (1024+k)=.int .i64 (rm k:Nat):=by
 simp_all[mY]
def bU (w:aD) (b:Nat) (st:Nat->Nat):Prop:=ag w b 206 1040 (mY st (ey st))
theorem bU.me (h:bU w c st)(hb:ek b w w')(hc:c≠b):bU w' c st:=by
 unfold bU ag;rw[hb.block c (ag.lt h) hc];exact h
theorem bU.below (h:bU w b st)(hb:dp w w'):bU w' b st:=ag.below h hb
theorem bU.state (h:bU w b st)(hi:i<1024):w.cell? ⟨b,i,none⟩=some (.int .u8 (st i:Nat)):=by
 have:=ag.cell h (i:=i) au
 grind[Dc]
theorem bU.room (h:bU w b st)(hk:k<16):w.cell? ⟨b,1024+k,none⟩=some (.int .i64 (ey st k:Nat)):=by
 have:=ag.cell h (i:=1024+k) au
 grind[JH]
theorem S8 (st rm:Nat->Nat)(q r:Nat): ∀j,(if j=1024+q then(.int .i64 r:bh) else mY st rm j)=mY st (λk=>if k=q then r else rm k) j:=by
 intro j;unfold mY
 grind
theorem wL (b:Nat)(st:Nat->Nat)(i:Int)(s:Nat)(w:aD)(hm:bU w b st)(hi:bT i):
 Calls prog 136 #[.pointer (some ⟨b,0,none⟩),.int .i64 i,.int .u8 s] w λe w'=>e=.returned (.bool (decide (0<=i/\i<1024/\st i.toNat=s)))/\w=w':=by
 unfold bT at hi;by_cases h0:i<0;have hd:decide (0<=i/\i<1024/\st i.toNat=s)=false:=iE au;rw[hd];have h0':decide (0<=i)=false:=iE au;clear hd
 rotate_left
 by_cases h1: ¬i<1024;have hd:decide (0<=i/\i<1024/\st i.toNat=s)=false:=iE au;rw[hd];have h0':decide (0<=i)=true:=ly au;have h1':decide (i<1024)=false:=iE au;clear hd
 rotate_left
 obtain⟨k,rfl⟩: ∃k:Nat,i=(k:Int):=⟨i.toNat,au⟩;have hk:k<1024:=au;have hc:=hm.state hk;have hd:decide (0<=(k:Int)/\(k:Int)<1024/\st (k:Int).toNat=s)=((st k:Int)==(s:Int)):=by
  grind
 rw[hd];obtain⟨x,hx⟩:=cM (st k);rw[hx] at hc ⊢;obtain⟨r,hr⟩:=cM (((x:Int)==(s:Int)));rw[hr];clear hd hx;have g0:decide ((0:Int)<=(k:Int))=true:=ly au;have g1:decide ((k:Int)<1024)=true:=ly au;have g2: (0:Int)<=(k:Int):=au;have g3: (k:Int)<1024:=au
 all_goals
  go_enter func136,ntmps136;go_wp2;go_ret;exact⟨rfl,rfl⟩
structure Head where
 n:Nat
 sb:Nat
 nb:Nat
 pv:bh
 ops:Nat
 left:Int
 dead:Bool
def jI (h:Head):Nat->bh:=λi=>
 if i=0 then .slice (some ⟨h.sb,0,none⟩) h.n h.n else if i=1 then .slice (some ⟨h.nb,0,none⟩) h.n h.n else if i=2 then h.pv
 else if i=3 then .int .i64 h.ops else if i=4 then .int .i64 h.left else .bool h.dead
def dG (w:aD) (D:Nat) (h:Head):Prop:=ag w D 127 6 (jI h)
theorem dG.cells {h:Head}(a:dG w D h):
 w.cell? ⟨D,0,none⟩=some (.slice (some ⟨h.sb,0,none⟩) h.n h.n)/\w.cell? ⟨D,1,none⟩=some (.slice (some ⟨h.nb,0,none⟩) h.n h.n)/\w.cell? ⟨D,2,none⟩=some h.pv/\
 w.cell? ⟨D,3,none⟩=some (.int .i64 h.ops)/\w.cell? ⟨D,4,none⟩=some (.int .i64 h.left)/\w.cell? ⟨D,5,none⟩=some (.bool h.dead):=
 ⟨ag.cell a (i:=0) au,ag.cell a (i:=1) au,ag.cell a (i:=2) au,ag.cell a (i:=3) au,ag.cell a (i:=4) au,ag.cell a (i:=5) au⟩
theorem dG.set {h h':Head}(a:dG w D h)(i:Nat)(v:bh)(hh: ∀j,j<6->(if j=i then v else jI h j)=jI h' j):dG (w.setCell ⟨D,i,none⟩ v) D h':=
 (ag.set a i v).congr hh
theorem dG.drew {h:Head}(a:dG w D h):dG w.drew D h:=a
theorem kA (D:Nat) (w:aD) (i:Nat) (v:bh):ek D w (w.setCell ⟨D,i,none⟩ v):=(ek.refl D w).setCell i v
theorem Yf (D:Nat)(h:Head)(w:aD)(a:dG w D h):Calls prog 84 #[.pointer (some ⟨D,0,none⟩)] w λe w'=>e=.returned (.int .i64 h.n)/\w=w':=by
 obtain⟨c0,-,-,-,-,-⟩:=a.cells;clear a;go_enter func84,ntmps84;go_wp2;go_ret;exact⟨rfl,rfl⟩
theorem VE (D:Nat)(h:Head)(w:aD)(a:dG w D h):Calls prog 82 #[.pointer (some ⟨D,0,none⟩)] w λe w'=>e=.returned (.bool h.dead)/\w=w':=by
 obtain⟨-,-,-,-,-,c5⟩:=a.cells;clear a;go_enter func82,ntmps82;go_wp2;go_ret;exact⟨rfl,rfl⟩
def sw (h:Head) (i:Int):Bool:=decide (0<=i/\i< (h.n:Int))
theorem zp (D:Nat)(h:Head)(i:Int)(w:aD)(a:dG w D h):Calls prog 182 #[.pointer (some ⟨D,0,none⟩),.int .i64 i] w λe w'=>e=.returned (.bool (sw h i))/\w=w':=by
 obtain⟨c0,-,-,-,-,-⟩:=a.cells;clear a;by_cases h0:0<=i;have hr:sw h i=decide (i< (h.n:Int)):=by
  unfold sw
  grind
 rw[hr];have g0:decide (0<=i)=true:=ly h0;clear hr;obtain⟨r,hr⟩:=cM (decide (i< (h.n:Int)));rw[hr]
 rotate_left
 have hr:sw h i=false:=iE (λx=>h0 x.1);rw[hr];have g0:decide (0<=i)=false:=iE h0;clear hr
 all_goals
  go_enter func182,ntmps182;go_wp2;go_ret;exact⟨rfl,rfl⟩
def dS (h:Head):Head:=if h.ops<4611686018427387903 then {h with ops:=h.ops+1} else h
theorem uq (D:Nat)(h:Head)(w:aD)(a:dG w D h):Calls prog 219 #[.pointer (some ⟨D,0,none⟩)] w λe w'=>e=.returned (.tuple #[])/\dG w' D (dS h)/\ek D w w':=by
 obtain⟨-,-,-,c3,-,-⟩:=a.cells;have cf:=ag.frozen a 3;have HA:=ae a;clear a;by_cases hl:h.ops<4611686018427387903
 . have hc:dS h= {h with ops:=h.ops+1}:=bC hl;rw[hc];have hl': (h.ops:Int)<4611686018427387903:=au;have hh: ∀j,j<6->(if j=3 then(.int .i64 ((h.ops:Int)+1):bh) else jI h j)=jI {h with ops:=h.ops+1} j:=by
    intro j hj;by_cases h3:j=3
    . subst h3;rw[bC rfl];unfold jI;simp
    . rw[bX h3];unfold jI;simp[h3]
   have HH:=ae (HA.o.set 3 (.int .i64 ((h.ops:Int)+1)) hh);have HB:=ae (kA D w 3 (.int .i64 ((h.ops:Int)+1)));clear hc hl hh;obtain⟨o,HO⟩:=qI h.ops;rw[HO.o] at c3 hl' HH HB;go_enter func219,ntmps219;go_wp2
   go_end0
   exact⟨rfl,by rw[HO.o];exact HH.o,HB.o⟩
 . have hc:dS h=h:=bX hl;rw[hc];have hl': ¬(h.ops:Int)<4611686018427387903:=au;clear hc hl;obtain⟨o,HO⟩:=qI h.ops;rw[HO.o] at c3 hl';go_enter func219,ntmps219;go_wp2
   go_end0
   exact⟨rfl,HA.o,ek.refl _ _⟩
def fT (h:Head):Head×Bool:=
 if h.left=0 then({h with dead:=true},false) else if h.dead=true then(h,false) else if 0<h.left then({h with left:=h.left - 1},true) else(h,true)
theorem xS (h:Head)(x:Int): ∀j,j<6->(if j=4 then(.int .i64 x:bh) else jI h j)=jI {h with left:=x} j:=by
 intro j hj;by_cases h3:j=4
 . subst h3;rfl
 simp_all[jI]
theorem JI (h:Head)(x:Bool): ∀j,j<6->(if j=5 then(.bool x:bh) else jI h j)=jI {h with dead:=x} j:=by
 intro j hj;by_cases h3:j=5
 . subst h3;rfl
 . rw[bX h3];grind[jI]
theorem xT (D:Nat)(h:Head)(hl: -1<=h.left/\h.left<=9223372036854775807)(w:aD)(a:dG w D h):Calls prog 261 #[.pointer (some ⟨D,0,none⟩)] w λe w'=>e=.returned (.bool (fT h).2)/\dG w' D (fT h).1/\ek D w w':=by
 obtain⟨-,-,-,-,c4,c5⟩:=a.cells;have f4:=ag.frozen a 4;have f5:=ag.frozen a 5;have HA:=ae a;clear a;by_cases h0:h.left=0
 . have hc:fT h=({h with dead:=true},false):=bC h0;rw[hc];have HH:=ae (HA.o.set 5 (.bool true) (JI h true));have HB:=ae (kA D w 5 (.bool true));rw[h0] at c4;clear hc h0 hl;go_enter func261,ntmps261;go_wp2;go_ret;exact⟨rfl,HH.o,HB.o⟩
 by_cases hd:h.dead=true;have hc:fT h=(h,false):=by unfold fT;rw[bX h0,bC hd]
 rw[hc];rw[hd] at c5;have g0: ((h.left:Int)==0)=false:=by rw[k'];exact h0
 clear hc h0 hd hl;obtain⟨l,hl⟩:=cM h.left;rw[hl] at c4 g0;have HL:=ae hl;clear hl
 rotate_left
 have hd':h.dead=false:=by simpa using hd
 rw[hd'] at c5;have g0: ((h.left:Int)==0)=false:=by rw[k'];exact h0
 by_cases hp:0<h.left
 . have hc:fT h=({h with left:=h.left - 1},true):=by unfold fT;rw[bX h0,bX hd,bC hp]
   rw[hc];have HH:=ae (HA.o.set 4 (.int .i64 (h.left - 1)) (xS h (h.left - 1)));have HB:=ae (kA D w 4 (.int .i64 (h.left - 1)));clear hc h0 hd hd';obtain⟨l,hl2⟩:=cM h.left;rw[hl2] at c4 g0 hp hl HH HB;have HL:=ae hl2;clear hl2;go_enter func261,ntmps261;go_wp2;go_ret;exact⟨rfl,by rw[HL.o];exact HH.o,HB.o⟩
 have hc:fT h=(h,true):=by unfold fT;rw[bX h0,bX hd,bX hp]
 rw[hc];clear hc h0 hd hd';obtain⟨l,hl2⟩:=cM h.left;rw[hl2] at c4 g0 hp hl;clear hl2
 all_goals
  go_enter func261,ntmps261;go_wp2;go_ret;exact⟨rfl,HA.o,ek.refl _ _⟩
def Fu (h:Head) (n:Int):Head:={h with left:=max n (-1)}
theorem Ta (D:Nat)(h:Head)(n:Int)(hn:bT n)(w:aD)(a:dG w D h):Calls prog 21 #[.pointer (some ⟨D,0,none⟩),.int .i64 n] w λe w'=>e=.returned (.tuple #[])/\dG w' D (Fu h n)/\ek D w w':=by
 unfold bT at hn;obtain⟨-,-,-,-,c4,-⟩:=a.cells;have f4:=ag.frozen a 4;have HA:=ae a;clear a;by_cases h1:n< -1;have hm:max n (-1)= -1:=au;have hb:Fu h n= {h with left:=-1}:=by unfold Fu;rw[hm]
 rw[hb];have HH:=ae (HA.o.set 4 (.int .i64 (-1)) (xS h (-1)));have HB:=ae (kA D w 4 (.int .i64 (-1)))
 rotate_left
 have hm:max n (-1)=n:=au;have hb:Fu h n= {h with left:=n}:=by unfold Fu;rw[hm]
 rw[hb];have HH:=ae (HA.o.set 4 (.int .i64 n) (xS h n));have HB:=ae (kA D w 4 (.int .i64 n))
 all_goals
  clear hm hb;go_enter func21,ntmps21;go_wp2
  go_end0
  exact⟨rfl,HH.o,HB.o⟩
def aw (s:aK):Nat->bh:=λj=>.int .u8 (s.getD j 0:Nat)
theorem bV (s:aK): ∀i,(aw s i).oneCell'=true:=λ_=>rfl
def aX:aK:=replicate 128 0
def yt (s:Nat->aK):Nat->bh:=λi=>.int .u8 ((s (i / 128)).getD (i % 128) 0:Nat)
def eQ (w:aD) (b n:Nat) (s:Nat->aK):Prop:=ag w b 36 (n*128) (yt s)
theorem Yg (s:Nat->aK)(i j:Nat)(h:j<128):yt s (i*128+j)=aw (s i) j:=by
 grind[yt,aw]
theorem eQ.range (h:eQ w b n s)(hi:i<n):w.rangeAt b (i*128) (ah 128 (aw (s i))).toList:=by
 intro j v hv;rw[qx,aF] at hv;split at hv
 . next hj=>
   cases hv;rw[<-Yg s i j hj];exact ag.cell h au
 . cases hv
theorem gk: (prog.info? 36).map (·.size)=some 128:=cm
theorem ij:zeroCells36=ah 128 (aw aX):=cm
structure ur (w:aD) (D:Nat) (h:Head) (st nw:Nat->aK):Prop where
 head:dG w D h
 dZ:eQ w h.sb h.n st
 dX:eQ w h.nb h.n nw
 apart:h.sb≠h.nb
 mZ:h.n<=1024
def Ar (h:Head) (nw:Nat->aK) (i:Int):aK×Int:=
 if sw h i=true then(if h.dead=true then(aX,42) else(nw i.toNat,0)) else(aX,41)
theorem ur.but {w w':aD} {D:Nat} {h h':Head} {st nw:Nat->aK} (a:ur w D h st nw) (hb:ek D w w') (hh:dG w' D h') (e:h'.n=h.n/\h'.sb=h.sb/\h'.nb=h.nb):ur w' D h' st nw:=by
 obtain⟨e1,e2,e3⟩:=e;have hk: ∀{b:Nat},eQ w b h.n st∨eQ w b h.n nw->b≠D:=by
  intro b hs e;have h1:=a.head
  grind[dG,ag,eQ]
 refine⟨hh,?_,?_,by rw[e2,e3];exact a.apart,by rw[e1];exact a.mZ⟩
 . rw[e1,e2];have:=hk (.inl a.dZ);unfold eQ ag;rw[hb.block _ a.dZ.lt this];exact a.dZ
 . rw[e1,e3];have:=hk (.inr a.dX);unfold eQ ag;rw[hb.block _ a.dX.lt this];exact a.dX
theorem ur.setRow {h:Head}{st:Nat->aK}(a:ur w D h st nw)(hD:D≠E)(h1:h.sb≠E)(h2:h.nb≠E)(cs:iw):ur (w.setRow E cs) D h st nw:=
 ⟨ag.setRow_other a.head hD cs,ag.setRow_other a.dZ h1 cs,ag.setRow_other a.dX h2 cs,a.apart,a.mZ⟩
theorem ek.setRow (h:ek D w w1)(hE:w.heap.size<=E)(cs:iw):ek D w (w1.setRow E cs):=
 ⟨h.os,h.tape,h.output,by rw[setRow_size];exact h.size,λk hk hkD=>(Pj w1 E k cs au).trans (h.block k hk hkD)⟩
theorem ik (h:Head): (dS h).n=h.n/\(dS h).sb=h.sb/\(dS h).nb=h.nb/\(dS h).dead=h.dead/\(dS h).left=h.left/\(dS h).pv=h.pv:=by
 unfold dS;grind
theorem VF (D:Nat)(h:Head)(st nw:Nat->aK)(i:Int)(hi:bT i)(w:aD)(a:ur w D h st nw):
 Calls prog 165 #[.pointer (some ⟨D,0,none⟩),.int .i64 i] w λe w'=>∃A,e=.returned (.tuple #[.agg A,.int .i64 (Ar h nw i).2])/\A=ah 128 (aw (Ar h nw i).1)/\ur w' D (dS h) st nw/\ek D w w':=by
 have HI:=ae hi;clear hi;obtain⟨W0,hW0⟩:=gq (w.alloc (.cells zeroCells36 36));have hr0:ag W0 w.heap.size 36 128 (aw aX):=by rw[hW0,ij];exact ag.alloc _ _ _ _
 have hB0:dp w W0:=by rw[hW0];exact(iU _ _).alloc (eO _) _
 have ha0:ur W0 D h st nw:=a.but (ek.lk hB0) (ag.below a.head hB0) ⟨rfl,rfl,rfl⟩;have hDl:D<w.heap.size:=a.head.lt;have hsl:h.sb<w.heap.size:=a.dZ.lt;have hnl:h.nb<w.heap.size:=a.dX.lt;obtain⟨E,hE⟩:=gq w.heap.size;rw[<-hE] at hr0 hDl hsl hnl;have hwE:w.heap.size<=E:=au;have hB0':ek D w W0:=ek.lk hB0;have HE:=ae hE;clear hE;have HW0:=ae hW0;clear hW0;have HA0:=ae ha0;clear ha0 a hB0;have HR0:=ae hr0;clear hr0;obtain⟨hn1,hn2,hn3,hn4,_,_⟩:=ik h;obtain⟨h2,hh2⟩:=cM (dS h);rw[hh2] at hn1 hn2 hn3 hn4 ⊢;have HN:=ae (And.intro hn1 (And.intro hn2 hn3));have HN4:=ae hn4;have hasE:sw h2 i=sw h i:=by unfold sw;rw[hn1]
 clear hn1 hn2 hn3 hn4;have HH2:=ae hh2;clear hh2;obtain⟨hs,hhs⟩:=cM (sw h i);rw[hhs] at hasE;have HAS:=ae hasE;clear hasE;have HHS:=ae hhs;clear hhs;go_enter func165,ntmps165
 go_wp2_with fail
 rw[<-HW0.o,<-HE.o];refine(uq D h _ HA0.o.head).mono ?_;rw[HH2.o];rintro e w1 ⟨rfl,hh1,hb1⟩;have hB1:=hB0'.trans hb1;have HA1:=ae (HA0.o.but hb1 hh1 HN.o);have hr1:ag w1 E 36 128 (aw aX):=by unfold ag;rw[hb1.block E HR0.o.lt au];exact HR0.o
 have HR1:=ae hr1;clear hr1 hh1 hb1 HR0 HA0 HW0 hB0'
 go_wp2_with fail
 refine(zp D h2 i _ HA1.o.head).mono ?_;rw[HAS.o];rintro e w2 ⟨rfl,rfl⟩;cases hs with
 | false=>
  have hrd:Ar h nw i=(aX,41):=by unfold Ar;rw[HHS.o];rfl
  have HRD:=ae hrd;clear hrd
  go_wp2_with ((with_reducible refine gO ⟨none,.store 36 (.tmp 4) (.tmp 12),_,_,_,none⟩ ?_);refine wpList_store_row (o:=⟨none,.store 36 (.tmp 4) (.tmp 12),_,_,_,none⟩) rfl 36 (.tmp 4) (.tmp 12) rfl E rfl 128 (aw aX) zeroCells36 rfl ij 36 (aw aX) HR1.o gk (bV _) ?_)
  refine kg (ib (p:=4) (q:=5) (ty:=36) rfl rfl (ag.setRow HR1.o (aw aX)) Ep rfl gk) rfl ?_;exact⟨_,by rw[HRD.o];rfl,by rw[HRD.o],HA1.o.setRow au (by have:=HN.o.2.1;omega) (by have:=HN.o.2.2;omega) _,hB1.setRow hwE _⟩
 | true=>
  obtain⟨hi0,hin⟩:=lK (HHS.o:decide (0<=i/\i< (h.n:Int))=true);obtain⟨-,c1,-,-,-,c5⟩:=HA1.o.head.cells;rw[HN4.o] at c5;by_cases hd:h.dead=true
  . have hrd:Ar h nw i=(aX,42):=by unfold Ar;rw[HHS.o,hd];rfl
    have HRD:=ae hrd;clear hrd;rw[hd] at c5;clear hd c1 hi0 hin
    go_wp2_with ((with_reducible refine gO ⟨none,.store 36 (.tmp 4) (.tmp 17),_,_,_,none⟩ ?_);refine wpList_store_row (o:=⟨none,.store 36 (.tmp 4) (.tmp 17),_,_,_,none⟩) rfl 36 (.tmp 4) (.tmp 17) rfl E rfl 128 (aw aX) zeroCells36 rfl ij 36 (aw aX) HR1.o gk (bV _) ?_)
    refine kg (ib (p:=4) (q:=5) (ty:=36) rfl rfl (ag.setRow HR1.o (aw aX)) Ep rfl gk) rfl ?_;exact⟨_,by rw[HRD.o];rfl,by rw[HRD.o],HA1.o.setRow au (by have:=HN.o.2.1;omega) (by have:=HN.o.2.2;omega) _,hB1.setRow hwE _⟩
  . have hd':h.dead=false:=by simpa using hd
    rw[hd'] at c5;obtain⟨q,rfl⟩: ∃q:Nat,i=(q:Int):=⟨i.toNat,au⟩;have hq:q<h.n:=au;have hrd:Ar h nw (q:Int)=(nw q,0):=by unfold Ar;rw[HHS.o,hd',BQ];rfl
    have HRD:=ae hrd;clear hrd hd hd';have hrg:=HA1.o.dX.range (i:=q) (by have:=HN.o.1;omega);have hq2: (q:Int)< (h2.n:Int):=by have:=HN.o.1;omega
    have hq0: (0:Int)<=(q:Int):=au;have hfew:=HA1.o.mZ;obtain⟨A,hA⟩:=gq (ah 128 (aw (nw q)));rw[<-hA] at hrg;have hAs:A.toList.length=128:=by rw[hA,p9,aj]
    have HAA:=ae hA;clear hA;have HRG:=ae hrg;clear hrg;have HAS2:=ae hAs;clear hAs;obtain⟨nb,hnb⟩:=cM h2.nb;obtain⟨nn,hnn⟩:=cM h2.n;rw[hnb,hnn] at c1;rw[hnn] at hq2 hfew;rw[hnb] at HRG;have HNB:=ae hnb;clear hnb;have HNN:=ae hnn;clear hnn
    go_upto_region 6 with(fail)
    go_wp2_with ((with_reducible refine gO ⟨some 24,.load 36 (.tmp 23),_,_,_,none⟩ ?_);refine wpList_load_mid (op:=⟨some 24,.load 36 (.tmp 23),_,_,_,none⟩) rfl 36 (.tmp 23) rfl nb (q*128) rfl A.toList _ HRG.o Ep rfl (by rw[HAS2.o];exact gk) ?_;rw[CK];refine wpList_store_row (o:=⟨none,.store 36 (.tmp 4) (.tmp 24),_,_,_,none⟩) rfl 36 (.tmp 4) (.tmp 24) rfl E rfl 128 (aw (nw q)) A rfl HAA.o 36 (aw aX) HR1.o gk (bV _) ?_)
    refine kg (ib (p:=4) (q:=5) (ty:=36) rfl rfl (ag.setRow HR1.o (aw (nw q))) Ep rfl gk) rfl ?_;exact⟨_,by rw[HRD.o];rfl,by rw[HRD.o],HA1.o.setRow au (by have:=HN.o.2.1;omega) (by have:=HN.o.2.2;omega) _,hB1.setRow hwE _⟩
theorem ZL: (prog.info? 36).map (λi=>(i.zero,i.size,i.bytes))=some (some (.agg zeroCells36),128,128):=cm
def lN (n:Nat):iw:=ah (n*128) (yt λ_=>aX)
theorem Tb (n:Nat):madeCells (Value.agg zeroCells36).cells (n*128)=lN n:=by
 have hc: (Value.agg zeroCells36).cells=ah 128 (aw aX):=by rfl
 rw[hc];apply ER;intro j;unfold lN;rw[aF];unfold madeCells;by_cases h:j<n*128
 . rw[bC h];simp only[Array.getElem?_map,aj];have hj:j % 128<128:=au
   simp_all[aw,getElem!_def,aF,yt]
 grind
theorem B6 (n:Nat)(hn:n<=1024)(W:aD): (Instr.makeSlice 124 (.int .i64 n) (.int .i64 n)).run prog W=.ok (.slice (some ⟨W.heap.size,0,none⟩) n n) (W.alloc (.cells (lN n) 36)):=by
 obtain⟨i0,hi,hz0,hz1,hz2⟩:=sC ZL;rw[run_make W 124 36 i0 (.agg zeroCells36) underlying124 hi hz0 .i64 .i64 (n:Nat) (n:Nat) au au rE au,hz1]
 grind[Tb]
def yn (s:Int):Nat:=(min (max s 0) 1024).toNat
def uu (n sb nb:Nat):Head:=⟨n,sb,nb,.slice none 0 0,0,-1,false⟩
theorem MN (n sb nb:Nat): (#[Value.slice (some ⟨sb,0,none⟩) n n,.slice (some ⟨nb,0,none⟩) n n,.slice none 0 0,.int .i64 0,.int .i64 (-1),.bool false]:iw)=ah 6 (jI (uu n sb nb)):=by
 rfl
theorem MO (w:aD)(n:Nat)(hn:n<=1024)(W:aD)(hW:W=(w.alloc (.cells (lN n) 36)).alloc (.cells (lN n) 36))(sb nb:Nat)(hb: (sb=w.heap.size/\nb=w.heap.size+1)∨(sb=w.heap.size+1/\nb=w.heap.size))(W':aD)(hW':W'=(W.alloc (.cells #[.slice (some ⟨sb,0,none⟩) n n,.slice (some ⟨nb,0,none⟩) n n,.slice none 0 0,.int .i64 0,.int .i64 (-1),.bool false] 127)).drew):
 ur W' (w.heap.size+1+1) (uu n sb nb) (λ_=>aX) (λ_=>aX)/\dp w W':=by
 have hz0:eQ (w.alloc (.cells (lN n) 36)) w.heap.size n λ_=>aX:=ag.alloc _ _ _ _;have hs1: (w.alloc (.cells (lN n) 36)).heap.size=w.heap.size+1:=by simp
 have hz1:eQ W (w.heap.size+1) n λ_=>aX:=by rw[hW,<-hs1];exact ag.alloc _ _ _ _
 have hB1:Below (w.heap.size+1) (w.alloc (.cells (lN n) 36)) W:=by rw[hW];exact(iU _ _).alloc au _
 have hs2:W.heap.size=w.heap.size+1+1:=by simp_all
 have hz0':eQ W w.heap.size n λ_=>aX:=by grind[ag.alloc_old,eQ]
 rw[MN] at hW';have hh:dG (W.alloc (.cells (ah 6 (jI (uu n sb nb))) 127)) (w.heap.size+1+1) (uu n sb nb):=by grind[ag.alloc,dG]
 have hz0c:eQ (W.alloc (.cells (ah 6 (jI (uu n sb nb))) 127)) w.heap.size n λ_=>aX:=ag.alloc_old hz0' _;have hz1c:eQ (W.alloc (.cells (ah 6 (jI (uu n sb nb))) 127)) (w.heap.size+1) n λ_=>aX:=ag.alloc_old hz1 _;have hB:dp w W':=by
  rw[hW',hW];exact((((iU _ _).alloc (eO _) _).alloc au _).alloc rE _).drew
 refine⟨?_,hB⟩;rw[hW'];rcases hb with⟨rfl,rfl⟩ | ⟨rfl,rfl⟩
 . exact⟨hh,hz0c,hz1c,by grind[uu],hn⟩
 . exact⟨hh,hz1c,hz0c,by grind[uu],hn⟩
theorem Yh (s:Int)(hs:bT s)(w:aD):
 Calls prog 37 #[.int .i64 s] w λe w'=>∃D sb nb,e=.returned (.pointer (some ⟨D,0,none⟩))/\(ur w' D (uu (yn s) sb nb) (λ_=>aX) (λ_=>aX)/\dp w w')/\w.heap.size<=D/\w.heap.size<=sb/\w.heap.size<=nb:=by
 obtain⟨n,hn⟩:=cM (yn s);rw[hn];unfold bT at hs;have hl:n<=1024:=by unfold yn at hn;omega
 have HF:=ae (MO w n hl _ rfl);by_cases h0:s<0;obtain rfl:n=0:=by unfold yn at hn;omega
 have hm: ∀W:aD,(Instr.makeSlice 124 (.int .i64 0) (.int .i64 0)).run prog W=.ok (.slice (s_ W.heap.size 0) 0 0) (W.alloc (.cells (lN 0) 36)):=λW=>B6 0 au W
 rotate_left
 by_cases h1:1024<s;obtain rfl:n=1024:=by unfold yn at hn;omega
 have hm: ∀W:aD,(Instr.makeSlice 124 (.int .i64 1024) (.int .i64 1024)).run prog W=.ok (.slice (s_ W.heap.size 0) 1024 1024) (W.alloc (.cells (lN 1024) 36)):=λW=>B6 1024 au W
 rotate_left
 obtain rfl:s=(n:Int):=by unfold yn at hn;omega
 have hm: ∀W:aD,(Instr.makeSlice 124 (.int .i64 n) (.int .i64 n)).run prog W=.ok (.slice (s_ W.heap.size 0) n n) (W.alloc (.cells (lN n) 36)):=λW=>B6 n au W
 all_goals
  clear hn;go_enter func37,ntmps37;go_wp2
  go_region
  all_goals (go_wp2;go_ret;first|exact⟨_,_,_,rfl,HF.o _ _ (.inl ⟨rfl,rfl⟩) _ rfl,au,by omega,au⟩|exact⟨_,_,_,rfl,HF.o _ _ (.inr ⟨rfl,rfl⟩) _ rfl,au,by omega,au⟩)
structure jv (B:Nat) (l:aK) (w w':aD):Prop where
 os:w'.os=w.os
 tape:w'.tape=w.tape
 output:w'.output=w.output
 size:w.heap.size<=w'.heap.size
 block: ∀k,k<B->k∉l->w'.heap[k]? =w.heap[k]?
theorem jv.refl (B:Nat)(l:aK)(w:aD):jv B l w w:=⟨rfl,rfl,rfl,eO _,λ_ _ _=>rfl⟩
theorem jv.trans (h:jv B l w w1)(k:jv B l w1 w2):jv B l w w2:=
 ⟨k.os.trans h.os,k.tape.trans h.tape,k.output.trans h.output,kL h.size k.size,λi hi hl=>(k.block i hi hl).trans (h.block i hi hl)⟩
theorem jv.mono {B':Nat}(h:jv B l w w')(hB:B'<=B)(hl: ∀k,k<B'->k∈l->k∈l'):jv B' l' w w':=
 ⟨h.os,h.tape,h.output,h.size,λk hk hn=>h.block k au λhm=>hn (hl k hk hm)⟩
theorem jv.drew (h:jv B l w w'):jv B l w w'.drew:=⟨h.os,h.tape,h.output,h.size,h.block⟩
theorem jv.lk {B:Nat} {w w':aD} (h:Below B w w') (l:aK):jv B l w w':=⟨h.os,h.tape,h.output,h.size,λk hk _=>h.block k hk⟩
theorem jv.below (h:jv B [] w w'):Below B w w':=⟨h.os,h.tape,h.output,h.size,λk hk=>h.block k hk fh⟩
theorem jv.me (h:ek b w w')(hB:B<=w.heap.size)(hb:b∈l∨B<=b):jv B l w w':=
 ⟨h.os,h.tape,h.output,h.size,λk hk hn=>h.block k au rE⟩
theorem jv.setCell (h:jv B l w w')(hb:b∈l∨B<=b)(o:Nat)(v:bh):jv B l w (w'.setCell ⟨b,o,none⟩ v):=
 ⟨h.os,h.tape,h.output,by simpa using h.size,λk hk hn=>(SH w' ⟨b,o,none⟩ k v rE).trans (h.block k hk hn)⟩
theorem jv.setRow (h:jv B l w w')(hb:b∈l∨B<=b)(cs:iw):jv B l w (w'.setRow b cs):=
 ⟨h.os,h.tape,h.output,by rw[setRow_size];exact h.size,λk hk hn=>(Pj w' b k cs rE).trans (h.block k hk hn)⟩
theorem jv.alloc {B:Nat} {l:aK} {w w':aD} (h:jv B l w w') (hB:B<=w'.heap.size) (o:Obj):jv B l w (w'.alloc o):=
 h.trans (jv.lk ((iU _ _).alloc hB o) l)
theorem ag.save (h:ag w b t n f)(s:jv B l w w')(hB:b<B)(hl:b∉l):ag w' b t n f:=by
 unfold ag;rw[s.block b hB hl];exact h
theorem Kz {e:Nat}(h:w.ownsRow base e size v n xs)(s:jv B l w w')(hb: ∀b,v.ownBlock=some b->b<B/\b∉l):w'.ownsRow base e size v n xs:=by
 refine⟨h.1,?_⟩;rcases h.2 with h2 | ⟨g,cap,cur,rfl,h1,h2,h3⟩
 . grind
 . obtain⟨hg,hgl⟩:=hb g rfl;exact .inr ⟨g,cap,cur,rfl,h1,by rw[s.block g hg hgl];exact h2,h3⟩
def lG (ps:List (Nat×aK)):List bh:=ps.flatMap λp=>.int .i64 (p.1:Nat):: (ah 128 (aw p.2)).toList
theorem JJ (ps:List (Nat×aK)): (lG ps).length=ps.length*129:=by
 induction ps<;>grind[lG,aj]
theorem PK (ps:List (Nat×aK)) (i:Nat) (s:aK):lG (ps++[(i,s)])=lG ps++(.int .i64 i:: (ah 128 (aw s)).toList):=by
 grind[lG]
structure iG (w:aD) (D:Nat) (h:Head) (st nw:Nat->aK) (ps:List (Nat×aK)):Prop extends ur w D h st nw where
 nr:w.ownsRow 0 129 129 h.pv ps.length (lG ps)
 inside: ∀p∈ps,p.1<h.n
def bY (D:Nat) (h:Head):aK:=D::h.sb::h.nb:: (match h.pv.ownBlock with | some b=> [b] | none=> [])
theorem iG.save {h:Head}{st:Nat->aK}(a:iG w D h st nw ps)(s:jv B l w w')(hk: ∀k∈bY D h,k<B/\k∉l):iG w' D h st nw ps:=by
 have hD:=hk D (by simp[bY]);have hs:=hk h.sb (by simp[bY]);have hn:=hk h.nb (by simp[bY]);refine⟨⟨ag.save a.head s hD.1 hD.2,ag.save a.dZ s hs.1 hs.2,ag.save a.dX s hn.1 hn.2,a.apart,a.mZ⟩,Kz a.nr s λb hb=>hk b (by simp[bY,hb]),a.inside⟩
theorem nX (h:Head): (fT h).1.n=h.n/\(fT h).1.sb=h.sb/\(fT h).1.nb=h.nb/\(fT h).1.pv=h.pv:=by
 unfold fT
 grind
theorem As (D:Nat)(h:Head)(hl: -1<=h.left/\h.left<=9223372036854775807)(i:Int)(A:iw)(w:aD)(a:dG w D h)(hno:sw h i=false∨(fT (dS h)).2=false):
 Calls prog 227 #[.pointer (some ⟨D,0,none⟩),.int .i64 i,.agg A] w λe w'=>
  (e=.returned (.int .i64 (if sw h i=true then 42 else 41)))/\dG w' D (if sw h i=true then(fT (dS h)).1 else dS h)/\ek D w w':=by
 obtain⟨W0,HW0⟩:=BU (w.alloc (.cells A 36));have hB0:dp w W0:=by rw[HW0.o];exact(iU _ _).alloc (eO _) _
 have ha0:dG W0 D h:=ag.below a hB0;have hb0:ek D w W0:=ek.lk hB0;have HA0:=ae ha0;clear ha0 a hB0;obtain⟨hn1,-,-,-,hn5,-⟩:=ik h;have hasE:sw (dS h) i=sw h i:=by unfold sw;rw[hn1]
 have hl2: -1<=(dS h).left/\(dS h).left<=9223372036854775807:=by rw[hn5];exact hl
 have HASE:=ae hasE;clear hasE hn1 hn5 hl;obtain⟨h2,HH2⟩:=qI (dS h);rw[HH2.o] at hno hl2 ⊢;have HL:=ae hl2;clear hl2;obtain⟨hs,HHS⟩:=qI (sw h i);rw[HHS.o] at hno ⊢;have HNO:=ae hno;clear hno;go_enter func227,ntmps227
 go_wp2_with fail
 rw[<-HW0.o];refine(uq D h _ HA0.o).mono ?_;rw[HH2.o];rintro e w1 ⟨rfl,hh1,hb1⟩;have HB1:=ae (hb0.trans hb1);have HA1:=ae hh1;clear hh1 hb1 HA0 hb0
 go_wp2_with fail
 refine(zp D h2 i _ HA1.o).mono ?_;rw[<-HH2.o,HASE.o,HHS.o];rintro e w2 ⟨rfl,rfl⟩;cases hs with
 | false=>
  go_wp2_with fail
  go_ret;exact⟨by simp,by simpa using HA1.o,HB1.o⟩
 | true=>
  go_wp2_with fail
  refine(xT D h2 HL.o _ HA1.o).mono ?_;have hsp: (fT h2).2=false:=by have:=HNO.o;simpa using this
  rw[hsp];clear hsp;rintro e w3 ⟨rfl,hh3,hb3⟩;have HB3:=ae (HB1.o.trans hb3);have HA3:=ae hh3;clear hh3 hb3
  go_wp2_with fail
  go_ret;exact⟨by simp,by simpa using HA3.o,HB3.o⟩
def D6 (f:Nat->bh) (o n:Nat) (g:Nat->bh):Nat->bh:=λi=>if o<=i/\i<o+n then g (i - o) else f i
theorem ag.setCells {b:Nat} {t:dD} {n:Nat}: ∀(vs:List bh) (o:Nat) {w:aD} {f:Nat->bh},ag w b t n f->
 ag (w.setCells b o vs) b t n (D6 f o vs.length λj=>vs.getD j (.int .u8 0))
 | [],o,w,f,h=>ag.congr h λj _=>by simp_all[D6,bX]
 | v::r,o,w,f,h=>by
  rw[World.setCells];refine ag.congr (ag.setCells r (o+1) (ag.set h o v)) λj _=>?_;unfold D6
  grind
theorem ek.setCells (b:Nat): ∀(vs:List bh) (o:Nat) (w:aD),ek b w (w.setCells b o vs)
 | [],_,w=>ek.refl b w
 | v::r,o,w=>by
  rw[World.setCells];exact(kA b w o v).trans (ek.setCells b r (o+1) _)
def jw (s:Nat->aK) (q:Nat) (x:aK):Nat->aK:=λi=>if i=q then x else s i
theorem eQ.put (h:eQ w b n s)(q:Nat)(x:aK):
 eQ (w.setCells b (q*128) (ah 128 (aw x)).toList) b n (jw s q x):=by
 refine ag.congr (ag.setCells (ah 128 (aw x)).toList (q*128) h) λj _=>?_;unfold D6 yt jw;rw[p9,aj];by_cases hj:q*128<=j/\j<q*128+128
 . rw[bC hj,bC (show j / 128=q from au),show j % 128=j - q*128 from by omega];show(ah 128 (aw x)).toList.getD (j - q*128) (.int .u8 0)=_;rw[DZ,qx,aF,bC au];rfl
 grind
theorem eQ.there {q:Nat}(h:eQ w b n s)(hq:q<n):w.there b (q*128) 128:=λj hj=>
 ⟨by rw[ag.cell h au];rfl,ag.frozen h _⟩
theorem Ey: (prog.info? 129).map (λi=>(i.zero,i.size,i.bytes))=some (some (.agg zeroCells129),129,136):=cm
theorem Yi (x:bh)(A:iw)(hA:A.size=128):
 Array.foldl (λ(cs:iw) (y:bh×Nat)=>cs.setIfInBounds (1+y.snd) y.fst) (zeroCells129.setIfInBounds 0 x) A.zipIdx 0 128=#[x]++A:=by
 have hz:zeroCells129.size=129:=cm;generalize zeroCells129=Z at hz;rw[show 128=A.zipIdx.size from by simp[hA],<-Array.foldl_toList,Array.toList_zipIdx];apply ER;intro k;have hf:=λc=>(Great.foldl_set 1 A.toList 0 c).2 k;rw[hf];simp only[p9,hA];by_cases h0:k=0
 . grind
 . by_cases h1:k<129
   . rw[bC (by simp;omega),Array.getElem?_append_right (by simp;omega)];simp
   grind
def du (w:aD) (k:Nat):Option dD:=match w.heap[k]? with | some (.cells _ t _)=>some t | _=>none
def fk (t:dD):Bool:=decide (t=127∨t=129∨t=36)
def df (t:dD):Bool:=decide (t=206∨t=147∨t=145∨t=101)
def ki (w:aD) (D:Nat):aK:=match w.heap[D]? with
 | some (.cells cs _ _)=>D:: (((cs[0]?.bind Value.ownBlock).toList++(cs[1]?.bind Value.ownBlock).toList)++(cs[2]?.bind Value.ownBlock).toList)
 | _=> []
theorem lO {w w':aD} {D:Nat} (h:w'.heap[D]? =w.heap[D]?):ki w' D=ki w D:=by grind[ki]
def VG (w:aD) (d:Option Nat) (l:aK) (k:Nat):Prop:=∃t,du w k=some t/\((∃D,d=some D/\fk t=true/\k∈ki w D)∨(df t=true/\k∈l))
structure Fr (d:Option Nat) (l:aK) (w w':aD):Prop where
 os:w'.os=w.os
 tape:w'.tape=w.tape
 output:w'.output=w.output
 size:w.heap.size<=w'.heap.size
 block: ∀k,k<w.heap.size->¬VG w d l k->w'.heap[k]? =w.heap[k]?
 Yj: ∀D,d=some D->du w D=some 127/\du w' D=some 127
 dev: ∀D,d=some D->∀k∈ki w' D,k∈ki w D∨w.heap.size<=k
theorem pR {w w':aD} {k:Nat} (h:w'.heap[k]? =w.heap[k]?):du w' k=du w k:=by grind[du]
theorem c7 (h:du w b=some t):b<w.heap.size:=by
 grind[du]
theorem ag.ty (h:ag w b t n f):du w b=some t:=by
 grind[ag,du]
theorem VH (h:w'.heap[D]? =w.heap[D]?): ∀k∈ki w' D,k∈ki w D∨w.heap.size<=k:=by grind[lO]
theorem Fr.refl (d:Option Nat)(l:aK)(w:aD)(hd: ∀D,d=some D->du w D=some 127):Fr d l w w:=⟨rfl,rfl,rfl,eO _,λ_ _ _=>rfl,λD e=>⟨hd D e,hd D e⟩,λD _ k hk=>.inl hk⟩
theorem Fr.lk {w w':aD} (h:dp w w') (d:Option Nat) (l:aK) (hd: ∀D,d=some D->du w D=some 127):Fr d l w w':=
 ⟨h.os,h.tape,h.output,h.size,λk hk _=>h.block k hk,λD e=>⟨hd D e,by rw[pR (h.block D (c7 (hd D e)))];grind⟩,λD e=>VH (h.block D (c7 (hd D e)))⟩
theorem Fr.xU (h:dp w w')(l:aK):Fr none l w w':=by grind[Fr.lk]
theorem Fr.below (h:Fr none [] w w'):dp w w':=
 ⟨h.os,h.tape,h.output,h.size,λk hk=>h.block k hk (by grind[VG])⟩
theorem Fr.step {d2:Option Nat}(h:Fr d l w w1)(h2:Fr d2 l2 w1 w2)(hd: ∀D,d2=some D->d=some D)(hl: ∀k∈l2,k∈l∨w.heap.size<=k):Fr d l w w2:=by
 have keepD: ∀D,d=some D->d2≠some D->w2.heap[D]? =w1.heap[D]?:=by
  intro D e e2;have t1:=(h.Yj D e).2;refine h2.block D (c7 t1) ?_;rintro⟨t,ht,hc⟩;rw[t1] at ht;cases ht;rcases hc with⟨D',a,b,c⟩ | ⟨a,b⟩
  . grind
  . exact absurd a nh
 refine⟨h2.os.trans h.os,h2.tape.trans h.tape,h2.output.trans h.output,kL h.size h2.size,λk hk hn=>?_,λD e=>⟨(h.Yj D e).1,?_⟩,λD e k hk=>?_⟩
 . have e:=h.block k hk hn;rw[<-e];refine h2.block k (uj hk h.size) ?_;rintro⟨t,ht,hc⟩;rw[pR e] at ht;refine hn ⟨t,ht,?_⟩;rcases hc with⟨D,a,b,c⟩ | ⟨a,b⟩
   . exact .inl ⟨D,hd D a,b,(h.dev D (hd D a) k c).resolve_right au⟩
   grind
 . by_cases e2:d2=some D
   . exact(h2.Yj D e2).2
   . rw[pR (keepD D e e2)];exact(h.Yj D e).2
 . by_cases e2:d2=some D
   . rcases h2.dev D e2 k hk with h3 | h3
     . exact h.dev D e k h3
     . exact .inr (kL h.size h3)
   . rw[lO (keepD D e e2)] at hk;exact h.dev D e k hk
theorem Fr.trans (h:Fr d l w w1)(h2:Fr d l w1 w2):Fr d l w w2:=h.step h2 (λ_ e=>e) λ_ hk=>.inl hk
theorem Fr.aa6 (h:Fr d l w w1)(h2:Fr none l2 w1 w2)(hl: ∀k∈l2,k∈l∨w.heap.size<=k):Fr d l w w2:=h.step h2 (by intros;contradiction) hl
theorem Fr.mono {d':Option Nat}(h:Fr d l w w')(h0: ∀D,d'=some D->du w D=some 127)(hd: ∀D,d=some D->d'=some D)(hl: ∀k∈l,k∈l'∨w.heap.size<=k):Fr d' l' w w':=(Fr.refl d' l' w h0).step h hd hl
theorem Fr.Rw (h:Fr d l w w1)(h2:dp w1 w2):Fr d l w w2:=h.aa6 (Fr.xU h2 []) fh
theorem Fr.drew (h:Fr d l w w'):Fr d l w w'.drew:=⟨h.os,h.tape,h.output,h.size,h.block,h.Yj,h.dev⟩
theorem Fr.alloc {d:Option Nat} {l:aK} {w w':aD} (h:Fr d l w w') (o:Obj):Fr d l w (w'.alloc o):=h.Rw ((iU _ _).alloc (eO _) o)
theorem Fr.At (h:Fr d l w w1)(hb:w.heap.size<=b)(h2:ek b w1 w2):Fr d l w w2:=by
 have keepD: ∀D,d=some D->w2.heap[D]? =w1.heap[D]?:=λD e=>
  h2.block D (c7 (h.Yj D e).2) (by rintro rfl;exact absurd (c7 (h.Yj _ e).1) au)
 exact⟨h2.os.trans h.os,h2.tape.trans h.tape,h2.output.trans h.output,kL h.size h2.size,λk hk hn=>(h2.block k (uj hk h.size) au).trans (h.block k hk hn),
  λD e=>⟨(h.Yj D e).1,by rw[pR (keepD D e)];exact(h.Yj D e).2⟩,λD e k hk=>by rw[lO (keepD D e)] at hk;exact h.dev D e k hk⟩
theorem Fr.setCell (h:Fr d l w w'){o:Nat}(ha:w.heap.size<=b)(v:bh):Fr d l w (w'.setCell ⟨b,o,none⟩ v):=h.At ha (kA b w' o v)
theorem Fr.setRow (h:Fr d l w w')(hb:w.heap.size<=b)(cs:iw):Fr d l w (w'.setRow b cs):=
 h.At hb ⟨rfl,rfl,rfl,by simp_all,λk _ hk=>Pj w' b k cs hk⟩
theorem Fr.grown {d:Option Nat} {l:aK} {w w' w2:aD} {row:Option Nat} (h:Fr d l w w') (hg:w'.grownBy w2 row) (hr: ∀k,row=some k->w.heap.size<=k):Fr d l w w2:=by
 cases row with
 | none=>exact h.Rw ⟨hg.os,hg.tape,hg.output,hg.size,λk hk=>hg.block k hk fh⟩
 | some b=>exact h.At (hr b rfl) ⟨hg.os,hg.tape,hg.output,hg.size,λk hk hn=>hg.block k hk rE⟩
theorem Fr.me (h:ek b w w')(ht:du w b=some t)(ho:df t=true)(hb:b∈l):Fr none l w w':=
 ⟨h.os,h.tape,h.output,h.size,λk hk hn=>h.block k hk (by rintro rfl;exact hn ⟨t,ht,.inr ⟨ho,hb⟩⟩),(by intros;contradiction),(by intros;contradiction)⟩
theorem Fr.bS (h:Fr d l w w')(ht:du w k=some t)(h1:d=none∨fk t=false)(h2:df t=false∨k∉l):w'.heap[k]? =w.heap[k]?:=by
 refine h.block k (c7 ht) ?_
 grind[VG]
theorem Fr.Fv (h:Fr (some D) l w w')(ht:du w k=some t)(h1:k∉ki w D)(h2:df t=false∨k∉l):w'.heap[k]? =w.heap[k]?:=by
 refine h.block k (c7 ht) ?_
 grind[VG]
theorem Fr.VI {D:Nat} {l:aK} {w w':aD} (h:Fr (some D) l w w') {k:Nat} (hk:k<w.heap.size) (h1:k∉ki w D):k∉ki w' D:=λhm=>by
 rcases h.dev D rfl k hm with h2 | h2<;>grind
theorem ag.fr {d:Option Nat} {l:aK} {w w':aD} {b:Nat} {t:dD} {n:Nat} {f:Nat->bh} (h:ag w b t n f) (s:Fr d l w w') (h1:d=none∨fk t=false) (h2:df t=false∨b∉l):ag w' b t n f:=by
 have:=s.bS h.ty h1 h2
 grind[ag]
theorem ag.frX (h:ag w b t n f)(s:Fr (some D) l w w')(h1:b∉ki w D)(h2:df t=false∨b∉l):ag w' b t n f:=by
 have:=s.Fv h.ty h1 h2
 grind[ag]
theorem rI {d:Option Nat} {l:aK} {w w':aD} {base:Nat} {e:dD} {size:Nat} {v:bh} {n:Nat} {xs:List bh} (h:w.ownsRow base e size v n xs) (s:Fr d l w w') (h1:d=none∨fk e=false) (h2:df e=false):w'.ownsRow base e size v n xs:=by
 refine⟨h.1,?_⟩;rcases h.2 with h3 | ⟨g,cap,cur,rfl,hb,hg,hr⟩
 . grind
 . refine .inr ⟨g,cap,cur,rfl,hb,?_,hr⟩;rw[s.bS (t:=e) (by grind[du]) h1 (.inl h2)];exact hg
theorem oD {w:aD} {base base':Nat} {e:dD} {size:Nat} {v:bh} {n:Nat} {xs:List bh} (h:w.ownsRow base e size v n xs) (hb:base'<=base):w.ownsRow base' e size v n xs:=
 ⟨h.1,h.2.imp id λ⟨g,cap,cur,h1,h2,r⟩=>⟨g,cap,cur,h1,kL hb h2,r⟩⟩
theorem bU.fr {d:Option Nat} {l:aK} {w w':aD} {b:Nat} {st:Nat->Nat} (h:bU w b st) (s:Fr d l w w') (h2:b∉l):bU w' b st:=ag.fr h s (.inr rfl) (.inr h2)
structure Dv where
 n:Nat
 st:Nat->aK
 nw:Nat->aK
 ps:List (Nat×aK)
 ops:Nat
 left:Int
 dead:Bool
def Dv.head (d:Dv) (sb nb:Nat) (pv:bh):Head:=⟨d.n,sb,nb,pv,d.ops,d.left,d.dead⟩
def fa (s:aK):Prop:=s.length=128/\∀x∈s,x<256
structure nO (d:Dv):Prop where
 st: ∀i,fa (d.st i)
 nw: ∀i,fa (d.nw i)
 ps: ∀p∈d.ps,fa p.2
 mZ:d.ps.length<=d.ops
 ops:d.ops<=4611686018427387903
 left: -1<=d.left/\d.left<=9223372036854775807
def eU (w:aD) (D:Nat) (d:Dv):Prop:=nO d/\∃sb nb pv,iG w D (d.head sb nb pv) d.st d.nw d.ps
theorem eU.ok {d:Dv}(h:eU w D d):nO d:=h.1
theorem iG.ki {w:aD} {D:Nat} {h:Head} {st nw:Nat->aK} {ps:List (Nat×aK)} (a:iG w D h st nw ps):ki w D=bY D h:=by
 have e:w.heap[D]? =some (.cells (ah 6 (jI h)) 127 (0,0)):=a.head;unfold Proofs.YtklligbjoplbgaaGreat.ki bY;rw[e];have e0: (ah 6 (jI h))[0]? =some (.slice (s_ h.sb 0) h.n h.n):=rfl;have e1: (ah 6 (jI h))[1]? =some (.slice (s_ h.nb 0) h.n h.n):=rfl;have e2: (ah 6 (jI h))[2]? =some h.pv:=rfl;simp only[e0,e1,e2,EX];cases h.pv.ownBlock <;> rfl
theorem iG.VJ {h:Head}{st:Nat->aK}(a:iG w D h st nw ps): ∀k∈bY D h,∃t,du w k=some t/\fk t=true:=by
 intro k hk;unfold bY at hk;simp only[iI] at hk;rcases hk with rfl | rfl | rfl | hk
 . exact⟨127,ag.ty a.head,rfl⟩
 . exact⟨36,ag.ty a.dZ,rfl⟩
 . exact⟨36,ag.ty a.dX,rfl⟩
 . rcases a.nr.2 with⟨h1,_⟩ | ⟨g,cap,cur,h1,_,hg,_⟩
   . grind[Value.ownBlock]
   . rw[h1] at hk;simp only[Value.ownBlock,iI,kz,tZ] at hk;subst hk;exact⟨129,by grind[du],rfl⟩
theorem eU.fr {l:aK} {w w':aD} {D:Nat} {d:Dv} (h:eU w D d) (s:Fr none l w w'):eU w' D d:=by
 obtain⟨h0,sb,nb,pv,a⟩:=h;refine⟨h0,sb,nb,pv,⟨⟨ag.fr a.head s (.inl rfl) (.inl rfl),ag.fr a.dZ s (.inl rfl) (.inl rfl),ag.fr a.dX s (.inl rfl) (.inl rfl),a.apart,a.mZ⟩,rI a.nr s (.inl rfl) rfl,a.inside⟩⟩
theorem eU.below {d:Dv}(h:eU w D d)(s:dp w w'):eU w' D d:=h.fr (Fr.xU s [])
def cS (d:Dv):Dv:=if d.ops<4611686018427387903 then {d with ops:=d.ops+1} else d
def fK (d:Dv):Dv×Bool:=
 if d.left=0 then({d with dead:=true},false) else if d.dead=true then(d,false) else if 0<d.left then({d with left:=d.left - 1},true) else(d,true)
def KA (d:Dv) (i:Int):Bool:=decide (0<=i/\i< (d.n:Int))
theorem sS (d:Dv)(sb nb:Nat)(pv:bh): (cS d).head sb nb pv=dS (d.head sb nb pv):=by
 grind[cS,dS,Dv.head]
theorem Dd (d:Dv)(sb nb:Nat)(pv:bh): (fK d).1.head sb nb pv=(fT (d.head sb nb pv)).1/\(fK d).2=(fT (d.head sb nb pv)).2:=by
 grind[fK,fT,Dv.head]
theorem qh (d:Dv): (cS d).n=d.n/\(cS d).st=d.st/\(cS d).nw=d.nw/\(cS d).ps=d.ps/\(cS d).left=d.left/\(cS d).dead=d.dead:=by
 unfold cS;grind
theorem nY (d:Dv): (fK d).1.n=d.n/\(fK d).1.st=d.st/\(fK d).1.nw=d.nw/\(fK d).1.ps=d.ps/\(fK d).1.ops=d.ops:=by
 unfold fK
 grind
theorem PL (d:Dv)(h:d.ops<=4611686018427387903):d.ops<=(cS d).ops/\(cS d).ops<=d.ops+1/\(cS d).ops<=4611686018427387903:=by
 unfold cS;grind
theorem xV {d:Dv}(h:nO d):nO (cS d):=by
 obtain⟨e1,e2,e3,e4,e5,e6⟩:=qh d;obtain⟨o1,o2,o3⟩:=PL d h.ops;refine⟨by rw[e2];exact h.st,by rw[e3];exact h.nw,by rw[e4];exact h.ps,by rw[e4];exact kL h.mZ o1,o3,by rw[e5];exact h.left⟩
theorem MP {d:Dv}(h: -1<=d.left/\d.left<=9223372036854775807): -1<=(fK d).1.left/\(fK d).1.left<=9223372036854775807:=by
 grind[fK]
theorem JK {d:Dv}(h:nO d):nO (fK d).1:=by
 obtain⟨e1,e2,e3,e4,e5⟩:=nY d;exact⟨by rw[e2];exact h.st,by rw[e3];exact h.nw,by rw[e4];exact h.ps,by rw[e4,e5];exact h.mZ,by rw[e5];exact h.ops,MP h.left⟩
def eL (d:Dv) (i:Int):Dv×(aK×Int):=
 (cS d,if KA d i=true then(if d.dead=true then(aX,42) else(d.nw i.toNat,0)) else(aX,41))
theorem kt:fa aX:=⟨by rfl,λx hx=>by grind[aX]⟩
theorem B7 {d:Dv} (h:nO d) (i:Int):fa (eL d i).2.1:=by
 unfold eL;simp only;split
 . split
   . exact kt
   . exact h.nw _
 . exact kt
def eN (d:Dv) (i:Int) (s:aK):Dv×Int:=
 if KA d i=true then
  (if(fK (cS d)).2=true then({(fK (cS d)).1 with nw:=jw d.nw i.toNat s,ps:=d.ps++[(i.toNat,s)]},0) else((fK (cS d)).1,42))
 else(cS d,41)
def uZ (st:Nat->aK) (ps:List (Nat×aK)):Nat->aK:=ps.foldl (λs p=>jw s p.1 p.2) st
def fc (d:Dv):Dv×Int:=
 if(fK (cS d)).2=true then({(fK (cS d)).1 with st:=uZ d.st d.ps,ps:=[]},0) else((fK (cS d)).1,42)
def mU (st:Nat->aK) (bS:List Bool):Nat->List (Nat×aK)->(Nat->aK)
 | _,[]=>st
 | k,p::ps=>mU (if bS.getD k false=true then jw st p.1 p.2 else st) bS (k+1) ps
def qy (d:Dv) (bS:List Bool):Dv:=
 {d with st:=mU d.st bS 0 d.ps,nw:=mU d.st bS 0 d.ps,ps:=[],left:=-1,dead:=false}
def zq (d:Dv) (n:Int):Dv:={d with left:=max n (-1)}
def uv (d:Dv) (i:Int) (s:aK):Dv×Int:=
 if KA d i=true then({d with st:=jw d.st i.toNat s,nw:=jw d.nw i.toNat s,ps:=d.ps.map λp=>if p.1=i.toNat then(p.1,s) else p},0) else(d,41)
theorem VK (A:iw) (s:Nat) (hs:0<s) (cells:iw) (hA:A.size=s) (hc:cells.size=1*s):
 Instr.fill (λi=>some (i*s,s)) cells [(0,.agg A)]=some A:=by
 have h:=Great.fill_whole hs [Value.agg A] cells (by intro v hv;cases gz.1 hv;exact hA) rE;have e: ([Value.agg A].flatMap λv=>v.cells.toList).toArray=A:=by
  have: (Value.agg A).cells=A:=rfl;simp[this]
 grind
theorem xW (t e:dD)(x:Operand)(ho:o.op=.buildSlice t 1 #[(0,x)])(A:iw)(s b:Nat)(z:bh)(hx:a.eval x=.agg A)(hu:P.underlying t=some (.slice e))(hi: (P.info? e).map (λi=>(i.zero,i.size,i.bytes))=some (some z,s,b))(hs:0<s)(hs2:s<=16777216)(hA:A.size=s)(h:K (a.put o.dst (.slice (some ⟨w.heap.size,0,none⟩) 1 1)) (w.alloc (.cells A e))):o.wp P a w K Q:=by
 obtain⟨it,hi1,hz,hz1,hz2⟩:=sC hi;refine wp_buildSlice t e 1 #[(0,x)] ho A it z hu hi1 hz au au ?_ h
 grind[VK]
theorem Ig (hgd:o.guard=none)(t e:dD)(x:Operand)(ho:o.op=.buildSlice t 1 #[(0,x)])(A:iw)(s b:Nat)(z:bh)(hx:a.eval x=.agg A)(hu:P.underlying t=some (.slice e))(hi: (P.info? e).map (λi=>(i.zero,i.size,i.bytes))=some (some z,s,b))(hs:0<s)(hs2:s<=16777216)(hA:A.size=s)(h:wpList P ops Q rest (a.put o.dst (.slice (some ⟨w.heap.size,0,none⟩) 1 1)) (w.alloc (.cells A e))):wpList P ops Q (o::rest) a w:=
 sD hgd λ_ hK=>xW t e x ho A s b z hx hu hi hs hs2 hA (hK _ _ h)
theorem wM (s x:Operand)(t:dD)(ho:o.op=.call {callee:=.builtin .append,args:=#[s,x],argTypes:=#[t,t]})(base:Nat)(e:dD)(z:bh)(size bytes:Nat)(ht:P.underlying t=some (.slice e))(hi: (P.info? e).map (λi=>(i.zero,i.size,i.bytes))=some (some z,size,bytes))(hzs:z.cells.size=size)(hsz:0<size)(v:bh)(n:Nat)(xs:List bh)(hs:a.eval s=v)(hown:w.ownsRow base e size v n xs)(B:Nat)(A:iw)(te:dD)(fr:Nat×Nat)(hx:a.eval x=.slice (some ⟨B,0,none⟩) 1 1)(hB:w.heap[B]? =some (.cells A te fr))(hA:A.size=size)(h1: ∀u∈A.toList,u.oneCell'=true)(h63:n+1<=maxLen)(hbytes: (n+1)*bytes<=140737488355328)(hbase:base<=w.heap.size)(h: ∀g cap w',w'.ownsRow base e size (.slice (some ⟨g,0,none⟩) (n+1) cap) (n+1) (xs++A.toList)->w.grownBy w' v.ownBlock->(v.ownBlock=some g∨g=w.heap.size)->g<w'.heap.size->K (a.put o.dst (.slice (some ⟨g,0,none⟩) (n+1) cap)) w'):o.wp P a w K Q:=by
 obtain⟨it,hi1,hz,hz1,hz2⟩:=sC hi;exact wp_append_lies w s x t ho base e it z size bytes ht hi1 hz hz1 hz2 hzs hsz v n xs hs hown ⟨B,0,none⟩ 1 1 A.toList hx rE (World.news_of_block hB) h1 au h63 hbytes hbase _ rfl h
theorem Fw (hgd:o.guard=none)(s x:Operand)(t:dD)(ho:o.op=.call {callee:=.builtin .append,args:=#[s,x],argTypes:=#[t,t]})(base:Nat)(e:dD)(z:bh)(size bytes:Nat)(ht:P.underlying t=some (.slice e))(hi: (P.info? e).map (λi=>(i.zero,i.size,i.bytes))=some (some z,size,bytes))(hzs:z.cells.size=size)(hsz:0<size)(v:bh)(n:Nat)(xs:List bh)(hs:a.eval s=v)(hown:w.ownsRow base e size v n xs)(B:Nat)(A:iw)(te:dD)(fr:Nat×Nat)(hx:a.eval x=.slice (some ⟨B,0,none⟩) 1 1)(hB:w.heap[B]? =some (.cells A te fr))(hA:A.size=size)(h1: ∀u∈A.toList,u.oneCell'=true)(h63:n+1<=maxLen)(hbytes: (n+1)*bytes<=140737488355328)(hbase:base<=w.heap.size)(h: ∀g cap w',w'.ownsRow base e size (.slice (some ⟨g,0,none⟩) (n+1) cap) (n+1) (xs++A.toList)->w.grownBy w' v.ownBlock->(v.ownBlock=some g∨g=w.heap.size)->g<w'.heap.size->wpList P ops Q rest (a.put o.dst (.slice (some ⟨g,0,none⟩) (n+1) cap)) w'):wpList P ops Q (o::rest) a w:=
 sD hgd λ_ hK=>wM s x t ho base e z size bytes ht hi hzs hsz v n xs hs hown B A te fr hx hB hA h1 h63 hbytes hbase λg cap w' h2 h3 h4 h5=>hK _ _ (h g cap w' h2 h3 h4 h5)
theorem kj {w:aD} {b:Nat} {t:dD} {n:Nat} {f:Nat->bh} (h:ag w b t n f):w.rangeAt b 0 (ah n f).toList:=by
 intro j v hv;rw[qx,aF] at hv;split at hv
 . next hj=>cases hv;rw[rC];exact ag.cell h hj
 . cases hv
theorem mz (hw:Region.wanted op (yielded ops a.tmps)=true)(ty:dD)(x:Operand)(ho:op.op=.load ty x)(g n:Nat)(t:dD)(f:Nat->bh)(hx:a.eval x=.pointer (some ⟨g,0,none⟩))(A:iw)(hA:A=ah n f)(d:TypeDesc)(hS: ∀w,S w->ag w g t n f)(hu:P.underlying ty=some d)(hd:d.isRow=true)(hi: (P.info? ty).map (·.size)=some n):YieldsIf P ops S op (.agg A) a:=by
 subst hA;have h:=yieldsIf_load_mid (P:=P) (S:=S) hw ty x ho g 0 hx (ah n f).toList d (λw h=>kj (hS w h)) hu hd (by grind[aj]);omega
theorem pS (hw:Region.wanted op (yielded ops a.tmps)=true)(ty:dD)(x:Operand)(ho:op.op=.load ty x)(g o:Nat)(hx:a.eval x=.pointer (some ⟨g,o,none⟩))(A:iw)(d:TypeDesc)(hS: ∀w,S w->w.rangeAt g o A.toList)(hu:P.underlying ty=some d)(hd:d.isRow=true)(hi: (P.info? ty).map (·.size)=some A.size):YieldsIf P ops S op (.agg A) a:=by
 have h:=yieldsIf_load_mid (P:=P) (S:=S) hw ty x ho g o hx A.toList d hS hu hd au;omega
theorem Ez (w:aD) (Z A:iw) (T:dD): (w.alloc (.cells Z T)).setRow w.heap.size A=w.alloc (.cells A T):=by
 unfold World.setRow World.alloc;simp only[World.mk.injEq,true_and,and_true]
 grind
theorem u0 (hgd:o.guard=none)(ty:dD)(x y:Operand)(ho:o.op=.store ty x y)(Z A:iw)(n:Nat)(hx:a.eval x=.pointer (some ⟨w.heap.size,0,none⟩))(hy:a.eval y=.agg A)(hi: (P.info? ty).map (·.size)=some n)(hZ:Z.size=n)(hA:A.size=n)(h1:A.all (·.oneCell')=true)(h:wpList P ops Q rest (a.put o.dst undef) (w.alloc (.cells A ty))):wpList P ops Q (o::rest) a (w.alloc (.cells Z ty)):=by
 refine VL hgd ty x y ho w.heap.size A hx hy ty Z (Ju _ _) rE (by rw[hZ,hA]) h1 ?_;rw[Ez];exact h
theorem iV (hgd:o.guard=none)(t:dD)(x:Operand)(lo hi mx:Option Operand)(ho:o.op=.slice t x lo hi mx)(v:bh)(hv: (Instr.sliceAt t (a.eval x) (lo.map a.eval) (hi.map a.eval) (mx.map a.eval)).run P w=.ok v w)(h:wpList P ops Q rest (a.put o.dst v) w):wpList P ops Q (o::rest) a w:=
 sD hgd λK hK=>by
  unfold Oper.wp execOp;simp only[ho,py,hv,rj];exact hK _ _ h
theorem Au (hgd:o.guard=none)(t:dD)(x i:Operand)(ho:o.op=.index t x i)(v:bh)(hv: (Instr.index t (a.eval x) (a.eval i)).run P w=.ok v w)(h:wpList P ops Q rest (a.put o.dst v) w):wpList P ops Q (o::rest) a w:=
 sD hgd λK hK=>by
  unfold Oper.wp execOp;simp only[ho,py,hv,rj];exact hK _ _ h
theorem pE (hgd:o.guard=none)(t:dD)(x i:Operand)(ho:o.op=.indexAddr t x i)(v:bh)(hv: (Instr.indexAt t (a.eval x) (a.eval i)).run P w=.ok v w)(h:wpList P ops Q rest (a.put o.dst v) w):wpList P ops Q (o::rest) a w:=
 sD hgd λK hK=>by
  unfold Oper.wp execOp;simp only[ho,py,hv,rj];exact hK _ _ h
theorem lP (h:w.ownsRow base e size v n xs)(hb:v.ownBlock=some b):du w b=some e:=by
 rcases h.2 with⟨rfl,_⟩ | ⟨g,cap,cur,rfl,_,hg,_⟩
 . cases hb
 . cases hb<;>grind[du]
theorem lQ (h:w.ownsRow base e size v n xs)(hb:du w b=some t)(hne:t≠e):v.ownBlock≠some b:=λh1=>by
 rw[lP h h1] at hb;grind
theorem jX {w w':aD} {base:Nat} {e:dD} {size:Nat} {v:bh} {n:Nat} {xs:List bh} (h:w.ownsRow base e size v n xs) {b:Nat} (hb:v.ownBlock≠some b) (s:ek b w w'):w'.ownsRow base e size v n xs:=by
 refine⟨h.1,h.2.imp id λ⟨g,cap,cur,h1,h2,hg,r⟩=>⟨g,cap,cur,h1,h2,?_,r⟩⟩;rw[s.block g (zY.1 hg).1 (by rintro rfl;exact hb (by rw[h1];rfl))];exact hg
theorem pF (h:du w b=some t)(s:dp w w'):du w' b=some t:=by
 rw[pR (s.block b (c7 h))];exact h
theorem iv {n:Nat} (f:Nat->bh) (h: ∀i,(f i).oneCell'=true): (ah n f).all (·.oneCell')=true:=by
 rw[Array.all_eq_true]
 simp_all[ah]
theorem lx {E:Prop}(hgd:o.guard=none)(h:o.wp P a w K Q):
 if Region.wanted o (yielded ops a.tmps)=true then Oper.wp P o a w K Q else E:=by
 simp_all[Region.wanted]
theorem KB (h:Head)(v:bh): ∀j,j<6->(if j=2 then v else jI h j)=jI {h with pv:=v} j:=by
 intro j hj;by_cases h3:j=2
 . subst h3;rfl
 simp_all[jI]
structure mC (w5:aD) (D:Nat) (h h5:Head) (st nw:Nat->aK) (ps:List (Nat×aK)) (w:aD):Prop where
 head:dG w5 D h5
 dZ:eQ w5 h.sb h.n st
 dX:eQ w5 h.nb h.n nw
 nr:w5.ownsRow 0 129 129 h5.pv ps.length (lG ps)
 save:jv w.heap.size (bY D h) w w5
 Tc:D≠h.sb
 O7:D≠h.nb
 Yk:h5.pv.ownBlock≠some h.nb
theorem OZ (D:Nat)(h h3:Head)(st nw:Nat->aK)(ps:List (Nat×aK))(q:Nat)(s:aK)(w W0 w3 w4:aD)(A B:iw)(E:Nat)(z:bh)(g cap:Nat)(a:iG w D h st nw ps)(hh3: (fT (dS h)).1=h3)(hz:h3.pv=z)(hW0:W0=w.alloc (.cells A 36))(hb3:ek D W0 w3)(hg4: (w3.drew.alloc (.cells B 129)).grownBy w4 z.ownBlock)(hO4:w4.ownsRow 0 129 129 (.slice (some ⟨g,0,none⟩) (ps.length+1) cap) (ps.length+1) (lG ps++B.toList))(hB: #[Value.int .i64 q]++A=B)(hA:A=ah 128 (aw s))(hA4:ag w4 D 127 6 (jI h3)):
 mC (w4.setCell ⟨D,2,none⟩ (.slice (some ⟨g,0,none⟩) (ps.length+1) cap)) D h {h3 with pv:=.slice (some ⟨g,0,none⟩) (ps.length+1) cap} st nw (ps++[(q,s)]) w:=by
 have hzp:z=h.pv:=by grind[nX,ik]
 have hW:dp w W0:=by rw[hW0];exact(iU _ _).alloc (eO _) _
 have tD:=a.head.ty;have ts:=ag.ty a.dZ;have tn:=ag.ty a.dX;have hDs:D≠h.sb:=λe=>by grind
 have hDn:D≠h.nb:=λe=>by grind
 have hzs:z.ownBlock≠some h.sb:=by rw[hzp];exact lQ a.nr ts nh
 have hzn:z.ownBlock≠some h.nb:=by rw[hzp];exact lQ a.nr tn nh
 have base: ∀k,k<w.heap.size->k≠D->z.ownBlock≠some k->w4.heap[k]? =w.heap[k]?:=by
  intro k hk hkD hkz;have hk0:k<W0.heap.size:=uj hk hW.size;have hk3:k<w3.heap.size:=uj hk0 hb3.size;rw[hg4.block k (by simp_all[lt_succ_of_lt]) (yl hkz)];rw[Below.heap_alloc w3.drew (.cells B 129) k hk3];exact(hb3.block k hk0 hkD).trans (hW.block k hk)
 have sz:w.heap.size<=w4.heap.size:=kL hW.size (kL hb3.size (by have:=hg4.size;simp at this;omega));have hs4:eQ w4 h.sb h.n st:=by
  have:=base h.sb a.dZ.lt (yl hDs) hzs;unfold eQ ag;rw[this];exact a.dZ
 have hn4:eQ w4 h.nb h.n nw:=by
  have:=base h.nb a.dX.lt (yl hDn) hzn;unfold eQ ag;rw[this];exact a.dX
 have hgD: (Value.slice (s_ g 0) (ps.length+1) cap).ownBlock≠some D:=lQ hO4 hA4.ty nh;have hgn: (Value.slice (s_ g 0) (ps.length+1) cap).ownBlock≠some h.nb:=lQ hO4 (ag.ty hn4) nh;refine⟨dG.set (h:=h3) hA4 2 _ (KB h3 _),ag.sI hs4 _ (yl hDs) _,ag.sI hn4 _ (yl hDn) _,?_,?_,hDs,hDn,hgn⟩
 . grind[PK,jX,kA]
 . refine jv.setCell ⟨?_,?_,?_,sz,λk hk hn=>?_⟩ (.inl (by simp[bY])) 2 _
   . rw[hg4.os];exact hb3.os.trans hW.os
   . rw[hg4.tape];exact hb3.tape.trans hW.tape
   . rw[hg4.output];exact hb3.output.trans hW.output
   grind[bY]
theorem mC.drew {h h5:Head}{st:Nat->aK}(m:mC w5 D h h5 st nw ps w):mC w5.drew D h h5 st nw ps w:=⟨m.head,m.dZ,m.dX,m.nr,m.save.drew,m.Tc,m.O7,m.Yk⟩
theorem Hm {q:Nat}{s:aK}(h: ∀p∈ps,p.1<n)(hq:q<n): ∀p∈ps++[(q,s)],p.1<n:=by grind
theorem O0 {h h5:Head}{st:Nat->aK}(m:mC w5 D h h5 st nw ps w)(hh:h5.n=h.n/\h5.sb=h.sb/\h5.nb=h.nb)(hap:h.sb≠h.nb)(hfew:h.n<=1024)(hin: ∀p∈ps,p.1<h.n)(q:Nat)(s:aK):
 iG (w5.setCells h.nb (q*128) (ah 128 (aw s)).toList) D h5 st (jw nw q s) ps/\jv w.heap.size (bY D h) w (w5.setCells h.nb (q*128) (ah 128 (aw s)).toList):=by
 obtain⟨e1,e2,e3⟩:=hh;have hb:=ek.setCells h.nb (ah 128 (aw s)).toList (q*128) w5;refine⟨⟨⟨?_,?_,?_,au,au⟩,jX m.nr m.Yk hb,by grind⟩,?_⟩
 . unfold dG ag;rw[hb.block D m.head.lt m.O7];exact m.head
 . rw[e1,e2];unfold eQ ag;rw[hb.block h.sb m.dZ.lt hap];exact m.dZ
 . rw[e1,e3];exact m.dX.put q s
 . exact⟨hb.os.trans m.save.os,hb.tape.trans m.save.tape,hb.output.trans m.save.output,kL m.save.size hb.size,λk hk hn=>(hb.block k (uj hk m.save.size) (λe=>hn (by grind[bY]))).trans (m.save.block k hk hn)⟩
theorem sJ: (Value.agg zeroCells129).cells.size=129:=cm
theorem Ih (D:Nat)(h:Head)(st nw:Nat->aK)(ps:List (Nat×aK))(hl: -1<=h.left/\h.left<=9223372036854775807)(hps:ps.length<=1000000000)(q:Nat)(s:aK)(A:iw)(hA:A=ah 128 (aw s))(w:aD)(a:iG w D h st nw ps)(hq:q<h.n)(hyes: (fT (dS h)).2=true):
 Calls prog 227 #[.pointer (some ⟨D,0,none⟩),.int .i64 q,.agg A] w λe w'=>
  ∃pv,(e=.returned (.int .i64 0))/\(∀b,pv.ownBlock=some b->h.pv.ownBlock=some b∨w.heap.size<=b)/\iG w' D {(fT (dS h)).1 with pv:=pv} st (jw nw q s) (ps++[(q,s)])/\jv w.heap.size (bY D h) w w':=by
 obtain⟨W0,hW0⟩:=gq (w.alloc (.cells A 36));have hB0:dp w W0:=by rw[hW0];exact(iU _ _).alloc (eO _) _
 have hr0:ag W0 w.heap.size 36 128 (aw s):=by rw[hW0,hA];exact ag.alloc _ _ _ _
 have ha0:dG W0 D h:=ag.below a.head hB0;have hb0:ek D w W0:=ek.lk hB0;have HAA:=ae hA;clear hA;have HW0:=ae hW0;clear hW0;have HA0:=ae ha0;have HA00:=ae ha0;clear ha0 hB0;have HR0:=ae hr0;clear hr0;have HV:=ae a;clear a;obtain⟨hn1,-,-,-,hn5,-⟩:=ik h;have hasE:sw (dS h) (q:Int)=true:=by unfold sw;rw[hn1];exact ly ⟨au,au⟩
 have hl2: -1<=(dS h).left/\(dS h).left<=9223372036854775807:=by rw[hn5];exact hl
 have HASE:=ae hasE;clear hasE hn1 hn5 hl;have HYES:=ae hyes;clear hyes;have HL:=ae hl2;clear hl2;go_enter func227,ntmps227
 go_wp2_with fail
 rw[<-HW0.o];refine(uq D h _ HA0.o).mono ?_;rintro e w1 ⟨rfl,hh1,hb1⟩;have HB1:=ae hb1;have HA1:=ae hh1;clear hh1 hb1 HA0
 go_wp2_with fail
 refine(zp D _ _ _ HA1.o).mono ?_;rw[HASE.o];rintro e w2 ⟨rfl,rfl⟩
 go_wp2_with fail
 refine(xT D _ HL.o _ HA1.o).mono ?_;rw[HYES.o];rintro e w3 ⟨rfl,hh3,hb3⟩;have HB3:=ae (HB1.o.trans hb3);have HA3:=ae hh3;clear hh3 hb3;obtain⟨h3,hh3⟩:=cM ((fT (dS h)).1);rw[hh3] at HA3;have HH3:=ae hh3;clear hh3;obtain⟨z,hz⟩:=cM h3.pv;have c2:=HA3.o.cells.2.2.1;rw[hz] at c2;have HZ:=ae hz;clear hz;have hDl:D<w.heap.size:=HV.o.head.lt;have hr3:ag w3 w.heap.size 36 128 (aw s):=by
  unfold ag;rw[HB3.o.block _ HR0.o.lt au];exact HR0.o
 -- REGION 6
 have hown3:w3.ownsRow 0 129 129 z ps.length (lG ps):=by
  have e1:z=h.pv:=by rw[<-HZ.o,<-HH3.o,(nX _).2.2.2,(ik h).2.2.2.2.2]
  rw[e1];have hp:W0.ownsRow 0 129 129 h.pv ps.length (lG ps):=by rw[HW0.o];exact HV.o.nr.alloc _
  exact jX hp (lQ hp (HA00.o.ty) nh) HB3.o
 have HO3:=ae hown3;have hnE:z.ownBlock≠some w.heap.size:=lQ hown3 hr3.ty nh;have hnD:z.ownBlock≠some D:=lQ hown3 HA3.o.ty nh;clear hown3;obtain⟨E,hE⟩:=cM w.heap.size;rw[hE] at hr3 hnE;have hEl:E<w3.heap.size:=hr3.lt;have hDE:D≠E:=au;have HR3:=ae hr3;clear hr3;have hAs:A.size=128:=by rw[HAA.o,aj]
 have hf7:=Yi (.int .i64 q) A hAs;obtain⟨B,hB⟩:=cM (#[Value.int .i64 q]++A);rw[hB] at hf7;have hBs:B.size=129:=by rw[<-hB];simp[hAs]
 have HBB:=ae hB;clear hB;have hBone: ∀u∈B.toList,u.oneCell'=true:=by
  intro u hu;rw[<-HBB.o,HAA.o] at hu;simp only[Array.toList_append,jn] at hu;rcases hu with hu | hu
  . simp at hu;rw[hu];rfl
  . obtain⟨j,hj,rfl⟩:=Jo.1 hu;have: (ah 128 (aw s)).toList[j]=aw s j:=by
     have:=aF 128 (aw s) j
     grind
    rw[this];rfl
 have HBO:=ae hBone;clear hBone
 go_upto_region 6 with(fail)
 have HE:=ae hE;clear hE;refine wp_region_held_drew (S:=λW=>ag W E 36 128 (aw s)) cm HR3.o (λhS0=>?_);refine He 0 16 (bZ D 0) hS0 ?_;refine He 1 17 (bZ D 0) hS0 ?_;refine He 2 18 (bZ D 0) hS0 ?_;refine He 3 19 (bZ D 2) hS0 ?_;refine He 5 21 (.int .i64 q) hS0 ?_;refine Yd 6 22 (.agg A) rfl (mz cm 36 (.tmp 5) pB E 128 36 (aw s) pB A HAA.o _ (λw h=>h) Ep rfl gk) hS0 ?_;refine Yd 7 23 (.agg B) rfl (Or.inl ⟨cm,λw _=>by go_simp;skip⟩) hS0 ?_;clear hf7;have c2d:w3.drew.cell? ⟨D,2,none⟩=some z:=c2;have HS0:=ae hS0;clear hS0;refine wpAnyH_ready (rs:=[4,8]) cm fh ?_;refine AllReadyH.cons (o:=⟨some 20,Op.load 125 (Operand.tmp 19),125,_,_,none⟩) pB (λK hK=>lx rfl ?_) ?_
 -- the load first
 have HSX:=HS0;go_simp;refine hK.out _ _ HSX.o (λhSX=>?_);clear hSX;refine wpAnyH_ready (rs:=[8]) cm fh ?_;refine AllReadyH.cons (o:=⟨some 24,Op.buildSlice 125 1 #[(0,Operand.tmp 23)],125,_,_,none⟩) pB (λK hK=>lx rfl ?_) AllReadyH.nil;refine xW 125 129 (.tmp 23) pB B 129 136 (.agg zeroCells129) pB underlying125 Ey au au hBs ?_;simp only[ax];have HS1:=ae (ag.alloc_old HS0.o (.cells B 129));refine hK.out _ _ HS1.o (λhSX=>?_)
 rotate_left
 -- the build first
 refine AllReadyH.cons (o:=⟨some 24,Op.buildSlice 125 1 #[(0,Operand.tmp 23)],125,_,_,none⟩) pB (λK hK=>lx rfl ?_) AllReadyH.nil;refine xW 125 129 (.tmp 23) pB B 129 136 (.agg zeroCells129) pB underlying125 Ey au au hBs ?_;simp only[ax];have HS1:=ae (ag.alloc_old HS0.o (.cells B 129));refine hK.out _ _ HS1.o (λhSX=>?_);clear hSX;refine wpAnyH_ready (rs:=[4]) cm fh ?_;refine AllReadyH.cons (o:=⟨some 20,Op.load 125 (Operand.tmp 19),125,_,_,none⟩) pB (λK hK=>lx rfl ?_) AllReadyH.nil;have HSX:=HS1;have c2e: (w3.alloc (.cells B 129)).cell? ⟨D,2,none⟩=some z:=by rw[World.cell?_alloc_some _ _ _ (by rw[c2];rfl)];exact c2
 go_simp;refine hK.out _ _ HSX.o (λhSX=>?_)
 all_goals
  clear hSX;refine wpAnyH_ready (rs:=[9]) cm fh ?_;refine AllReadyH.cons (o:=⟨some 25,Op.call {callee:=Callee.builtin Builtin.append,args:=#[Operand.tmp 20,Operand.tmp 24],argTypes:=#[125,125]},125,_,_,none⟩) pB (λK hK=>lx rfl ?_) AllReadyH.nil;refine wM (.tmp 20) (.tmp 24) 125 pB 0 129 (.agg zeroCells129) 129 136 underlying125 Ey sJ au z ps.length (lG ps) pB ((HO3.o:w3.drew.ownsRow 0 129 129 z ps.length (lG ps)).alloc _) w3.drew.heap.size B 129 (0,0) pB (Ju _ _) hBs HBO.o (by unfold maxLen;omega) au au ?_;intro g cap w4 hown4 hg4 hat hlt;simp only[ax];have HS4:=ae (ag.grown HS1.o hg4 hnE);have HA4:=ae (ag.grown (ag.alloc_old (show ag w3.drew D 127 6 (jI h3) from HA3.o) (.cells B 129)) hg4 hnD);have HO4:=ae hown4;clear hown4;have HG4:=ae hg4;clear hg4;have HT4:=ae (And.intro hat hlt);clear hat hlt;refine hK.out _ _ HS4.o (λhS0=>?_);refine He 10 26 (bZ D 0) hS0 ?_;refine He 11 27 (bZ D 2) hS0 ?_;refine wpAnyH_ready (rs:=[12]) cm fh ?_;refine AllReadyH.cons (o:=⟨none,Op.store 125 (Operand.tmp 27) (Operand.tmp 25),0,_,_,none⟩) pB (λK hK=>lx rfl ?_) AllReadyH.nil;clear hS0;have c24:w4.cell? ⟨D,2,none⟩=some z:=by have:=(dG.cells (h:=h3) HA4.o).2.2.1;rw[HZ.o] at this;exact this
  have f24:w4.frozen? ⟨D,2,none⟩=false:=ag.frozen HA4.o 2;go_simp;have HS5:=ae (ag.sI HS4.o ⟨D,2,none⟩ (by show E≠D;omega) (.slice (s_ g 0) (ps.length+1) cap));refine hK.out _ _ HS5.o (λhSX=>?_);clear hSX c24 f24;refine wpAnyH_done cm ?_ _;have HE5:=ae (OZ D h h3 st nw ps q s w W0 w3 w4 A B E z g cap HV.o HH3.o HZ.o HW0.o HB3.o HG4.o HO4.o HBB.o HAA.o HA4.o);generalize hw5:w4.setCell ⟨D,2,none⟩ (.slice (s_ g 0) (ps.length+1) cap)=w5 at*;clear hw5;obtain⟨nb,hnb⟩:=cM h.nb;obtain⟨nn,hnn⟩:=cM h.n;have c1:=(dG.cells (h:={h3 with pv:=.slice (s_ g 0) (ps.length+1) cap}) HE5.o.head).2.1;have hnn3:h3.n=h.n/\h3.sb=h.sb/\h3.nb=h.nb:=by
   obtain⟨a1,a2,a3,_⟩:=nX (dS h);obtain⟨b1,b2,b3,_,_,_⟩:=ik h;rw[<-HH3.o];exact⟨a1.trans b1,a2.trans b2,a3.trans b3⟩
  simp only[hnn3.1,hnn3.2.2,hnb,hnn] at c1;have ht5:=HE5.o.dX.there hq;rw[hnb] at ht5;have hq2: (q:Int)< (nn:Int):=au;have hq0: (0:Int)<=(q:Int):=au;have hfew:=HV.o.mZ;rw[hnn] at hfew;have HNN3:=ae hnn3;clear hnn3;have HNB:=ae hnb;clear hnb;have HNN:=ae hnn;clear hnn;have HT5:=ae ht5;clear ht5;have HC1:=ae c1;clear c1
  go_upto_region 7 with(fail)
  refine wp_region_held_drew (S:=λW=>W.cell? ⟨D,1,none⟩=some (.slice (s_ nb 0) nn nn)/\ag W E 36 128 (aw s)) cm ⟨HC1.o,HS5.o⟩ (λhS0=>?_);refine He 0 28 (bZ D 0) hS0 ?_;refine He 1 29 (bZ D 0) hS0 ?_;refine He 2 30 (bZ D 1) hS0 ?_;refine Yd 3 31 (.slice (s_ nb 0) nn nn) rfl (Or.inl ⟨cm,λw hw=>by have h1:=hw.1;go_simp⟩) hS0 ?_;refine He 4 32 (.int .i64 q) hS0 ?_;refine Yd 5 33 (.agg A) rfl (mz cm 36 (.tmp 5) pB E 128 36 (aw s) pB A HAA.o _ (λw h=>h.2) Ep rfl gk) hS0 ?_;refine He 6 34 (bZ nb (q*128)) hS0 ?_;refine wpAnyH_ready (rs:=[7]) cm fh ?_;refine AllReadyH.cons (o:=⟨none,Op.store 36 (Operand.tmp 34) (Operand.tmp 33),0,_,_,none⟩) pB (λK hK=>lx rfl ?_) AllReadyH.nil;refine wp_store_mid 36 (.tmp 34) (.tmp 33) pB nb (q*128) A pB pB (by rw[hAs];exact HT5.o) (by rw[hAs];exact gk) (by rw[HAA.o];exact iv _ (λ_=>rfl)) ?_;have hbc:=ek.setCells nb A.toList (q*128) w5.drew;have hnE2:nb<w5.heap.size:=by have:=HE5.o.dX.lt;rw[HNB.o] at this;exact this
  have hnE3:nb<w.heap.size:=by have:=HV.o.dX.lt;rw[HNB.o] at this;exact this
  have hEne:E≠nb:=by rw[<-HE.o];omega
  have hDne:D≠nb:=by have:=HE5.o.O7;rw[HNB.o] at this;exact this
  have hS9: (w5.drew.setCells nb (q*128) A.toList).cell? ⟨D,1,none⟩=some (.slice (s_ nb 0) nn nn)/\ag (w5.drew.setCells nb (q*128) A.toList) E 36 128 (aw s):=
   ⟨by rw[z6 (w:=w5.drew) (hbc.block D HE5.o.head.lt hDne)];exact HC1.o,by unfold ag;rw[hbc.block E (ag.lt HS5.o) hEne];exact HS5.o⟩
  refine hK.out _ _ hS9 (λhSX=>?_);clear hSX hS9 hbc;refine wpAnyH_done cm ?_ _;have hfin:=O0 HE5.o.drew HNN3.o HV.o.apart HV.o.mZ (Hm HV.o.inside hq) q s;rw[HNB.o,<-HAA.o] at hfin;have HF:=ae hfin;clear hfin;generalize w5.drew.setCells nb (q*128) A.toList=w6 at*;clear hq2 hq0 hfew hnE2 hnE3 hEne hDne;go_wp2;go_ret;refine⟨_,rfl,?_,by rw[HH3.o];exact HF.o.1,HF.o.2⟩;intro b hb;cases hb;have e1:z=h.pv:=by rw[<-HZ.o,<-HH3.o,(nX _).2.2.2,(ik h).2.2.2.2.2]
  rcases HT4.o.1 with h5 | h5
  . left;rw[<-e1];exact h5
  right;have h6:w3.heap.size<=g:=by rw[h5];simp
  have h7:=HE.o;have h8:=ag.lt HR3.o;show w.heap.size<=g;omega
def ou (w:aD) (D:Nat) (d:Dv) (l:aK):Prop:=nO d/\∃sb nb pv,iG w D (d.head sb nb pv) d.st d.nw d.ps/\l=bY D (d.head sb nb pv)
theorem eU.O2 {d:Dv}(h:eU w D d):du w D=some 127:=by
 obtain⟨h0,sb,nb,pv,h1⟩:=h;exact ag.ty h1.head
theorem eU.open {d:Dv}(h:eU w D d): ∃l,ou w D d l:=by
 obtain⟨h0,sb,nb,pv,h1⟩:=h;exact⟨_,h0,sb,nb,pv,h1,rfl⟩
theorem ou.shut {d:Dv}(h:ou w D d l):eU w D d:=by
 obtain⟨h0,sb,nb,pv,h1,_⟩:=h
 grind[eU]
theorem ou.ty {d:Dv}(h:ou w D d l): ∀k∈l,∃t,du w k=some t/\fk t=true:=by
 obtain⟨h0,sb,nb,pv,h1,rfl⟩:=h;exact h1.VJ
theorem ou.lt {w:aD} {D:Nat} {d:Dv} {l:aK} (h:ou w D d l): ∀k∈l,k<w.heap.size:=λk hk=>by
 obtain⟨t,ht,_⟩:=h.ty k hk;exact c7 ht
theorem ou.save {d:Dv}{m:aK}(h:ou w D d l)(s:jv B m w w')(hk: ∀k∈l,k<B/\k∉m):ou w' D d l:=by
 obtain⟨h0,sb,nb,pv,h1,rfl⟩:=h;exact⟨h0,sb,nb,pv,h1.save s hk,rfl⟩
theorem ou.below {d:Dv}(h:ou w D d l)(s:dp w w'):ou w' D d l:=
 h.save (jv.lk s []) λk hk=>⟨h.lt k hk,by simp⟩
structure lV (w w':aD) (D:Nat) (d':Dv) (l:aK):Prop where
 at_: ∃l',ou w' D d' l'/\∀k∈l',k∈l∨w.heap.size<=k
 save:jv w.heap.size l w w'
theorem ou.ki {w:aD} {D:Nat} {d:Dv} {l:aK} (h:ou w D d l):ki w D=l:=by
 obtain⟨h0,sb,nb,pv,h1,rfl⟩:=h;exact h1.ki
theorem ou.O2 {d:Dv}(h:ou w D d l):du w D=some 127:=by
 obtain⟨h0,sb,nb,pv,h1,_⟩:=h;exact ag.ty h1.head
theorem lV.fr {w w':aD} {D:Nat} {d d':Dv} {l:aK} (s:lV w w' D d' l) (h:ou w D d l) (m:aK):Fr (some D) m w w':=by
 obtain⟨l',h',hk⟩:=s.at_;refine⟨s.save.os,s.save.tape,s.save.output,s.save.size,λk hkw hn=>s.save.block k hkw λhm=>?_,λD' e=>?_,λD' e k hk'=>?_⟩
 . obtain⟨t,ht,hd⟩:=h.ty k hm;exact hn ⟨t,ht,.inl ⟨D,rfl,hd,by rw[h.ki];exact hm⟩⟩
 . cases e;exact⟨h.O2,h'.O2⟩
 . cases e;rw[h'.ki] at hk';rw[h.ki];grind
theorem lV.shut {d':Dv}(s:lV w w' D d' l):eU w' D d':=by
 obtain⟨l',h,_⟩:=s.at_;exact h.shut
theorem lV.Av {w w':aD} {D:Nat} {d d':Dv} {sb nb:Nat} {pv:bh} (a:iG w D (d.head sb nb pv) d.st d.nw d.ps) (hh:dG w' D (d'.head sb nb pv)) (hb:ek D w w')
 (ok:nO d') (e:d'.n=d.n/\d'.st=d.st/\d'.nw=d.nw/\d'.ps=d.ps):lV w w' D d' (bY D (d.head sb nb pv)):=by
 obtain⟨e1,e2,e3,e4⟩:=e;refine⟨⟨bY D (d'.head sb nb pv),⟨ok,sb,nb,pv,⟨?_,?_,?_⟩,rfl⟩,λk hk=>.inl hk⟩,jv.me hb (eO _) (.inl (by simp[bY]))⟩
 . rw[e2,e3];exact a.tour.but hb hh ⟨e1,rfl,rfl⟩
 . rw[e4];exact jX a.nr (lQ a.nr a.head.ty nh) hb
 . rw[e4];intro p hp;show p.1<d'.n;rw[e1];exact a.inside p hp
theorem uw (D:Nat)(d:Dv)(w:aD)(a:eU w D d):Calls prog 84 #[.pointer (some ⟨D,0,none⟩)] w λe w'=>e=.returned (.int .i64 d.n)/\w=w':=by
 obtain⟨_,sb,nb,pv,h⟩:=a;exact Yf D _ w h.head
theorem KC (D:Nat)(d:Dv)(w:aD)(a:eU w D d):Calls prog 82 #[.pointer (some ⟨D,0,none⟩)] w λe w'=>e=.returned (.bool d.dead)/\w=w':=by
 obtain⟨_,sb,nb,pv,h⟩:=a;exact VE D _ w h.head
theorem Yl (D:Nat)(d:Dv)(l:aK)(i:Int)(hi:bT i)(w:aD)(a:ou w D d l):
 Calls prog 165 #[.pointer (some ⟨D,0,none⟩),.int .i64 i] w λe w'=>∃A,e=.returned (.tuple #[.agg A,.int .i64 (eL d i).2.2])/\A=ah 128 (aw (eL d i).2.1)/\lV w w' D (eL d i).1 l:=by
 obtain⟨h0,sb,nb,pv,h1,rfl⟩:=a;refine(VF D _ d.st d.nw i hi w h1.tour).mono ?_;rintro e w' ⟨A,he,hA,hd,hb⟩;have e1:Ar (d.head sb nb pv) d.nw i=(eL d i).2:=rfl;rw[e1] at he hA;rw[<-sS] at hd;obtain⟨c1,c2,c3,c4,_,_⟩:=qh d;exact⟨A,he,hA,lV.Av (d':=cS d) h1 hd.head hb (xV h0) ⟨c1,c2,c3,c4⟩⟩
theorem ux {s:Nat->aK} {x:aK} (h: ∀i,fa (s i)) (hx:fa x) (q:Nat): ∀i,fa (jw s q x i):=by grind[jw]
theorem PM {d:Dv}(h:nO d)(i:Int){s:aK}(hs:fa s):d.ops<4611686018427387903->nO (eN d i s).1:=by
 intro ho;have hc:=xV h;have hs':=JK hc;unfold eN;split
 . split
   . next h2 h3=>
     obtain⟨e1,e2,e3,e4,e5⟩:=nY (cS d);obtain⟨c1,c2,c3,c4,_,_⟩:=qh d;have co: (cS d).ops=d.ops+1:=by simp_all[cS]
     refine⟨hs'.st,ux h.nw hs _,?_,?_,hs'.ops,hs'.left⟩
     . intro p hp;rcases jn.1 hp with hp | hp
       . exact h.ps p hp
       grind
     . show(d.ps++[(i.toNat,s)]).length<=(fK (cS d)).1.ops;rw[e5,co,kh,length_singleton];have:=h.mZ;omega
   omega
 . exact hc
theorem VM (D:Nat)(d:Dv)(l:aK)(ho:d.ops<=1000000000)(i:Int)(s:aK)(hs:fa s)(A:iw)(hA:A=ah 128 (aw s))(w:aD)(a:ou w D d l):
 Calls prog 227 #[.pointer (some ⟨D,0,none⟩),.int .i64 i,.agg A] w λe w'=>e=.returned (.int .i64 (eN d i s).2)/\lV w w' D (eN d i s).1 l:=by
 obtain⟨h0,sb,nb,pv,h1,rfl⟩:=a;have hok:=PM h0 i hs au;have hfew:=h0.mZ;obtain⟨e1,e2,e3,e4,e5⟩:=nY (cS d);obtain⟨c1,c2,c3,c4,_,_⟩:=qh d;have s1:=Dd (cS d) sb nb pv;rw[sS] at s1;by_cases hh:KA d i=true
 . by_cases hp: (fK (cS d)).2=true
   . have hw:eN d i s=({(fK (cS d)).1 with nw:=jw d.nw i.toNat s,ps:=d.ps++[(i.toNat,s)]},0):=by simp_all[eN]
     obtain⟨hi0,hin⟩:=lK (hh:decide (0<=i/\i< (d.n:Int))=true);obtain⟨q,rfl⟩: ∃q:Nat,i=(q:Int):=⟨i.toNat,au⟩;rw[hw] at hok ⊢;rw[BQ] at hok ⊢;refine(Ih D (d.head sb nb pv) d.st d.nw d.ps h0.left au q s A hA w h1 (by show q<d.n;omega) rE).mono ?_;rintro e w' ⟨pv',he,hpv',hv,hs2⟩;rw[<-s1.1] at hv;refine⟨he,⟨⟨_,⟨hok,sb,nb,pv',?_,rfl⟩,?_⟩,hs2⟩⟩
     . have e0:d.st=(fK (cS d)).1.st:=by rw[e2,c2]
       rw[e0] at hv;exact hv
     . intro k hk;by_cases hkw:w.heap.size<=k
       . omega
       . refine .inl ?_;simp only[bY,iI] at hk ⊢;rcases hk with hk | hk | hk | hk
         . omega
         . exact .inr (.inl hk)
         . exact .inr (.inr (.inl hk))
         . have hb:pv'.ownBlock=some k:=by
            change k∈(match pv'.ownBlock with | some b=> [b] | none=> []) at hk
            grind
           grind
   . have hw:eN d i s=((fK (cS d)).1,42):=by simp_all[eN]
     rw[hw] at hok ⊢;refine(As D (d.head sb nb pv) h0.left i A w h1.head (.inr rE)).mono ?_;rintro e w' ⟨he,hv,hb⟩;have hh':sw (d.head sb nb pv) i=true:=hh
     simp_all[lV.Av]
 . have hf:KA d i=false:=by grind
   have hw:eN d i s=(cS d,41):=by simp_all[eN]
   rw[hw] at hok ⊢;have hf':sw (d.head sb nb pv) i=false:=hf;refine(As D (d.head sb nb pv) h0.left i A w h1.head (.inl hf')).mono ?_
   simp_all[sS,lV.Av]
theorem VN (D:Nat)(d:Dv)(l:aK)(n:Int)(hn:bT n)(w:aD)(a:ou w D d l):
 Calls prog 21 #[.pointer (some ⟨D,0,none⟩),.int .i64 n] w λe w'=>e=.returned (.tuple #[])/\lV w w' D (zq d n) l:=by
 obtain⟨h0,sb,nb,pv,h1,rfl⟩:=a;refine(Ta D _ n hn w h1.head).mono ?_;rintro e w' ⟨he,hv,hb⟩;unfold bT at hn;refine⟨he,lV.Av (d':=zq d n) h1 hv hb ⟨h0.st,h0.nw,h0.ps,h0.mZ,h0.ops,?_⟩ ⟨rfl,rfl,rfl,rfl⟩⟩
 grind[zq]
end Go.Proofs.YtklligbjoplbgaaGreat
