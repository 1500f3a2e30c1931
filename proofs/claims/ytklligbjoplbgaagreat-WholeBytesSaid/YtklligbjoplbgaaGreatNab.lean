/- Part 2 of 15 of the proof of WholeBytes; no conditions. -/
import Derived.Test.YtklligbjoplbgaaGreatNaa
import Derived.Test.YtklligbjoplbgaaGreatProg
import Derived.Handy
import Derived.Lib.Hide
import Derived.WalkSpells
import Derived.WalkLawsBesides
import Derived.BigQuiet
import Derived.Deep.QuietTactic
import Derived.Outline
import Derived.RangeFuncNested
import Derived.RangeFuncBound
import Derived.RangeFuncCalls
import Derived.RangeFuncLeaves
import Derived.RangeFuncBox
import Derived.Shelf.Abstract
import Derived.Shelf.RegionOpen
import Derived.OwnWalkIn
import Derived.TacticsInMore
import Derived.LoopNIn
import Derived.LoopIn
import Derived.Maps.AppendAt
import Derived.Laws.AppendOwnNone
import Derived.Laws.MakeOwn
import Derived.Laws.BitsAllLaws
import Derived.IntWalk
import Derived.Laws.CopyOwn
import Derived.Deep.DeepCutAuto
namespace Go.Proofs.YtklligbjoplbgaaGreat
set_option linter.all false
set_option maxRecDepth 100000
set_option maxHeartbeats 64000000
open Go.RowKit Lib List Nat _root_.Go.Proofs.Tryz Go.Shelf
variable {ad:Addr}{ops:Array Oper}{Q:Exit->Act->aD->Prop}{x:Fin 4096}{T ns q r ws:aK}{p s:List (Fin 4096)}{J:List (Fin 4096)->aD->Prop}{C l:List (Int×Int)}{ts:List aK}{rest:List Oper}{cs vs xs:List bh}{B D b base base' c d i j k m n n0 n1 size y:Nat}{f g:Nat->Bool}{o:Oper}{a ao:Option Addr}{row:Option Nat}{P:pw}{e t:dD}{α β:Type}{v v':bh}{W w w' w1 wr:aD}
def fj (s l:Int):Bool:=decide (0<=s/\s<4096/\1<=l/\l<=4096 - s)
def dE (e:Int):List (Int×Int)->Bool
 | []=>true
 | x::r=>fj x.1 x.2&&decide (e<x.1)&&dE (x.1+x.2) r
def cX (l:List (Int×Int)):Bool:=dE (-1) l
def qL (l:List (Int×Int)) (n:Int):Bool:=l.any λx=>decide (x.1<=n/\n<x.1+x.2)
def bitsOf (l:List (Int×Int)):Nat->Bool:=λn=>qL l (n:Int)
def L6 (l:List (Int×Int)) (k:Nat):List (Int×Int):=
 match l.getLast? with
 | some x=>if x.1+x.2=(k:Int) then l.dropLast++[(x.1,x.2+1)] else l++[((k:Int),1)]
 | none=> [((k:Int),1)]
def dw (f:Nat->Bool):Nat->List (Int×Int)
 | 0=> []
 | k+1=>if f k then L6 (dw f k) k else dw f k
def ed (f:Nat->Bool):List (Int×Int):=dw f 4096
def gC (e:Int):List (Int×Int)->Int
 | []=>e
 | x::r=>gC (x.1+x.2) r
theorem cW (s l:Int):fj s l=true↔(0<=s/\s<4096/\1<=l/\l<=4096 - s):=by simp[fj]
theorem db (e:Int) (x:Int×Int) (r:List (Int×Int)):
 dE e (x::r)=true↔fj x.1 x.2=true/\e<x.1/\dE (x.1+x.2) r=true:=by
 simp[dE,and_assoc]
theorem gG (e:Int)(l m:List (Int×Int)):dE e (l++m)=(dE e l&&dE (gC e l) m):=by
 induction l generalizing e<;>grind[dE,gC]
theorem nj (e:Int) (l m:List (Int×Int)):gC e (l++m)=gC (gC e l) m:=by
 induction l generalizing e<;>grind[gC]
theorem km (x:Int×Int) (r:List (Int×Int)) (n:Int):qL (x::r) n=true↔(x.1<=n/\n<x.1+x.2)∨qL r n=true:=by
 simp[qL]
theorem sL (l m:List (Int×Int))(n:Int):qL (l++m) n=(qL l n||qL m n):=by simp[qL]
theorem Js (n:Int):qL [] n=false:=rfl
theorem qS {e:Int}(h:dE e l=true){n:Int}(hn:qL l n=true):e<n/\0<=n/\n<4096:=by
 induction l generalizing e<;>grind[qL,db,cW]
/-! ### The set of some numbers -/
theorem BT (k:Nat):L6 [] k=[((k:Int),1)]:=rfl
theorem pC (l:List (Int×Int)) (x:Int×Int) (k:Nat):
 L6 (l++[x]) k=if x.1+x.2=(k:Int) then l++[(x.1,x.2+1)] else(l++[x])++[((k:Int),1)]:=by
 simp[L6]
theorem tz (l:List α):l=[]∨∃m x,l=m++[x]:=by
 rcases eq_nil_or_concat l with h | ⟨m,x,h⟩<;>grind
theorem sM (f:Nat->Bool)(k:Nat)(hk:k<=4096):
 dE (-1) (dw f k)=true/\gC (-1) (dw f k)<=k/\(∀n,qL (dw f k) n=true↔(0<=n/\n<k/\f n.toNat=true)):=by
 induction k with
 | zero=>exact⟨rfl,by simp[dw,gC],λn=>by grind[dw,qL]⟩
 | succ k ih=>
  obtain⟨h1,h2,h3⟩:=ih au;unfold dw;by_cases hf:f k=true
  . rw[bC hf];have key: ∀n:Int,(0<=n/\n< ((k+1:Nat):Int)/\f n.toNat=true)↔((0<=n/\n< (k:Int)/\f n.toNat=true)∨n=(k:Int)):=by
     grind
    rcases tz (dw f k) with he | ⟨m,x,he⟩
    . grind[BT,dE,fj,gC,qL]
    . rw[he,pC];rw[he] at h1 h2 h3;rw[gG] at h1;rw[nj] at h2;simp only[Jh,db,cW] at h1;simp only[gC] at h2;by_cases hx:x.1+x.2=(k:Int)
      . rw[bC hx];refine⟨?_,?_,λn=>?_⟩
        . rw[gG];simp only[Jh,db,cW];exact⟨h1.1,au,by omega,rfl⟩
        . grind[nj,gC]
        . rw[key,<-h3,sL,sL,Bool.or_eq_true,Bool.or_eq_true,km,km]
          grind
      . rw[bX hx];refine⟨?_,?_,λn=>?_⟩
        . rw[gG,gG,nj];simp only[Jh,db,cW,gC];exact⟨⟨h1.1,h1.2.1,h1.2.2.1,rfl⟩,au,by omega,rfl⟩
        . grind[nj,gC]
        . rw[key,<-h3,sL,Bool.or_eq_true,km]
          grind[Js]
  grind
theorem ox (f:Nat->Bool):cX (ed f)=true:=(sM f 4096 (eO _)).1
theorem zZ (f:Nat->Bool) (n:Int):qL (ed f) n=true↔(0<=n/\n<4096/\f n.toNat=true):=(sM f 4096 (eO _)).2.2 n
theorem H7 (h: ∀n,n<k->f n=g n):dw f k=dw g k:=by
 induction k with
 | zero=>rfl
 | succ k ih=>simp_all[dw,lt_succ_of_lt]
theorem re (h: ∀n,n<4096->f n=g n):ed f=ed g:=H7 h
theorem lL (f:Nat->Bool)(k:Nat): (dw f k).length<=k:=by
 induction k with
 | zero=>simp[dw]
 | succ k ih=>
  unfold dw;split
  . rcases tz (dw f k) with he | ⟨m,x,he⟩
    . grind[BT]
    grind[pC]
  . omega
/-! ### The numbers of a set,rising -/
def gH (l:List (Int×Int)):List Int:=l.flatMap λx=>(range x.2.toNat).map λ(k:Nat)=>x.1+ (k:Int)
theorem oy (l:List (Int×Int))(n:Int):n∈gH l↔qL l n=true:=by
 induction l with
 | nil=>simp[gH,qL]
 | cons x r ih=>
  rw[km,<-ih];simp only[gH,flatMap_cons,jn,lY,mem_range];constructor
  . grind
  . rintro(⟨h1,h2⟩ | h)
    . exact .inl ⟨(n - x.1).toNat,au,au⟩
    grind
theorem CM {e:Int}(h:dE e l=true): (gH l).Pairwise (· < ·):=by
 induction l generalizing e with
 | nil=>simp_all[gH]
 | cons x r ih=>
  rw[db] at h;simp only[gH,flatMap_cons];rw[pairwise_append];refine⟨?_,ih h.2.2,?_⟩
  . rw[pairwise_map];exact List.pairwise_lt_range.imp au
  . intro a ha b hb;have hb':qL r b=true:=(oy r b).1 hb;have:=qS h.2.2 hb'
    grind
theorem Mm {l m:List Int}(hl:l.Pairwise (· < ·))(hm:m.Pairwise (· < ·))(h: ∀n,n∈l↔n∈m):l=m:=by
 induction l generalizing m with
 | nil=>
  cases m with
  | nil=>rfl
  | cons y s=>exact absurd ((h y).2 fh) fh
 | cons x r ih=>
  cases m with
  | nil=>grind
  | cons y s=>
   rw[pairwise_cons] at hl hm;have hxy:x=y:=by
    rcases iI.1 ((h x).1 fh) with h1 | h1
    . exact h1
    . rcases iI.1 ((h y).2 fh) with h2 | h2<;>grind
   grind
def fw (f:Nat->Bool) (k:Nat):List Int:=((range k).filter f).map λ(n:Nat)=>(n:Int)
def yq (f:Nat->Bool):List Int:=fw f 4096
theorem qb (f:Nat->Bool)(k:Nat):fw f (k+1)=if f k then fw f k++[(k:Int)] else fw f k:=by
 grind[fw,range_succ]
theorem kD (f:Nat->Bool)(k:Nat): (fw f k).length<=k:=by
 grind[fw]
theorem oz (f:Nat->Bool) (k:Nat) (n:Int):n∈fw f k↔(0<=n/\n< (k:Int)/\f n.toNat=true):=by
 simp only[fw,lY,mem_filter,mem_range]
 grind
theorem Mn (f:Nat->Bool)(k:Nat): (fw f k).Pairwise (· < ·):=by
 rw[fw,pairwise_map];exact(List.pairwise_lt_range.filter _).imp au
theorem OU {l:List (Int×Int)} (h:cX l=true):gH l=yq (bitsOf l):=by
 refine Mm (CM h) (Mn _ _) (λn=>?_);rw[oy,yq,oz];constructor
 . intro hm;have:=qS h hm
   grind[bitsOf]
 grind[bitsOf]
def kT (l:List (Int×Int)):Int:=(l.map (·.2)).sum
theorem Pc:kT []=0:=rfl
theorem CO (x:Int×Int)(r:List (Int×Int)):kT (x::r)=x.2+kT r:=by rfl
theorem H9 (l m:List (Int×Int)):kT (l++m)=kT l+kT m:=by simp[kT]
theorem OV {e:Int}(h:dE e l=true):kT l=((gH l).length:Int):=by
 induction l generalizing e<;>grind[db,cW,gH,kT]
theorem Kn {e:Int}(h:dE e l=true)(he: -1<=e):0<=kT l/\kT l+e<=gC e l/\(l≠ []->gC e l<=4096):=by
 induction l generalizing e<;>grind[kT,gC,db,cW]
/-! ### The first so many -/
/-! ### The numbers of a set as an iterator hands them out -/
def Mo (x:Int):Fin 4096:=Fin.ofNat 4096 x.toNat
theorem Jt {x:Int} (h0:0<=x) (h1:x<4096): ((Mo x).val:Int)=x:=by
 have: (Mo x).val=x.toNat % 4096:=rfl;omega
def fJ (l:List (Int×Int)):List (Fin 4096):=if cX l=true then(gH l).map Mo else []
theorem rf {l:List (Int×Int)} (h:cX l=true):fJ l=(gH l).map Mo:=by simp_all[fJ]
theorem qd {l:List (Int×Int)} (h:cX l=false):fJ l=[]:=by simp_all[fJ]
theorem tA {l:List (Int×Int)} (h:cX l=true): (fJ l).map (λx=>(x.val:Int))=gH l:=by
 rw[rf h,EV]
 conv=>rhs;rw[<-map_id (gH l)]
 apply map_congr_left;intro x hx;have:=qS h ((oy l x).1 hx)
 grind[Jt]
def kE (l:List (Int×Int)) (i:Nat):Nat:=(gH (l.take i)).length
theorem Cy (l m:List (Int×Int)):gH (l++m)=gH l++gH m:=by simp[gH]
theorem Hj (x:Int×Int) (r:List (Int×Int)):gH (x::r)=((range x.2.toNat).map λ(k:Nat)=>x.1+ (k:Int))++gH r:=by rfl
theorem Mp (h:i<l.length):kE l (i+1)=kE l i+l[i].2.toNat:=by
 grind[kE,take_succ_eq_append_getElem,gH]
theorem Pd (l:List (Int×Int))(h:l.length<=i):kE l i=(gH l).length:=by
 grind[kE,take_of_length_le]
theorem Mq (l:List (Int×Int)):kE l 0=0:=by rfl
theorem SC (h:i<l.length)(hj:j<l[i].2.toNat): (gH l)[kE l i+j]? =some (l[i].1+ (j:Int)):=by
 have h1:l=l.take i++l[i]::l.drop (i+1):=by
  simp_all
 grind[Cy,Hj,kE]
theorem Vh (hr:cX l=true)(h:i<l.length)(hj:j<l[i].2.toNat):
 ∃x:Fin 4096,(x.val:Int)=l[i].1+ (j:Int)/\kE l i+j< (fJ l).length/\(fJ l).take (kE l i+j)++[x]=(fJ l).take (kE l i+ (j+1)):=by
 have h1:=SC h hj;obtain⟨hlt,h2⟩:=sy.1 h1;have h3:kE l i+j< (fJ l).length:=by grind[rf]
 refine⟨(fJ l)[kE l i+j],?_,h3,?_⟩
 . have h4: (fJ l)[kE l i+j]=Mo (gH l)[kE l i+j]:=by grind[fJ]
   rw[h4,h2];have h5:=qS hr ((oy l _).1 (h2 ▸ tW hlt))
   grind[Jt]
 grind[take_succ_eq_append_getElem]
theorem SD {l:List (Int×Int)} (hr:cX l=true) (n:Fin 4096):n∈fJ l↔bitsOf l n.val=true:=by
 unfold bitsOf;rw[<-oy,<-tA hr,lY]
 grind
def kF (l:List (Int×Int)):Nat->Bool:=λn=>cX l&&bitsOf l n
theorem Mr (l:List (Int×Int))(hn:n<4096): (⟨n,hn⟩:Fin 4096)∈fJ l↔kF l n=true:=by
 grind[SD,qd,kF]
theorem Fa {e:Int}(h:dE e l=true)(hi:i<l.length):fj l[i].1 l[i].2=true:=by
 induction l generalizing e i<;>grind[db]
abbrev ae:=@Go.Lib.hid
abbrev iU:=@Go.RowKit.Below.refl
abbrev ju:=@Go.World.ownsRow_nil
abbrev kg:=@Go.bodyPost_ret
abbrev mA:=@Go.Value.slice.injEq
abbrev mT:=@Go.IntWalk.i64_in
abbrev oC:=@Go.Proofs.Tryz.underlying22
abbrev py:=@Go.Sem.run_bind
abbrev rj:=@Go.Result.andThen_ok
abbrev sC:=@Go.info_parts
abbrev sD:=@Go.wpList_plain
abbrev um:=@Go.Proofs.Tryz.underlying81
abbrev vG:=@Go.block_lt_of_cell
abbrev wB:=@Go.Sem.run_pure
abbrev yo:=@Go.Proofs.Tryz.zeroValue99
abbrev z6:=@Go.World.cell?_of_block
abbrev z7:=@Go.callsIn_wide
abbrev Ep:=@Go.Proofs.Tryz.underlying36
abbrev Er:=@Go.Proofs.Tryz.zeroValue109
abbrev Fc:=@Go.wpList_append_own
abbrev Fi:=@Go.Proofs.Tryz.underlying78
abbrev FH:=@Go.Proofs.Tryz.underlying5
abbrev Hk:=@Go.World.cell?_alloc_at
abbrev Hr:=@Go.Proofs.Tryz.underlying9
abbrev Ju:=@Go.heap_alloc_new
abbrev Jv:=@Go.results_none
abbrev D4:=@Go.IntWalk.u64_in
abbrev D7:=@Go.run_underlying
abbrev D8:=@Go.Proofs.Tryz.zeroValue106
abbrev Ic:=@Go.Proofs.Tryz.underlying106
abbrev Iv:=@Go.ByteArray.toList_eq
abbrev II:=@Go.Exit.noGoto_exit
abbrev IJ:=@Go.Exit.noGoto_normal
abbrev ME:=@Go.Proofs.Tryz.underlying75
abbrev Oz:=@Go.Proofs.Tryz.zeroValue32
abbrev OL:=@Go.Proofs.Tryz.zeroValue38
abbrev Pf:=@Go.bodyPost_end
abbrev Pj:=@setRow_other
abbrev PV:=@Go.Proofs.Tryz.underlying191
abbrev P8:=@Go.run_newObj_alloc
abbrev SH:=@Go.heap_setCell_other
abbrev SU:=@Go.World.ownsRow.cellAt
abbrev SY:=@Go.run_loadVar_row
abbrev Tz:=@Go.run_storeCells_cells
abbrev Vp:=@Go.wpList_make_own
abbrev Vx:=@Go.run_equalIn_int
abbrev VL:=@wpList_store_row
abbrev X6:=@Go.World.ownsRow.alloc
abbrev s_ (b o : Nat) : Option Addr := some ⟨b, o, none⟩
abbrev bZ (b o : Nat) : bh := .pointer (some ⟨b, o, none⟩)
theorem qI {α : Sort _}(v : α) : ∃ x, Hid (v = x) := ⟨v, rfl⟩
theorem BU {α : Sort _}(v : α) : ∃ x, Hid (x = v) := ⟨v, rfl⟩
theorem uO {P : Prop}(h : P := by simp [intOf]; omega) : P := h
abbrev yr (n : Rk) (args : Array bh) (w : World) (v : bh) : Prop := Calls prog n args w λe w' => e = .returned v /\ Below w.heap.size w w'
abbrev dp (w w' : World) : Prop := Below w.heap.size w w'
theorem Zh (hb:dp W w1): (∀b o,b<W.heap.size->w1.cell? ⟨b,o,none⟩=W.cell? ⟨b,o,none⟩)/\(∀b o,b<W.heap.size->w1.frozen? ⟨b,o,none⟩=W.frozen? ⟨b,o,none⟩):=
 ⟨λb o h=>hb.cell (p:=⟨b,o,none⟩) h,λb o h=>hb.frozen (p:=⟨b,o,none⟩) h⟩
theorem Below.step (h:Below B w wr)(hB:B<=wr.heap.size)(h1:dp wr w1):Below B w w1:=h.trans (h1.mono hB)
def bT (x:Int):Prop:=-9223372036854775808<=x/\x<=9223372036854775807
theorem z1 {e:Int}(h:dE e l=true): ∀x∈l,bT x.1/\bT x.2:=by
 induction l generalizing e with
 | nil=>simp
 | cons x r ih=>
  rw[db,cW] at h;intro y hy;rcases iI.1 hy with rfl | hy
  . grind[bT]
  grind
def bK (w:aD) (v:bh) (l:List (Int×Int)):Prop:=
 ∃ao cap,v=.slice ao l.length cap/\l.length<=9223372036854775807/\(∀x∈l,bT x.1/\bT x.2)/\
  (l≠ []->∃b o,ao=some ⟨b,o,none⟩/\b<w.heap.size/\
   ∀k (h:k<l.length),w.cell? ⟨b,o+k*2,none⟩=some (.int .i64 l[k].1)/\w.cell? ⟨b,o+k*2+1,none⟩=some (.int .i64 l[k].2))
theorem bK.below (h:bK w v l)(hb:dp w w'):bK w' v l:=by
 obtain⟨ao,cap,h1,h2,h3,h4⟩:=h;refine⟨ao,cap,h1,h2,h3,λhl=>?_⟩;obtain⟨b,o,h5,h6,h7⟩:=h4 hl;refine⟨b,o,h5,uj h6 hb.size,λk hk=>?_⟩;obtain⟨h8,h9⟩:=h7 k hk;exact⟨(hb.cell (p:=⟨b,_,none⟩) h6).trans h8,(hb.cell (p:=⟨b,_,none⟩) h6).trans h9⟩
theorem bK.range (h:bK w v l): ∀x∈l,bT x.1/\bT x.2:=by
 obtain⟨ao,cap,h1,h2,h3,h4⟩:=h;exact h3
theorem oA (w:aD):bK w (.slice none 0 0) []:=⟨none,0,rfl,by simp,by simp,λh=>absurd rfl h⟩
def br (k:IntKind) (w:aD) (v:bh) (l:List Int):Prop:=
 ∃ao cap,v=.slice ao l.length cap/\l.length<=9223372036854775807/\(∀x∈l,(Lit.int k x).wf=true)/\
  (l≠ []->∃b o,ao=some ⟨b,o,none⟩/\b<w.heap.size/\∀j (h:j<l.length),w.cell? ⟨b,o+j,none⟩=some (.int k l[j]))
theorem br.below {k:IntKind}{l:List Int}(h:br k w v l)(hb:dp w w'):br k w' v l:=by
 obtain⟨ao,cap,h1,h2,h3,h4⟩:=h;refine⟨ao,cap,h1,h2,h3,λhl=>?_⟩;obtain⟨b,o,h5,h6,h7⟩:=h4 hl;exact⟨b,o,h5,uj h6 hb.size,λk hk=>(hb.cell (p:=⟨b,_,none⟩) h6).trans (h7 k hk)⟩
theorem xI (k:IntKind) (w:aD):br k w (.slice none 0 0) []:=⟨none,0,rfl,by simp,by simp,λh=>absurd rfl h⟩
def ah (n:Nat) (f:Nat->bh):iw:=Array.ofFn (n:=n) λi=>f i.val
theorem aj (n:Nat) (f:Nat->bh): (ah n f).size=n:=by simp[ah]
theorem aF (n:Nat) (f:Nat->bh) (i:Nat): (ah n f)[i]? =if i<n then some (f i) else none:=by
 grind[ah,Array.getElem?_ofFn]
theorem SF (n:Nat)(f:Nat->bh)(i:Nat)(v:bh): (ah n f).setIfInBounds i v=ah n (λj=>if j=i then v else f j):=by
 apply ER;intro j;rw[Array.getElem?_setIfInBounds,aF,aF,aj]
 grind
theorem sN {n:Nat} {f g:Nat->bh} (h: ∀i,i<n->f i=g i):ah n f=ah n g:=by
 simp_all[ah]
theorem CR (n:Nat)(v:bh):Array.replicate n v=ah n (λ_=>v):=by
 apply ER
 grind[aF]
def ag (w:aD) (b:Nat) (t:dD) (n:Nat) (f:Nat->bh):Prop:=w.heap[b]? =some (.cells (ah n f) t (0,0))
theorem ag.cell {w:aD} {b:Nat} {t:dD} {n:Nat} {f:Nat->bh} (h:ag w b t n f) {i:Nat} (hi:i<n):w.cell? ⟨b,i,none⟩=some (f i):=by
 rw[cell_of_row w b i _ t _ h,aF,bC hi]
theorem ag.frozen {f:Nat->bh}(h:ag w b t n f)(i:Nat):w.frozen? ⟨b,i,none⟩=false:=frozen_of_row w b i _ t h
theorem ag.lt {w:aD} {b:Nat} {t:dD} {n:Nat} {f:Nat->bh} (h:ag w b t n f):b<w.heap.size:=(zY.1 h).1
theorem ag.set {f:Nat->bh}(h:ag w b t n f)(i:Nat)(v:bh):ag (w.setCell ⟨b,i,none⟩ v) b t n (λj=>if j=i then v else f j):=by
 unfold ag;rw[heap_setCell_same w b i _ t v h,SF]
theorem ag.below {f:Nat->bh}(h:ag w b t n f)(hb:dp w w'):ag w' b t n f:=by
 unfold ag;rw[hb.block b h.lt];exact h
theorem ag.zu {f:Nat->bh}(h:ag w b t n f)(hb:Below B w w')(hB:b<B):ag w' b t n f:=by
 unfold ag;rw[hb.block b hB];exact h
theorem ag.congr {f g:Nat->bh}(h:ag w b t n f)(hfg: ∀i,i<n->f i=g i):ag w b t n g:=by
 grind[ag,sN]
theorem ag.alloc (w:aD) (t:dD) (n:Nat) (f:Nat->bh):ag (w.alloc (.cells (ah n f) t)) w.heap.size t n f:=Ju w _
theorem ag.alloc_old {w:aD} {b:Nat} {t:dD} {n:Nat} {f:Nat->bh} (h:ag w b t n f) (o:Obj):ag (w.alloc o) b t n f:=by
 grind[ag,Below.heap_alloc]
theorem ag.sI {f:Nat->bh}(h:ag w b t n f)(a:Addr)(ha:b≠a.block)(v:bh):ag (w.setCell a v) b t n f:=by
 grind[ag,heap_setCell_other]
theorem ag.grown {w w':aD} {b:Nat} {t:dD} {n:Nat} {f:Nat->bh} {row:Option Nat} (h:ag w b t n f) (hg:w.grownBy w' row) (hr:row≠some b):ag w' b t n f:=by
 unfold ag;rw[hg.block b h.lt (λe=>hr e.symm)];exact h
def cj (f:Nat->Bool):Nat->bh:=λi=>.bool (f i)
theorem OW:zeroCells249=ah 4096 (cj λ_=>false):=by
 rw[show(cj λ_=>false)=(λ_=>Value.bool false) from rfl,<-CR];kernel_rfl
theorem Rl:zeroCells248=ah 4096 (cj λ_=>false):=by
 rw[show(cj λ_=>false)=(λ_=>Value.bool false) from rfl,<-CR];kernel_rfl
/-! ### Cells of spans,one behind the other -/
def dA:List (Int×Int)->List bh
 | []=> []
 | x::r=>.int .i64 x.1::.int .i64 x.2::dA r
theorem fC (l:List (Int×Int)): (dA l).length=l.length*2:=by
 induction l<;>grind[dA]
theorem jd (l m:List (Int×Int)):dA (l++m)=dA l++dA m:=by
 induction l<;>grind[dA]
theorem rh (l:List (Int×Int)) (k:Nat) (h:k<l.length): (dA l)[k*2]? =some (.int .i64 l[k].1)/\(dA l)[k*2+1]? =some (.int .i64 l[k].2):=by
 induction l generalizing k with
 | nil=>simp at h
 | cons x r ih=>
  cases k with
  | zero=>exact⟨rfl,rfl⟩
  | succ k=>
   grind[dA]
theorem qe (h:w.ownsRow base e 2 v l.length (dA l))(hr: ∀x∈l,bT x.1/\bT x.2)(hl:l.length<=9223372036854775807):bK w v l:=by
 rcases h.2 with⟨rfl,h0⟩ | ⟨g,cap,cur,rfl,hb,hg,hn,hc,hs,ht⟩
 . grind[oA]
 . refine⟨_,cap,rfl,hl,hr,λ_=>⟨g,0,rfl,(zY.1 hg).1,λk hk=>?_⟩⟩;have h1:=h.cellAt (k*2) au;have h2:=h.cellAt (k*2+1) au
   grind[rh]
theorem lz {k:IntKind}{l:List Int}(h:w.ownsRow base e 1 v l.length (l.map (Value.int k)))(hr: ∀x∈l,(Lit.int k x).wf=true)(hl:l.length<=9223372036854775807):br k w v l:=by
 rcases h.2 with⟨rfl,h0⟩ | ⟨g,cap,cur,rfl,hb,hg,hn,hc,hs,ht⟩
 . grind[xI]
 . refine⟨_,cap,rfl,hl,hr,λ_=>⟨g,0,rfl,(zY.1 hg).1,λj hj=>?_⟩⟩;have h1:=h.cellAt j au
   grind
theorem aaR: (prog.info? 141).map (λi=>(i.zero,i.size,i.bytes))=some (some (.agg #[.int .i64 0,.int .i64 0]),2,16):=cm
theorem UU: (prog.info? 3).map (λi=>(i.zero,i.size,i.bytes))=some (some (.int .i64 0),1,8):=cm
theorem yA {a b:Bool}(h:a=b):Ending.returned (.bool a)=.returned (.bool b):=by rw[h]
theorem Rm {k:IntKind}{a b:Int}(h:a=b):Ending.returned (.int k a)=.returned (.int k b):=by rw[h]
theorem uR {o:Nat}(hbs:b<w.heap.size)(hcell: ∀k (h:k<l.length),w.cell? ⟨b,o+k*2,none⟩=some (.int .i64 l[k].1)/\w.cell? ⟨b,o+k*2+1,none⟩=some (.int .i64 l[k].2))(hbel:dp w wr)(h:k<l.length):
 wr.cell? ⟨b,o+k*2,none⟩=some (.int .i64 l[k].1)/\wr.cell? ⟨b,o+k*2+1,none⟩=some (.int .i64 l[k].2):=
 ⟨(hbel.cell (p:=⟨b,o+k*2,none⟩) hbs).trans (hcell k h).1,(hbel.cell (p:=⟨b,o+k*2+1,none⟩) hbs).trans (hcell k h).2⟩
theorem OX {k:IntKind}{o:Nat}{l:List Int}(hbs:b<w.heap.size)(hcell: ∀j (h:j<l.length),w.cell? ⟨b,o+j,none⟩=some (.int k l[j]))(hbel:dp w wr)(h:j<l.length):
 wr.cell? ⟨b,o+j,none⟩=some (.int k l[j]):=(hbel.cell (p:=⟨b,o+j,none⟩) hbs).trans (hcell j h)
theorem ax: (∀(a:Act) (d:Tmp) (v:bh),a.put (some d) v= {a with tmps:=a.tmps.setIfInBounds d v})/\(∀(a:Act) (v:bh),a.put none v=a)/\
 (∀(a:Act) (t:Tmp),a.eval (.tmp t)=a.tmps.getD t undef)/\(∀(a:Act) (v:bh),a.eval (.const v)=v)/\(∀(a:Act) (g:Nat),a.eval (.global g)=.pointer (some ⟨g,0,none⟩))/\(∀(a:Act) (f:Rk),a.eval (.func f)=.func (.func f) #[] #[])/\
 (∀(l:List bh) (i:Nat) (x:bh),l.toArray.setIfInBounds i x=(l.set i x).toArray)/\(∀(x y:bh) (l:List bh) (n:Nat),(x::l).set (n+1) y=x::l.set n y)/\(∀(x y:bh) (l:List bh),(x::l).set 0 y=y::l)/\
 (∀(A:iw) (i:Nat) (d:bh),A.getD i d=A[i]?.getD d)/\(∀(l:List bh) (i:Nat),l.toArray[i]? =l[i]?)/\(∀(x:bh) (l:List bh) (i:Nat),(x::l)[i+1]? =l[i]?)/\(∀(x:bh) (l:List bh),(x::l)[0]? =some x)/\(∀(x d:bh),(some x).getD d=x):=
 ⟨λ_ _ _=>rfl,λ_ _=>rfl,λ_ _=>rfl,λ_ _=>rfl,λ_ _=>rfl,λ_ _=>rfl,λl i x=>setIfInBounds_toArray l i x,λ_ _ _ _=>rfl,λ_ _ _=>rfl,λA i d=>Array.getD_eq_getD_getElem? ..,λl i=>by simp,λ_ _ _=>rfl,λ_ _=>rfl,λ_ _=>rfl⟩
theorem Pe (s l:Int)(w:aD):
 yr 276 #[.agg #[.int .i64 s,.int .i64 l]] w (.bool (fj s l)):=by
 by_cases h1:0<=s;by_cases h2:s<4096;by_cases h3:1<=l
 . by_cases h4:l<=4096 - s
   all_goals
    go_enter func276,ntmps276;go_wp2;go_ret;refine⟨?_,(iU _ _).alloc (eO _) _⟩;simp[fj] <;> omega
 rotate_left
 rotate_left
 all_goals
  go_enter func276,ntmps276;go_wp2;go_ret;refine⟨?_,(iU _ _).alloc (eO _) _⟩;simp[fj] <;> omega
theorem BV (b:Bool)(s l:Int)(hs:fj s l=b)(w:aD):
 yr 276 #[.agg #[.int .i64 s,.int .i64 l]] w (.bool b):=by
 subst hs;exact Pe s l w
theorem SG (v:bh)(l:List (Int×Int))(w:aD)(hv:bK w v l):
 yr 247 #[v] w (.bool (cX l)):=by
 obtain⟨ao,cap,rfl,hlen,hb,hc⟩:=hv;have HB:=ae hb;have HC:=ae hc;clear hc;unfold cX;go_enter func247,ntmps247
 go_wp2_with (fail)
 go_loopw [3,8] (λen i wr=>∃(k:Nat) (e:Int),k<=l.length/\i=.int .i64 k/\en=.int .i64 e/\-1<=e/\e<=4096/\dE (-1) l=dE e (l.drop k)/\dp w wr)
  (λ_ i _=>l.length - (intOf i).toNat)
 case atStart=>exact⟨0,-1,kf _,rfl,rfl,au,by omega,rfl,iU _ _⟩
 case round=>
  obtain⟨k,e,hk,rfl,rfl,he1,he2,hr,hbel⟩:=hrel;by_cases hlt:k<l.length
  . rw[U9 hlt,dE] at hr;have HR:=ae hr;clear hr;obtain⟨b,o,rfl,hbs,hcell⟩:=HC.o (by intro h;simp[h] at hlt);obtain⟨h1,h2⟩:=uR hbs hcell hbel hlt;clear hcell;have hsz:=hbel.size;have hbel2:=hbel.alloc hsz (.cells #[.int .i64 l[k].1,.int .i64 l[k].2] 141);by_cases hs:fj l[k].1 l[k].2=true
    . have HS:=ae hs;have hs':=(cW _ _).1 hs;clear hs;by_cases hge:e<l[k].1
      . go_wp2_with ((go_at_call 276;refine(BV true _ _ HS.o _).mono ?_;rintro ev w1 ⟨rfl,hb1⟩;obtain⟨hq1,hq2⟩:=Zh hb1))
        go_roundw
        case rel=>
         exact⟨k+1,_,au,by go_num,rfl,au,by omega,by rw[HR.o,HS.o];simp[hge],Below.step hbel2 (by simp;omega) (by assumption)⟩
        case measure=>exact uO
      . go_wp2_with ((go_at_call 276;refine(BV true _ _ HS.o _).mono ?_;rintro ev w1 ⟨rfl,hb1⟩;obtain⟨hq1,hq2⟩:=Zh hb1))
        go_ret;exact⟨yA (by rw[HR.o,HS.o];simp;intro hx;omega),Below.step hbel2 (by simp;omega) (by assumption)⟩
    . have HS:=ae (show fj l[k].1 l[k].2=false by simpa using hs);clear hs
      go_wp2_with ((go_at_call 276;refine(BV false _ _ HS.o _).mono ?_;rintro ev w1 ⟨rfl,hb1⟩))
      go_ret;exact⟨yA (by rw[HR.o,HS.o];simp),Below.step hbel2 (by simp;omega) (by assumption)⟩
  . have HR:=ae hr;clear hr;go_wp2;go_ret;exact⟨yA (by rw[HR.o,drop_of_length_le au];rfl),hbel⟩
theorem nV (b:Bool)(v:bh)(l:List (Int×Int))(h:cX l=b)(w:aD)(hv:bK w v l):
 yr 247 #[v] w (.bool b):=by
 subst h;exact SG v l w hv
attribute [local go_sem] Oper.semAt_some
structure Kept (n0 n1:Nat) (W W':aD):Prop where
 below:Below n0 W W'
 rows: ∀(k:Nat) (o:Obj),n1<=k->W.heap[k]? =some o->o.isCells=true->W'.heap[k]? =some o
theorem Kept.trans {A B C:aD}(h:Kept n0 n1 A B)(k:Kept n0 n1 B C):Kept n0 n1 A C:=
 ⟨h.below.trans k.below,λi o hi ho hc=>k.rows i o hi (h.rows i o hi ho hc) hc⟩
theorem Kept.book (hn:n0<=w.heap.size)(W:aD)(l:Nat)(o o':Obj)(hl:w.heap.size<=l)(ho:W.heap[l]? =some o)(hc:o.isCells=false)(hw:o.isWalk=false):Kept n0 n1 W (W.putObj l o'):=
 ⟨belowK_b hn W l o o' hl ho hc hw,λk p _ hp hpc=>(World.putObj_heap_other (λe=>by grind)).trans hp⟩
theorem Kept.cell {n0 n1:Nat} {W W':aD} (h:Kept n0 n1 W W') {a:Addr} {v:bh} (ha:n1<=a.block) (hc:W.cell? a=some v):W'.cell? a=some v:=by
 obtain⟨o,ho,hoc⟩:=cells_of_cell hc;exact(z6 ((h.rows _ o ha ho hoc).trans ho.symm)).trans hc
theorem Kept.setCell {a:Addr}(v:bh)(h0:n0<=a.block)(h1:a.block<n1):Kept n0 n1 W (W.setCell a v):=
 ⟨(iU n0 W).setCell h0 v,λk o hk ho _=>(SH W a k v au).trans ho⟩
theorem Kept.refl (n0 n1:Nat)(W:aD):Kept n0 n1 W W:=⟨iU _ _,λ_ _ _ h _=>h⟩
theorem uS (hJ:AbidesFrom B J){W':aD}(h:J s W)(hb:dp W W'):J s W':=
 hJ s W W' none h ⟨hb.os,hb.tape,hb.output,hb.size,λk hk _=>hb.block k hk⟩ (λr e=>by cases e)
theorem xJ:Fence.wide.depth.isSome=true->1<=n:=λh=>by cases h
theorem Vi (n:Nat)(lp Bs n0 n1:Nat)(v:bh)(l:List (Int×Int))(w0:aD)(hv:bK w0 v l)(hn0:n0=w0.heap.size)(J Jx:List (Fin 4096)->aD->Prop)(W:aD)(hn1:n1<=W.heap.size)(hJ:AbidesFrom W.heap.size J)(hY: ∀pre x W1,J pre W1->pre.length< (fJ l).length->YieldAt Fence.wide (n - 1) prog lp #[.int .i64 ((x:Fin 4096).val:Int)] W1 λe W'=>
  (e=.returned (.bool true)/\J (pre++[x]) W'/\Kept n0 n1 W1 W')∨(e=.returned (.bool false)/\Jx (pre++[x]) W'))(hbel0:Below n0 w0 W)(hBs:W.cell? ⟨Bs,0,none⟩=some v)(h0:J [] W):
 CallsIn Fence.wide n prog 262 #[.func (.yield lp) #[] #[],.pointer (some ⟨Bs,0,none⟩)] W λe W'=>(∃u,e=.returned u)/\
  ((∃ys,ys=fJ l/\J ys W')∨(∃pre,pre<+:fJ l/\Jx pre W')):=by
 subst hn0;have hvW:bK W v l:=hv.below hbel0;obtain⟨ao,cap,rfl,hlen,hb,hc⟩:=hv;have HC:=ae hc;clear hc;have HB:=ae hb;have HY:=ae hY;clear hY;have HJ:=ae hJ;clear hJ;have hBl:Bs<W.heap.size:=vG hBs;refine callsIn_of_wp func262 rfl kO ?_ rfl;simp only[ntmps262,Ji,o8,we,reduceAdd,reduceSub,Jj,Jk,Jl,Jm,wv,Aj];by_cases hr:cX l=true
 . have HR:=ae hr;clear hr
   gi_wp2_with ((refine⟨kO,xJ,?_⟩;gi_at_call 247;refine(z7.2 (nV true _ _ HR.o _ hvW)).mono ?_;rintro e w1 ⟨rfl,hb1⟩;have hBs1:=(hb1.cell (p:=⟨Bs,0,none⟩) hBl).trans hBs))
   gi_loopw [11] (λi wr=>∃k:Nat,k<=l.length/\i=.int .i64 k/\J ((fJ l).take (kE l k)) wr/\dp w0 wr/\w1.heap.size<=wr.heap.size)
    (λi _=>l.length - (intOf i).toNat)
   case atStart=>exact⟨0,kf _,rfl,by rw[Mq];exact uS HJ.o h0 hb1,Below.step hbel0 hbel0.size hb1,eO _⟩
   case round=>
    obtain⟨k,hk,rfl,hJs,hnx,hsz⟩:=hrel;by_cases hlt:k<l.length
    . obtain⟨b,o,rfl,hbs,hcell⟩:=HC.o (by intro h;simp[h] at hlt);obtain⟨h1,h2⟩:=uR hbs hcell hnx hlt;clear hcell;have hbb:=HB.o l[k] (tW _);unfold bT at hbb;have hs1:=(cW _ _).1 (Fa HR.o hlt);have HAS:=ae (Mp hlt);have hsz0:=hnx.size;have hb1s:=hb1.size
      gi_wp2
      obtain⟨WR,hWR⟩:=gq (wr.alloc (.cells #[.int .i64 l[k].1,.int .i64 l[k].2] 141));have hWc:WR.cell? ⟨wr.heap.size,0,none⟩=some (.int .i64 l[k].1):=by simp_all
      have hWs:wr.heap.size<WR.heap.size:=by rw[hWR];simp
      have hJW:J ((fJ l).take (kE l k)) WR:=by rw[hWR];exact uS HJ.o hJs ((iU _ _).alloc (eO _) _)
      have hnW:dp w0 WR:=by rw[hWR];exact hnx.alloc hsz0 _
      rw[<-hWR];clear hWR;obtain⟨wo,rfl⟩: ∃wo:aD,wo=wr:=⟨_,rfl⟩
      gi_loopw [17] (λi w2=>∃j:Nat,(j:Int)<=l[k].2/\i=.int .i64 j/\J ((fJ l).take (kE l k+j)) w2/\dp w0 w2/\WR.heap.size<=w2.heap.size/\w2.cell? ⟨wo.heap.size,0,none⟩=some (.int .i64 l[k].1))
       (λi _=>l[k].2.toNat - (intOf i).toNat)
      case atStart=>grind
      case round=>
       obtain⟨j,hj,rfl,hJ2,hn2,hs2,hc2⟩:=hrel;by_cases hjl: (j:Int)<l[k].2
       . obtain⟨x,hx,hxl,hxt⟩:=Vh HR.o hlt (j:=j) au;obtain⟨fn,tmps,assign,body,hy,hRd⟩:=HY.o _ x _ hJ2 (by rw[pM];omega);rw[hx] at hy;clear hx;have HT:=ae hxt;clear hxt
         gi_wp2
         refine⟨xJ,hRd.mono ?_⟩;rintro e W3 (⟨rfl,hJ3,hk3⟩ | ⟨rfl,hJx3⟩)
         . have hc3:=hk3.cell (a:=⟨wo.heap.size,0,none⟩) (by show n1<=wo.heap.size;omega) hc2;have hk3s:=hk3.below.size
           gi_wp2
           go_roundw
           case rel=>exact⟨j+1,au,by go_num,by rw[<-HT.o];exact hJ3,hn2.trans hk3.below,au,hc3⟩
           case measure=>exact uO
         . gi_wp2
           refine kg (Jv rfl _ _ _) rfl ?_;exact⟨⟨_,rfl⟩,.inr ⟨_,by rw[HT.o];exact take_prefix _ _,hJx3⟩⟩
       . have hJe:J ((fJ l).take (kE l (k+1))) wr:=by rw[HAS.o,show l[k].2.toNat=j from by omega];exact hJ2
         gi_wp2
         go_roundw
         case rel=>grind
         case measure=>exact uO
    . gi_wp2
      refine Pf (Jv rfl _ _ _) rfl ?_;exact⟨⟨_,rfl⟩,.inl ⟨_,rfl,by
       have h:=hJs;rw[Pd l au,tX (by rw[rf HR.o,pr];exact eO _)] at h;exact h⟩⟩
 . have HR:=ae (show cX l=false by simpa using hr);clear hr
   gi_wp2_with ((refine⟨kO,xJ,?_⟩;gi_at_call 247;refine(z7.2 (nV false _ _ HR.o _ hvW)).mono ?_;rintro e w1 ⟨rfl,hb1⟩))
   refine kg (Jv rfl _ _ _) rfl ?_;exact⟨⟨_,rfl⟩,.inl ⟨_,rfl,by rw[qd HR.o];exact uS HJ.o h0 hb1⟩⟩
theorem tB (n:Nat)(Bs:Nat)(v:bh)(l:List (Int×Int))(w0 w:aD)(hv:bK w0 v l)(hb:dp w0 w)(hBs:w.cell? ⟨Bs,0,none⟩=some v):
 SeqStopsK Fence.wide n prog 262 #[.pointer (some ⟨Bs,0,none⟩)] (λx:Fin 4096=>#[Value.int .i64 (x.val:Int)]) (Kept w0.heap.size w.heap.size) (λys=>ys=fJ l) (λpre=>pre<+:fJ l) (fJ l).length w:=by
 intro lp J Jx W hW hJ _ hY h0;exact Vi n lp Bs w0.heap.size w.heap.size v l w0 hv rfl J Jx W hW.size hJ hY (hb.trans (hW.mono hb.size)) ((hW.cell (p:=⟨Bs,0,none⟩) (vG hBs)).trans hBs) h0
theorem yB (a:Option Addr)(len cap:Nat)(w:aD):
 Calls prog 230 #[.slice a len cap] w λe w'=>e=.returned (.func (.func 262) #[] #[.pointer (some ⟨w.heap.size,0,none⟩)])/\w'=w.alloc (.cells #[.slice a len cap] 66):=by
 go_enter func230,ntmps230;go_wp2;go_ret;exact⟨rfl,rfl⟩
theorem uT (h:w.ownsRow base e size v n xs):
 (v=.slice none 0 0/\n=0)∨∃g cap,v=.slice (some ⟨g,0,none⟩) n cap/\base<=g/\g<w.heap.size:=by
 rcases h.2 with⟨h1,h2⟩ | ⟨g,cap,cur,h1,h2,h3,_⟩<;>grind
theorem Cz (m:List (Int×Int))(x:Int×Int)(c:Int): (dA (m++[x])).set (m.length*2+1) (.int .i64 c)=dA (m++[(x.1,c)]):=by
 simp_all[jd,fC,dA]
theorem xK {a b:bh}: ∀j u,[a,b][j]? =some u->(w.alloc (.cells #[a,b] t)).cell? ((⟨w.heap.size,0,none⟩:Addr).add j)=some u:=by
 intro j u hj
 match j,hj with
 | 0,hj=>simp_all[Addr.add]
 | 1,hj=>simp_all[Addr.add]
 | j+2,hj=>simp at hj
theorem sO (a b:Int)(k l:IntKind): ∀u∈ [Value.int k a,Value.int l b],u.oneCell'=true:=by
 intro u hu;simp at hu;rcases hu with rfl | rfl <;> rfl
theorem qA (h:w.ownsRow base e size v n xs)(d:Nat): (w.drewN d).ownsRow base e size v n xs:=h
theorem pQ {o:Obj}(hbel:dp w wr)(hr: ∀j,row=some j->w.heap.size<=j)(hgrow: ((wr.drewN d).alloc o).grownBy w1 row):dp w w1:=
 ((below_drewN hbel d).alloc (by have:=hbel.size;exact this) o).grown hgrow (by have:=hbel.size;simp_all[le_succ_of_le]) hr
def lM (l:List Int):Nat->Bool:=λn=>decide ((n:Int)∈l)
theorem tC {l:List Int}(h:k<l.length)(n:Nat):lM (l.take (k+1)) n=(lM (l.take k) n||decide ((n:Int)=l[k])):=by
 unfold lM;rw[DX,EW h]
 grind
theorem ag.setBool (h:ag w b t n (cj f))(i:Nat)(v:Bool)(hg: ∀j,j<n->g j=if j=i then v else f j):ag (w.setCell ⟨b,i,none⟩ (.bool v)) b t n (cj g):=by
 refine(h.set i (.bool v)).congr (λj hj=>?_)
 grind[cj]
attribute [local go_sem] Oper.semAt_some
theorem EM (b:Nat)(t:dD)(n:Nat)(f:β->Nat->bh):Own (λs W=>ag W b t n (f s)):=by
 intro s W W' row hs hg hr;refine hs.grown hg (λe=>?_);obtain⟨o,ho,hc⟩:=hr b e;rw[show W.heap[b]? =_ from hs] at ho;cases ho;cases hc
def sG (pre:List (Fin 4096)):Nat->Bool:=λn=>pre.any λx=>x.val==n
theorem z8 (pre:List (Fin 4096))(x:Fin 4096)(n:Nat):sG (pre++[x]) n=if n=x.val then true else sG pre n:=by
 grind[sG]
theorem xL (l:List (Int×Int))(hn:n<4096):sG (fJ l) n=kF l n:=by
 rw[DX,<-Mr l hn]
 grind[sG]
theorem X5 (v:bh)(l:List (Int×Int))(w:aD)(hv:bK w v l):
 CallsIn Fence.wide 5 prog 291 #[v] w λe w'=>e=.returned (.pointer (some ⟨w.heap.size,0,none⟩))/\ag w' w.heap.size 249 4096 (cj (kF l))/\dp w w':=by
 have hv0:=hv;obtain⟨ao,cap,rfl,hlen,hb,hc⟩:=hv;clear hc;have HV:=ae hv0;clear hv0;refine callsIn_of_wp_marks func291 rfl kO ?_ rfl;simp only[ntmps291,Ji,o8,we,reduceAdd,reduceSub,Jj,Jk,Jl,Jm,wv,Aj]
 gi_wp2_with ((refine⟨kO,?_⟩;gi_at_call 230;refine(z7.2 (yB _ _ _ _)).mono ?_;rintro e w' ⟨rfl,rfl⟩))
 obtain⟨W0,hW0⟩:=gq (w.alloc (.cells zeroCells249 249));have hr0:ag W0 w.heap.size 249 4096 (cj λ_=>false):=by rw[hW0,OW];exact ag.alloc _ _ _ _
 have hs0:W0.heap.size=w.heap.size+1:=by rw[hW0];simp
 have hB0:dp w W0:=by rw[hW0];exact(iU _ _).alloc (eO _) _
 rw[<-hW0];obtain⟨W1,hW1⟩:=gq (W0.alloc (.cells #[.slice ao l.length cap] 66));have hcb:W1.cell? ⟨W0.heap.size,0,none⟩=some (.slice ao l.length cap):=by simp_all
 have hs1:W1.heap.size=w.heap.size+2:=by rw[hW1];simp;omega
 have hB1:dp w W1:=by rw[hW1];exact hB0.alloc au _
 have hr1:ag W1 w.heap.size 249 4096 (cj λ_=>false):=by rw[hW1];exact hr0.alloc_old _
 rw[<-hW1];rw[hs0] at hcb;clear hW0 hW1;refine wpIn_rangeFunc_ownF rfl au (gf:=262) (lb:=#[bZ (w.heap.size+1) 0]) rfl kO (enters_of func262 cm rfl)
  (tB 4 (w.heap.size+1) _ l w W1 HV.o hB1 hcb) Kept.trans (Kept.book au) (iU _ _) (λ_=>rfl)
  (λpre W=>ag W w.heap.size 249 4096 (cj (sG pre))/\dp w W)
  (λ_ _ _=>False)
  (OwnFrom.and (Own.from (EM _ _ _ _) _) (ownFrom_below (eO _) au))
  (λ_ _ _ _ _ hs _ _=>hs)
  ⟨hr1.congr (λi _=>rfl),hB1⟩
  (λx=>{tmps:=#[.slice ao l.length cap,undef,.pointer none,bZ w.heap.size 0,.int .i64 (x.val:Int),.slice ao l.length cap,.func (.func 262) #[] #[bZ (w.heap.size+1) 0],.int .i64 (x.val:Int),undef,undef],defers:=[]}) ?assign ?body ?done ?stop
 case assign=>
  intro lp x W K hK
  gi_wp2
  exact hK
 case body=>
  rintro lp pre x W ⟨hr,hB⟩ _;have hc1:=hr.cell x.isLt;have hf1:=hr.frozen x.val;simp only[cj] at hc1;have hx1: (x.val:Int)< (4096:Int):=by have:=x.isLt;omega
  gi_wp2
  exact⟨KeepsOthers.setCell _ _ _,Kept.setCell _ (eO _) rE,hr.setBool _ true (λj _=>z8 pre x j),hB.setCell (p:=⟨w.heap.size,x.val,none⟩) (eO _) _⟩
 case done=>
  rintro D ys W hD rfl ⟨hr,hB⟩ hK
  gi_wp2
  refine⟨by simp,.inl ⟨_,_,rfl,run_takeDeferred hK,?_⟩⟩;refine⟨_,results_tmp rfl _ _ _,rfl,?_,hB.trans (belowK_b (w:=w) (eO _) W D _ _ au hK rfl rfl)⟩;exact(hr.grown (grownBy_putObj' W D _) (λe=>by cases e;omega)).congr (λi hi=>by simp only[cj];rw[xL l hi])
 case stop=>
  grind
theorem Rn (v:bh)(l:List (Int×Int))(w:aD)(hv:bK w v l):
 Calls prog 291 #[v] w λe w'=>e=.returned (.pointer (some ⟨w.heap.size,0,none⟩))/\ag w' w.heap.size 249 4096 (cj (kF l))/\dp w w':=
 z7.1 (X5 v l w hv)
attribute [local go_sem] Oper.semAt_some
def wA (l:List (Int×Int)):Int:=if cX l=true then kT l else 0
theorem Ms (h:k<l.length):kT (l.take (k+1))=kT (l.take k)+l[k].2:=by
 rw[EW h,H9,CO,Pc];omega
theorem Pg (h:cX l=true)(k:Nat):cX (l.take k)=true:=by
 have h1:=h;unfold cX at h1 ⊢;rw[<-Sv k l,gG,Jh] at h1;exact h1.1
theorem Jw (h:cX l=true):0<=kT l/\kT l<=4097:=by
 have:=Kn h au
 grind[kT]
theorem SI (v:bh)(l:List (Int×Int))(w:aD)(hv:bK w v l):
 yr 229 #[v] w (.int .i64 (wA l)):=by
 have HV:=ae hv;obtain⟨ao,cap,rfl,hlen,hb,hc⟩:=hv;have HC:=ae hc;clear hc;have HB:=ae hb;by_cases hr:cX l=true
 . have HR:=ae hr;clear hr;go_enter func229,ntmps229
   go_wp2_with ((go_at_call 247;refine(nV true _ _ HR.o _ HV.o).mono ?_;rintro e w1 ⟨rfl,hb1⟩))
   go_loopw [3,11] (λt i wr=>∃k:Nat,k<=l.length/\i=.int .i64 k/\t=.int .i64 (kT (l.take k))/\dp w wr)
    (λ_ i _=>l.length - (intOf i).toNat)
   case atStart=>exact⟨0,kf _,rfl,rfl,hb1⟩
   case round=>
    obtain⟨k,hk,rfl,rfl,hbel⟩:=hrel;by_cases hlt:k<l.length
    . obtain⟨b,o,rfl,hbs,hcell⟩:=HC.o (by intro h;simp[h] at hlt);obtain⟨h1,h2⟩:=uR hbs hcell hbel hlt;clear hcell;have HT:=ae (Ms hlt);have hs1:=(cW _ _).1 (Fa HR.o hlt);have hcl:=Jw (Pg HR.o k);have hsz:=hbel.size;go_wp2;go_roundw
      case rel=>exact⟨k+1,au,by go_num,by rw[HT.o],by go_grown⟩
      case measure=>exact uO
    . go_wp2;go_ret;exact⟨Rm (by unfold wA;rw[bC HR.o,tX au]),hbel⟩
 . have HR:=ae (show cX l=false by simpa using hr);have HN:=ae hr;clear hr;go_enter func229,ntmps229
   go_wp2_with ((go_at_call 247;refine(nV false _ _ HR.o _ HV.o).mono ?_;rintro e w1 ⟨rfl,hb1⟩))
   go_ret;exact⟨Rm (by unfold wA;rw[bX HN.o]),hb1⟩
attribute [local go_sem] Oper.semAt_some
theorem Fb (l:List (Int×Int)):wA l=((fJ l).length:Int):=by
 unfold wA;by_cases h:cX l=true
 . rw[bC h,rf h,pr];exact OV h
 simp_all[qd]
theorem Vj (m:Int)(v:bh)(l:List (Int×Int))(w:aD)(hm:wA l=m)(hv:bK w v l):
 yr 229 #[v] w (.int .i64 m):=by subst hm;exact SI v l w hv
theorem D1 (l:List (Int×Int)): (fJ l).length<=4097:=by
 have h:=Fb l;by_cases hr:cX l=true
 . have:=Jw hr;unfold wA at h;omega
 grind[qd]
def uk (l:List (Fin 4096)):List bh:=l.map λx=>.int .i64 (x.val:Int)
theorem SJ {k:IntKind}{l:List Int}{o:Obj}(h:br k W v l)(hK:W.heap[D]? =some o)(hc:o.isCells=false)(o':Obj):br k (W.putObj D o') v l:=by
 obtain⟨ao,cap,h1,h2,h3,h4⟩:=h;refine⟨ao,cap,h1,h2,h3,λhl=>?_⟩;obtain⟨b,o2,h5,h6,h7⟩:=h4 hl;have hg:=grownBy_putObj' W D o';have hr: ∀r,some D=some r->∃o:Obj,W.heap[r]? =some o/\o.isCells=false:=λr e=>by grind
 exact⟨b,o2,h5,uj h6 hg.size,λj hj=>cell_kept (h7 j hj) hg hr⟩
theorem Kept.grown {n0 n1:Nat} {A W W':aD} {row:Option Nat} (h:Kept n0 n1 A W) (hg:W.grownBy W' row) (h0:n0<=W.heap.size) (hr: ∀k,row=some k->n0<=k/\k<n1):Kept n0 n1 A W':=
 ⟨h.below.grown hg h0 (λk e=>(hr k e).1),λk o hk ho hc=>(hg.block k (zY.1 (h.rows k o hk ho hc)).1 (λe=>by grind)).trans (h.rows k o hk ho hc)⟩
def kq (l:List (Int×Int)):List Int:=(fJ l).map λx=>(x.val:Int)
theorem H' (l:List (Fin 4096))(x:Fin 4096):uk (l++[x])=uk l++[.int .i64 (x.val:Int)]:=by simp[uk]
theorem ZE (x:Fin 4096): (Lit.int .i64 (x.val:Int)).wf=true:=by grind[WalkArith.wf_i64]
theorem Ro (v:bh)(l:List (Int×Int))(w:aD)(hv:bK w v l):
 CallsIn Fence.wide 5 prog 172 #[v] w λe w'=>∃r,e=.returned r/\br .i64 w' r (kq l)/\(∃b n c,r=.slice (some ⟨b,0,none⟩) n c/\w.heap.size<=b)/\dp w w':=by
 have hv0:=hv;obtain⟨ao,acap,rfl,_,_,_⟩:=hv;have HV:=ae hv0;clear hv0;obtain⟨i0,hi,hz0,hz1,hz2⟩:=sC UU;have hcap:=D1 l;refine callsIn_of_wp_marks func172 rfl kO ?_ rfl;simp only[ntmps172,Ji,o8,we,reduceAdd,reduceSub,Jj,Jk,Jl,Jm,wv,Aj]
 gi_wp2_with (first |(refine⟨kO,?_⟩;gi_at_call 229;refine(z7.2 (Vj _ _ _ _ (Fb l) HV.o)).mono ?_;rintro e w1 ⟨rfl,hb1⟩) |(refine⟨kO,?_⟩;gi_at_call 230;refine(z7.2 (yB _ _ _ _)).mono ?_;rintro e w' ⟨rfl,rfl⟩) |(gi_at_make;refine wpListIn_make_own _ rfl _ _ 81 rfl w1.heap.size 3 i0 (.int .i64 0) 1 um hi hz0 hz1 .i64 .i64 _ (fJ l).length rfl rfl rfl (by rw[hz2];omega) (by unfold maxLen;omega) (eO _) ?_;intro w2 hown hgrow))
 have hb1s:=hb1.size;have hgs:=hgrow.size;have hb2:dp w w2:=hb1.grown hgrow au (λk e=>by cases e);have hgl:=(hown.lt w1.heap.size rfl).2;obtain⟨W0,hW0⟩:=gq (w2.alloc (.cells #[.slice (s_ w1.heap.size 0) 0 (fJ l).length] 81));have hs0:W0.heap.size=w2.heap.size+1:=by rw[hW0];simp
 have hbx0:Boxed W0 w2.heap.size 81 (.slice (s_ w1.heap.size 0) 0 (fJ l).length):=by rw[hW0];exact Boxed.new _ _ _
 have ho0:W0.ownsRow w1.heap.size 3 1 (.slice (s_ w1.heap.size 0) 0 (fJ l).length) 0 []:=by rw[hW0];exact hown.alloc _
 have hB0:dp w W0:=by rw[hW0];exact hb2.alloc au _
 rw[<-hW0];obtain⟨W1,hW1⟩:=gq (W0.alloc (.cells #[.slice ao l.length acap] 66));have hcb:W1.cell? ⟨w2.heap.size+1,0,none⟩=some (.slice ao l.length acap):=by simp_all
 have hs1:W1.heap.size=w2.heap.size+2:=by rw[hW1];simp;omega
 have hbx1:Boxed W1 w2.heap.size 81 (.slice (s_ w1.heap.size 0) 0 (fJ l).length):=by rw[hW1];exact hbx0.alloc _
 have ho1:W1.ownsRow w1.heap.size 3 1 (.slice (s_ w1.heap.size 0) 0 (fJ l).length) 0 []:=by rw[hW1];exact ho0.alloc _
 have hB1:dp w W1:=by rw[hW1];exact hB0.alloc au _
 rw[<-hW1];clear hW0 hW1 hbx0 ho0 hB0 hown hgrow;refine wpIn_rangeFunc_ownF rfl au (gf:=262) (lb:=#[bZ (w2.heap.size+1) 0]) rfl kO (enters_of func262 cm rfl)
  (tB 4 (w2.heap.size+1) _ l w W1 HV.o hB1 hcb) Kept.trans (Kept.book au) (iU _ _) (λ_=>rfl)
  (λpre W=>(∃v,Boxed W w2.heap.size 81 v/\W.ownsRow w1.heap.size 3 1 v pre.length (uk pre)/\v=.slice (s_ w1.heap.size 0) pre.length (fJ l).length)/\dp w W)
  (λ_ _ _=>False)
  (OwnFrom.and (Own.from (holdsRow_own w1.heap.size w2.heap.size 81 3 1 (λpre=>pre.length) (λpre=>uk pre) (λpre v=>v=.slice (s_ w1.heap.size 0) pre.length (fJ l).length)) _) (ownFrom_below (eO _) au))
  (λ_ _ _ _ _ hs _ _=>hs)
  ⟨⟨_,hbx1,ho1,rfl⟩,hB1⟩
  (λx=>{tmps:=#[.slice ao l.length acap,undef,.slice none 0 0,bZ w2.heap.size 0,.int .i64 (x.val:Int),.slice ao l.length acap,.int .i64 ((fJ l).length:Int),.slice (s_ w1.heap.size 0) 0 (fJ l).length,.slice ao l.length acap,.func (.func 262) #[] #[bZ (w2.heap.size+1) 0],.int .i64 (x.val:Int),undef,undef,undef,undef,undef],defers:=[]}) ?assign ?body ?done ?stop
 case assign=>
  intro lp x W K hK
  gi_wp2
  exact hK
 case body=>
  rintro lp pre x W ⟨⟨v,hv,hown,rfl⟩,hB⟩ hlen;have hBs:=hB.size;have hvc:=hv.cell;have hvf:=hv.frozen;have hne:=hv.not_row nh hown;have hgl:=hown.lt w1.heap.size rfl
  gi_wp2_with (first |(gi_at_builtin;refine wpListIn_append_fits _ rfl _ _ 81 rfl w1.heap.size 3 i0 1 um hi hz1 w1.heap.size pre.length (fJ l).length (uk pre) rfl (hown.alloc _) ⟨W.heap.size,0,none⟩ 1 1 [.int .i64 (x.val:Int)] rfl rfl (cell_one_new _ _ _) (by simp[Value.oneCell']) hlen ?_;intro w3 hown3 hgrow3;obtain⟨q1,q2,q3,q4,q5⟩:=hv.appended nh hown (kL au (Nat.le_of_lt hgl.2)) au hown3 hgrow3;have hc3:=q1.cell;have hf3:=q1.frozen))
  refine⟨q4,?_,⟨⟨_,q2,?_,?_⟩,Below.trans hB (q5.mono au)⟩⟩
  . exact((((Kept.refl w.heap.size W1.heap.size W).grown (World.grownBy_alloc W _ none) hBs (λk e=>by cases e)).grown hgrow3 (by simp;omega) (λk e=>by cases e;omega)).trans (Kept.setCell (a:=⟨w2.heap.size,0,none⟩) _ rE rE))
  . rw[kh,H'];exact q3
  . rw[kh];rfl
 case done=>
  rintro D ys W hD rfl ⟨⟨v,hv,hown,rfl⟩,hB⟩ hK;have hvc:=hv.cell;have hDW:D<W.heap.size:=(zY.1 hK).1
  gi_wp2
  refine⟨by simp,.inl ⟨_,_,rfl,run_takeDeferred hK,?_⟩⟩;refine⟨_,results_tmp rfl _ _ _,_,rfl,?_,⟨_,_,_,rfl,au⟩,hB.trans (belowK_b (w:=w) (eO _) W D _ _ au hK rfl rfl)⟩;refine SJ (lz (l:=kq l) (e:=3) (base:=w1.heap.size) ?_ ?_ ?_) hK rfl _
  . unfold kq;rw[pr,EV];exact hown
  . intro x hx;unfold kq at hx;obtain⟨y,_,rfl⟩:=lY.1 hx;exact ZE y
  . unfold kq;rw[pr];omega
 grind
theorem Rp (v:bh)(l:List (Int×Int))(w:aD)(hv:bK w v l):
 Calls prog 172 #[v] w λe w'=>∃r,e=.returned r/\br .i64 w' r (kq l)/\dp w w':=(z7.1 (Ro v l w hv)).mono λ_ _ ⟨r,h1,h2,_,h4⟩=>⟨r,h1,h2,h4⟩
theorem Vk (v:bh)(l:List (Int×Int))(w:aD)(hv:bK w v l):
 Calls prog 172 #[v] w λe w'=>∃r,e=.returned r/\br .i64 w' r (kq l)/\(∃b n c,r=.slice (some ⟨b,0,none⟩) n c/\w.heap.size<=b)/\dp w w':=z7.1 (Ro v l w hv)
def Hf (l:List (Int×Int)) (n:Int):Bool:=decide (n∈kq l)
theorem Ph (l:List (Int×Int)): (kq l).Pairwise (· < ·):=by
 unfold kq;by_cases h:cX l=true
 . rw[tA h];exact CM h
 simp_all[qd]
theorem SK {n:Int}(h:p++[x]<+:fJ l)(hp: ∀y∈p,(y.val:Int)<n)(hx:n<=(x.val:Int)):Hf l n=((x.val:Int)==n):=by
 obtain⟨r,hr⟩:=h;have hl:kq l=p.map (λx=>(x.val:Int))++(x.val:Int)::r.map (λx=>(x.val:Int)):=by
  grind[kq]
 have hs:=Ph l;rw[hl,pairwise_append,pairwise_cons] at hs;unfold Hf
 grind
theorem SL {n:Int}(hp: ∀y∈fJ l,(y.val:Int)<n):Hf l n=false:=by
 unfold Hf
 grind[kq]
theorem ZF (v:bh)(l:List (Int×Int))(n:Int)(w:aD)(hv:bK w v l):
 CallsIn Fence.wide 5 prog 281 #[v,.int .i64 n] w λe w'=>e=.returned (.bool (Hf l n))/\dp w w':=by
 have hv0:=hv;obtain⟨ao,acap,rfl,_,_,_⟩:=hv;have HV:=ae hv0;clear hv0;refine callsIn_of_wp_marks func281 rfl kO ?_ rfl;simp only[ntmps281,Ji,o8,we,reduceAdd,reduceSub,Jj,Jk,Jl,Jm,wv,Aj]
 gi_wp2_with (first |(refine⟨kO,?_⟩;gi_at_call 230;refine(z7.2 (yB _ _ _ _)).mono ?_;rintro e w' ⟨rfl,rfl⟩))
 obtain⟨Wa,hWa⟩:=gq (w.alloc (.cells #[.int .i64 n] 3));have hsa:Wa.heap.size=w.heap.size+1:=by rw[hWa];simp
 have hba:Boxed Wa w.heap.size 3 (.int .i64 n):=by rw[hWa];exact Boxed.new _ _ _
 have hBa:dp w Wa:=by rw[hWa];exact(iU _ _).alloc (eO _) _
 rw[<-hWa];obtain⟨W0,hW0⟩:=gq (Wa.alloc (.cells #[.bool false] 4));have hs0:W0.heap.size=w.heap.size+2:=by rw[hW0];simp;omega
 have hb0:Boxed W0 w.heap.size 3 (.int .i64 n):=by rw[hW0];exact hba.alloc _
 have hq0:Boxed W0 (w.heap.size+1) 4 (.bool false):=by rw[hW0,<-hsa];exact Boxed.new _ _ _
 have hB0:dp w W0:=by rw[hW0];exact hBa.alloc au _
 rw[<-hW0];obtain⟨W1,hW1⟩:=gq (W0.alloc (.cells #[.slice ao l.length acap] 66));have hcb:W1.cell? ⟨w.heap.size+2,0,none⟩=some (.slice ao l.length acap):=by rw[hW1,<-hs0];simp
 have hs1:W1.heap.size=w.heap.size+3:=by rw[hW1];simp;omega
 have hb1:Boxed W1 w.heap.size 3 (.int .i64 n):=by rw[hW1];exact hb0.alloc _
 have hq1:Boxed W1 (w.heap.size+1) 4 (.bool false):=by rw[hW1];exact hq0.alloc _
 have hB1:dp w W1:=by rw[hW1];exact hB0.alloc au _
 rw[<-hW1];clear hWa hW0 hW1 hba hBa hb0 hq0 hB0;refine wpIn_rangeFunc_ownF rfl au (gf:=262) (lb:=#[bZ (w.heap.size+1+1) 0]) rfl kO (enters_of func262 cm rfl)
  (tB 4 (w.heap.size+2) _ l w W1 HV.o hB1 hcb) Kept.trans (Kept.book au) (iU _ _) (λ_=>rfl)
  (λpre W=>(Hid (∀y∈pre,(y.val:Int)<n)/\Boxed W w.heap.size 3 (.int .i64 n)/\Boxed W (w.heap.size+1) 4 (.bool false))/\dp w W)
  (λc pre W=>(Hid (c=.ret/\∃p x,pre=p++[x]/\(∀y∈p,(y.val:Int)<n)/\n<=(x.val:Int))/\Boxed W (w.heap.size+1) 4 (.bool (match pre.getLast? with | some x=>(x.val:Int)==n | none=>false)))/\dp w W)
  (OwnFrom.and (OwnFrom.and (ownFrom_pure _ _) (OwnFrom.and (Own.from (boxed_own _ _ λ_=>.int .i64 n) _) (Own.from (boxed_own _ _ λ_=>.bool false) _))) (ownFrom_below (eO _) au))
  (λc=>OwnFrom.and (OwnFrom.and (ownFrom_pure _ _) (Own.from (boxed_own _ _ λpre:List (Fin 4096)=>.bool (match pre.getLast? with | some x=>(x.val:Int)==n | none=>false)) _)) (ownFrom_below (eO _) au))
  ⟨⟨λy hy=>by simp at hy,hb1,hq1⟩,hB1⟩
  (λx=>{tmps:=#[.slice ao l.length acap,.int .i64 n,undef,bZ w.heap.size 0,bZ (w.heap.size+1) 0,.int .i64 (x.val:Int),.slice ao l.length acap,.func (.func 262) #[] #[bZ (w.heap.size+1+1) 0],.int .i64 (x.val:Int),undef,undef,undef,undef,undef,undef],defers:=[]}) ?assign ?body ?done ?stop
 case assign=>
  intro lp x W K hK
  gi_wp2
  exact hK
 case body=>
  rintro lp pre x W ⟨⟨hp,hb,hq⟩,hB⟩ _;have hbc:=hb.cell;have hqc:=hq.cell;have hqf:=hq.frozen;by_cases hx:n<=(x.val:Int)
  . gi_wp2
    refine⟨KeepsOthers.setCell _ _ _,⟨⟨rfl,pre,x,rfl,hp.o,hx⟩,?_⟩,hB.setCell (p:=⟨w.heap.size+1,0,none⟩) rE _⟩;have:=hq.set (.bool ((x.val:Int)==n));simpa using this
  . gi_wp2
    exact⟨KeepsOthers.refl _,Kept.refl _ _ _,⟨λy hy=>(jn.1 hy).elim (hp.o y) (λe=>by simp at e;subst e;omega),hb,hq⟩,hB⟩
 case done=>
  rintro D ys W hD rfl ⟨⟨hne,_,hq⟩,hB⟩ hK;have hqc:=hq.cell;have hqf:=hq.frozen
  gi_wp2
  have hK':=(KeepsOthers.setCell W ⟨w.heap.size+1,0,none⟩ (.bool false)).same D _ hK rfl;refine⟨by simp,.inl ⟨_,_,rfl,run_takeDeferred hK',?_⟩⟩;have hc5:=cell_kept (hq.set (.bool false)).cell (grownBy_putObj' _ D (.deferred none)) (λr e=>by cases e;exact⟨_,hK',rfl⟩);refine⟨.bool false,?_,by rw[SL hne.o],(hB.setCell (p:=⟨w.heap.size+1,0,none⟩) fh _).trans (belowK_b (w:=w) (eO _) _ D _ _ au hK' rfl rfl)⟩;simp[results,f281,go_sem,hc5]
 case stop=>
  rintro D c pre W hD hpre ⟨⟨hpp,hq⟩,hB⟩ hK;obtain⟨rfl,p,x,rfl,hlt,hge⟩:=hpp.o;rw[getLast?_append] at hq;simp only[getLast?_singleton,Option.some_or] at hq
  gi_wp2
  refine⟨by simp,.inl ⟨_,_,rfl,run_takeDeferred hK,?_⟩⟩;have hc5:=cell_kept hq.cell (grownBy_putObj' _ D (.deferred none)) (λr e=>by cases e;exact⟨_,hK,rfl⟩);refine⟨.bool ((x.val:Int)==n),?_,by rw[SK hpre hlt hge],hB.trans (belowK_b (w:=w) (eO _) W D _ _ au hK rfl rfl)⟩;simp[results,f281,go_sem,hc5]
theorem UW (v:bh)(l:List (Int×Int))(n:Int)(w:aD)(hv:bK w v l):
 yr 281 #[v,.int .i64 n] w (.bool (Hf l n)):=z7.1 (ZF v l n w hv)
theorem ag.setRow {g:Nat}{f:Nat->bh}(h:ag w g t n f)(f':Nat->bh):ag (w.setRow g (ah n f')) g t n f':=
 setRow_heap w g _ _ t _ h
theorem ag.setRow_other {w:aD} {g b:Nat} {t:dD} {n:Nat} {f:Nat->bh} (h:ag w b t n f) (hb:b≠g) (cs:iw):ag (w.setRow g cs) b t n f:=by
 grind[ag,setRow_other]
theorem Below.setRow {a:aD}(h:Below B a w){g:Nat}(hg:B<=g)(cs:iw):Below B a (w.setRow g cs):=
 h.trans ⟨rfl,rfl,rfl,by simp,λk hk=>Pj w g k cs au⟩
theorem setRow_size (w:aD)(g:Nat)(cs:iw): (w.setRow g cs).heap.size=w.heap.size:=by simp
theorem run_storeVar_row (w:aD)(ty:dD)(g:Nat)(t:dD)(n:Nat)(f f':Nat->bh)(h:ag w g t n f)(hi: (P.info? ty).map (·.size)=some n)(h1: ∀i,(f' i).oneCell'=true):
 (storeVar ty ⟨g,0,none⟩ (.agg (ah n f'))).run P w=.ok () (w.setRow g (ah n f')):=by
 cases hq:P.info? ty with
 | none=>grind
 | some i=>
  have hs:i.size=n:=by grind
  have hst:=run_storeCells_at P g 0 t (ah n f').toList 0 (ah n f) w h (by simp[ah]) (by
   grind[Array.mem_iff_getElem?,aF])
  simp_all[drop_of_length_le,aj,storeVar,Value.cells,sizeOf,typeInfo]
theorem wpList_store_row {a:Act}(hgd:o.guard=none)(ty:dD)(x y:Operand)(ho:o.op=.store ty x y)(g:Nat)(hx:a.eval x=.pointer (some ⟨g,0,none⟩))(n:Nat)(f':Nat->bh)(cs:iw)(hy:a.eval y=.agg cs)(hcs:cs=ah n f')(t:dD)(f:Nat->bh)(h:ag w g t n f)(hi: (P.info? ty).map (·.size)=some n)(h1: ∀i,(f' i).oneCell'=true)(hk:wpList P ops Q rest (a.put o.dst undef) (w.setRow g (ah n f'))):wpList P ops Q (o::rest) a w:=
 sD hgd λK hK=>by
  subst hcs;unfold Oper.wp execOp;simp only[ho,hx,hy,Instr.storeAt,Instr.sureAddr,py,wB,rj,run_storeVar_row w ty g t n f f' h hi h1];exact hK _ _ hk
theorem my {a:Act}(hgd:o.guard=none)(ty:dD)(x:Operand)(ho:o.op=.load ty x)(g:Nat)(hx:a.eval x=.pointer (some ⟨g,0,none⟩))(n:Nat)(t:dD)(f:Nat->bh)(h:ag w g t n f)(d:TypeDesc)(hu:P.underlying ty=some d)(hd: (match d with | .struct _ | .array _ _=>true | _=>false)=true)(hi: (P.info? ty).map (·.size)=some n)(hk:wpList P ops Q rest (a.put o.dst (.agg (ah n f))) w):wpList P ops Q (o::rest) a w:=
 wpList_load_row hgd ty x ho g hx t (ah n f) (0,0) d h hu hd (by grind[aj]) hk
theorem UX: (prog.info? 248).map (·.size)=some 4096:=cm
theorem Jy (w:aD)(l:List Int)(cs:iw)(t:dD)(hcs:cs.toList=l.map (Value.int .i64))(hw: ∀x∈l,(Lit.int .i64 x).wf=true)(hl:l.length<=9223372036854775807)(n cap:Nat)(hn:n=l.length):
 br .i64 (w.alloc (.cells cs t)) (.slice (some ⟨w.heap.size,0,none⟩) n cap) l:=by
 subst hn;refine⟨_,cap,rfl,hl,hw,λ_=>⟨w.heap.size,0,rfl,by simp,λj hj=>?_⟩⟩;rw[rC,Hk _ _ _ _ rfl,<-qx,hcs];simp[hj]
theorem Pk (w:aD)(l:List (Int×Int))(cs:iw)(t:dD)(hcs:cs.toList=dA l)(hw: ∀x∈l,bT x.1/\bT x.2)(hl:l.length<=9223372036854775807)(n cap:Nat)(hn:n=l.length):
 bK (w.alloc (.cells cs t)) (.slice (some ⟨w.heap.size,0,none⟩) n cap) l:=by
 subst hn;refine⟨_,cap,rfl,hl,hw,λ_=>⟨w.heap.size,0,rfl,by simp,λj hj=>?_⟩⟩;obtain⟨h1,h2⟩:=rh l j hj;rw[rC,Hk _ _ _ _ rfl,Hk _ _ _ _ rfl,<-qx,<-qx,hcs]
 grind
theorem EN (f:Nat->Bool)(k:Nat)(hk:k<=4096): ∀x∈fw f k,(Lit.int .i64 x).wf=true:=by
 grind[oz,WalkArith.wf_i64]
theorem CU {l:List (Int×Int)} (h:cX l=true):kq l=yq (bitsOf l):=by
 grind[kq,tA,OU]
abbrev fL:=Bool×Int×Int
def mR (w:aD) (v:bh) (l:List fL):Prop:=
 ∃ao cap,v=.slice ao l.length cap/\l.length<=9223372036854775807/\(∀x∈l,bT x.2.1/\bT x.2.2)/\
  (l≠ []->∃b o,ao=some ⟨b,o,none⟩/\b<w.heap.size/\
   ∀k (h:k<l.length),w.cell? ⟨b,o+k*3,none⟩=some (.bool l[k].1)/\w.cell? ⟨b,o+k*3+1,none⟩=some (.int .i64 l[k].2.1)/\w.cell? ⟨b,o+k*3+2,none⟩=some (.int .i64 l[k].2.2))
theorem mR.below {l:List fL}(h:mR w v l)(hb:dp w w'):mR w' v l:=by
 obtain⟨ao,cap,h1,h2,h3,h4⟩:=h;refine⟨ao,cap,h1,h2,h3,λhl=>?_⟩;obtain⟨b,o,h5,h6,h7⟩:=h4 hl;refine⟨b,o,h5,uj h6 hb.size,λk hk=>?_⟩;obtain⟨h8,h9,h10⟩:=h7 k hk;exact⟨(hb.cell (p:=⟨b,_,none⟩) h6).trans h8,(hb.cell (p:=⟨b,_,none⟩) h6).trans h9,(hb.cell (p:=⟨b,_,none⟩) h6).trans h10⟩
theorem nM (w:aD):mR w (.slice none 0 0) []:=⟨none,0,rfl,by simp,by simp,λh=>absurd rfl h⟩
def eV:List fL->List bh
 | []=> []
 | x::r=>.bool x.1::.int .i64 x.2.1::.int .i64 x.2.2::eV r
theorem pD (l m:List fL):eV (l++m)=eV l++eV m:=by
 induction l<;>grind[eV]
theorem CB (l:List fL) (k:Nat) (h:k<l.length): (eV l)[k*3]? =some (.bool l[k].1)/\(eV l)[k*3+1]? =some (.int .i64 l[k].2.1)/\(eV l)[k*3+2]? =some (.int .i64 l[k].2.2):=by
 induction l generalizing k with
 | nil=>simp at h
 | cons x r ih=>
  cases k with
  | zero=>exact⟨rfl,rfl,rfl⟩
  | succ k=>
   have:=ih k rE;rw[show(k+1)*3=k*3+1+1+1 from by omega,show k*3+1+1+1+1=k*3+1+1+1+1 from rfl,show k*3+1+1+1+2=k*3+2+1+1+1 from by omega]
   grind[eV]
theorem wC {l:List fL}(h:w.ownsRow base e 3 v l.length (eV l))(hr: ∀x∈l,bT x.2.1/\bT x.2.2)(hl:l.length<=9223372036854775807):mR w v l:=by
 rcases h.2 with⟨rfl,h0⟩ | ⟨g,cap,cur,rfl,hb,hg,hn,hc,hs,ht⟩
 . grind[nM]
 . refine⟨_,cap,rfl,hl,hr,λ_=>⟨g,0,rfl,(zY.1 hg).1,λk hk=>?_⟩⟩;have h1:=h.cellAt (k*3) au;have h2:=h.cellAt (k*3+1) au;have h2':=h.cellAt (k*3+2) au
   grind[CB]
theorem BW {o:Nat}{l:List fL}(hbs:b<w.heap.size)(hcell: ∀k (h:k<l.length),w.cell? ⟨b,o+k*3,none⟩=some (.bool l[k].1)/\w.cell? ⟨b,o+k*3+1,none⟩=some (.int .i64 l[k].2.1)/\w.cell? ⟨b,o+k*3+2,none⟩=some (.int .i64 l[k].2.2))(hbel:dp w wr)(h:k<l.length):
 wr.cell? ⟨b,o+k*3,none⟩=some (.bool l[k].1)/\wr.cell? ⟨b,o+k*3+1,none⟩=some (.int .i64 l[k].2.1)/\wr.cell? ⟨b,o+k*3+2,none⟩=some (.int .i64 l[k].2.2):=
 ⟨(hbel.cell (p:=⟨b,o+k*3,none⟩) hbs).trans (hcell k h).1,(hbel.cell (p:=⟨b,o+k*3+1,none⟩) hbs).trans (hcell k h).2.1,(hbel.cell (p:=⟨b,o+k*3+2,none⟩) hbs).trans (hcell k h).2.2⟩
theorem XQ: (prog.info? 334).map (λi=>(i.zero,i.size,i.bytes))=some (some (.agg #[.bool false,.int .i64 0,.int .i64 0]),3,24):=cm
attribute [local go_sem] Oper.semAt_some
def kr (w:aD) (base:Nat) (v:bh) (l:List (Int×Int)):Prop:=w.ownsRow base 141 2 v l.length (dA l)
theorem kr.mono (h:kr w base v l)(hb:base'<=base):kr w base' v l:=
 ⟨h.1,h.2.imp id λ⟨g,cap,cur,h1,h2,r⟩=>⟨g,cap,cur,h1,kL hb h2,r⟩⟩
theorem kr.sl (h:kr w base v (ed f)):bK w v (ed f):=
 qe h (z1 (ox f)) (kL (lL f 4096) au)
theorem Jz (b:Nat)(f:Nat->Bool)(w:aD)(hrow:ag w b 249 4096 (cj f)):
 Calls prog 158 #[.pointer (some ⟨b,0,none⟩)] w λe w'=>∃v',e=.returned v'/\kr w' w.heap.size v' (ed f)/\dp w w':=by
 obtain⟨i0,hi,hz0,hz1,hz2⟩:=sC aaR;go_enter func158,ntmps158
 go_wp2_with (fail)
 go_loopw [3,8] (λv i wr=>∃(k:Nat),k<=4096/\i=.int .i64 k/\wr.ownsRow w.heap.size 141 2 v (dw f k).length (dA (dw f k))/\dp w wr)
  (λ_ i _=>4096 - (intOf i).toNat)
 case atStart=>exact⟨0,kf _,rfl,ju _ _ _ _,iU _ _⟩
 case round=>
  obtain⟨k,hk,rfl,hown,hbel⟩:=hrel;have hsz:=hbel.size;by_cases hlt:k<4096
  . have hrow':ag wr b 249 4096 (cj f):=hrow.below hbel;have hc1:=hrow'.cell hlt;simp only[cj] at hc1;have hi1: (k:Int)< (4096:Int):=au;by_cases hf:f k=true
    . rw[hf] at hc1;have HS:Hid (dw f (k+1)=L6 (dw f k) k):=by unfold Hid;rw[dw,bC hf]
      clear hf;rcases tz (dw f k) with he | ⟨m,x,he⟩
      . rw[he] at hown;have HE:=ae he;clear he;have hlt2:=hown.lt;rcases uT hown with⟨rfl,_⟩ | ⟨g,cap,rfl,hg1,hg2⟩
        rotate_left
        all_goals
         have HLT:=ae hlt2;clear hlt2
         go_wp2_with (first |(go_quiet (fail)) |(at_builtin;refine Fc _ rfl _ _ 66 rfl w.heap.size 141 i0 (.agg #[.int .i64 0,.int .i64 0]) 2 16 underlying66 hi hz0 hz1 hz2 rfl nh _ _ _ rfl ((qA hown _).alloc _) ⟨wr.heap.size,0,none⟩ 1 1 [.int .i64 k,.int .i64 1] rfl rfl xK (sO _ _ _ _) (by simp[maxLen]) fh (by simp;omega) ?_;intro v' w1 hown' hgrow _))
         go_roundw
         case rel=>exact⟨k+1,au,by go_num,by rw[HS.o,HE.o];exact hown',pQ hbel (λj h=>(HLT.o j h).1) hgrow⟩
         case measure=>exact uO
      . have hle:=lL f k;have hgood:=sM f k hk;rw[he] at hown hle hgood;rw[gG,Jh,db,cW] at hgood;have hx:=hgood.1.2.1;have HE:=ae he;clear he hgood;rw[kh] at hown hle;obtain⟨M,HM⟩:=BU m.length;rw[<-HM.o] at hown hle;simp only[o8,we,rC] at hown hle;have hlt2:=hown.lt;rcases uT hown with⟨rfl,h0⟩ | ⟨g,cap,rfl,hg1,hg2⟩
        . omega
        . have HLT:=ae hlt2;clear hlt2;have hcs:wr.cell? ⟨g,M*2,none⟩=some (.int .i64 x.1):=by
           rw[hown.cellAt _ au,jd,Sw (by rw[fC,HM.o];omega),fC,HM.o];simp[dA]
          have hcl:wr.cell? ⟨g,M*2+1,none⟩=some (.int .i64 x.2):=by
           rw[hown.cellAt _ au,jd,Sw (by rw[fC,HM.o];omega),fC,HM.o];simp[dA]
          have hfz:wr.frozen? ⟨g,M*2+1,none⟩=false:=hown.frozenAt _;have hm2: (M:Int)< (M:Int)+1:=au;have w1:IntKind.i64.wrap (M:Int)=(M:Int):=mT _ au;have w2:IntKind.i64.wrap (x.1+x.2)=x.1+x.2:=mT _ au;by_cases hxk:x.1+x.2=(k:Int)
          . have hq: (x.1+x.2==(k:Int))=true:=by simpa using hxk
            have HX:=ae hxk;clear hxk
            go_wp2_with (go_quiet (fail))
            go_roundw
            case rel=>
             refine⟨k+1,au,by go_num,?_,(below_drewN hbel _).setCell hg1 _⟩;rw[HS.o,HE.o,pC,bC HX.o,kh,<-HM.o,<-Cz,<-HM.o];exact((qA hown _).stored _ _).1
            case measure=>exact uO
          . have hq: (x.1+x.2==(k:Int))=false:=by simpa using hxk
            have HX:=ae hxk;clear hxk
            go_wp2_with (first |(go_quiet (fail)) |(at_builtin;refine Fc _ rfl _ _ 66 rfl w.heap.size 141 i0 (.agg #[.int .i64 0,.int .i64 0]) 2 16 underlying66 hi hz0 hz1 hz2 rfl nh _ _ _ rfl ((qA hown _).alloc _) ⟨wr.heap.size,0,none⟩ 1 1 [.int .i64 k,.int .i64 1] rfl rfl xK (sO _ _ _ _) (by simp[maxLen];omega) au (by simp;omega) ?_;intro v' w1 hown' hgrow _))
            go_roundw
            case rel=>
             refine⟨k+1,au,by go_num,?_,pQ hbel (λj h=>(HLT.o j h).1) hgrow⟩;rw[HS.o,HE.o,pC,bX HX.o,jd,kh,kh,<-HM.o];exact hown'
            case measure=>exact uO
    . have hf':f k=false:=by simpa using hf
      rw[hf'] at hc1;have HS:Hid (dw f (k+1)=dw f k):=by unfold Hid;rw[dw,bX hf]
      clear hf hf'
      go_wp2_with (go_quiet (fail))
      go_roundw
      case rel=>exact⟨k+1,au,by go_num,by rw[HS.o];exact hown,by refine below_drewN ?_ _;exact hbel⟩
      case measure=>exact uO
  . obtain rfl:k=4096:=au;go_wp2;go_ret;exact⟨_,rfl,hown,hbel⟩
theorem Pm (v u:bh)(l m:List (Int×Int))(w:aD)(hv:bK w v l)(hu:bK w u m):
 CallsIn Fence.wide 5 prog 287 #[v,u] w λe w'=>∃r,e=.returned r/\kr w' w.heap.size r (ed (λn=>kF l n&& !kF m n))/\dp w w':=by
 have hu0:=hu;obtain⟨uo,ucap,rfl,_,_,_⟩:=hu;have HV:=ae hv;clear hv;have HU:=ae hu0;clear hu0;refine callsIn_of_wp_marks func287 rfl kO ?_ rfl;simp only[ntmps287,Ji,o8,we,reduceAdd,reduceSub,Jj,Jk,Jl,Jm,wv,Aj]
 gi_wp2_with (first |(refine⟨kO,?_⟩;gi_at_call 291;refine(z7.2 (Rn _ _ _ HV.o)).mono ?_;rintro e w1 ⟨rfl,hr1,hb1⟩) |(refine⟨kO,?_⟩;gi_at_call 230;refine(z7.2 (yB _ _ _ _)).mono ?_;rintro e w' ⟨rfl,rfl⟩))
 have hw1:=hr1.lt;obtain⟨W0,hW0⟩:=gq (w1.alloc (.cells #[bZ w.heap.size 0] 312));have hs0:W0.heap.size=w1.heap.size+1:=by rw[hW0];simp
 have hc0:W0.cell? ⟨w1.heap.size,0,none⟩=some (bZ w.heap.size 0):=by simp_all
 have hr0:ag W0 w.heap.size 249 4096 (cj (kF l)):=by rw[hW0];exact hr1.alloc_old _
 have hB0:dp w W0:=by rw[hW0];exact hb1.alloc au _
 rw[<-hW0];obtain⟨W1,hW1⟩:=gq (W0.alloc (.cells #[.slice uo m.length ucap] 66));have hcb:W1.cell? ⟨w1.heap.size+1,0,none⟩=some (.slice uo m.length ucap):=by simp_all
 have hs1:W1.heap.size=w1.heap.size+2:=by rw[hW1];simp;omega
 have hc1:W1.cell? ⟨w1.heap.size,0,none⟩=some (bZ w.heap.size 0):=by simp_all
 have hr2:ag W1 w.heap.size 249 4096 (cj (kF l)):=by rw[hW1];exact hr0.alloc_old _
 have hB1:dp w W1:=by rw[hW1];exact hB0.alloc au _
 rw[<-hW1];clear hW0 hW1 hr0 hc0 hB0 hr1;refine wpIn_rangeFunc_ownF rfl au (gf:=262) (lb:=#[bZ (w1.heap.size+1) 0]) rfl kO (enters_of func262 cm rfl)
  (tB 4 (w1.heap.size+1) _ m w W1 HU.o hB1 hcb) Kept.trans (Kept.book au) (iU _ _) (λ_=>rfl)
  (λpre W=>(ag W w.heap.size 249 4096 (cj λn=>kF l n&& !sG pre n)/\W.cell? ⟨w1.heap.size,0,none⟩=some (bZ w.heap.size 0))/\dp w W)
  (λ_ _ _=>False)
  (OwnFrom.and (OwnFrom.and (Own.from (EM _ _ _ λpre=>cj λn=>kF l n&& !sG pre n) _) (Own.from (λs A B row hs hg hr=>cell_kept hs hg hr) _)) (ownFrom_below (eO _) au))
  (λ_ _ _ _ _ hs _ _=>hs)
  ⟨⟨hr2.congr (λi _=>by simp[cj,sG]),hc1⟩,hB1⟩
  (λx=>{tmps:=#[v,.slice uo m.length ucap,undef,undef,.slice none 0 0,bZ w1.heap.size 0,.int .i64 (x.val:Int),v,bZ w.heap.size 0,.slice uo m.length ucap,.func (.func 262) #[] #[bZ (w1.heap.size+1) 0],.int .i64 (x.val:Int),undef,undef,undef,undef,undef,undef],defers:=[]}) ?assign ?body ?done ?stop
 case assign=>
  intro lp x W K hK
  gi_wp2
  exact hK
 case body=>
  rintro lp pre x W ⟨⟨hr,hc⟩,hB⟩ _;have hx1: (x.val:Int)< (4096:Int):=by have:=x.isLt;omega
  have hcx:=hr.cell x.isLt;have hfx:=hr.frozen x.val;simp only[cj] at hcx
  gi_wp2
  refine⟨KeepsOthers.setCell _ _ _,Kept.setCell _ (eO _) rE,⟨hr.setBool _ false (λj _=>by rw[z8];grind),?_⟩,hB.setCell (p:=⟨w.heap.size,x.val,none⟩) (eO _) _⟩;rw[z6 (SH W _ _ _ rE)];exact hc
 case done=>
  rintro D ys W hD rfl ⟨⟨hr,hc⟩,hB⟩ hK;have hr':ag W w.heap.size 249 4096 (cj (λn=>kF l n&& !kF m n)):=hr.congr (λi hi=>by simp only[cj];rw[xL m hi]);have hDW:D<W.heap.size:=(zY.1 hK).1
  gi_wp2_with ((refine⟨kO,?_⟩;gi_at_call 158;refine(z7.2 (Jz _ _ _ hr')).mono ?_;rintro e w3 ⟨r,rfl,hsr,hb3⟩))
  have hK3:=(hb3.block D hDW).trans hK;refine⟨by simp,.inl ⟨_,_,rfl,run_takeDeferred hK3,?_⟩⟩;exact⟨_,results_tmp rfl _ _ _,r,rfl,kr.mono (ownsRow_putObj hsr _ hK3 rfl) hB.size,(Below.step hB hB.size hb3).trans (belowK_b (w:=w) (eO _) w3 D _ _ au hK3 rfl rfl)⟩
 case stop=>
  grind
theorem Rq (v u:bh)(l m:List (Int×Int))(w:aD)(hv:bK w v l)(hu:bK w u m):
 Calls prog 287 #[v,u] w λe w'=>∃r,e=.returned r/\kr w' w.heap.size r (ed (λn=>kF l n&& !kF m n))/\dp w w':=z7.1 (Pm v u l m w hv hu)
def gone (a b:List (Int×Int)):List (Int×Int):=ed λn=>kF a n&& !kF b n
def qM (a b:List (Int×Int)):List fL:=if(cX a&&cX b)=true then(gone a b).map (Prod.mk false)++(gone b a).map (Prod.mk true) else []
theorem Mt (a b:List (Int×Int)): (gone a b).length<=4096:=lL _ _
theorem Fe (a b:List (Int×Int)): ∀x∈gone a b,bT x.1/\bT x.2:=z1 (ox _)
theorem zw {e':dD}{size':Nat}{n':Nat}{xs':List bh}(hne:e≠e')(h:w.ownsRow base e size v n xs)(h':w.ownsRow base' e' size' v' n' xs'):v.ownBlock=none∨v.ownBlock≠v'.ownBlock:=by
 rcases h.2 with⟨rfl,h0⟩ | ⟨g,cap,cur,rfl,hb,hg,hn,hc,hs,ht⟩
 . exact .inl rfl
 . rcases h'.2 with⟨rfl,h0'⟩ | ⟨g',cap',cur',rfl,hb',hg',hn',hc',hs',ht'⟩
   . grind[Value.ownBlock]
   grind[Value.ownBlock]
theorem fR {w w':aD} {base:Nat} {e:dD} {size:Nat} {v:bh} {n:Nat} {xs:List bh} (h:w.ownsRow base e size v n xs) (hb:dp w w'):w'.ownsRow base e size v n xs:=
 h.kept (row:=none) ⟨hb.os,hb.tape,hb.output,hb.size,λk hk _=>hb.block k hk⟩ (Kl _)
theorem JA {cap:Nat}(h:kr w base (.slice ao n cap) l)(hk:k<l.length):
 ∃b,ao=some ⟨b,0,none⟩/\b<w.heap.size/\w.cell? ⟨b,k*2,none⟩=some (.int .i64 l[k].1)/\w.cell? ⟨b,k*2+1,none⟩=some (.int .i64 l[k].2):=by
 rcases h.2 with⟨_,h0⟩ | ⟨g,cap',cur,he,hb,hg,hn,hc,hs,ht⟩
 . omega
 . have he':=he;simp only[mA] at he';obtain⟨rfl,rfl,rfl⟩:=he';have h':w.ownsRow base 141 2 (.slice (s_ g 0) l.length cap) l.length (dA l):=h;have h1:=h'.cellAt (k*2) au;have h2:=h'.cellAt (k*2+1) au;obtain⟨h3,h4⟩:=rh l k hk
   grind
theorem Mu (h:kr w base v l): ∃ao cap,v=.slice ao l.length cap:=by
 rcases h.2 with⟨rfl,h0⟩ | ⟨g,cap',cur,rfl,_⟩<;>grind
theorem wD {a b c:bh}(hn:n=w.heap.size): ∀j u,[a,b,c][j]? =some u->(w.alloc (.cells #[a,b,c] t)).cell? ((⟨n,0,none⟩:Addr).add j)=some u:=by
 intro j u hj;subst hn
 match j,hj with
 | 0,hj=>simp_all[Addr.add]
 | 1,hj=>simp_all[Addr.add]
 | 2,hj=>simp_all[Addr.add]
 | j+3,hj=>simp at hj
theorem uU (t:Bool)(a b:Int): ∀u∈ [Value.bool t,Value.int .i64 a,Value.int .i64 b],u.oneCell'=true:=by
 intro u hu;simp at hu;rcases hu with rfl | rfl | rfl <;> rfl
theorem Ff (t:Bool)(h:k<C.length):eV ((C.take (k+1)).map (Prod.mk t))=eV ((C.take k).map (Prod.mk t))++[.bool t,.int .i64 C[k].1,.int .i64 C[k].2]:=by
 rw[EW h,pt,pD];rfl
theorem Mv {a b:List (Int×Int)}: ∀x∈qM a b,bT x.2.1/\bT x.2.2:=by
 intro x hx;unfold qM at hx;split at hx
 . rcases jn.1 hx with h | h
   . obtain⟨y,hy,rfl⟩:=lY.1 h;grind[Fe]
   . obtain⟨y,hy,rfl⟩:=lY.1 h;grind[Fe]
 grind
theorem CX {a b:List (Int×Int)}(h: (cX a&&cX b)=false):qM a b=[]:=by grind[qM]
theorem Mw {a b D:List (Int×Int)}(ha:cX a=true)(hb:cX b=true)(hC:C=gone a b)(hD:D=gone b a):qM a b=C.map (Prod.mk false)++D.map (Prod.mk true):=by
 grind[qM]
theorem Vl (v u:bh)(a b:List (Int×Int))(w:aD)(hv:bK w v a)(hu:bK w u b):
 Calls prog 277 #[v,u] w λe w'=>∃r,e=.returned r/\mR w' r (qM a b)/\dp w w':=by
 obtain⟨i0,hi,hz0,hz1,hz2⟩:=sC XQ;have HV:=ae hv;clear hv;have HU:=ae hu;clear hu;obtain⟨r,HR⟩:=qI (cX a);obtain⟨s,HS⟩:=qI (cX b);obtain⟨C,HC⟩:=BU (gone a b);obtain⟨D,HD⟩:=BU (gone b a);have hC4:C.length<=4096:=by rw[HC.o];exact Mt a b
 have hD4:D.length<=4096:=by rw[HD.o];exact Mt b a
 have HMR:Hid (∀x∈qM a b,bT x.2.1/\bT x.2.2):=Mv;have hB0:=iU w.heap.size w;have hown0:=ju w w.heap.size 334 3;go_enter func277,ntmps277
 go_wp2_with fail
 refine(nV r _ a HR.o _ (HV.o.below hB0)).mono ?_;rintro e w1 ⟨rfl,hb1⟩;have hB1:=Below.step hB0 hB0.size hb1;cases r with
 | false=>
  go_wp2;go_ret;refine⟨_,rfl,?_,hB1⟩;rw[CX (by rw[HR.o,HS.o];rfl)];exact nM _
 | true=>
 go_wp2_with fail
 refine(nV s _ b HS.o _ (HU.o.below hB1)).mono ?_;rintro e w2 ⟨rfl,hb2⟩;have hB2:=Below.step hB1 hB1.size hb2;cases s with
 | false=>
  go_wp2;go_ret;refine⟨_,rfl,?_,hB2⟩;rw[CX (by rw[HR.o,HS.o];rfl)];exact nM _
 | true=>
 go_wp2_with fail
 refine(Rq _ _ a b _ (HV.o.below hB2) (HU.o.below hB2)).mono ?_;rw[show(ed λn=>kF a n&& !kF b n)=C from HC.o.symm];rintro e w3 ⟨z,rfl,hz,hb3⟩;have hB3:=Below.step hB2 hB2.size hb3;have hown3:=fR (fR (fR hown0 hb1) hb2) hb3;replace hz:=kr.mono hz hB2.size;obtain⟨ao,cap,rfl⟩:=Mu hz
 go_wp2_with fail
 go_loopw [5,22] (λx i wr=>∃k:Nat,k<=C.length/\i=.int .i64 k/\wr.ownsRow w.heap.size 334 3 x k (eV ((C.take k).map (Prod.mk false)))/\kr wr w.heap.size (.slice ao C.length cap) C/\dp w wr)
  (λ_ i _=>C.length - (intOf i).toNat)
 case atStart=>exact⟨0,kf _,rfl,hown3,hz,hB3⟩
 case round=>
  clear hown3 hz hB3;obtain⟨k,hk,rfl,hown,hz,hbel⟩:=hrel;have hsz:=hbel.size;by_cases hlt:k<C.length
  . obtain⟨b0,rfl,hbs,h1,h2⟩:=JA hz hlt;have HLT:=ae hown.lt
    go_wp2_with (first |(at_builtin;refine Fc _ rfl _ _ 294 rfl w.heap.size 334 i0 (.agg #[.bool false,.int .i64 0,.int .i64 0]) 3 24 underlying294 hi hz0 hz1 hz2 rfl nh _ _ _ rfl ((hown.alloc _).alloc _) ⟨wr.heap.size+1,0,none⟩ 1 1 [.bool false,.int .i64 C[k].1,.int .i64 C[k].2] rfl rfl (wD fh) (uU _ _ _) (by simp[maxLen];omega) au (by simp;omega) ?_;intro v' w1 hown' hgrow _))
    go_roundw
    case rel=>
     refine⟨k+1,au,by go_num,?_,World.ownsRow.kept (X6 (X6 hz _) _) hgrow (zw nh hz hown),((hbel.alloc hsz _).alloc (by simp;omega) _).grown hgrow (by simp;omega) (λj h=>(HLT.o j h).1)⟩;rw[Ff false hlt];exact hown'
    case measure=>exact uO
  . have hkk:k=C.length:=au;subst hkk;rw[wh] at hown
    go_wp2_with fail
    refine(Rq _ _ b a _ (HU.o.below hbel) (HV.o.below hbel)).mono ?_;rw[show(ed λn=>kF b n&& !kF a n)=D from HD.o.symm];rintro e w4 ⟨y,rfl,hy,hb4⟩;have hB4:=Below.step hbel hsz hb4;have hown4:=fR hown hb4;replace hy:=kr.mono hy hsz;obtain⟨ao2,cap2,rfl⟩:=Mu hy;clear hown hz hbel
    go_wp2_with fail
    go_loopw [5,36] (λx i wr=>∃k:Nat,k<=D.length/\i=.int .i64 k/\wr.ownsRow w.heap.size 334 3 x (C.length+k) (eV (C.map (Prod.mk false))++eV ((D.take k).map (Prod.mk true)))/\kr wr w.heap.size (.slice ao2 D.length cap2) D/\dp w wr)
     (λ_ i _=>D.length - (intOf i).toNat)
    case atStart=>exact⟨0,kf _,rfl,by simpa[eV] using hown4,hy,hB4⟩
    case round=>
     clear hown4 hy hB4;obtain⟨k,hk,rfl,hown,hz,hbel⟩:=hrel;have hsz:=hbel.size;by_cases hlt:k<D.length
     . obtain⟨b0,rfl,hbs,h1,h2⟩:=JA hz hlt;have HLT:=ae hown.lt
       go_wp2_with (first |(at_builtin;refine Fc _ rfl _ _ 294 rfl w.heap.size 334 i0 (.agg #[.bool false,.int .i64 0,.int .i64 0]) 3 24 underlying294 hi hz0 hz1 hz2 rfl nh _ _ _ rfl ((hown.alloc _).alloc _) ⟨wr.heap.size+1,0,none⟩ 1 1 [.bool true,.int .i64 D[k].1,.int .i64 D[k].2] rfl rfl (wD fh) (uU _ _ _) (by simp[maxLen];omega) au (by simp;omega) ?_;intro v' w1 hown' hgrow _))
       go_roundw
       case rel=>
        refine⟨k+1,au,by go_num,?_,World.ownsRow.kept (X6 (X6 hz _) _) hgrow (zw nh hz hown),((hbel.alloc hsz _).alloc (by simp;omega) _).grown hgrow (by simp;omega) (λj h=>(HLT.o j h).1)⟩;rw[Ff true hlt,<-Hh];exact hown'
       case measure=>exact uO
     . have hkk:k=D.length:=au;subst hkk;rw[wh,<-pD] at hown;have HE:Hid (qM a b=C.map (Prod.mk false)++D.map (Prod.mk true)):=Mw HR.o HS.o HC.o HD.o;go_wp2;go_ret;refine⟨_,rfl,wC (base:=w.heap.size) (e:=334) ?_ HMR.o ?_,hbel⟩
       . rw[HE.o,kh,pr,pr];exact hown
       . rw[HE.o,kh,pr,pr];omega
theorem Eu (u:bh)(b:List (Int×Int))(w:aD)(hu:bK w u b):
 Calls prog 248 #[u] w λe w'=>∃r,e=.returned r/\mR w' r (qM [] b)/\dp w w':=by
 have HU:=ae hu;clear hu;go_enter func248,ntmps248
 go_wp2_with fail
 refine(Vl _ _ [] b _ (oA _) HU.o).mono ?_;rintro e w1 ⟨r,rfl,hr,hb1⟩;go_wp2;go_ret;exact⟨_,rfl,hr,hb1⟩
def kU (f:Nat->Bool) (s:Nat) (t:Bool) (k:Nat):Bool:=(range k).any λj=>f (s+j)==t
def ud (f:Nat->Bool) (s:Nat) (t:Bool) (k:Nat):Nat->Bool:=λn=>if s<=n/\n<s+k then t else f n
def l7: (Nat->Bool)->List fL->Option (Nat->Bool)
 | f,[]=>some f
 | f,x::r=>if(fj x.2.1 x.2.2&& !kU f x.2.1.toNat x.1 x.2.2.toNat)=true then l7 (ud f x.2.1.toNat x.1 x.2.2.toNat) r else none
def pg (l:List (Int×Int)) (ms:List fL):Option (List (Int×Int)):=
 if cX l=true then(l7 (bitsOf l) ms).map ed else none
theorem Ev (f:Nat->Bool)(s:Nat)(t:Bool)(k:Nat):kU f s t (k+1)=(kU f s t k||(f (s+k)==t)):=by
 grind[kU]
theorem Ew {s:Nat}{t:Bool}(h:kU f s t k=true)(hkm:k<=m):kU f s t m=true:=by
 grind[kU]
theorem Rr (f:Nat->Bool)(s:Nat)(t:Bool)(k:Nat):ud f s t k (s+k)=f (s+k):=by
 simp_all[ud]
theorem Ko (f:Nat->Bool)(s:Nat)(t:Bool)(n:Nat):ud f s t 0 n=f n:=by
 simp_all[ud,bX]
theorem Kp (f:Nat->Bool)(s:Nat)(t:Bool)(k n:Nat):ud f s t (k+1) n=if n=s+k then t else ud f s t k n:=by
 unfold ud
 grind
theorem SM (s l:Int):cX [(s,l)]=fj s l:=by
 rw[DX];unfold cX;rw[db];constructor
 . grind
 . intro h;have h':=(cW _ _).1 h;exact⟨h,au,rfl⟩
theorem Hl {x:fL}{r:List fL}(h:fj x.2.1 x.2.2=false):l7 f (x::r)=none:=by
 grind[l7]
theorem CD {x:fL}{r:List fL}(h:kU f x.2.1.toNat x.1 x.2.2.toNat=true):l7 f (x::r)=none:=by
 grind[l7]
theorem Ex {x:fL}{r:List fL}(hs:fj x.2.1 x.2.2=true)(h:kU f x.2.1.toNat x.1 x.2.2.toNat=false):l7 f (x::r)=l7 (ud f x.2.1.toNat x.1 x.2.2.toNat) r:=by
 grind[l7]
theorem wE (t:Bool)(s l:Int)(hs:bT s/\bT l)(w:aD):
 yr 246 #[.agg #[.bool t,.int .i64 s,.int .i64 l]] w (.bool (fj s l)):=by
 have HS:=ae hs;clear hs;obtain⟨b,hb⟩:=cM (fj s l);rw[hb];have HB:Hid (cX [(s,l)]=b):=(SM s l).trans hb;clear hb;obtain⟨W0,hW0⟩:=gq (w.alloc (.cells #[.bool t,.int .i64 s,.int .i64 l] 334));have hs0:W0.heap.size=w.heap.size+1:=by rw[hW0];simp
 have hB0:dp w W0:=by rw[hW0];exact(iU _ _).alloc (eO _) _
 have hl:bK (W0.alloc (.cells #[.int .i64 s,.int .i64 l] 141)) (.slice (s_ W0.heap.size 0) 1 1) [(s,l)]:=
  Pk W0 [(s,l)] _ _ rfl (by simpa using HS.o) fh _ _ rfl
 have HL:=ae hl;clear hl;go_enter func246,ntmps246
 go_wp2_with fail
 rw[<-hW0]
 try rw[<-hs0]
 have hB1:=hB0.alloc hB0.size (.cells #[.int .i64 s,.int .i64 l] 141);refine(nV b _ _ HB.o _ HL.o).mono ?_;rintro e w2 ⟨rfl,hb2⟩;have hB2:=Below.step hB1 hB1.size hb2;go_wp2;go_ret;exact⟨rfl,hB2⟩
def Mx (o:Option (List (Int×Int))):Int:=if o.isSome=true then 0 else 81
theorem UY {ms:List fL}(h:k<ms.length):ms.drop k=ms[k]::ms.drop (k+1):=by simp_all
theorem Fg (A:iw)(k:Nat)(b:Bool)(hk:k<4096)(h:A[k]? =some (.bool b))(w:aD):
 (Instr.index 248 (.agg A) (.int .i64 k)).run prog w=.ok (.bool b) w:=by
 simp_all[Instr.index,asIntOf,part]
theorem Kq (h:cX l=true)(hn:n<4096):lM (kq l) n=bitsOf l n:=by
 rw[CU h];unfold lM;rw[DX,yy,yq,oz]
 grind
theorem Rs (h:cX l=true)(hk:k< (kq l).length):0<=(kq l)[k]/\(kq l)[k]<4096:=by
 grind[yq,CU,getElem_mem,oz]
theorem UZ: (prog.info? 5).map (λi=>(i.zero,i.size,i.bytes))=some (some (.int .u8 0),1,1):=cm
theorem aa1: (prog.info? 82).map (λi=>(i.zero,i.size,i.bytes))=some (some (.int .u64 0),1,8):=cm
theorem Fh (w:aD):Calls prog 245 #[] w λe w'=>∃b,e=.returned (.slice (some ⟨b,0,none⟩) 3 3)/\br .i64 w' (.slice (some ⟨b,0,none⟩) 3 3) [1,2,2]/\b=w.heap.size/\dp w w':=by
 go_enter func245,ntmps245;go_wp2;go_ret;exact⟨_,rfl,Jy w [1,2,2] _ _ rfl nh nh _ _ rfl,rfl,(iU _ _).alloc (eO _) _⟩
def aW (l:aK):List Int:=l.map λ(n:Nat)=>(n:Int)
theorem aI (l:aK): (aW l).length=l.length:=by grind[aW]
theorem nk (l:aK) (k:Nat) (h:k< (aW l).length): (aW l)[k]=((l[k]'(by grind[aI]):Nat):Int):=getElem_map _
def okW (ws:aK):Bool:=ws.all λw=>decide (1<=w/\w<=8)
def tw (w n:Nat):aK:=(range w).map λk=>n / 256 ^ k % 256
def ez:aK->aK->aK
 | w::ws,n::ns=>tw w n++ez ws ns
 | _,_=> []
def fitAll:aK->aK->Bool
 | w::ws,n::ns=>decide (n<256 ^ w)&&fitAll ws ns
 | _,_=>true
def mX (ws ns:aK):Option aK:=if okW ws=true/\ns.length=ws.length/\fitAll ws ns=true then some (ez ws ns) else none
theorem CE (k:Nat): (2:Int) ^ (8*k)=((256 ^ k:Nat):Int):=by
 have h: (2:Nat) ^ (8*k)=256 ^ k:=by rw[Nat.pow_mul]
 grind
theorem dV (w n:Nat): (tw w n).length=w:=by grind[tw]
theorem vW (w n:Nat): ∀x∈tw w n,x<256:=by
 intro x hx;unfold tw at hx
 grind
theorem Vm (w n k:Nat)(h:k<w): (tw w n).take (k+1)=(tw w n).take k++[n / 256 ^ k % 256]:=by
 grind[take_succ_eq_append_getElem,tw]
theorem Pn (ws ns:aK)(k:Nat)(h:k<ws.length)(h2:k<ns.length):
 ez (ws.take (k+1)) (ns.take (k+1))=ez (ws.take k) (ns.take k)++tw ws[k] ns[k]:=by
 induction ws generalizing ns k with
 | nil=>grind
 | cons a ws ih=>
  cases ns with
  | nil=>grind
  | cons n ns=>
   cases k<;>grind[ez]
theorem My (ws ns:aK)(k:Nat)(h:k<ws.length)(h2:k<ns.length):
 fitAll (ws.take (k+1)) (ns.take (k+1))=(fitAll (ws.take k) (ns.take k)&&decide (ns[k]<256 ^ ws[k])):=by
 induction ws generalizing ns k with
 | nil=>grind
 | cons a ws ih=>
  cases ns with
  | nil=>grind
  | cons n ns=>
   cases k<;>grind[fitAll]
theorem SN (h:k<ws.length)(h2:k<ns.length)(hn: ¬ns[k]<256 ^ ws[k]):fitAll ws ns=false:=by
 induction ws generalizing ns k with
 | nil=>grind
 | cons a ws ih=>
  cases ns with
  | nil=>grind
  | cons n ns=>
   unfold fitAll
   grind
theorem Vn (ws:aK)(k:Nat)(h:k<ws.length):okW (ws.take (k+1))=(okW (ws.take k)&&decide (1<=ws[k]/\ws[k]<=8)):=by
 grind[okW,take_succ_eq_append_getElem]
theorem ZG (h:k<ws.length)(hn: ¬(1<=ws[k]/\ws[k]<=8)):okW ws=false:=by
 grind[okW,getElem_mem]
theorem Kr (h:okW ws=true)(hk:k<ws.length):1<=ws[k]/\ws[k]<=8:=by
 simp_all[okW]
def nN (ws:aK):Nat:=ws.sum
theorem BX (ws:aK)(k:Nat)(h:k<ws.length):nN (ws.take (k+1))=nN (ws.take k)+ws[k]:=by
 grind[nN,take_succ_eq_append_getElem]
theorem Ks (ws:aK)(h:okW ws=true):nN ws<=8*ws.length:=by
 induction ws with
 | nil=>simp_all[nN]
 | cons a ws ih=>
  have h1:=Kr h (k:=0) fh;have h2:okW ws=true:=by simp_all[okW]
  grind[nN]
theorem oB (h:ns.length=ws.length): (ez ws ns).length=nN ws:=by
 induction ws generalizing ns with
 | nil=>rfl
 | cons a ws ih=>
  cases ns<;>grind[ez,nN,dV]
theorem lj (ws ns:aK): ∀x∈ez ws ns,x<256:=by
 induction ws generalizing ns with
 | nil=>grind[ez]
 | cons a ws ih=>
  cases ns<;>grind[ez,vW]
def rF (ws:aK):Int:=if okW ws=true then(nN ws:Nat) else 0
theorem BY (v:bh)(ws:aK)(hl:ws.length<=4096)(w:aD)(hv:br .i64 w v (aW ws)):
 Calls prog 72 #[v] w λe w'=>e=.returned (.tuple #[.int .i64 (rF ws),.bool (okW ws)])/\w=w':=by
 obtain⟨ao,cap,rfl,hlen,_,hcc⟩:=hv;have HC:=ae hcc;clear hcc;rw[aI] at hlen ⊢;go_enter func72,ntmps72
 go_wp2_with fail
 go_loop [4,6,9] (λs _ i=>∃(k q:Nat),k<=ws.length/\i=.int .i64 k/\s=.int .i64 q/\Hid (q=nN (ws.take k))/\Hid (okW (ws.take k)=true)/\q<=8*k)
  (λ_ _ i=>ws.length - (intOf i).toNat)
 case atStart=>exact⟨0,0,kf _,rfl,rfl,by simp[Hid,nN],by simp[Hid,okW],au⟩
 case round=>
  obtain⟨k,q,hk,rfl,rfl,HQ,HO,hq⟩:=hrel;by_cases hlt:k<ws.length
  . obtain⟨b,o,rfl,hbs,hcell⟩:=HC.o (by intro h;rw[<-Mk,aI] at h;omega);have hc:=hcell k (by rw[aI];exact hlt);rw[nk] at hc;clear hcell;have HSN:=ae (BX ws k hlt);have HON:=ae (Vn ws k hlt);by_cases hin:1<=ws[k]/\ws[k]<=8
    . have HO2:Hid (okW (ws.take (k+1))=true):=by unfold Hid;rw[HON.o,HO.o,ly hin];rfl
      obtain⟨x,hx⟩:=cM (ws[k]);rw[hx] at hc hin;have HX:=ae hx;clear hx;have HQ2:Hid (q+x=nN (ws.take (k+1))):=by unfold Hid;rw[HSN.o,HQ.o,HX.o]
      have g1: ¬(x:Int)<1:=au;have g2: ¬(8:Int)< (x:Int):=au;have g1':decide ((x:Int)<1)=false:=iE g1;have g2':decide ((8:Int)< (x:Int))=false:=iE g2;have hlt': (k:Int)< (ws.length:Int):=au;go_wp2
      go_round
      case rel=>grind
      case measure=>exact uO
    . have hno:=ZG hlt hin;have hr:rF ws=0:=by unfold rF;rw[hno];rfl
      have HNO:=ae hno;clear hno;have HRV:=ae hr;clear hr;obtain⟨x,hx⟩:=cM (ws[k]);rw[hx] at hc hin;clear hx;have hlt': (k:Int)< (ws.length:Int):=au;by_cases h1:x<1;have g1: (x:Int)<1:=au;have g1':decide ((x:Int)<1)=true:=ly g1
      rotate_left
      have g1: ¬(x:Int)<1:=au;have g2: (8:Int)< (x:Int):=au;have g1':decide ((x:Int)<1)=false:=iE g1;have g2':decide ((8:Int)< (x:Int))=true:=ly g2
      all_goals
       clear hin h1;go_wp2;refine kg (v:=.tuple #[.int .i64 0,.bool false]) (by simp[results,results72,go_sem]) rfl ⟨by rw[HRV.o,HNO.o],rfl⟩
  . obtain rfl:k=ws.length:=au;have HO2:Hid (okW ws=true):=by grind
    have HQ2:Hid (rF ws=(q:Nat)):=by unfold Hid rF;rw[HO2.o,bC rfl,HQ.o,wh]
    have hge: ¬(ws.length:Int)< (ws.length:Int):=au;go_wp2;refine kg (v:=.tuple #[.int .i64 q,.bool true]) (by simp[results,results72,go_sem]) rfl ⟨by rw[HQ2.o,HO2.o],rfl⟩
def gI (w:aD) (base:Nat) (v:bh) (l:aK):Prop:=w.ownsRow base 5 1 v l.length (l.map λ(n:Nat)=>Value.int .u8 (n:Int))
def codeF {α:Type} (c:Int) (o:Option α):Int:=if o.isSome=true then 0 else c
theorem X7 (x q:Nat): (x:Int) / 2 ^ (8*q)=((x / 256 ^ q:Nat):Int):=by
 grind[CE]
theorem Vo {x:Nat}(hy:1<=y/\y<=8)(b:Bool)(hb:decide (x<256 ^ y)=b): ((x:Int) / 2 ^ (8*y) != 0)= !b:=by
 rw[CE,show(x:Int) / ((256 ^ y:Nat):Int)=((x / 256 ^ y:Nat):Int) from(Int.natCast_ediv x (256 ^ y)).symm,<-hb];have hp:0<256 ^ y:=Nat.pow_pos nh;by_cases h:x<256 ^ y
 . grind[div_eq_of_lt]
 . rw[iE h];have:0<x / 256 ^ y:=div_pos au hp
   grind
theorem wi (v u:bh)(ws ns:aK)(hl:ws.length<=4096)(w:aD)(hv:br .i64 w v (aW ws))(hu:br .u64 w u (aW ns)):
 Calls prog 73 #[v,u] w λe w'=>∃r,e=.returned (.tuple #[r,.int .i64 (codeF 21 (mX ws ns))])/\gI w' w.heap.size r ((mX ws ns).getD [])/\dp w w':=by
 obtain⟨i0,hi,hz0,hz1',hz2⟩:=sC UZ;have HV:=ae hv;obtain⟨ao,cap,rfl,hlen,_,hcc⟩:=hv;obtain⟨uo,ucap,rfl,ulen,hur,huc⟩:=hu;have HC:=ae hcc;clear hcc;have HUC:=ae huc;clear huc;clear hur;rw[aI] at hlen ulen;have hown0:=ju w w.heap.size 5 1;have HOWN0:Hid (gI w w.heap.size (.slice none 0 0) []):=hown0;clear hown0;rw[aI,aI];rw[aI] at HV;by_cases hok:okW ws=true
 case neg=>
  have hok':okW ws=false:=by simpa using hok
  have hp:mX ws ns=none:=by unfold mX;grind
  have hr:rF ws=0:=by unfold rF;rw[hok'];rfl
  rw[hp];have HOK:=ae hok';clear hok hok' hp;have HR:=ae hr;clear hr;go_enter func73,ntmps73
  go_wp2_with fail
  refine(BY _ ws hl _ HV.o).mono ?_;rw[HOK.o,HR.o];rintro e w1 ⟨rfl,rfl⟩;go_wp2;refine kg (v:=.tuple #[.slice none 0 0,.int .i64 21]) (by simp[results,results73,go_sem]) rfl ⟨_,rfl,HOWN0.o,iU _ _⟩
 by_cases hlen2:ns.length=ws.length
 case neg=>
  have hp:mX ws ns=none:=by unfold mX;grind
  rw[hp];have hr:rF ws=(nN ws:Nat):=by unfold rF;rw[hok];rfl
  have hne: ((ns.length:Int) !=(ws.length:Int))=true:=by rw[lh];omega
  have HOK:=ae hok;clear hok hp hlen2;have HR:=ae hr;clear hr;go_enter func73,ntmps73
  go_wp2_with fail
  refine(BY _ ws hl _ HV.o).mono ?_;rw[HOK.o,HR.o];rintro e w1 ⟨rfl,rfl⟩;go_wp2;refine kg (v:=.tuple #[.slice none 0 0,.int .i64 21]) (by simp[results,results73,go_sem]) rfl ⟨_,rfl,HOWN0.o,iU _ _⟩
 have hr:rF ws=(nN ws:Nat):=by unfold rF;rw[hok];rfl
 have hsum:=Ks ws hok;obtain⟨Z,HZ⟩:=qI (nN ws);rw[HZ.o] at hr hsum;have hne: ((ns.length:Int) !=(ws.length:Int))=false:=by grind
 have HOK:=ae hok;clear hok;have HR:=ae hr;clear hr;have HL2:=ae hlen2;obtain⟨PS,HPS⟩:=qI (mX ws ns);rw[HPS.o];have hwl:ws.length<=4096:=hl;rw[hlen2] at hne ⊢;clear hlen2 ulen;go_enter func73,ntmps73
 go_wp2_with fail
 refine(BY _ ws hl _ HV.o).mono ?_;rw[HOK.o,HR.o];rintro e w1 ⟨rfl,rfl⟩
 go_wp2_with fail
 go_loop [8,9,30] (λ_ _ i=>∃k:Nat,k<=ws.length/\i=.int .i64 k/\Hid (fitAll (ws.take k) (ns.take k)=true))
  (λ_ _ i=>ws.length - (intOf i).toNat)
 case atStart=>exact⟨0,kf _,rfl,by simp[Hid,fitAll]⟩
 case round=>
  obtain⟨k,hk,rfl,HF⟩:=hrel;by_cases hlt:k<ws.length
  . obtain⟨b,o,rfl,hbs,hcell⟩:=HC.o (by intro h;rw[<-Mk,aI] at h;omega);obtain⟨ub,uo',rfl,hubs,hucell⟩:=HUC.o (by intro h;rw[<-Mk,aI] at h;have:=HL2.o;omega);have hc:=hcell k (by rw[aI];exact hlt);have huk:=hucell k (by rw[aI];have:=HL2.o;omega);rw[nk] at hc huk;clear hcell hucell;have hkn:k<ns.length:=by have:=HL2.o;omega
    have hok1:=Kr HOK.o hlt;have HFS:=ae (My ws ns k hlt hkn);have hno:=λh=>SN (ws:=ws) (ns:=ns) (k:=k) hlt hkn h;obtain⟨x,hx⟩:=cM (ns[k]);obtain⟨y,hy⟩:=cM (ws[k]);rw[hy] at hc hok1 HFS hno;rw[hx] at huk HFS hno;have HNO:=ae hno;clear hno;have hlt': (k:Int)< (ws.length:Int):=au;obtain⟨bb,hbb⟩:=cM (decide (x<256 ^ y));have ht:=Vo hok1 bb hbb;have HBB:=ae hbb;clear hbb;clear hx hy;have hy8: (8:Int)* (y:Int)<=64:=au;have hy0: (0:Int)<=8* (y:Int):=au;cases bb with
    | true=>
     have HF2:Hid (fitAll (ws.take (k+1)) (ns.take (k+1))=true):=by unfold Hid;rw[HFS.o,HF.o,HBB.o];rfl
     go_wp2
     go_round
     case rel=>grind
     case measure=>exact uO
    | false=>
     have hp:PS=none:=by rw[<-HPS.o];unfold mX;rw[bX (by intro h;rw[HNO.o (wx HBB.o)] at h;grind)]
     have HP:=ae hp;clear hp;go_wp2;refine kg (v:=.tuple #[.slice none 0 0,.int .i64 21]) (by simp[results,results73,go_sem]) rfl ⟨_,by rw[HP.o];rfl,by rw[HP.o];exact HOWN0.o,iU _ _⟩
  . obtain rfl:k=ws.length:=au;have hge: ¬(ws.length:Int)< (ws.length:Int):=au;have HFA:Hid (fitAll ws ns=true):=by have:=HF.o;rw[wh,<-HL2.o,wh] at this;exact this
    have hP:PS=some (ez ws ns):=by rw[<-HPS.o];unfold mX;rw[bC ⟨HOK.o,HL2.o,HFA.o⟩]
    have HP:=ae hP;clear hP
    go_wp2_with (refine Vp (o:=⟨some 45,_,_,_,_,_⟩) _ rfl _ _ 22 rfl w.heap.size 5 i0 (.int .u8 0) 1 oC hi hz0 hz1' .i64 .i64 _ Z rfl rfl rfl (by rw[hz2];omega) (by unfold maxLen;omega) (eO _) ?_;intro w2 hown2 hgrow2)
    have hb2:dp w w2:=(iU _ _).grown hgrow2 (eO _) (λk e=>by cases e);have HOWN2:Hid (gI w2 w.heap.size (.slice (s_ w.heap.size 0) 0 Z) (ez (ws.take 0) (ns.take 0))):=hown2;clear hgrow2 hown2
    go_loopw [10,48] (λv i wr=>∃k:Nat,k<=ws.length/\i=.int .i64 k/\Hid (gI wr w.heap.size v (ez (ws.take k) (ns.take k)))/\dp w wr)
     (λ_ i _=>ws.length - (intOf i).toNat)
    case atStart=>grind
    case round=>
     clear HOWN2 hb2;obtain⟨k,hk,rfl,HOW,hbel⟩:=hrel;by_cases hlt:k<ws.length
     . obtain⟨b,o,rfl,hbs,hcell⟩:=HC.o (by intro h;rw[<-Mk,aI] at h;omega);obtain⟨ub,uo',rfl,hubs,hucell⟩:=HUC.o (by intro h;rw[<-Mk,aI] at h;have:=HL2.o;omega);have hc:=(hbel.cell (p:=⟨b,o+k,none⟩) hbs).trans (hcell k (by rw[aI];exact hlt));have huk:=(hbel.cell (p:=⟨ub,uo'+k,none⟩) hubs).trans (hucell k (by rw[aI];have:=HL2.o;omega));rw[nk] at hc huk;clear hcell hucell;have hkn:k<ns.length:=by have:=HL2.o;omega
       have hok1:=Kr HOK.o hlt;have HLS:=ae (Pn ws ns k hlt hkn);obtain⟨x,hx⟩:=cM (ns[k]);obtain⟨y,hy⟩:=cM (ws[k]);rw[hy] at hc hok1 HLS;rw[hx] at huk HLS;clear hx hy;have hlen0: (ez (ws.take k) (ns.take k)).length<=32768:=by
        rw[oB rE];have h1:=Ks (ws.take k) (by unfold okW;rw[Ak];intro z hz;have:=HOK.o;unfold okW at this;rw[Ak] at this;exact this z (rD hz))
        grind
       obtain⟨L,hL⟩:=cM (ez (ws.take k) (ns.take k));rw[hL] at HOW HLS hlen0;clear hL;have HOW0:Hid (gI wr w.heap.size u10 (L++(tw y x).take 0)):=by grind
       clear HOW;have hlt': (k:Int)< (ws.length:Int):=au
       go_wp2_with fail
       go_loopw [10,57] (λv i wr2=>∃q:Nat,q<=y/\i=.int .i64 q/\Hid (gI wr2 w.heap.size v (L++(tw y x).take q))/\dp w wr2)
        (λ_ i _=>y - (intOf i).toNat)
       case atStart=>exact⟨0,kf _,rfl,HOW0,hbel⟩
       case round=>
        clear HOW0 hbel hc huk;obtain⟨q,hq,rfl,HOW,hbel⟩:=hrel;have hsz:=hbel.size;by_cases hql:q<y
        . have hql': (q:Int)< (y:Int):=au;have hsh:=X7 x q;have HTK:=ae (Vm y x q hql);obtain⟨d,hd⟩:=cM (x / 256 ^ q);rw[hd] at hsh HTK;clear hd;have hlen1: (L++(tw y x).take q).length<=32776:=by rw[kh,pM,dV];omega
          have hown:=HOW.o;unfold gI at hown;obtain⟨M,HM⟩:=qI (L++(tw y x).take q);rw[HM.o] at hown hlen1;clear HOW;have HLT:=ae hown.lt;have h8: (8:Int)* (q:Int)<=64:=au;have h80: (0:Int)<=8* (q:Int):=au
          go_wp2_with (at_builtin;refine Fc _ rfl (.tmp 60) (.tmp 66) 22 rfl w.heap.size 5 i0 (.int .u8 0) 1 1 oC hi hz0 hz1' hz2 rfl nh _ _ _ rfl (hown.alloc _) ⟨wr.heap.size,0,none⟩ 1 1 [.int .u8 ((d:Int) % 256)] rfl rfl (cell_one_new _ _ _) (by simp[Value.oneCell']) (by unfold maxLen;omega) au (by simp;omega) ?_;intro v' w3 hown3 hgrow3 _)
          have hb3:=(hbel.alloc au (.cells #[.int .u8 ((d:Int) % 256)] 5)).grown hgrow3 (by simp;omega) (λk h=>(HLT.o k h).1);have HOW3:Hid (gI w3 w.heap.size v' (L++(tw y x).take (q+1))):=by
           unfold Hid gI;rw[HTK.o,<-Hh,HM.o,kh,pt];exact hown3
          clear hown3 hgrow3 hown;go_roundw
          case rel=>exact⟨q+1,au,by go_num,HOW3,hb3⟩
          case measure=>exact uO
        . obtain rfl:q=y:=au;have hge: ¬(q:Int)< (q:Int):=au;have HOW3:Hid (gI wr w.heap.size u10 (ez (ws.take (k+1)) (ns.take (k+1)))):=by
           unfold Hid;rw[HLS.o];have:=HOW.o;rw[tX (by rw[dV];exact eO _)] at this;exact this
          go_wp2;go_roundw
          case rel=>exact⟨k+1,au,by go_num,HOW3,hbel⟩
          case measure=>exact uO
     . obtain rfl:k=ws.length:=au;have hge: ¬(ws.length:Int)< (ws.length:Int):=au;have HOW3:Hid (gI wr w.heap.size u10 ((PS).getD [])):=by
        unfold Hid;rw[HP.o];have:=HOW.o;rw[wh,<-HL2.o,wh] at this;exact this
       have HC0:Hid (codeF 21 PS=0):=by unfold Hid;rw[HP.o];rfl
       go_wp2;refine kg (v:=.tuple #[u10,.int .i64 0]) (by simp[results,results73,go_sem]) rfl ⟨_,by rw[HC0.o],HOW3.o,hbel⟩
def qN (v:bh):Prop:=∃a n c,v=.slice a n c/\n<=c
theorem xM:qN (.slice none 0 0):=⟨_,_,_,rfl,eO _⟩
theorem Po (h:w.ownsRow base e size v n xs):qN v:=by
 rcases h.2 with⟨rfl,h0⟩ | ⟨g,cap,cur,rfl,hb,hg,hn,hc,hs,ht⟩
 . exact xM
 . exact⟨_,_,_,rfl,au⟩
theorem UJ:prog.underlying 22=some (.slice (prog.elem 22)):=cm
theorem Vq (W:aD): (sizeOf (prog.elem 22)).run prog W=.ok 1 W:=by
 rfl
def fD (a:Option Addr) (c y s:Nat):Option Addr:=if c=y then a else a.map (·.add (y*s))
theorem ZI (a:Option Addr)(n c y:Nat)(hn:y<=n)(W:aD): (Instr.slice 22 (.slice a n c) (some (.int .i64 y)) none none).run prog W=.ok (.slice (fD a c y 1) (n - y) (c - y)) W:=by
 grind[run_slice_l,UJ,Vq,Result.andThen,sliced,fD]
theorem CY (b o c y s:Nat)(h:y<c):fD (some ⟨b,o,none⟩) c y s=some ⟨b,o+y*s,none⟩:=by
 unfold fD;rw[bX au,Va]
 grind[Addr.add]
theorem Kt (b o c q:Nat):fD (some ⟨b,o,none⟩) c q 1=if c=q then some ⟨b,o,none⟩ else some ⟨b,o+q,none⟩:=by
 by_cases h:c=q
 . simp_all[fD]
 simp_all[fD,Addr.add]
theorem uV {k:IntKind}{l:List Int}(h:br k w (.slice a n c) l)(hy:y<=n)(hc:n<=c):br k w (.slice (fD a c y 1) (n - y) (c - y)) (l.drop y):=by
 obtain⟨ao,cap,h1,h2,h3,h4⟩:=h;simp only[mA] at h1;obtain⟨rfl,rfl,rfl⟩:=h1;refine⟨_,_,by rw[Ek],by grind,λx hx=>h3 x (vF hx),λhne=>?_⟩;have hyl:y<l.length:=by
  grind
 obtain⟨b,o,rfl,h5,h6⟩:=h4 rE;refine⟨b,o+y,by rw[CY b o c y 1 au,wy],h5,λj hj=>?_⟩
 grind
theorem Pp {k:IntKind}{l:List Int}(h:br k w (.slice a n c) l)(hy:y<=n):br k w (.slice a y c) (l.take y):=by
 obtain⟨ao,cap,h1,h2,h3,h4⟩:=h;simp only[mA] at h1;obtain⟨rfl,rfl,rfl⟩:=h1;refine⟨_,_,by rw[pM,Jn hy],by grind,λx hx=>h3 x (rD hx),λhne=>?_⟩;obtain⟨b,o,rfl,h5,h6⟩:=h4 rE
 grind
def et:aK->Nat
 | []=>0
 | b::bs=>b+256*et bs
def getAll:aK->aK->aK
 | w::ws,bs=>et (bs.take w)::getAll ws (bs.drop w)
 | [],_=> []
def kx (ws bs:aK):Option aK:=if okW ws=true/\bs.length=nN ws then some (getAll ws bs) else none
theorem Pq (l:aK)(b:Nat):et (l++[b])=et l+b*256 ^ l.length:=by
 induction l<;>grind[et]
theorem Am (l:aK) (h: ∀x∈l,x<256):et l<256 ^ l.length:=by
 induction l with
 | nil=>simp[et]
 | cons a l ih=>
  have h1:=h a fh
  grind[et]
theorem aa3 (n b q:Nat) (hn:n<256 ^ q) (hb:b<256) (hq:q<8):bits .or .u64 (n:Int) ((b:Int)*2 ^ (8*q))=((n+b*256 ^ q:Nat):Int):=by
 have hp:256 ^ q*256<=256 ^ 8:=by rw[<-Nat.pow_succ];exact Sx nh au
 have hb2:b*256 ^ q<=255*256 ^ q:=Sy _ au;have h8: (256:Nat) ^ 8=18446744073709551616:=by decide
 rw[CE,<-Int.natCast_mul,u64_or_nat n (b*256 ^ q) au au];have h2:=shiftLeft_add_eq_or_of_lt (b:=n) (i:=8*q) (by grind[Nat.pow_mul]) b
 grind[shiftLeft_eq,Nat.pow_mul]
theorem X8 (n b q:Nat)(hn:n<256 ^ q)(hb:b<256)(hq:q<8):bits .or .u64 (n:Int) (IntKind.u64.wrap ((b:Int)*2 ^ (8*q)))=((n+b*256 ^ q:Nat):Int):=by
 have hp:256 ^ q*256<=256 ^ 8:=by rw[<-Nat.pow_succ];exact Sx nh au
 have hb2:b*256 ^ q<=255*256 ^ q:=Sy _ au;have h8: (256:Nat) ^ 8=18446744073709551616:=by decide
 have hw:IntKind.u64.wrap ((b:Int)*2 ^ (8*q))=(b:Int)*2 ^ (8*q):=by
  rw[CE,<-Int.natCast_mul];show(((b*256 ^ q:Nat):Int)) % 18446744073709551616=_;omega
 grind[aa3]
def D3 (w:aD) (base:Nat) (v:bh) (l:aK):Prop:=w.ownsRow base 82 1 v l.length (l.map λ(n:Nat)=>Value.int .u64 (n:Int))
theorem uW (l:aK)(k:Nat): (aW l).drop k=aW (l.drop k):=by grind[aW,map_drop]
theorem sP {l:aK}(h: ∀x∈aW l,(Lit.int .u8 x).wf=true): ∀x∈l,x<256:=by
 intro x hx;have:=h (x:Int) (lY.2 ⟨x,hx,rfl⟩)
 grind[Lit.wf,IntKind.max,IntKind.bits]
theorem Mz (ws bs:aK)(k:Nat)(h:k<ws.length):getAll (ws.take (k+1)) bs=getAll (ws.take k) bs++[et ((bs.drop (nN (ws.take k))).take ws[k])]:=by
 induction ws generalizing bs k with
 | nil=>grind
 | cons a ws ih=>
  cases k<;>grind[getAll,nN,drop_drop]
theorem Ia (ws bs:aK): (getAll ws bs).length=ws.length:=by
 induction ws generalizing bs<;>grind[getAll]
theorem MA (ws:aK)(k:Nat)(h:k<ws.length):nN (ws.take k)+ws[k]<=nN ws:=by
 rw[<-BX ws k h]
 grind[nN,take_append_drop]
theorem yC (v u:bh)(ws bs:aK)(hl:ws.length<=4096)(w:aD)(hv:br .i64 w v (aW ws))(hu:br .u8 w u (aW bs))(hcap:qN u):
 Calls prog 29 #[v,u] w λe w'=>∃r,e=.returned (.tuple #[r,.int .i64 (codeF 21 (kx ws bs))])/\D3 w' w.heap.size r ((kx ws bs).getD [])/\dp w w':=by
 obtain⟨i0,hi,hz0,hz1',hz2⟩:=sC aa1;have HV:=ae hv;have HU:=ae hu;obtain⟨ao,cap,rfl,hlen,_,hcc⟩:=hv;obtain⟨uo,ucap,rfl,ulen,hur,_⟩:=hu;obtain⟨a',n',c',he,hcap⟩:=hcap;simp only[mA] at he;obtain⟨rfl,rfl,rfl⟩:=he;have hby:=sP hur;have HBY:=ae hby;clear hby hur;have HC:=ae hcc;clear hcc;rw[aI] at hlen ulen HV HU hcap;have HOWN0:Hid (D3 w w.heap.size (.slice none 0 0) []):=ju w w.heap.size 82 1;rw[aI,aI];by_cases hok:okW ws=true
 case neg=>
  have hok':okW ws=false:=by simpa using hok
  have hp:kx ws bs=none:=by unfold kx;rw[bX (by rw[hok'];simp)]
  have hr:rF ws=0:=by unfold rF;rw[hok'];rfl
  rw[hp];have HOK:=ae hok';clear hok hok' hp;have HR:=ae hr;clear hr;go_enter func29,ntmps29
  go_wp2_with fail
  refine(BY _ ws hl _ HV.o).mono ?_;rw[HOK.o,HR.o];rintro e w1 ⟨rfl,rfl⟩;go_wp2;refine kg (v:=.tuple #[.slice none 0 0,.int .i64 21]) (by simp[results,results29,go_sem]) rfl ⟨_,rfl,HOWN0.o,iU _ _⟩
 have hr:rF ws=(nN ws:Nat):=by unfold rF;rw[hok];rfl
 have hsum:=Ks ws hok;obtain⟨Z,hZ⟩:=cM (nN ws);rw[hZ] at hr hsum;by_cases hlen2:bs.length=Z
 case neg=>
  have hp:kx ws bs=none:=by unfold kx;rw[bX (λh=>hlen2 (h.2.trans hZ))]
  rw[hp];have hne: ((bs.length:Int) !=(Z:Int))=true:=by rw[lh];omega
  have HOK:=ae hok;clear hok hp hlen2 hZ;have HR:=ae hr;clear hr;go_enter func29,ntmps29
  go_wp2_with fail
  refine(BY _ ws hl _ HV.o).mono ?_;rw[HOK.o,HR.o];rintro e w1 ⟨rfl,rfl⟩;go_wp2;refine kg (v:=.tuple #[.slice none 0 0,.int .i64 21]) (by simp[results,results29,go_sem]) rfl ⟨_,rfl,HOWN0.o,iU _ _⟩
 have hne: ((bs.length:Int) !=(Z:Int))=false:=by rw[DY];omega
 obtain⟨PS,hPS⟩:=cM (kx ws bs);rw[hPS];have hP:PS=some (getAll ws bs):=by rw[<-hPS];unfold kx;rw[bC ⟨hok,hlen2.trans hZ.symm⟩]
 have HP:=ae hP;clear hP hPS;have HZ:=ae hZ;clear hZ;have HOK:=ae hok;clear hok;have HR:=ae hr;clear hr;have HL2:=ae hlen2;clear hlen2;go_enter func29,ntmps29
 go_wp2_with fail
 refine(BY _ ws hl _ HV.o).mono ?_;rw[HOK.o,HR.o];rintro e w1 ⟨rfl,rfl⟩
 go_wp2_with (refine Vp (o:=⟨some 28,_,_,_,_,_⟩) _ rfl _ _ 78 rfl w.heap.size 82 i0 (.int .u64 0) 1 Fi hi hz0 hz1' .i64 .i64 _ ws.length rfl rfl rfl (by rw[hz2];omega) (by unfold maxLen;omega) (eO _) ?_;intro w2 hown2 hgrow2)
 have hb2:dp w w2:=(iU _ _).grown hgrow2 (eO _) (λk e=>by cases e);have HOWN2:Hid (D3 w2 w.heap.size (.slice (s_ w.heap.size 0) 0 ws.length) (getAll (ws.take 0) bs)):=hown2;have HU2:Hid (br .u8 w (.slice uo bs.length ucap) (aW (bs.drop (nN (ws.take 0))))):=HU.o;clear hgrow2 hown2
 go_loopw [1,8,31] (λu v i wr=>∃(k s n c:Nat) (a:Option Addr),k<=ws.length/\i=.int .i64 k/\u=.slice a n c/\n<=c/\n+s=bs.length/\Hid (s=nN (ws.take k))/\Hid (br .u8 w (.slice a n c) (aW (bs.drop s)))/\Hid (D3 wr w.heap.size v (getAll (ws.take k) bs))/\dp w wr)
  (λ_ _ i _=>ws.length - (intOf i).toNat)
 case atStart=>exact⟨0,0,bs.length,ucap,uo,kf _,rfl,rfl,hcap,au,by simp[Hid,nN],HU2,HOWN2,hb2⟩
 case round=>
  clear HOWN2 hb2 HU2;obtain⟨k,s,n,c,a,hk,rfl,rfl,hnc,hns,HS,HUB,HOW,hbel⟩:=hrel;by_cases hlt:k<ws.length
  . obtain⟨b,o,rfl,hbs,hcell⟩:=HC.o (by intro h;rw[<-Mk,aI] at h;omega);have hc:=(hbel.cell (p:=⟨b,o+k,none⟩) hbs).trans (hcell k (by rw[aI];exact hlt));rw[nk] at hc;clear hcell;have hok1:=Kr HOK.o hlt;have hst:=MA ws k hlt;have HGS:=ae (Mz ws bs k hlt);have HSS:=ae (BX ws k hlt);obtain⟨y,hy⟩:=cM (ws[k]);rw[hy,<-HS.o,HZ.o,<-HL2.o] at hst;rw[hy] at hc hok1 HGS HSS;clear hy;rw[<-HS.o] at HGS HSS;have hyn:y<=n:=au;obtain⟨B,HBB⟩:=qI (bs.drop s);have hBl:B.length=n:=by rw[<-HBB.o,Ek];omega
    have HB256:Hid (∀x∈B,x<256):=by unfold Hid;rw[<-HBB.o];exact λx hx=>HBY.o x (vF hx)
    rw[HBB.o] at HUB HGS;have HBL:=ae hBl;clear hBl;obtain⟨ao',cap',he1,-,-,hbc⟩:=HUB.o.below hbel;simp only[mA] at he1;obtain⟨he2,-,-⟩:=he1;subst he2;obtain⟨ub,uo',rfl,hubs,hucell⟩:=hbc (by intro h;rw[<-Mk,aI,HBL.o] at h;omega);have HCE:=ae hucell;clear hucell;have hlt': (k:Int)< (ws.length:Int):=au
    go_wp2_with fail
    go_loop [11,36] (λv j=>∃(q z:Nat),q<=y/\j=.int .i64 q/\v=.int .u64 z/\Hid (z=et (B.take q))) (λ_ j=>y - (intOf j).toNat)
    case atStart=>exact⟨0,0,kf _,rfl,rfl,by simp[Hid,et]⟩
    case round=>
     obtain⟨q,z,hq,rfl,rfl,HZ2⟩:=hrel;by_cases hql:q<y
     . have hqB:q<B.length:=by have:=HBL.o;omega
       have hcd:=HCE.o q (by rw[aI];exact hqB);rw[nk] at hcd;have hd:=HB256.o _ (tW hqB);have hzl:z<256 ^ q:=by
        have h1:=Am (B.take q) (λx hx=>HB256.o x (rD hx));rw[pM,Jn au,<-HZ2.o] at h1;exact h1
       have hor:=X8 z B[q] q hzl hd au;have hzn:et (B.take (q+1))=z+B[q]*256 ^ q:=by
        rw[EW hqB,Pq,<-HZ2.o,pM,Jn au]
       obtain⟨d,hdd⟩:=cM (B[q]);rw[hdd] at hcd hd hor hzn;have HZN:=ae hzn;clear hzn hdd;have HOR:=ae hor;clear hor;have hql': (q:Int)< (y:Int):=au;have h8: (8:Int)* (q:Int)<=64:=au;have h80: (0:Int)<=8* (q:Int):=au;go_wp2
       go_round
       case rel=>exact⟨q+1,z+d*256 ^ q,au,by go_num,by rw[HOR.o],HZN.o.symm⟩
       case measure=>exact uO
     . obtain rfl:q=y:=au;have hge: ¬(q:Int)< (q:Int):=au;have hown:=HOW.o;unfold D3 at hown;have hlk: (getAll (ws.take k) bs).length=k:=by rw[Ia,pM,Jn au]
       obtain⟨M,HM⟩:=qI (getAll (ws.take k) bs);rw[HM.o] at hown hlk HGS;clear HOW;have HLT:=ae hown.lt;have hsz:=hbel.size;have HUB2:=ae (uV HUB.o hyn hnc);rw[Kt] at HUB2;have hqn: (q:Int)<=(n:Int):=au;have hq0: (0:Int)<=(q:Int):=au
       go_wp2_with (at_builtin;refine Fc _ rfl (.tmp 50) (.tmp 52) 78 rfl w.heap.size 82 i0 (.int .u64 0) 1 8 Fi hi hz0 hz1' hz2 rfl nh _ _ _ rfl (hown.alloc _) ⟨wr.heap.size,0,none⟩ 1 1 [.int .u64 (z:Int)] rfl rfl (cell_one_new _ _ _) (by simp[Value.oneCell']) (by unfold maxLen;omega) au (by simp;omega) ?_;intro v' w3 hown3 hgrow3 _)
       have hb3:=(hbel.alloc au (.cells #[.int .u64 (z:Int)] 82)).grown hgrow3 (by simp;omega) (λk h=>(HLT.o k h).1);have hsz3:=hb3.size;have HOW3:Hid (D3 w3 w.heap.size v' (getAll (ws.take (k+1)) bs)):=by
        unfold Hid D3;rw[HGS.o,<-HZ2.o,kh,pt];exact hown3
       have HUB3:Hid (br .u8 w (.slice (if c=q then some ⟨ub,uo',none⟩ else some ⟨ub,uo'+q,none⟩) (n - q) (c - q)) (aW (bs.drop (s+q)))):=by
        have h:=HUB2.o;rw[uW,<-HBB.o,drop_drop] at h;exact h
       have HSN:Hid (s+q=nN (ws.take (k+1))):=by unfold Hid;rw[HSS.o]
       clear hown3 hgrow3 hown;go_roundw
       case rel=>exact⟨k+1,s+q,n - q,c - q,_,au,by go_num,rfl,au,by omega,HSN,HUB3,HOW3,hb3⟩
       case measure=>exact uO
  . obtain rfl:k=ws.length:=au;have hge: ¬(ws.length:Int)< (ws.length:Int):=au;have HOW3:Hid (D3 wr w.heap.size u8 (PS.getD [])):=by
     unfold Hid;rw[HP.o];have:=HOW.o;rw[wh] at this;exact this
    have HC0:Hid (codeF 21 PS=0):=by unfold Hid;rw[HP.o];rfl
    go_wp2;refine kg (v:=.tuple #[u8,.int .i64 0]) (by simp[results,results29,go_sem]) rfl ⟨_,by rw[HC0.o],HOW3.o,hbel⟩
theorem Pr (a b:Nat)(ha:a<4611686018427387904)(hb:b<4611686018427387904):bits .or .i64 (a:Int) (b:Int)=((a|||b:Nat):Int):=by
 have hx:a|||b<2 ^ 62:=or_lt_two_pow au au
 show IntKind.i64.wrap ((BitVec.ofInt 64 (a:Int)|||BitVec.ofInt 64 (b:Int)).toNat:Int)=_
 grind[IntWalk.i64_in]
theorem ZJ (a b:Nat)(ha:a<256)(hb:b<256):bits .or .i64 (a:Int) ((b:Int)*256)=((a+256*b:Nat):Int):=by
 have h:=Pr a (b*256) au au;rw[show((b*256:Nat):Int)=(b:Int)*256 from by omega] at h;rw[h];have h2:=shiftLeft_add_eq_or_of_lt (b:=a) (i:=8) au b;rw[shiftLeft_eq,show(2:Nat) ^ 8=256 from rfl] at h2
 grind
theorem JB (u:bh)(bs:aK)(hb:bs.length<2)(w:aD)(hu:br .u8 w u (aW bs)):
 Calls prog 71 #[u] w λe w'=>e=.returned (.tuple #[.int .i64 0,.slice none 0 0,.bool false])/\w=w':=by
 obtain⟨uo,ucap,rfl,-,-,-⟩:=hu;rw[aI];have h2: (bs.length:Int)<2:=au;go_enter func71,ntmps71;go_wp2;refine kg (v:=.tuple #[.int .i64 0,.slice none 0 0,.bool false]) (by simp[results,results71,go_sem]) rfl ⟨rfl,rfl⟩
theorem Fj (u:bh)(a b:Nat)(bs:aK)(w0 w:aD)(hw:dp w0 w)(hu0:br .u8 w0 u (aW (a::b::bs)))(hcap:qN u):
 Calls prog 71 #[u] w λe w'=>∃v,e=.returned (.tuple #[.int .i64 ((a+256*b:Nat):Int),v,.bool true])/\br .u8 w0 v (aW bs)/\qN v/\dp w w':=by
 have HU:=ae hu0;have hu:=hu0.below hw;clear hu0 hw;obtain⟨uo,ucap,rfl,-,hr,hc⟩:=hu;obtain⟨a',n',c',he,hcap⟩:=hcap;simp only[mA] at he;obtain⟨rfl,rfl,rfl⟩:=he;have hby:=sP hr;have ha:=hby a fh;have hb:=hby b fh;clear hby hr;obtain⟨ub,uo',rfl,hubs,hcell⟩:=hc (by simp[aW]);have c0:=hcell 0 (by rw[aI];simp);have c1:=hcell 1 (by rw[aI];simp);rw[nk] at c0 c1;simp only[getElem_cons_zero,getElem_cons_succ,CI] at c0 c1;clear hcell hc;rw[aI] at HU hcap ⊢;have hlen: (a::b::bs).length=bs.length+2:=rfl;rw[hlen] at HU hcap ⊢;clear hlen;have HD:=ae (uV HU.o (y:=2) au hcap);rw[Kt] at HD;have h2: ¬((bs.length:Int)+2<2):=au;have hor:=ZJ a b ha hb;have HOR:=ae hor;clear hor;go_enter func71,ntmps71
 go_wp2_with fail
 go_quiet (fail)
 rw[HOR.o];obtain⟨DA,hDA⟩:=cM ((if ucap=2 then some ⟨ub,uo',none⟩ else some ⟨ub,uo'+2,none⟩:Option Addr));rw[hDA] at HD ⊢;clear hDA;go_wp2;refine kg (v:=.tuple #[.int .i64 ((a+256*b:Nat):Int),.slice DA bs.length (ucap - 2),.bool true]) (by simp[results,results71,go_sem]) rfl ⟨_,rfl,?_,⟨_,_,_,rfl,au⟩,?_⟩
 . have h:=HD.o;rw[uW] at h;exact h
 . exact below_drewN (iU _ _) _
theorem aa4: (prog.info? 22).map (λi=>(i.zero,i.size,i.bytes))=some (some (.slice none 0 0),1,24):=cm
def CZ (w:aD) (base:Nat) (v:bh) (ts:List aK):Prop:=
 ∃vs:List bh,vs.length=ts.length/\w.ownsRow base 22 1 v ts.length vs/\∀k (h:k<vs.length) (h':k<ts.length),gI w base vs[k] ts[k]/\ts[k].length<=65535
theorem wF (w:aD)(base:Nat):CZ w base (.slice none 0 0) []:=⟨[],rfl,ju w base 22 1,λk h=>absurd h (ES _)⟩
theorem Fk {w w':aD} {base:Nat} {v:bh} {l:aK} (h:gI w base v l) (hb:dp w w'):gI w' base v l:=fR h hb
theorem SO {l:aK}(h:gI w base v l)(hb:base'<=base):gI w base' v l:=
 ⟨h.1,h.2.imp id λ⟨g,cap,cur,h1,h2,r⟩=>⟨g,cap,cur,h1,kL hb h2,r⟩⟩
theorem zx (h:CZ w base v ts)(hb:dp w w'):CZ w' base v ts:=by
 grind[fR,Fk,CZ]
theorem SP {x:bh}{t:aK}(h1:vs.length=ts.length)(h2:w.ownsRow base 22 1 v ts.length vs)(h3: ∀k (h:k<vs.length) (h':k<ts.length),gI w base vs[k] ts[k]/\ts[k].length<=65535)(hx:gI w base x t)(ht:t.length<=65535)(hg:w.grownBy w' v.ownBlock)(hn:w'.ownsRow base 22 1 v' (ts.length+1) (vs++[x])):CZ w' base v' (ts++[t]):=by
 have hk: ∀{y:bh} {l:aK},gI w base y l->gI w' base y l:=fun {y l} hy=>World.ownsRow.kept hy hg (zw nh hy h2);refine⟨vs++[x],by simp[h1],by grind,λk a b=>?_⟩
 grind
def z':aK->Option (aK×aK)
 | a::b::r=>if a+256*b<=r.length then some (r.take (a+256*b),r.drop (a+256*b)) else none
 | _=>none
def lU:Nat->aK->Option (List aK×aK)
 | 0,r=>some ([],r)
 | k+1,r=>match lU k r with
  | some (ts,q)=>match z' q with
   | some (t,q')=>some (ts++[t],q')
   | none=>none
  | none=>none
def np:aK->Option (List aK)
 | a::b::r=>match lU (a+256*b) r with
  | some (ts,[])=>some ts
  | _=>none
 | _=>none
theorem MB (h:lU k r=none)(hm:k<=m):lU m r=none:=by
 induction m with
 | zero=>grind
 | succ m ih=>
  grind[lU]
theorem Ps (h:lU k r=some (ts,q)):ts.length=k/\q.length<=r.length:=by
 induction k generalizing ts q with
 | zero=>unfold lU at h;grind
 | succ k ih=>
  unfold lU at h;split at h
  . next ts' q' h'=>
    split at h
    . next t q2 ht=>
      cases h;have:=ih h';refine⟨by grind,?_⟩;unfold z' at ht
      grind
    . cases h
  . cases h
theorem Pt (n:Nat):madeCells (Value.int .u8 0).cells n=(replicate n (.int .u8 0:bh)).toArray:=by
 apply ER;intro j;by_cases h:j<n <;> simp[madeCells,Value.cells,mod_one,h]
theorem Pu (n:Nat)(hn:n<=281474976710656)(W:aD): (Instr.makeSlice 22 (.int .i64 n) (.int .i64 n)).run prog W=.ok (.slice (some ⟨W.heap.size,0,none⟩) n n) (W.alloc (.cells (replicate n (.int .u8 0:bh)).toArray 5)):=by
 obtain⟨i0,hi,hz0,hz1,hz2⟩:=sC UZ;rw[run_make W 22 5 i0 (.int .u8 0) oC hi hz0 .i64 .i64 (n:Nat) (n:Nat) au au rE au,hz1]
 simp_all[Pt]
theorem MC {g:Nat}{l:aK}(hg:w.heap[g]? =some (.cells cs.toArray 5 (0,0)))(hb:base<=g)(hc:cs=l.map λ(x:Nat)=>Value.int .u8 (x:Int))(hl:l.length=n)(hn:n<=9223372036854775807):gI w base (.slice (some ⟨g,0,none⟩) n n) l:=by
 subst hl hc;refine⟨by simp,.inr ⟨g,_,_,rfl,hb,hg,eO _,by grind[maxLen],by simp,by simp_all[tX]⟩⟩
theorem gO {a:Act}(o:Oper)(h:wpList P ops Q (o::rest) a w):wpList P ops Q (o::rest) a w:=h
theorem ue: (prog.info? 5).map (·.size)=some 1:=cm
def aQ (l:aK):List bh:=l.map λ(x:Nat)=>Value.int .u8 (x:Int)
theorem zy (l:aK): ∀v∈aQ l,v.oneCell'=true:=by
 intro v hv;obtain⟨x,_,rfl⟩:=lY.1 hv;rfl
theorem JC (hb:dp w w')(h:aW r≠ []->∃b o,a=some ⟨b,o,none⟩/\b<w.heap.size/\∀k (h:k< (aW r).length),w.cell? ⟨b,o+k,none⟩=some (.int .u8 (aW r)[k]))(hn:0< (aQ (r.take n)).length): ∃ad,a=some ad/\∀j v,(aQ (r.take n))[j]? =some v->w'.cell? (ad.add j)=some v:=by
 unfold aQ at hn;rw[pr,pM] at hn;obtain⟨b,o,rfl,h1,h2⟩:=h (by grind[aI]);refine⟨_,rfl,λj v hj=>?_⟩;unfold aQ at hj;rw[tY] at hj;obtain⟨x,hx,rfl⟩:=XY.1 hj;obtain⟨hjl,hxe⟩:=sy.1 hx;rw[pM] at hjl;have hc:=h2 j (by grind[aI]);rw[nk] at hc;rw[getElem_take] at hxe;rw[hxe] at hc;have e: (⟨b,o,none⟩:Addr).add j=⟨b,o+j,none⟩:=by grind[Addr.add]
 rw[e];exact(hb.cell (p:=⟨b,o+j,none⟩) h1).trans hc
theorem MD (h:q.length<2):z' q=none:=by
 unfold z'
 grind
theorem xN (u:bh)(bs:aK)(hbl:bs.length<=140737488355328)(w:aD)(hu:br .u8 w u (aW bs))(hcap:qN u):
 Calls prog 28 #[u] w λe w'=>∃r,e=.returned (.tuple #[r,.int .i64 (codeF 21 (np bs))])/\CZ w' w.heap.size r ((np bs).getD [])/\dp w w':=by
 obtain⟨i0,hi,hz0,hz1',hz2⟩:=sC aa4;have HU:=ae hu;have HCAP:=ae hcap;clear hcap;have HT0:Hid (CZ w w.heap.size (.slice none 0 0) []):=wF w w.heap.size;by_cases hshort:bs.length<2
 . have hs:np bs=none:=by
    unfold np;split
    . simp at hshort;omega
    . rfl
   rw[hs];have hc:codeF 21 (none:Option (List aK))=21:=rfl;rw[hc];clear hs hc;obtain⟨uo,ucap,rfl,-,-,-⟩:=hu;go_enter func28,ntmps28
   go_wp2_with fail
   refine(JB _ bs hshort _ HU.o).mono ?_;rintro e w1 ⟨rfl,rfl⟩;go_wp2;refine kg (v:=.tuple #[.slice none 0 0,.int .i64 21]) (by simp[results,results28,go_sem]) rfl ⟨_,rfl,HT0.o,iU _ _⟩
 obtain⟨a,b,R,rfl⟩: ∃a b R,bs=a::b::R:=by
  match bs,hshort with
  | [],h=>simp at h
  | [_],h=>simp at h
  | a::b::R,_=>exact⟨a,b,R,rfl⟩
 clear hshort;have hby:=sP (l:=a::b::R) (by obtain⟨_,_,_,_,h,_⟩:=hu;exact h);have ha:=hby a fh;have hb:=hby b fh;have HBY:=ae hby;clear hby;have hRl:R.length<=140737488355328:=by simp at hbl;omega
 clear hbl;obtain⟨M,hM⟩:=cM (a+256*b);have hMl:M<=65535:=au;obtain⟨PS,hPS⟩:=cM (np (a::b::R));have hsp:PS=(match lU M R with | some (ts,[])=>some ts | _=>none):=by rw[<-hPS,<-hM];rfl
 rw[hPS];have HSP:=ae hsp;clear hsp hPS;have HM:=ae hM;clear hM;obtain⟨uo,ucap,rfl,-,-,-⟩:=hu;go_enter func28,ntmps28
 go_wp2_with fail
 refine(Fj _ a b R w _ (iU _ _) HU.o HCAP.o).mono ?_;rw[HM.o];rintro e w1 ⟨v1,rfl,hv1,hcp1,hb1⟩;have HV1:=ae hv1;clear hv1;have HC1:=ae hcp1;clear hcp1;have HT1:Hid (CZ w1 w.heap.size (.slice none 0 0) []):=wF w1 w.heap.size
 go_wp2_with fail
 go_loopw [0,6,20] (λs v i wr=>∃(k:Nat) (ts:List aK) (q:aK),k<=M/\i=.int .i64 k/\Hid (lU k R=some (ts,q))/\Hid (br .u8 w s (aW q))/\Hid (qN s)/\Hid (CZ wr w.heap.size v ts)/\dp w wr)
  (λ_ _ i _=>M - (intOf i).toNat)
 case atStart=>exact⟨0,[],R,kf _,rfl,rfl,HV1,HC1,HT1,hb1⟩
 case round=>
  clear HV1 HC1 HT1 hb1;obtain⟨k,ts,q,hk,rfl,HSN,HQ,HQC,HT,hbel⟩:=hrel;obtain⟨htl,hql⟩:=Ps HSN.o;have hsz:=hbel.size;by_cases hlt:k<M
  . have hlt': (k:Int)< (M:Int):=au;have HFAIL:Hid (z' q=none->PS=none):=by
     intro h;rw[HSP.o,MB (k:=k+1) (by unfold lU;rw[HSN.o];simp only;rw[h]) au]
    by_cases hq2:q.length<2
    . have hp:PS=none:=HFAIL.o (MD hq2);have HP:=ae hp;clear hp
      go_wp2_with fail
      refine(JB _ q hq2 _ (HQ.o.below hbel)).mono ?_;rintro e w3 ⟨rfl,rfl⟩;go_wp2;refine kg (v:=.tuple #[.slice none 0 0,.int .i64 21]) (by simp[results,results28,go_sem]) rfl ⟨_,by rw[HP.o];rfl,by rw[HP.o];exact wF _ _,hbel⟩
    obtain⟨x,y,r,rfl⟩: ∃x y r,q=x::y::r:=by
     match q,hq2 with
     | [],h=>simp at h
     | [_],h=>simp at h
     | x::y::r,_=>exact⟨x,y,r,rfl⟩
    have hqb:=sP (l:=x::y::r) (by obtain⟨_,_,_,_,h,_⟩:=HQ.o;exact h);have hx:=hqb x fh;have hy:=hqb y fh;clear hq2 hqb;have hrl:r.length<=R.length:=by simp at hql;omega
    clear hql;obtain⟨n,hn⟩:=cM (x+256*y);have hnl:n<=65535:=au;have htk:z' (x::y::r)=if n<=r.length then some (r.take n,r.drop n) else none:=by rw[<-hn];rfl
    have HN:=ae hn;clear hn;have HTK:=ae htk;clear htk
    go_wp2_with fail
    refine(Fj _ x y r w _ hbel HQ.o HQC.o).mono ?_;rw[HN.o];rintro e w3 ⟨v3,rfl,hv3,hcp3,hb3⟩;have hB3:=Below.step hbel hsz hb3;have HT3:=ae (zx HT.o hb3);clear hb3 HT;have hv3':=hv3;obtain⟨vo,vc,rfl,-,-,hvc⟩:=hv3';have HVC:=ae hvc;clear hvc;have HV3:=ae hv3;clear hv3;obtain⟨_,_,_,he,hcap3⟩:=hcp3;simp only[mA] at he;obtain⟨rfl,rfl,rfl⟩:=he;rw[aI r] at HV3 hcap3 ⊢;by_cases hfit:r.length<n
    . have hp:PS=none:=HFAIL.o (by rw[HTK.o,bX au]);have HP:=ae hp;clear hp;have hfit': (r.length:Int)< (n:Int):=au;have hfit'':decide ((r.length:Int)< (n:Int))=true:=ly hfit';go_wp2;refine kg (v:=.tuple #[.slice none 0 0,.int .i64 21]) (by simp[results,results28,go_sem]) rfl ⟨_,by rw[HP.o];rfl,by rw[HP.o];exact wF _ _,hB3⟩
    have hfit': ¬(r.length:Int)< (n:Int):=au;have hfit'':decide ((r.length:Int)< (n:Int))=false:=iE hfit';have HSN2:Hid (lU (k+1) R=some (ts++[r.take n],r.drop n)):=by
     unfold Hid lU;rw[HSN.o];simp only;rw[HTK.o,bC au]
    clear HFAIL;have hmk:=Pu n au;obtain⟨Zs,hZs⟩:=gq (replicate n (.int .u8 0:bh));have hZl:Zs.length=n:=by rw[hZs];simp
    rw[<-hZs] at hmk;have HZS:=ae hZs;clear hZs;obtain⟨W1,hW1⟩:=gq (w3.alloc (.cells Zs.toArray 5));have hg1:W1.heap[w3.heap.size]? =some (.cells Zs.toArray 5 (0,0)):=by rw[hW1];exact Ju _ _
    have hbW:dp w3 W1:=by rw[hW1];exact(iU _ _).alloc (eO _) _
    have hW1':=hW1.symm;have HW1:=ae hW1';clear hW1 hW1';obtain⟨cs,hcs⟩:=gq (aQ (r.take n));have hcl:cs.length=n:=by rw[hcs];unfold aQ;rw[pr,pM,Jn au]
    have hsrc:0<cs.length->∃ad,vo=some ad/\∀j v,cs[j]? =some v->W1.cell? (ad.add j)=some v:=by
     intro h;rw[hcs] at h ⊢;exact JC (hB3.trans (hbW.mono hB3.size)) HVC.o h
    have hone: ∀v∈cs,v.oneCell'=true:=by rw[hcs];exact zy _
    have hmin:cs.length=Nat.min r.length n:=by rw[hcl];exact(Nat.min_eq_right au).symm
    have HSRC:=ae hsrc;clear hsrc;have HONE:=ae hone;clear hone;have HMIN:=ae hmin;clear hmin;have HG1:=ae hg1;clear hg1;have HCS:=ae hcs;clear hcs;have HCL:=ae hcl;clear hcl;have HZL:=ae hZl;clear hZl;have hvo:=ZI vo r.length vc n au;have hdr:=uV HV3.o (y:=n) au hcap3;obtain⟨DA,hDA⟩:=cM (fD vo vc n 1);rw[hDA] at hvo hdr;rw[uW] at hdr;have HVO:=ae hvo;clear hvo hDA;have HDR:=ae hdr;clear hdr;have hcn:r.length - n<=vc - n:=au;clear hcap3
    go_upto_region 12 with((with_reducible refine gO ⟨some 40,.call {callee:=.builtin .copy,args:=#[.tmp 38,.tmp 39],argTypes:=#[22,22]},_,_,_,none⟩ ?_);rw[HW1.o];refine wpList_copy_splice rfl (.tmp 38) (.tmp 39) 22 22 rfl 5 oC ue (some ⟨w3.heap.size,0,none⟩) vo n n r.length vc rfl rfl w3.heap.size 0 Zs 5 HG1.o cs HMIN.o (λh=>⟨rfl,HSRC.o h⟩) (by rw[HCL.o,HZL.o];omega) HONE.o w3.heap.size w3 hbW (eO _) ?_;intro w4 hg4 hb4)
    have hspl:splice Zs 0 cs=cs:=by
     unfold splice;rw[take_zero,wv,rC,HCL.o,<-HZL.o,drop_length,ET]
    have hg5:w4.heap[w3.heap.size]? =some (.cells cs.toArray 5 (0,0)):=by have:=hg4.o;rw[hspl] at this;exact this
    have hob:gI w4 w.heap.size (.slice (some ⟨w3.heap.size,0,none⟩) n n) (r.take n):=MC hg5 hB3.size HCS.o (by rw[pM,Jn au]) au;have hB4:=Below.step hB3 hB3.size hb4;have hal:dp w4 (w4.alloc (.cells #[.slice (some ⟨w3.heap.size,0,none⟩) n n] 22)):=(iU _ _).alloc (eO _) _;have hob2:=Fk hob hal;obtain⟨vs,hvl,hvo2,hvk⟩:=zx (zx HT3.o hb4) hal;have hB5:=Below.step hB4 hB4.size hal;have hz5:=hB5.size;have HLT:=ae hvo2.lt;have HVK:=ae hvk;clear hvk;have HVL:=ae hvl;clear hvl;have HOB:=ae hob2;clear hob2;clear hg5 hob hg4 hspl hal hb4 HT3 HG1 HW1;have htk5:ts.length<=65535:=au;have hsl:=HVO.o
    go_wp2_with (at_builtin;refine Fc _ rfl (.tmp 41) (.tmp 43) 75 rfl w.heap.size 22 i0 (.slice none 0 0) 1 24 ME hi hz0 hz1' hz2 rfl (by decide) _ _ _ rfl hvo2 ⟨w4.heap.size,0,none⟩ 1 1 [.slice (some ⟨w3.heap.size,0,none⟩) n n] rfl rfl (cell_one_new _ _ _) (by simp[Value.oneCell']) (by unfold maxLen;omega) au hz5 ?_;intro v' w5 hown5 hgrow5 _)
    have hb6:=hB5.grown hgrow5 hz5 (λk h=>(HLT.o k h).1);have HT5:Hid (CZ w5 w.heap.size v' (ts++[r.take n])):=SP HVL.o hvo2 HVK.o HOB.o (by rw[pM];omega) hgrow5 hown5;have HC5:Hid (qN (.slice DA (r.length - n) (vc - n))):=⟨_,_,_,rfl,hcn⟩;clear hown5 hgrow5 hsl hvo2;go_roundw
    case rel=>grind
    case measure=>simp[intOf];omega
  . obtain rfl:k=M:=au;have hge: ¬(k:Int)< (k:Int):=au;obtain⟨qo,qc,rfl,-,-,-⟩:=HQ.o;rw[aI q];by_cases hq0:q=[]
    . have hp:PS=some ts:=by rw[HSP.o,HSN.o,hq0]
      have HP:=ae hp;clear hp;have hl0: (q.length:Int)=0:=by rw[hq0];rfl
      have hl1: ¬(0:Int)< (q.length:Int):=au;clear hq0 hl0;go_wp2;refine kg (v:=.tuple #[u6,.int .i64 0]) (by simp[results,results28,go_sem]) rfl ⟨_,by rw[HP.o];rfl,by rw[HP.o];exact HT.o,hbel⟩
    . have hp:PS=none:=by
       rw[HSP.o,HSN.o]
       grind
      have HP:=ae hp;clear hp;have hl1: (0:Int)< (q.length:Int):=by have:=Hx.2 hq0;omega
      clear hq0;go_wp2;refine kg (v:=.tuple #[.slice none 0 0,.int .i64 21]) (by simp[results,results28,go_sem]) rfl ⟨_,by rw[HP.o];rfl,by rw[HP.o];exact wF _ _,hbel⟩
def kV (v:bh):Prop:=v=.slice none 0 0∨∃a n c,v=.slice (some a) n c/\n<=c
theorem kV.cap (h:kV v):qN v:=by
 rcases h with rfl | ⟨a,n,c,rfl,h⟩
 . exact xM
 . exact⟨_,_,_,rfl,h⟩
theorem fS (h:w.ownsRow base e size v n xs):kV v:=by
 rcases h.2 with⟨rfl,h0⟩ | ⟨g,cap,cur,rfl,hb,hg,hn,hc,hs,ht⟩
 . exact .inl rfl
 . exact .inr ⟨_,_,_,rfl,au⟩
def xO (w:aD) (v:bh) (ts:List aK):Prop:=
 ∃(ao:Option Addr) (cap:Nat) (vs:List bh),v=.slice ao ts.length cap/\vs.length=ts.length/\ts.length<=cap/\(∀k (h:k<vs.length) (h':k<ts.length),br .u8 w vs[k] (aW ts[k])/\kV vs[k])/\
  (ts≠ []->∃b o,ao=some ⟨b,o,none⟩/\b<w.heap.size/\∀k (h:k<vs.length),w.cell? ⟨b,o+k,none⟩=some vs[k])
theorem xO.below (h:xO w v ts)(hb:dp w w'):xO w' v ts:=by
 obtain⟨ao,cap,vs,h1,h2,hc,h3,h4⟩:=h;refine⟨ao,cap,vs,h1,h2,hc,λk a b=>⟨(h3 k a b).1.below hb,(h3 k a b).2⟩,λhne=>?_⟩;obtain⟨b,o,h5,h6,h7⟩:=h4 hne;exact⟨b,o,h5,uj h6 hb.size,λk hk=>(hb.cell (p:=⟨b,o+k,none⟩) h6).trans (h7 k hk)⟩
theorem Pv {l:aK}(h:gI w base v l)(hl:l.length<=9223372036854775807)(h8: ∀x∈l,x<256):br .u8 w v (aW l):=by
 unfold gI at h;refine lz (e:=5) (base:=base) (l:=aW l) ?_ ?_ ?_
 . rw[aI];unfold aW;rw[EV];exact h
 . intro x hx;obtain⟨y,hy,rfl⟩:=lY.1 hx
   grind[WalkArith.wf_u8]
 grind[aI]
theorem cell_two_new (w:aD)(x y:bh)(t:dD): ∀j u,[x,y][j]? =some u->(w.alloc (.cells #[x,y] t)).cell? ((⟨w.heap.size,0,none⟩:Addr).add j)=some u:=by
 intro j u hj
 match j,hj with
 | 0,hj=>rw[<-hj];exact Hk _ _ _ _ rfl
 | 1,hj=>rw[<-hj];exact Hk _ _ _ _ rfl
def qf (n:Nat):aK:=[n % 256,n / 256]
def su (t:aK):aK:=qf t.length++t
def mP (ts:List aK):Option aK:=if ts.length<=65535/\ts.all (λt=>decide (t.length<=65535))=true then some (qf ts.length++ts.flatMap su) else none
def Ss (ts:List aK):Nat:=(ts.map λt=>2+t.length).sum
theorem Vr (ts:List aK)(k:Nat)(h:k<ts.length):Ss (ts.take (k+1))=Ss (ts.take k)+ (2+ts[k].length):=by
 grind[Ss,take_succ_eq_append_getElem]
theorem SQ (ts:List aK)(k:Nat)(h:k<ts.length): (ts.take (k+1)).flatMap su=(ts.take k).flatMap su++su ts[k]:=by
 grind[take_succ_eq_append_getElem]
theorem MF (ts:List aK): (ts.flatMap su).length=Ss ts:=by
 induction ts<;>grind[Ss,su,qf]
theorem Vs (ts:List aK)(k:Nat):Ss (ts.take k)<=Ss ts:=by
 grind[Ss,take_append_drop]
theorem Pw (h: ¬ts.length<=65535):mP ts=none:=bX λx=>h x.1
theorem SR (hk:k<ts.length)(h: ¬ts[k].length<=65535):mP ts=none:=by
 refine bX λx=>h ?_
 grind
theorem Vt (h:ts.length<=65535)(hok: ∀k (hk:k<ts.length),ts[k].length<=65535):mP ts=some (qf ts.length++ts.flatMap su):=by
 refine bC ⟨h,?_⟩;rw[Ak];intro t ht;obtain⟨k,hk,rfl⟩:=Jo.1 ht
 grind
theorem Px (h:br .u8 w (.slice (some ad) n c) (aW T))(hb:dp w w'): ∀j v,(aQ T)[j]? =some v->w'.cell? (ad.add j)=some v:=by
 obtain⟨ao,cap,he,_,_,hc⟩:=h;simp only[mA] at he;obtain⟨he1,_,_⟩:=he;intro j v hj;have hj': (aQ (T.take T.length))[j]? =some v:=by grind
 have hpos:0< (aQ (T.take T.length)).length:=by grind
 obtain⟨ad',h1,h2⟩:=JC (a:=some ad) hb rE hpos
 grind
theorem An (v:bh)(ts:List aK)(hl:ts.length<=9223372036854775807)(hlb: ∀k (h:k<ts.length),ts[k].length<=9223372036854775807)(w:aD)(hv:xO w v ts):
 Calls prog 75 #[v] w λe w'=>∃r,e=.returned (.tuple #[r,.int .i64 (codeF 21 (mP ts))])/\gI w' w.heap.size r ((mP ts).getD [])/\dp w w':=by
 obtain⟨i0,hi,hz0,hz1',hz2⟩:=sC UZ;obtain⟨ao,cap,vs,rfl,hvl,_,hvk,hvc⟩:=hv;have HVL:=ae hvl;clear hvl;have HVK:=ae hvk;clear hvk;have HVC:=ae hvc;clear hvc;have HLB:=ae hlb;clear hlb;have HOWN0:Hid (gI w w.heap.size (.slice none 0 0) []):=ju w w.heap.size 5 1;by_cases hlong: ¬ts.length<=65535
 . have hp:=Pw hlong;rw[hp];have hlong': (65535:Int)< (ts.length:Int):=au;clear hp hlong;go_enter func75,ntmps75;go_wp2;refine kg (v:=.tuple #[.slice none 0 0,.int .i64 21]) (by simp[results,results75,go_sem]) rfl ⟨_,rfl,HOWN0.o,iU _ _⟩
 have hlen:ts.length<=65535:=au;have hlong': ¬(65535:Int)< (ts.length:Int):=au;clear hlong;obtain⟨PS,HPS⟩:=qI (mP ts);rw[HPS.o];go_enter func75,ntmps75
 go_wp2_with fail
 go_loop [4,6,15] (λs _ i=>∃(k z:Nat),k<=ts.length/\i=.int .i64 k/\s=.int .i64 z/\z<=2+65537*k/\Hid (z=2+Ss (ts.take k))/\Hid (∀j (h:j<ts.length),j<k->ts[j].length<=65535))
  (λ_ _ i=>ts.length - (intOf i).toNat)
 case atStart=>exact⟨0,2,kf _,rfl,rfl,au,by simp[Hid,Ss],λj _ h=>absurd h (ES _)⟩
 case round=>
  obtain⟨k,z,hk,rfl,rfl,hz,HZ,HS⟩:=hrel;by_cases hlt:k<ts.length
  . have hkv:k<vs.length:=by have:=HVL.o;omega
    obtain⟨b,o,rfl,hbs,hcell⟩:=HVC.o (by intro h;rw[h] at hlt;simp at hlt);have hc:=hcell k hkv;obtain⟨hvk1,_⟩:=HVK.o k hkv hlt;obtain⟨ta,tc,hte,-,-,-⟩:=hvk1;rw[hte,aI] at hc;clear hcell hte;have HSZ:=ae (Vr ts k hlt);have hbig:=HLB.o k hlt;have hbad:=λh=>SR (ts:=ts) (k:=k) hlt h;have HBAD:=ae hbad;clear hbad;obtain⟨n,HN⟩:=qI (ts[k].length);rw[HN.o] at hc HSZ hbig HBAD;have hlt': (k:Int)< (ts.length:Int):=au;by_cases hn1:n<=65535
    . have hn2: ¬(65535:Int)< (n:Int):=au;have HZ2:Hid (z+ (2+n)=2+Ss (ts.take (k+1))):=by unfold Hid;rw[HSZ.o,HZ.o];omega
      have HS2:Hid (∀j (h:j<ts.length),j<k+1->ts[j].length<=65535):=by
       intro j h hj;by_cases hjk:j=k
       . subst hjk;rw[HN.o];exact hn1
       . exact HS.o j h au
      go_wp2
      go_round
      case rel=>exact⟨k+1,z+ (2+n),au,by go_num,by go_num,au,HZ2,HS2⟩
      case measure=>exact uO
    . have hn2: (65535:Int)< (n:Int):=au;have hp:PS=none:=HPS.o.symm.trans (HBAD.o au);have HP:=ae hp;clear hp;go_wp2;refine kg (v:=.tuple #[.slice none 0 0,.int .i64 21]) (by simp[results,results75,go_sem]) rfl ⟨_,by rw[HP.o];rfl,by rw[HP.o];exact HOWN0.o,iU _ _⟩
  . obtain rfl:k=ts.length:=au;have hge: ¬(ts.length:Int)< (ts.length:Int):=au;have hp:PS=some (qf ts.length++ts.flatMap su):=HPS.o.symm.trans (Vt hlen (λj hj=>HS.o j hj hj));have HP:=ae hp;clear hp;have HT2:Hid (z=2+Ss ts):=by have:=HZ.o;rw[wh] at this;exact this
    clear HZ;have hzl:z<=4294967298:=au
    go_upto_region 12 with(refine Vp (o:=⟨some 29,_,_,_,_,_⟩) _ rfl _ _ 22 rfl w.heap.size 5 i0 (.int .u8 0) 1 oC hi hz0 hz1' .i64 .i64 _ z rfl rfl rfl (by rw[hz2];omega) (by unfold maxLen;omega) (eO _) ?_;intro w2 hown2 hgrow2)
    have hb2:dp w w2:=(iU _ _).grown hgrow2 (eO _) (λk e=>by cases e);clear hgrow2;have hz2s:=hb2.size;have HLT:=ae hown2.lt;have hown2':=hown2.alloc (.cells #[.int .u8 ((ts.length:Int) % 256),.int .u8 ((ts.length:Int) / 256)] 5)
    go_upto_region 13 with(at_builtin;refine Fc _ rfl (.tmp 30) (.tmp 38) 22 rfl w.heap.size 5 i0 (.int .u8 0) 1 1 oC hi hz0 hz1' hz2 rfl nh _ _ _ rfl hown2' ⟨w2.heap.size,0,none⟩ 2 2 [.int .u8 ((ts.length:Int) % 256),.int .u8 ((ts.length:Int) / 256)] rfl rfl (cell_two_new _ _ _ _) (by simp[Value.oneCell']) (by unfold maxLen;omega) au (by simp;omega) ?_;intro v' w3 hown3 hgrow3 _)
    have hb3:=(hb2.alloc hz2s (.cells #[.int .u8 ((ts.length:Int) % 256),.int .u8 ((ts.length:Int) / 256)] 5)).grown hgrow3 (by simp;omega) (λk h=>(HLT.o k h).1);have HOW3:Hid (gI w3 w.heap.size v' (qf ts.length++(ts.take 0).flatMap su)):=by
     unfold Hid gI;simp only[take_zero,flatMap_nil,ET,qf,map_cons,map_nil,o8,we,Int.natCast_emod,Int.natCast_ediv];exact hown3
    clear hown3 hgrow3 hown2 hown2' hb2 hz2s HLT;have HSZ:Hid (∀k,(qf ts.length++(ts.take k).flatMap su).length<=4294967298):=by
     intro k;rw[kh,MF];have h1:=Vs ts k;have h2:=HT2.o;show 2+_<=_;omega
    go_wp2_with fail
    go_loopw [7,9,42] (λv _ i wr=>∃k:Nat,k<=ts.length/\i=.int .i64 k/\Hid (gI wr w.heap.size v (qf ts.length++(ts.take k).flatMap su))/\dp w wr)
     (λ_ _ i _=>ts.length - (intOf i).toNat)
    case atStart=>exact⟨0,kf _,rfl,HOW3,hb3⟩
    case round=>
     clear HOW3 hb3;obtain⟨k,hk,rfl,HOW,hbel⟩:=hrel;have hsz:=hbel.size;by_cases hlt:k<ts.length
     . have hkv:k<vs.length:=by have:=HVL.o;omega
       obtain⟨b,o,rfl,hbs,hcell⟩:=HVC.o (by intro h;rw[h] at hlt;simp at hlt);have hc:=(hbel.cell (p:=⟨b,o+k,none⟩) hbs).trans (hcell k hkv);obtain⟨hvk1,hshape⟩:=HVK.o k hkv hlt;have HV1:=ae hvk1;obtain⟨ta,tc,hte,-,-,-⟩:=hvk1;rw[hte,aI] at hc;rw[hte] at hshape HV1;rw[aI] at hshape HV1;clear hcell hte;have HFS:=ae (SQ ts k hlt);have hn1:=HS.o k hlt hlt;obtain⟨T,hT⟩:=cM (ts[k]);rw[hT] at hc HFS hn1 hshape HV1;have hA:=HSZ.o k;have hA2:=HSZ.o (k+1);obtain⟨A,hAA⟩:=cM (qf ts.length++(ts.take k).flatMap su);have HNX:Hid (qf ts.length++(ts.take (k+1)).flatMap su=(A++qf T.length)++T):=by
        unfold Hid;rw[HFS.o,<-hAA];unfold su;simp only[Hh]
       rw[HNX.o,kh,kh] at hA2;rw[hAA] at HOW hA;clear hT hAA HFS;have hown:=HOW.o;unfold gI at hown;obtain⟨n,HN⟩:=qI T.length;rw[HN.o] at hc hn1 hshape HV1 hA2;have hlt': (k:Int)< (ts.length:Int):=au;have hown':=hown.alloc (.cells #[.int .u8 ((n:Int) % 256),.int .u8 ((n:Int) / 256)] 5);have HLT:=ae hown.lt;have HSH:=ae hshape;clear hshape
       go_upto_region 17 with(at_builtin;refine Fc _ rfl (.tmp 46) (.tmp 54) 22 rfl w.heap.size 5 i0 (.int .u8 0) 1 1 oC hi hz0 hz1' hz2 rfl nh _ _ _ rfl hown' ⟨wr.heap.size,0,none⟩ 2 2 [.int .u8 ((n:Int) % 256),.int .u8 ((n:Int) / 256)] rfl rfl (cell_two_new _ _ _ _) (by simp[Value.oneCell']) (by unfold maxLen;omega) au (by simp;omega) ?_;intro v' w3 hown3 hgrow3 _)
       have hb3:=(hbel.alloc hsz (.cells #[.int .u8 ((n:Int) % 256),.int .u8 ((n:Int) / 256)] 5)).grown hgrow3 (by simp;omega) (λk h=>(HLT.o k h).1);have HOW3:Hid (gI w3 w.heap.size v' (A++qf T.length)):=by
        unfold Hid gI;rw[HN.o,kh,pt];simp only[qf,map_cons,map_nil,o8,we,Int.natCast_emod,Int.natCast_ediv];exact hown3
       clear hown3 hgrow3 hown hown' HOW;have hown4:=HOW3.o;unfold gI at hown4;have hz3:=hb3.size;have HLT3:=ae hown4.lt;have hl4: (A++qf T.length).length=A.length+2:=by rw[kh];rfl
       have hel: (qf n).length=2:=rfl;rw[hel] at hA2;have hl5: (A++qf T.length).length+n<=4294967298:=au;clear hel hl4;rcases HSH.o with hsh | ⟨ad,n',c',hsh,hcap⟩
       . simp only[mA] at hsh;obtain⟨rfl,rfl,rfl⟩:=hsh;have HT0:Hid (gI w3 w.heap.size v' (qf ts.length++(ts.take (k+1)).flatMap su)):=by
          unfold Hid;rw[HNX.o,Jp HN.o,ET];have:=HOW3.o;rw[Jp HN.o] at this;exact this
         go_wp2_with (at_builtin;refine wpList_append_own_none rfl (.tmp 56) (.tmp 57) 22 rfl w.heap.size 5 i0 1 oC hi _ _ _ rfl hown4 rfl ?_)
         go_roundw
         case rel=>exact⟨k+1,au,by go_num,HT0,hb3⟩
         case measure=>exact uO
       . simp only[mA] at hsh;obtain⟨rfl,-,-⟩:=hsh;have HSRC:=ae (Px HV1.o hb3);have hbl: (aQ T).length=n*1:=by unfold aQ;rw[pr,HN.o,wy]
         have HBL:=ae hbl;clear hbl
         go_wp2_with (at_builtin;refine Fc _ rfl (.tmp 56) (.tmp 57) 22 rfl w.heap.size 5 i0 (.int .u8 0) 1 1 oC hi hz0 hz1' hz2 rfl nh _ _ _ rfl hown4 ad n tc (aQ T) rfl HBL.o HSRC.o (zy T) (by unfold maxLen;omega) au hz3 ?_;intro v'' w4 hown5 hgrow5 _)
         have hb4:=hb3.grown hgrow5 hz3 (λk h=>(HLT3.o k h).1);have HT0:Hid (gI w4 w.heap.size v'' (qf ts.length++(ts.take (k+1)).flatMap su)):=by
          unfold Hid gI;rw[HNX.o,kh,pt,HN.o];have:=HN.o;rw[this] at hown5;exact hown5
         clear hown5 hgrow5 hown4;go_roundw
         case rel=>exact⟨k+1,au,by go_num,HT0,hb4⟩
         case measure=>exact uO
     . obtain rfl:k=ts.length:=au;have hge: ¬(ts.length:Int)< (ts.length:Int):=au;have HOW3:Hid (gI wr w.heap.size u7 (PS.getD [])):=by
        unfold Hid;rw[HP.o];have:=HOW.o;rw[wh] at this;exact this
       have HC0:Hid (codeF 21 PS=0):=by unfold Hid;rw[HP.o];rfl
       go_wp2;refine kg (v:=.tuple #[u7,.int .i64 0]) (by simp[results,results75,go_sem]) rfl ⟨_,by rw[HC0.o],HOW3.o,hbel⟩
end Go.Proofs.YtklligbjoplbgaaGreat
