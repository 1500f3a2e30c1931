/- Part 2 of the proof of WholeReturns. No conditions. -/
import Derived.Test.YtklligbjoplbgaaGreatNaa
import Derived.Test.YtklligbjoplbgaaGreatProg
import Derived.Handy
import Derived.Lib.Hide
import Derived.WalkSpells
import Derived.WalkLawsBesides
import Derived.BigQuiet
import Derived.Deep.QuietTactic
import Derived.Outline
import Derived.RangeFuncNested
import Derived.RangeFuncBound
import Derived.RangeFuncCalls
import Derived.RangeFuncLeaves
import Derived.RangeFuncBox
import Derived.Shelf.Abstract
import Derived.Shelf.RegionOpen
import Derived.OwnWalkIn
import Derived.TacticsInMore
import Derived.LoopNIn
import Derived.LoopIn
import Derived.Maps.AppendAt
import Derived.Laws.AppendOwnNone
import Derived.Laws.MakeOwn
import Derived.Laws.BitsAllLaws
import Derived.IntWalk
import Derived.Laws.CopyOwn
import Derived.Deep.DeepCutAuto
set_option linter.all false
namespace Go.Proofs.YtklligbjoplbgaaGreat
set_option maxRecDepth 100000
set_option maxHeartbeats 64000000
open Go.RowKit Lib List Nat _root_.Go.Proofs.Tryz Go.Shelf
variable {ad:Addr}{ops:Array Oper}{Q:Exit->Act->cB->Prop}{x:Fin 4096}{T ns q r ws:cD}{p s:List (Fin 4096)}{J:List (Fin 4096)->cB->Prop}{C l:List (Int×Int)}{ts:List cD}{rest:List Oper}{cs vs xs:List cI}{B D b base base' c d g i j k m n n0 n1 size y:Nat}{f:Nat->cI}{o:Oper}{a ao:Option Addr}{row:Option Nat}{P:kS}{e t:dC}{α β:Type}{v v':cI}{W w w' w1 wr:cB}
def jC(s l:Int):Bool:=decide (0<=s/\s<4096/\1<=l/\l<=4096-s)
def gT(e:Int):List (Int×Int)->Bool
 | []=>true
 |x::r=>jC x.1 x.2&&decide (e<x.1)&&gT (x.1+x.2) r
def fS(l:List (Int×Int)):Bool:=gT (-1) l
def qm(l:List (Int×Int))(n:Int):Bool:=l.any λx=>decide (x.1<=n/\n<x.1+x.2)
def qp(l:List (Int×Int)):Nat->Bool:=λn=>qm l (n:Int)
def Ki(l:List (Int×Int))(k:Nat):List (Int×Int):=
 match l.getLast? with
 |some x=>if x.1+x.2=(k:Int) then l.dropLast++[(x.1,x.2+1)] else l++[((k:Int),1)]
 |none=> [((k:Int),1)]
def fF(f:Nat->Bool):Nat->List (Int×Int)
 |0=> []
 |k+1=>if f k then Ki (fF f k) k else fF f k
def gG(f:Nat->Bool):List (Int×Int):=fF f 4096
def nJ(e:Int):List (Int×Int)->Int
 | []=>e
 |x::r=>nJ (x.1+x.2) r
theorem fm(s l:Int):jC s l=true↔(0<=s/\s<4096/\1<=l/\l<=4096-s):=by simp[jC]
theorem fX(e:Int)(x:Int×Int)(r:List (Int×Int)):
 gT e (x::r)=true↔jC x.1 x.2=true/\e<x.1/\gT (x.1+x.2) r=true:=by simp[gT,and_assoc]
theorem mL(e:Int)(l m:List (Int×Int)):gT e (l++m)=(gT e l&&gT (nJ e l) m):=by induction l generalizing e<;>grind[gT,nJ]
theorem sP(e:Int)(l m:List (Int×Int)):nJ e (l++m)=nJ (nJ e l) m:=by induction l generalizing e<;>grind[nJ]
theorem jX(x:Int×Int)(r:List (Int×Int))(n:Int):qm (x::r) n=true↔(x.1<=n/\n<x.1+x.2)∨qm r n=true:=by simp[qm]
theorem BC(l m:List (Int×Int))(n:Int):qm (l++m) n=(qm l n||qm m n):=by simp[qm]
theorem aaM(n:Int):qm [] n=false:=rfl
theorem qM{e:Int}(h:gT e l=true){n:Int}(a:qm l n=true):e<n/\0<=n/\n<4096:=by induction l generalizing e<;>grind[qm,fX,fm]
theorem Pg{e i:Int}{m:List (Int×Int)}(b:gT e l=true)(c:gT i m=true)(h:∀n,qm l n=qm m n):l=m:=by induction l generalizing e i m with|nil=>(cases m with|nil=>rfl|cons y s=>rw[fX,fm] at c;have:=h y.1;grind[qm])|cons x r ih=>cases m with|nil=>grind[fX,qm]|cons y s=>(rw[fX,fm] at b c;have d:qm (y::s) x.1=true:=by grind[jX]);(have a:qm (x::r) y.1=true:=by grind[jX]);(have j:x.1=y.1:=by rw[jX] at d a;rcases d with d|d;rcases a with a|a;omega;have:=qM b.2.2 a;omega;have:=qM c.2.2 d;rcases a with a|a;omega;have:=qM b.2.2 a;omega);(have p:qm (x::r) (x.1+x.2)≠true:=by rw[ne_eq,jX];rintro(hh|hh);omega;have:=qM b.2.2 hh;omega);(have q:qm (y::s) (y.1+y.2)≠true:=by rw[ne_eq,jX];rintro(hh|hh);omega;have:=qM c.2.2 hh;omega);(have k:x.2=y.2:=by grind[jX]);have g:x=y:=wY j k;subst g;congr 1;refine ih b.2.2 c.2.2 (λn=>?_);have o:=h n;rw[wg,jX,jX] at o;rw[wg];constructor;intro f;have:=qM b.2.2 f;grind;intro f;have:=qM c.2.2 f;grind
/-! ### The set of some numbers -/
theorem CG(k:Nat):Ki [] k=[((k:Int),1)]:=rfl
theorem ud(l:List (Int×Int))(x:Int×Int)(k:Nat):
 Ki (l++[x]) k=if x.1+x.2=(k:Int) then l++[(x.1,x.2+1)] else(l++[x])++[((k:Int),1)]:=by simp[Ki]
theorem xl(l:List α):l=[]∨∃m x,l=m++[x]:=by rcases eq_nil_or_concat l with h|⟨m,x,h⟩<;>grind
theorem Ac(f:Nat->Bool)(k:Nat)(d:k<=4096):
 gT (-1) (fF f k)=true/\nJ (-1) (fF f k)<=k/\(∀n,qm (fF f k) n=true↔(0<=n/\n<k/\f n.toNat=true)):=by induction k with|zero=>exact⟨ae,by simp[fF,nJ],λn=>by grind[fF,qm]⟩|succ k ih=>have⟨h1,h2,h3⟩:=ih cw;unfold fF;by_cases c:f k=true;(rw[cL c];have a:∀n:Int,(0<=n/\n<((k+1:Nat):Int)/\f n.toNat=true)↔((0<=n/\n<(k:Int)/\f n.toNat=true)∨n=(k:Int)):=by grind);rcases xl (fF f k) with he|⟨m,x,he⟩;grind[CG,gT,jC,nJ,qm];rw[he,ud];rw[he] at h1 h2 h3;rw[mL] at h1;rw[sP] at h2;simp only[aiL,fX,fm] at h1;simp only[nJ] at h2;by_cases b:x.1+x.2=(k:Int);rw[cL b];refine⟨?_,?_,λn=>?_⟩;rw[mL];simp only[aiL,fX,fm];exact⟨h1.1,cw,by omega,ae⟩;grind[sP,nJ];rw[a,<-h3,BC,BC,Bool.or_eq_true,Bool.or_eq_true,jX,jX];grind;rw[cM b];refine⟨?_,?_,λn=>?_⟩;rw[mL,mL,sP];simp only[aiL,fX,fm,nJ];exact⟨⟨h1.1,h1.2.1,h1.2.2.1,ae⟩,cw,by omega,ae⟩;grind[sP,nJ];rw[a,<-h3,BC,Bool.or_eq_true,jX];grind[aaM];grind
def rD(f:Nat->Bool):fS (gG f)=true:=(Ac f 4096 (dK _)).1
theorem BD(f:Nat->Bool)(n:Int):qm (gG f) n=true↔(0<=n/\n<4096/\f n.toNat=true):=(Ac f 4096 (dK _)).2.2 n
theorem MI{f g:Nat->Bool}(h:∀n,n<k->f n=g n):fF f k=fF g k:=by induction k with|zero=>rfl|succ k ih=>simp_all[fF,lt_succ_of_lt]
theorem rE{f g:Nat->Bool}(h:∀n,n<4096->f n=g n):gG f=gG g:=MI h
theorem BE(h:fS l=true):gG (qp l)=l:=by refine Pg (rD _) h (λn=>?_);rw[wg,BD];constructor;grind[qp];intro a;have:=qM h a;grind[qp]
theorem Ph(f:Nat->Bool)(k:Nat):(∃m x,fF f k=m++[x]/\x.1+x.2=(k:Int))↔(0<k/\f (k-1)=true):=by
 cases k with
 |zero=>simp[fF]
 |succ k=>
  have b:∀(j:Nat),∀x∈fF f j,x.1+x.2<=(j:Int):=by intro j;induction j with|zero=>simp[fF]|succ j ih=>unfold fF;split;rcases xl (fF f j) with a|⟨m,x,a⟩;grind[CG];rw[a,ud];rw[a] at ih;split;intro y e;grind;grind;grind
  unfold fF;by_cases c:f k=true;rw[cL c];simp only[Pb,c,and_true];refine⟨λ_=>by omega,λ_=>?_⟩;rcases xl (fF f k) with a|⟨m,x,a⟩;rw[a,CG];exact⟨[],_,ae,by simp⟩;rw[a,ud];grind;rw[cM c];constructor;rintro⟨m,x,a,d⟩;have:=b k x iG;omega;grind
theorem sQ(f:Nat->Bool)(k:Nat):(fF f k).length<=k:=by induction k with|zero=>simp[fF]|succ k ih=>unfold fF;split;rcases xl (fF f k) with he|⟨m,x,he⟩;grind[CG];grind[ud];omega
/-! ### The numbers of a set,rising -/
def mh(l:List (Int×Int)):List Int:=l.flatMap λx=>(range x.2.toNat).map λ(k:Nat)=>x.1+(k:Int)
theorem ue(l:List (Int×Int))(n:Int):n∈mh l↔qm l n=true:=by induction l with|nil=>simp[mh,qm]|cons x r ih=>rw[jX,<-ih];simp only[mh,zY,fL,fM,wZ];constructor;grind;rintro(⟨h1,h2⟩|h);exact .inl ⟨(n-x.1).toNat,cw,cw⟩;grind
theorem Ix{e:Int}(h:gT e l=true):(mh l).Pairwise (· < ·):=by induction l generalizing e with|nil=>simp_all[mh]|cons x r ih=>rw[fX] at h;simp only[mh,zY];rw[pairwise_append];refine⟨?_,ih h.2.2,?_⟩;rw[pairwise_map];exact List.pairwise_lt_range.imp cw;intro a f b d;have c:qm r b=true:=(ue r b).1 d;have:=qM h.2.2 c;grind
theorem Rt{l m:List Int}(a:l.Pairwise (· < ·))(b:m.Pairwise (· < ·))(h:∀n,n∈l↔n∈m):l=m:=by induction l generalizing m with|nil=>(cases m with|nil=>rfl|cons y s=>exact absurd ((h y).2 dU) dU)|cons x r ih=>cases m with|nil=>grind|cons y s=>(rw[Bv] at a b;have c:x=y:=by rcases ib.1 ((h x).1 dU) with h1|h1;exact h1;rcases ib.1 ((h y).2 dU) with h2|h2<;>grind);grind
def kX(f:Nat->Bool)(k:Nat):List Int:=((range k).filter f).map λ(n:Nat)=>(n:Int)
def Kj(f:Nat->Bool):List Int:=kX f 4096
theorem yo(f:Nat->Bool)(k:Nat):kX f (k+1)=if f k then kX f k++[(k:Int)] else kX f k:=by grind[kX,range_succ]
theorem qN(f:Nat->Bool)(k:Nat):(kX f k).length<=k:=by grind[kX]
theorem uf(f:Nat->Bool)(k:Nat)(n:Int):n∈kX f k↔(0<=n/\n<(k:Int)/\f n.toNat=true):=by simp only[kX,fM,u9,wZ];grind
def Ru(f:Nat->Bool)(k:Nat):(kX f k).Pairwise (· < ·):=by rw[kX,pairwise_map];exact(List.pairwise_lt_range.filter _).imp cw
theorem Yk{l:List (Int×Int)}(h:fS l=true):mh l=Kj (qp l):=by refine Rt (Ix h) (Ru _ _) (λn=>?_);rw[ue,Kj,uf];constructor;intro a;have:=qM h a;grind[qp];grind[qp]
def o8(l:List (Int×Int)):Int:=(l.map (·.2)).sum
theorem UI:o8 []=0:=rfl
theorem Rv(x:Int×Int)(r:List (Int×Int)):o8 (x::r)=x.2+o8 r:=by rfl
theorem MJ(l m:List (Int×Int)):o8 (l++m)=o8 l+o8 m:=by simp[o8]
theorem Yl{e:Int}(h:gT e l=true):o8 l=((mh l).length:Int):=by induction l generalizing e<;>grind[fX,fm,mh,o8]
theorem Pj{e:Int}(h:gT e l=true)(a: -1<=e):0<=o8 l/\o8 l+e<=nJ e l/\(l≠ []->nJ e l<=4096):=by induction l generalizing e<;>grind[o8,nJ,fX,fm]
/-! ### The first so many -/
/-! ### The numbers of a set as an iterator hands them out -/
def Rw(x:Int):Fin 4096:=Fin.ofNat 4096 x.toNat
theorem NP{x:Int}(a:0<=x)(b:x<4096):((Rw x).val:Int)=x:=by have:(Rw x).val=x.toNat%4096:=rfl;omega
def jY(l:List (Int×Int)):List (Fin 4096):=if fS l=true then(mh l).map Rw else []
theorem yp{l:List (Int×Int)}(h:fS l=true):jY l=(mh l).map Rw:=by simp_all[jY]
theorem vf{l:List (Int×Int)}(h:fS l=false):jY l=[]:=by simp_all[jY]
theorem Ad{l:List (Int×Int)}(h:fS l=true):(jY l).map (λx=>(x.val:Int))=mh l:=by
 rw[yp h,sK];conv=>rhs;rw[<-map_id (mh l)]
 apply map_congr_left;intro x a;have:=qM h ((ue l x).1 a);grind[NP]
def pd(l:List (Int×Int))(i:Nat):Nat:=(mh (l.take i)).length
theorem MK(l m:List (Int×Int)):mh (l++m)=mh l++mh m:=by simp[mh]
theorem Rx(x:Int×Int)(r:List (Int×Int)):mh (x::r)=((range x.2.toNat).map λ(k:Nat)=>x.1+(k:Int))++mh r:=by rfl
theorem Ry(h:i<l.length):pd l (i+1)=pd l i+l[i].2.toNat:=by grind[pd,take_succ_eq_append_getElem,mh]
theorem UJ(l:List (Int×Int))(h:l.length<=i):pd l i=(mh l).length:=by grind[pd,take_of_length_le]
theorem Rz(l:List (Int×Int)):pd l 0=0:=by rfl
theorem Ym(h:i<l.length)(b:j<l[i].2.toNat):(mh l)[pd l i+j]?=some (l[i].1+(j:Int)):=by
 have a:l=l.take i++l[i]::l.drop (i+1):=by simp_all
 grind[MK,Rx,pd]
theorem aaN(e:fS l=true)(h:i<l.length)(d:j<l[i].2.toNat):
 ∃x:Fin 4096,(x.val:Int)=l[i].1+(j:Int)/\pd l i+j<(jY l).length/\(jY l).take (pd l i+j)++[x]=(jY l).take (pd l i+(j+1)):=by
 have a:=Ym h d;have⟨hlt,h2⟩:=mQ.1 a;have b:pd l i+j<(jY l).length:=by grind[yp]
 refine⟨(jY l)[pd l i+j],?_,b,?_⟩;(have c:(jY l)[pd l i+j]=Rw (mh l)[pd l i+j]:=by grind[jY]);rw[c,h2];have f:=qM e ((ue l _).1 (h2▸lU hlt));grind[NP];grind[take_succ_eq_append_getElem]
theorem Yn{l:List (Int×Int)}(a:fS l=true)(n:Fin 4096):n∈jY l↔qp l n.val=true:=by unfold qp;rw[<-ue,<-Ad a,fM];grind
def pW(l:List (Int×Int)):Nat->Bool:=λn=>fS l&&qp l n
theorem RC(l:List (Int×Int))(a:n<4096):(⟨n,a⟩:Fin 4096)∈jY l↔pW l n=true:=by grind[Yn,vf,pW]
theorem Fj{e:Int}(h:gT e l=true)(a:i<l.length):jC l[i].1 l[i].2=true:=by induction l generalizing e i<;>grind[fX]
abbrev cq:=@Go.Lib.hid
abbrev fO:=@Go.RowKit.Below.refl
abbrev gz:=@Go.World.ownsRow_nil
abbrev gE:=@Go.bodyPost_ret
abbrev j0:=@Go.IntWalk.i64_in
abbrev kj:=@Go.Sem.run_bind
abbrev kM:=@Go.Value.slice.injEq
abbrev lF:=@Go.wpList_plain
abbrev mS:=@Go.Result.andThen_ok
abbrev nB:=@Go.info_parts
abbrev nK:=@Go.Proofs.Tryz.underlying22
abbrev oW:=@Go.Proofs.Tryz.underlying81
abbrev qq:=@Go.Sem.run_pure
abbrev q9:=@Go.block_lt_of_cell
abbrev rl:=@Go.Proofs.Tryz.zeroValue99
abbrev r9:=@Go.callsIn_wide
abbrev wx:=@Go.Proofs.Tryz.zeroValue109
abbrev xp:=@Go.World.cell?_of_block
abbrev xq:=@Go.wpList_append_own
abbrev xC:=@Go.run_underlying
abbrev yq:=@Go.World.cell?_alloc_at
abbrev zq:=@Go.heap_alloc_new
abbrev ug:=@Go.results_none
abbrev uh:=@Go.Proofs.Tryz.underlying3
abbrev uk:=@Go.Proofs.Tryz.underlying78
abbrev uu:=@Go.Proofs.Tryz.underlying36
abbrev vV:=@Go.Proofs.Tryz.zeroValue106
abbrev xI:=@Go.Proofs.Tryz.underlying5
abbrev xP:=@Go.Proofs.Tryz.underlying9
abbrev yS:=@Go.Proofs.Tryz.underlying106
abbrev za:=@Go.Exit.noGoto_exit
abbrev zd:=@Go.Exit.noGoto_normal
abbrev An:=@Go.IntWalk.u64_in
abbrev BZ:=@Go.ByteArray.toList_eq
abbrev El:=@Go.bodyPost_end
abbrev EF:=@Go.Proofs.Tryz.underlying191
abbrev EM:=@Go.run_newObj_alloc
abbrev G1:=@Go.heap_setCell_other
abbrev G3:=@Go.run_equalIn_int
abbrev G7:=@Go.World.ownsRow.cellAt
abbrev G8:=@Go.run_loadVar_row
abbrev Kq:=@Go.wpList_make_own
abbrev KF:=@wpList_store_row
abbrev KU:=@Go.run_storeCells_cells
abbrev Pm:=@Go.World.ownsRow.alloc
abbrev Rh:=@Go.MapKept.heap_alloc
abbrev s_(b o : Nat) : Option Addr := some ⟨b, o, none⟩
abbrev cZ(b o : Nat) : cI := .pointer (some ⟨b, o, none⟩)
def q8{α : Sort _}(v : α) :∃x, Hid (v = x) := ⟨v, rfl⟩
def xm{α : Sort _}(v : α) :∃x, Hid (x = v) := ⟨v, rfl⟩
def oV{P : Prop}(h : P := by simp [intOf]; omega) : P := h
abbrev rF(n : Fi)(args : Array cI)(w : World)(v : cI) : Prop := CP_ n args w λe w' => e = .returned v /\ Below w.heap.size w w'
abbrev dz(w w' : World) : Prop := Below w.heap.size w w'
def afP(a:dz W w1):(∀b o,b<W.heap.size->w1.cell? ⟨b,o,none⟩=W.cell? ⟨b,o,none⟩)/\(∀b o,b<W.heap.size->w1.frozen? ⟨b,o,none⟩=W.frozen? ⟨b,o,none⟩):=
 ⟨λb o h=>a.cell (p:=⟨b,o,none⟩) h,λb o h=>a.frozen (p:=⟨b,o,none⟩) h⟩
def Below.step(h:Below B w wr)(b:B<=wr.heap.size)(a:dz wr w1):Below B w w1:=h.trans (a.mono b)
def ee(x:Int):Prop:=-9223372036854775808<=x/\x<=9223372036854775807
theorem IA{e:Int}(h:gT e l=true):∀x∈l,ee x.1/\ee x.2:=by induction l generalizing e with|nil=>simp|cons x r ih=>rw[fX,fm] at h;intro y a;rcases ib.1 a with rfl|a;grind[ee];grind
def eD(w:cB)(v:cI)(l:List (Int×Int)):Prop:=
 ∃ao cap,v=.slice ao l.length cap/\l.length<=9223372036854775807/\(∀x∈l,ee x.1/\ee x.2)/\
  (l≠ []->∃b o,ao=some ⟨b,o,none⟩/\b<w.heap.size/\
   ∀k(h:k<l.length),w.cell? ⟨b,o+k*2,none⟩=some (.int .i64 l[k].1)/\w.cell? ⟨b,o+k*2+1,none⟩=some (.int .i64 l[k].2))
theorem eD.cx(h:eD w v l)(a:dz w w'):eD w' v l:=by have⟨ao,cap,h1,h2,h3,h4⟩:=h;refine⟨ao,cap,h1,h2,h3,λd=>?_⟩;have⟨b,o,h5,h6,h7⟩:=h4 d;refine⟨b,o,h5,oS h6 a.size,λk c=>?_⟩;have⟨h8,h9⟩:=h7 k c;exact⟨(a.cell (p:=⟨b,_,none⟩) h6).trans h8,(a.cell (p:=⟨b,_,none⟩) h6).trans h9⟩
theorem rW(w:cB):eD w (.slice none 0 0) []:=⟨none,0,ae,by simp,by simp,λh=>absurd ae h⟩
def dR(k:IntKind)(w:cB)(v:cI)(l:List Int):Prop:=
 ∃ao cap,v=.slice ao l.length cap/\l.length<=9223372036854775807/\(∀x∈l,(Lit.int k x).wf=true)/\
  (l≠ []->∃b o,ao=some ⟨b,o,none⟩/\b<w.heap.size/\∀j(h:j<l.length),w.cell? ⟨b,o+j,none⟩=some (.int k l[j]))
theorem dR.cx{k:IntKind}{l:List Int}(h:dR k w v l)(a:dz w w'):dR k w' v l:=by have⟨ao,cap,h1,h2,h3,h4⟩:=h;refine⟨ao,cap,h1,h2,h3,λd=>?_⟩;have⟨b,o,h5,h6,h7⟩:=h4 d;exact⟨b,o,h5,oS h6 a.size,λk c=>(a.cell (p:=⟨b,_,none⟩) h6).trans (h7 k c)⟩
theorem GZ(k:IntKind)(w:cB):dR k w (.slice none 0 0) []:=⟨none,0,ae,by simp,by simp,λh=>absurd ae h⟩
def ct(n:Nat)(f:Nat->cI):fJ:=Array.ofFn (n:=n) λi=>f i.val
theorem cF(n:Nat)(f:Nat->cI):(ct n f).size=n:=by simp[ct]
theorem cU(n:Nat)(f:Nat->cI)(i:Nat):(ct n f)[i]?=if i<n then some (f i) else none:=by grind[ct,Array.getElem?_ofFn]
theorem Yo(n:Nat)(f:Nat->cI)(i:Nat)(v:cI):(ct n f).setIfInBounds i v=ct n (λj=>if j=i then v else f j):=by apply xb;intro j;rw[Array.getElem?_setIfInBounds,cU,cU,cF];grind
theorem IB{n:Nat}{f g:Nat->cI}(h:∀i,i<n->f i=g i):ct n f=ct n g:=by simp_all[ct]
theorem IC(n:Nat)(v:cI):Array.replicate n v=ct n (λ_=>v):=by apply xb;grind[cU]
def cu(w:cB)(b:Nat)(t:dC)(n:Nat)(f:Nat->cI):Prop:=w.heap[b]?=some (.cells (ct n f) t (0,0))
theorem cu.cell{w:cB}{b:Nat}{t:dC}{n:Nat}{f:Nat->cI}(h:cu w b t n f){i:Nat}(a:i<n):w.cell? ⟨b,i,none⟩=some (f i):=by rw[cell_of_row w b i _ t _ h,cU,cL a]
def cu.frozen(h:cu w b t n f)(i:Nat):w.frozen? ⟨b,i,none⟩=false:=frozen_of_row w b i _ t h
theorem cu.lt{w:cB}{b:Nat}{t:dC}{n:Nat}{f:Nat->cI}(h:cu w b t n f):b<w.heap.size:=(qj.1 h).1
theorem cu.set(h:cu w b t n f)(i:Nat)(v:cI):cu (w.setCell ⟨b,i,none⟩ v) b t n (λj=>if j=i then v else f j):=by unfold cu;rw[heap_setCell_same w b i _ t v h,Yo]
theorem cu.cx(h:cu w b t n f)(a:dz w w'):cu w' b t n f:=by unfold cu;rw[a.block b h.lt];exact h
def cu.Ek(h:cu w b t n f)(c:Below B w w')(a:b<B):cu w' b t n f:=by unfold cu;rw[c.block b a];exact h
theorem cu.congr{g:Nat->cI}(h:cu w b t n f)(a:∀i,i<n->f i=g i):cu w b t n g:=by grind[cu,IB]
theorem cu.alloc(w:cB)(t:dC)(n:Nat)(f:Nat->cI):cu (w.alloc (.cells (ct n f) t)) w.heap.size t n f:=zq w _
theorem cu.alloc_old{w:cB}{b:Nat}{t:dC}{n:Nat}{f:Nat->cI}(h:cu w b t n f)(o:Obj):cu (w.alloc o) b t n f:=by grind[cu,Below.heap_alloc]
theorem cu.zr(h:cu w b t n f)(a:Addr)(c:b≠a.block)(v:cI):cu (w.setCell a v) b t n f:=by grind[cu,heap_setCell_other]
theorem cu.grown{w w':cB}{b:Nat}{t:dC}{n:Nat}{f:Nat->cI}{row:Option Nat}(h:cu w b t n f)(a:w.grownBy w' row)(c:row≠some b):cu w' b t n f:=by unfold cu;rw[a.block b h.lt (λe=>c e.symm)];exact h
def gF(f:Nat->Bool):Nat->cI:=λi=>.bool (f i)
theorem Xf:zeroCells249=ct 4096 (gF λ_=>false):=by rw[show(gF λ_=>false)=(λ_=>Value.bool false) from ae,<-IC];kernel_rfl
theorem ad5:zeroCells248=ct 4096 (gF λ_=>false):=by rw[show(gF λ_=>false)=(λ_=>Value.bool false) from ae,<-IC];kernel_rfl
/-! ### Cells of spans,one behind the other -/
def ir:List (Int×Int)->List cI
 | []=> []
 |x::r=>.int .i64 x.1::.int .i64 x.2::ir r
theorem oD(l:List (Int×Int)):(ir l).length=l.length*2:=by induction l<;>grind[ir]
theorem qO(l m:List (Int×Int)):ir (l++m)=ir l++ir m:=by induction l<;>grind[ir]
theorem uN(l:List (Int×Int))(k:Nat)(h:k<l.length):(ir l)[k*2]?=some (.int .i64 l[k].1)/\(ir l)[k*2+1]?=some (.int .i64 l[k].2):=by induction l generalizing k with|nil=>simp at h|cons x r ih=>cases k with|zero=>exact ay|succ k=>grind[ir]
theorem sR(h:w.ownsRow base e 2 v l.length (ir l))(d:∀x∈l,ee x.1/\ee x.2)(c:l.length<=9223372036854775807):eD w v l:=by rcases h.2 with⟨rfl,f⟩|⟨g,cap,a,rfl,m,b,o,hc,p,q⟩;grind[rW];refine⟨_,cap,ae,c,d,λ_=>⟨g,0,ae,(qj.1 b).1,λk n=>?_⟩⟩;have i:=h.cellAt (k*2) cw;have j:=h.cellAt (k*2+1) cw;grind[uN]
theorem pJ{k:IntKind}{l:List Int}(h:w.ownsRow base e 1 v l.length (l.map (Value.int k)))(d:∀x∈l,(Lit.int k x).wf=true)(c:l.length<=9223372036854775807):dR k w v l:=by rcases h.2 with⟨rfl,f⟩|⟨g,cap,a,rfl,m,b,o,hc,p,q⟩;grind[GZ];refine⟨_,cap,ae,c,d,λ_=>⟨g,0,ae,(qj.1 b).1,λj n=>?_⟩⟩;have i:=h.cellAt j cw;grind
def Yp:(prog.info? 141).map (λi=>(i.zero,i.size,i.bytes))=some (some (.agg #[.int .i64 0,.int .i64 0]),2,16):=cX
def JW:(prog.info? 3).map (λi=>(i.zero,i.size,i.bytes))=some (some (.int .i64 0),1,8):=cX
def zt{a b:Bool}(h:a=b):Ending.returned (.bool a)=.returned (.bool b):=by rw[h]
def Xg{k:IntKind}{a b:Int}(h:a=b):Ending.returned (.int k a)=.returned (.int k b):=by rw[h]
def xo{o:Nat}(c:b<w.heap.size)(a:∀k(h:k<l.length),w.cell? ⟨b,o+k*2,none⟩=some (.int .i64 l[k].1)/\w.cell? ⟨b,o+k*2+1,none⟩=some (.int .i64 l[k].2))(hbel:dz w wr)(h:k<l.length):
 wr.cell? ⟨b,o+k*2,none⟩=some (.int .i64 l[k].1)/\wr.cell? ⟨b,o+k*2+1,none⟩=some (.int .i64 l[k].2):=
 ⟨(hbel.cell (p:=⟨b,o+k*2,none⟩) c).trans (a k h).1,(hbel.cell (p:=⟨b,o+k*2+1,none⟩) c).trans (a k h).2⟩
def Yq{k:IntKind}{o:Nat}{l:List Int}(c:b<w.heap.size)(a:∀j(h:j<l.length),w.cell? ⟨b,o+j,none⟩=some (.int k l[j]))(hbel:dz w wr)(h:j<l.length):
 wr.cell? ⟨b,o+j,none⟩=some (.int k l[j]):=(hbel.cell (p:=⟨b,o+j,none⟩) c).trans (a j h)
theorem MH:(∀(a:Act)(d:Tmp)(v:cI),a.put (some d) v= {a with tmps:=a.tmps.setIfInBounds d v})/\(∀(a:Act)(v:cI),a.put none v=a)/\
 (∀(a:Act)(t:Tmp),a.eval (.tmp t)=a.tmps.getD t undef)/\(∀(a:Act)(v:cI),a.eval (.const v)=v)/\(∀(a:Act)(g:Nat),a.eval (.global g)=.pointer (some ⟨g,0,none⟩))/\(∀(a:Act)(f:Fi),a.eval (.func f)=.func (.func f) #[] #[])/\
 (∀(l:List cI)(i:Nat)(x:cI),l.toArray.setIfInBounds i x=(l.set i x).toArray)/\(∀(x y:cI)(l:List cI)(n:Nat),(x::l).set (n+1) y=x::l.set n y)/\(∀(x y:cI)(l:List cI),(x::l).set 0 y=y::l)/\
 (∀(A:fJ)(i:Nat)(d:cI),A.getD i d=A[i]?.getD d)/\(∀(l:List cI)(i:Nat),l.toArray[i]?=l[i]?)/\(∀(x:cI)(l:List cI)(i:Nat),(x::l)[i+1]?=l[i]?)/\(∀(x:cI)(l:List cI),(x::l)[0]?=some x)/\(∀(x d:cI),(some x).getD d=x):=
 ⟨λ_ _ _=>ae,λ_ _=>ae,λ_ _=>ae,λ_ _=>ae,λ_ _=>ae,λ_ _=>ae,λl i x=>setIfInBounds_toArray l i x,λ_ _ _ _=>ae,λ_ _ _=>ae,λA i d=>Array.getD_eq_getD_getElem? ..,λl i=>by simp,λ_ _ _=>ae,λ_ _=>ae,λ_ _=>ae⟩
def UK(s l:Int)(w:cB):
 rF 276 #[.agg #[.int .i64 s,.int .i64 l]] w (.bool (jC s l)):=by
 by_cases a:0<=s;by_cases b:s<4096;by_cases c:1<=l
 . by_cases d:l<=4096-s
   all_goals
    go_enter func276,ntmps276;go_wp2;go_ret;refine⟨?_,(fO _ _).alloc (dK _) _⟩;simp[jC]<;>omega
 rotate_left;rotate_left
 all_goals
  go_enter func276,ntmps276;go_wp2;go_ret;refine⟨?_,(fO _ _).alloc (dK _) _⟩;simp[jC]<;>omega
def G0(b:Bool)(s l:Int)(a:jC s l=b)(w:cB):
 rF 276 #[.agg #[.int .i64 s,.int .i64 l]] w (.bool b):=by subst a;exact UK s l w
def Yr(v:cI)(l:List (Int×Int))(w:cB)(C:eD w v l):
 rF 247 #[v] w (.bool (fS l)):=by
 obtain⟨ao,cap,rfl,t,y,hc⟩:=C;have D:=cq y;have u:=cq hc;clear hc;unfold fS;go_enter func247,ntmps247;go_wp2_with (fail)
 go_loopw [3,8] (λx i wr=>∃(k:Nat)(e:Int),k<=l.length/\i=.int .i64 k/\x=.int .i64 e/\-1<=e/\e<=4096/\gT (-1) l=gT e (l.drop k)/\dz w wr)
  (λ_ i _=>l.length-(intOf i).toNat)
 exact⟨0,-1,fN _,ae,ae,cw,by omega,ae,fO _ _⟩;obtain⟨k,e,E,rfl,rfl,z,A,m,hbel⟩:=hrel;by_cases g:k<l.length
 . rw[Eg g,gT] at m;have j:=cq m;clear m;obtain⟨b,o,rfl,p,c⟩:=u.o (by intro h;simp[h] at g);have⟨h1,h2⟩:=xo p c hbel g;clear c;have r:=hbel.size;have a:=hbel.alloc r (.cells #[.int .i64 l[k].1,.int .i64 l[k].2] 141);by_cases n:jC l[k].1 l[k].2=true
   . have f:=cq n;have B:=(fm _ _).1 n;clear n;by_cases q:e<l[k].1
     . go_wp2_with ((go_at_call 276;refine ah (G0 true _ _ f.o _) λw1 d=>?_;have⟨hq1,hq2⟩:=afP d));go_roundw;exact⟨k+1,_,cw,by go_num,ae,cw,by omega,by rw[j.o,f.o];simp[q],Below.step a az aK⟩;exact oV
     . go_wp2_with ((go_at_call 276;refine ah (G0 true _ _ f.o _) λw1 d=>?_;have⟨hq1,hq2⟩:=afP d));go_ret;exact⟨zt (by rw[j.o,f.o];simp;intro F;omega),Below.step a az aK⟩
   . have f:=cq (show jC l[k].1 l[k].2=false by simpa using n);clear n;go_wp2_with ((go_at_call 276;refine(G0 false _ _ f.o _).mono ?_;rintro s w1 ⟨rfl,d⟩));go_ret;exact⟨zt (by rw[j.o,f.o];simp),Below.step a az aK⟩
 . have j:=cq m;clear m;go_wp2;go_ret;exact⟨zt (by rw[j.o,Bw cw];rfl),hbel⟩
def sS(b:Bool)(v:cI)(l:List (Int×Int))(h:fS l=b)(w:cB)(a:eD w v l):
 rF 247 #[v] w (.bool b):=by subst h;exact Yr v l w a
attribute [local go_sem] Oper.semAt_some
structure Kept(n0 n1:Nat)(W W':cB):Prop where
 cx:Below n0 W W'
 rows:∀(k:Nat)(o:Obj),n1<=k->W.heap[k]?=some o->o.isCells=true->W'.heap[k]?=some o
theorem Kept.trans{n0 n1:Nat}{A B C:cB}(h:Kept n0 n1 A B)(k:Kept n0 n1 B C):Kept n0 n1 A C:=
 ⟨h.cx.trans k.cx,λi o a ho hc=>k.rows i o a (h.rows i o a ho hc) hc⟩
theorem Kept.wA(b:n0<=w.heap.size)(W:cB)(l:Nat)(o o':Obj)(a:w.heap.size<=l)(ho:W.heap[l]?=some o)(hc:o.isCells=false)(f:o.isWalk=false):Kept n0 n1 W (W.putObj l o'):=
 ⟨belowK_b b W l o o' a ho hc f,λk p _ c d=>(World.putObj_heap_other (λe=>by grind)).trans c⟩
theorem Kept.cell{n0 n1:Nat}{W b:cB}(h:Kept n0 n1 W b){a:Addr}{v:cI}(c:n1<=a.block)(hc:W.cell? a=some v):b.cell? a=some v:=by have⟨o,ho,hoc⟩:=cells_of_cell hc;exact(xp ((h.rows _ o c ho hoc).trans ho.symm)).trans hc
def Kept.setCell{a:Addr}(v:cI)(b:n0<=a.block)(c:a.block<n1):Kept n0 n1 W (W.setCell a v):=
 ⟨(fO n0 W).setCell b v,λk o d ho _=>(G1 W a k v cw).trans ho⟩
theorem Kept.refl(n0 n1:Nat)(W:cB):Kept n0 n1 W W:=⟨fO _ _,λ_ _ _ h _=>h⟩
def Ae(c:AbidesFrom B J){b:cB}(h:J s W)(a:dz W b):J s b:=
 c s W b none h ⟨a.os,a.tape,a.output,a.size,λk d _=>a.block k d⟩ (λr e=>by cases e)
def CH:Fence.wide.depth.isSome=true->1<=n:=λh=>by cases h
theorem aaO(n:Nat)(lp G n0 n1:Nat)(v:cI)(l:List (Int×Int))(w:cB)(hv:eD w v l)(X:n0=w.heap.size)(J Jx:List (Fin 4096)->cB->Prop)(W:cB)(b2:n1<=W.heap.size)(hJ:AbidesFrom W.heap.size J)(hY:∀d x N,J d N->d.length<(jY l).length->YieldAt Fence.wide (n-1) prog lp #[.int .i64 ((x:Fin 4096).val:Int)] N λe t=>
  (e=.returned (.bool true)/\J (d++[x]) t/\Kept n0 n1 N t)∨(e=.returned (.bool false)/\Jx (d++[x]) t))(c:Below n0 w W)(z:W.cell? ⟨G,0,none⟩=some v)(h0:J [] W):
 CallsIn Fence.wide n prog 262 #[.func (.yield lp) #[] #[],.pointer (some ⟨G,0,none⟩)] W λe t=>(∃u,e=.returned u)/\
  ((∃ys,ys=jY l/\J ys t)∨(∃d,d<+:jY l/\Jx d t)):=by
 subst X;have D:eD W v l:=hv.cx c;obtain⟨ao,cap,rfl,a5,hb,hc⟩:=hv;have HC:=cq hc;clear hc;have HB:=cq hb;have HY:=cq hY;clear hY;have M:=cq hJ;clear hJ;have O:G<W.heap.size:=q9 z;refine callsIn_of_wp func262 rfl gI ?_ rfl;simp only[ntmps262,zm,kr,r7,reduceAdd,reduceSub,zn,zp,tU,tV,ot,sL];by_cases I:fS l=true
 . have r:=cq I;clear I;gi_wp2_with ((refine⟨gI,CH,?_⟩;gi_at_call 247;refine(r9.2 (sS true _ _ r.o _ D)).mono ?_;rintro e w1 ⟨rfl,f⟩;have a2:=(f.cell (p:=⟨G,0,none⟩) O).trans z))
   gi_loopw [11] (λi wr=>∃k:Nat,k<=l.length/\i=.int .i64 k/\J ((jY l).take (pd l k)) wr/\dz w wr/\w1.heap.size<=wr.heap.size)
    (λi _=>l.length-(intOf i).toNat)
   exact⟨0,fN _,rfl,by rw[Rz];exact Ae M.o h0 f,Below.step c c.size f,dK _⟩;obtain⟨k,hk,rfl,B,s,b6⟩:=hrel;by_cases q:k<l.length
   . obtain⟨b,o,rfl,T,m⟩:=HC.o (by intro h;simp[h] at q);obtain⟨h1,h2⟩:=xo T m s q;clear m;have R:=HB.o l[k] (lU _);unfold ee at R;have b4:=(fm _ _).1 (Fj r.o q);have L:=cq (Ry q);have C:=s.size;have a3:=f.size;gi_wp2;(obtain⟨y,g⟩:=eW (wr.alloc (.cells #[.int .i64 l[k].1,.int .i64 l[k].2] 141));have a8:y.cell? ⟨wr.heap.size,0,none⟩=some (.int .i64 l[k].1):=by simp_all);(have a9:wr.heap.size<y.heap.size:=by rw[g];simp);(have a6:J ((jY l).take (pd l k)) y:=by rw[g];exact Ae M.o B ((fO _ _).alloc (dK _) _));(have b3:dz w y:=by rw[g];exact s.alloc C _);rw[<-g];clear g;obtain⟨F,rfl⟩:∃F:cB,F=wr:=⟨_,rfl⟩
     gi_loopw [17] (λi K=>∃j:Nat,(j:Int)<=l[k].2/\i=.int .i64 j/\J ((jY l).take (pd l k+j)) K/\dz w K/\y.heap.size<=K.heap.size/\K.cell? ⟨F.heap.size,0,none⟩=some (.int .i64 l[k].1))
      (λi _=>l[k].2.toNat-(intOf i).toNat)
     grind;obtain⟨j,hj,rfl,A,Y,b5,U⟩:=hrel;by_cases b1:(j:Int)<l[k].2
     . obtain⟨x,hx,b7,E⟩:=aaN r.o q (j:=j) cw;obtain⟨fn,tmps,H,a1,hy,Q⟩:=HY.o _ x _ A (by rw[kL];omega);rw[hx] at hy;clear hx;have Z:=cq E;clear E;gi_wp2;refine⟨CH,Q.mono ?_⟩;rintro e W3 (⟨rfl,hJ3,hk3⟩|⟨rfl,hJx3⟩)
       . have V:=hk3.cell (a:=⟨F.heap.size,0,none⟩) (by show n1<=F.heap.size;omega) U;have a4:=hk3.cx.size;gi_wp2;go_roundw;exact⟨j+1,cw,by go_num,by rw[<-Z.o];exact hJ3,Y.trans hk3.cx,cw,V⟩;exact oV
       . gi_wp2;refine gE (ug rfl _ _ _) rfl ?_;exact⟨⟨_,rfl⟩,.inr ⟨_,by rw[Z.o];exact take_prefix _ _,hJx3⟩⟩
     . (have a7:J ((jY l).take (pd l (k+1))) wr:=by rw[L.o,show l[k].2.toNat=j from by omega];exact A);gi_wp2;go_roundw;grind;exact oV
   . gi_wp2
     refine El (ug rfl _ _ _) rfl ?_;exact⟨⟨_,rfl⟩,.inl ⟨_,rfl,by
      have h:=B;rw[UJ l cw,nz (by rw[yp r.o,lV];exact dK _)] at h;exact h⟩⟩
 . have r:=cq (show fS l=false by simpa using I);clear I;gi_wp2_with ((refine⟨gI,CH,?_⟩;gi_at_call 247;refine(r9.2 (sS false _ _ r.o _ D)).mono ?_;rintro e w1 ⟨rfl,f⟩));refine gE (ug rfl _ _ _) rfl ?_;exact⟨⟨_,rfl⟩,.inl ⟨_,rfl,by rw[vf r.o];exact Ae M.o h0 f⟩⟩
def Af(n:Nat)(c:Nat)(v:cI)(l:List (Int×Int))(b w:cB)(k:eD b v l)(f:dz b w)(a:w.cell? ⟨c,0,none⟩=some v):
 SeqStopsK Fence.wide n prog 262 #[.pointer (some ⟨c,0,none⟩)] (λx:Fin 4096=>#[Value.int .i64 (x.val:Int)]) (Kept b.heap.size w.heap.size) (λo=>o=jY l) (λe=>e<+:jY l) (jY l).length w:=by intro m J g W d i _ j h;exact aaO n m c b.heap.size w.heap.size v l b k ae J g W d.size i j (f.trans (d.mono f.size)) ((d.cell (p:=⟨c,0,none⟩) (q9 a)).trans a) h
def Fk(a:Option Addr)(b cap:Nat)(w:cB):
 CP_ 230 #[.slice a b cap] w λe w'=>e=.returned (.func (.func 262) #[] #[.pointer (some ⟨w.heap.size,0,none⟩)])/\w'=w.alloc (.cells #[.slice a b cap] 66):=by go_enter func230,ntmps230;go_wp2;go_ret;exact ay
theorem Em(h:w.ownsRow base e size v n xs):
 (v=.slice none 0 0/\n=0)∨∃g cap,v=.slice (some ⟨g,0,none⟩) n cap/\base<=g/\g<w.heap.size:=by rcases h.2 with⟨b,c⟩|⟨g,cap,a,b,c,d,_⟩<;>grind
theorem MM(m:List (Int×Int))(x:Int×Int)(c:Int):(ir (m++[x])).set (m.length*2+1) (.int .i64 c)=ir (m++[(x.1,c)]):=by simp_all[qO,oD,ir]
theorem NQ{a b:cI}:∀j u,[a,b][j]?=some u->(w.alloc (.cells #[a,b] t)).cell? ((⟨w.heap.size,0,none⟩:Addr).add j)=some u:=by
 intro j u c
 match j,c with
 |0,c=>simp_all[Addr.add]
 |1,c=>simp_all[Addr.add]
 |j+2,c=>simp at c
def ID(a b:Int)(k l:IntKind):∀u∈ [Value.int k a,Value.int l b],u.oneCell'=true:=by intro u c;simp at c;rcases c with rfl|rfl<;>rfl
def En(h:w.ownsRow base e size v n xs)(d:Nat):(w.drewN d).ownsRow base e size v n xs:=h
theorem DD{o:Obj}(hbel:dz w wr)(b:∀j,row=some j->w.heap.size<=j)(a:((wr.drewN d).alloc o).grownBy w1 row):dz w w1:=
 ((below_drewN hbel d).alloc (by have:=hbel.size;exact this) o).grown a (by have:=hbel.size;simp_all[le_succ_of_le]) b
def nA(l:List Int):Nat->Bool:=λn=>decide ((n:Int)∈l)
theorem Eo{l:List Int}(h:k<l.length)(n:Nat):nA (l.take (k+1)) n=(nA (l.take k) n||decide ((n:Int)=l[k])):=by unfold nA;rw[wg,xf h];grind
theorem cu.Fl{f g:Nat->Bool}(h:cu w b t n (gF f))(i:Nat)(v:Bool)(a:∀j,j<n->g j=if j=i then v else f j):cu (w.setCell ⟨b,i,none⟩ (.bool v)) b t n (gF g):=by refine(h.set i (.bool v)).congr (λj c=>?_);grind[gF]
attribute [local go_sem] Oper.semAt_some
def NR(b:Nat)(t:dC)(n:Nat)(f:β->Nat->cI):Own (λs W=>cu W b t n (f s)):=by intro s W g row a c d;refine a.grown c (λe=>?_);have⟨o,ho,hc⟩:=d b e;rw[show W.heap[b]?=_ from a] at ho;cases ho;cases hc
def Ag(a:List (Fin 4096)):Nat->Bool:=λn=>a.any λx=>x.val==n
theorem IE(a:List (Fin 4096))(x:Fin 4096)(n:Nat):Ag (a++[x]) n=if n=x.val then true else Ag a n:=by grind[Ag]
theorem Fm(l:List (Int×Int))(a:n<4096):Ag (jY l) n=pW l n:=by rw[wg,<-RC l a];grind[Ag]
theorem ad6(v:cI)(l:List (Int×Int))(w:cB)(s:eD w v l):
 CallsIn Fence.wide 5 prog 291 #[v] w λe w'=>e=.returned (.pointer (some ⟨w.heap.size,0,none⟩))/\cu w' w.heap.size 249 4096 (gF (pW l))/\dz w w':=by
 have f:=s;obtain⟨ao,cap,rfl,r,F,hc⟩:=s;clear hc;have t:=cq f;clear f;refine callsIn_of_wp_marks func291 ae gI ?_ ae;simp only[ntmps291,zm,kr,r7,reduceAdd,reduceSub,zn,zp,tU,tV,ot,sL];gi_wp2_with ((refine⟨gI,?_⟩;gi_at_call 230;refine(r9.2 (Fk _ _ _ _)).mono ?_;rintro e w' ⟨rfl,rfl⟩));have⟨W0,hW0⟩:=eW (w.alloc (.cells zeroCells249 249));have n:cu W0 w.heap.size 249 4096 (gF λ_=>false):=by rw[hW0,Xf];exact bg
 have q:W0.heap.size=w.heap.size+1:=by rw[hW0];simp
 have k:dz w W0:=by rw[hW0];exact aN
 rw[<-hW0];have⟨W1,hW1⟩:=eW (W0.alloc (.cells #[.slice ao l.length cap] 66));have c:W1.cell? ⟨W0.heap.size,0,none⟩=some (.slice ao l.length cap):=by simp_all
 have A:W1.heap.size=w.heap.size+2:=by rw[hW1];simp;omega
 have b:dz w W1:=by rw[hW1];exact k.alloc cw _
 have o:cu W1 w.heap.size 249 4096 (gF λ_=>false):=by rw[hW1];exact n.alloc_old _
 rw[<-hW1];rw[q] at c;clear hW0 hW1;refine wpIn_rangeFunc_ownF ae cw (gf:=262) (lb:=#[cZ (w.heap.size+1) 0]) ae gI (enters_of func262 cX ae)
  (Af 4 (w.heap.size+1) _ l w W1 t.o b c) Kept.trans (Kept.wA cw) (fO _ _) (λ_=>ae)
  (λa W=>cu W w.heap.size 249 4096 (gF (Ag a))/\dz w W)
  (λ_ _ _=>False)
  (OwnFrom.and (Own.from (NR _ _ _ _) _) (ownFrom_below (dK _) cw))
  (λ_ _ _ _ _ z _ _=>z)
  ⟨o.congr (λi _=>ae),b⟩
  (λx=>{tmps:=#[.slice ao l.length cap,undef,.pointer none,cZ w.heap.size 0,.int .i64 (x.val:Int),.slice ao l.length cap,.func (.func 262) #[] #[cZ (w.heap.size+1) 0],.int .i64 (x.val:Int),undef,undef],defers:=[]}) ?assign ?body ?done ?stop
 case assign=>intro C x W K g;gi_wp2;exact g
 case body=>
  rintro C a x W ⟨d,h⟩ _;have m:=d.cell x.isLt;have u:=d.frozen x.val;simp only[gF] at m;have B:(x.val:Int)<(4096:Int):=by have:=x.isLt;omega
  gi_wp2;exact⟨KeepsOthers.setCell _ _ _,Kept.setCell _ (dK _) iG,d.Fl _ true (λj _=>IE a x j),h.setCell (p:=⟨w.heap.size,x.val,none⟩) (dK _) _⟩
 case done=>rintro D G W E rfl ⟨d,h⟩ g;gi_wp2;refine⟨by simp,.inl ⟨_,_,ae,run_takeDeferred g,?_⟩⟩;refine⟨_,results_tmp ae _ _ _,ae,?_,h.trans (belowK_b (w:=w) (dK _) W D _ _ cw g ae ae)⟩;exact(d.grown (grownBy_putObj' W D _) (λe=>by cases e;omega)).congr (λi y=>by simp only[gF];rw[Fm l y])
 case stop=>grind
def aaP(v:cI)(l:List (Int×Int))(w:cB)(a:eD w v l):
 CP_ 291 #[v] w λe w'=>e=.returned (.pointer (some ⟨w.heap.size,0,none⟩))/\cu w' w.heap.size 249 4096 (gF (pW l))/\dz w w':=
 r9.1 (ad6 v l w a)
attribute [local go_sem] Oper.semAt_some
def Ep(l:List (Int×Int)):Int:=if fS l=true then o8 l else 0
def RE(h:k<l.length):o8 (l.take (k+1))=o8 (l.take k)+l[k].2:=by rw[xf h,MJ,Rv,UI];omega
def UL(h:fS l=true)(k:Nat):fS (l.take k)=true:=by have a:=h;unfold fS at a|-;rw[<-zZ k l,mL,aiL] at a;exact a.1
theorem NS(h:fS l=true):0<=o8 l/\o8 l<=4097:=by have:=Pj h cw;grind[o8]
def Ys(v:cI)(l:List (Int×Int))(w:cB)(p:eD w v l):
 rF 229 #[v] w (.int .i64 (Ep l)):=by
 have m:=cq p;obtain⟨ao,cap,rfl,n,u,hc⟩:=p;have q:=cq hc;clear hc;have A:=cq u;by_cases g:fS l=true
 . have f:=cq g;clear g;go_enter func229,ntmps229;go_wp2_with ((go_at_call 247;refine(sS true _ _ f.o _ m.o).mono ?_;rintro e w1 ⟨rfl,d⟩))
   go_loopw [3,11] (λt i wr=>∃k:Nat,k<=l.length/\i=.int .i64 k/\t=.int .i64 (o8 (l.take k))/\dz w wr)
    (λ_ i _=>l.length-(intOf i).toNat)
   exact⟨0,fN _,ae,ae,d⟩;obtain⟨k,B,rfl,rfl,hbel⟩:=hrel;by_cases c:k<l.length
   . obtain⟨b,o,rfl,j,a⟩:=q.o (by intro h;simp[h] at c);have⟨h1,h2⟩:=xo j a hbel c;clear a;have s:=cq (RE c);have y:=(fm _ _).1 (Fj f.o c);have x:=NS (UL f.o k);have z:=hbel.size;go_wp2;go_roundw;(case rel=>exact⟨k+1,cw,by go_num,by rw[s.o],by go_grown⟩);case measure=>exact oV
   . go_wp2;go_ret;exact⟨Xg (by unfold Ep;rw[cL f.o,nz cw]),hbel⟩
 . have f:=cq (show fS l=false by simpa using g);have r:=cq g;clear g;go_enter func229,ntmps229;go_wp2_with ((go_at_call 247;refine(sS false _ _ f.o _ m.o).mono ?_;rintro e w1 ⟨rfl,d⟩));go_ret;exact⟨Xg (by unfold Ep;rw[cM r.o]),d⟩
attribute [local go_sem] Oper.semAt_some
theorem Kk(l:List (Int×Int)):Ep l=((jY l).length:Int):=by unfold Ep;by_cases h:fS l=true;rw[cL h,yp h,lV];exact Yl h;simp_all[vf]
def aaQ(m:Int)(v:cI)(l:List (Int×Int))(w:cB)(a:Ep l=m)(b:eD w v l):
 rF 229 #[v] w (.int .i64 m):=by subst a;exact Ys v l w b
theorem JB(l:List (Int×Int)):(jY l).length<=4097:=by have h:=Kk l;by_cases a:fS l=true;have:=NS a;unfold Ep at h;omega;grind[vf]
def zu(l:List (Fin 4096)):List cI:=l.map λx=>.int .i64 (x.val:Int)
theorem Yt{k:IntKind}{l:List Int}{o:Obj}(h:dR k W v l)(g:W.heap[D]?=some o)(hc:o.isCells=false)(o':Obj):dR k (W.putObj D o') v l:=by
 have⟨ao,cap,h1,h2,h3,h4⟩:=h;refine⟨ao,cap,h1,h2,h3,λd=>?_⟩;have⟨b,o2,h5,h6,h7⟩:=h4 d;have a:=grownBy_putObj' W D o';have f:∀r,some D=some r->∃o:Obj,W.heap[r]?=some o/\o.isCells=false:=λr e=>by grind
 exact⟨b,o2,h5,oS h6 a.size,λj c=>cell_kept (h7 j c) a f⟩
theorem Kept.grown{n0 n1:Nat}{A W a:cB}{row:Option Nat}(h:Kept n0 n1 A W)(b:W.grownBy a row)(d:n0<=W.heap.size)(f:∀k,row=some k->n0<=k/\k<n1):Kept n0 n1 A a:=
 ⟨h.cx.grown b d (λk e=>(f k e).1),λk o c ho hc=>(b.block k (qj.1 (h.rows k o c ho hc)).1 (λe=>by grind)).trans (h.rows k o c ho hc)⟩
def ox(l:List (Int×Int)):List Int:=(jY l).map λx=>(x.val:Int)
theorem MO(l:List (Fin 4096))(x:Fin 4096):zu (l++[x])=zu l++[.int .i64 (x.val:Int)]:=by simp[zu]
theorem af9(x:Fin 4096):(Lit.int .i64 (x.val:Int)).wf=true:=by grind[WalkArith.wf_i64]
theorem Xh(v:cI)(l:List (Int×Int))(w:cB)(m:eD w v l):
 CallsIn Fence.wide 5 prog 172 #[v] w λe w'=>∃r,e=.returned r/\dR .i64 w' r (ox l)/\(∃b n c,r=.slice (some ⟨b,0,none⟩) n c/\w.heap.size<=b)/\dz w w':=by
 have E:=m;obtain⟨ao,g,rfl,_,_,_⟩:=m;have M:=cq E;clear E;have⟨i0,hi,hz0,hz1,hz2⟩:=nB JW;have O:=JB l;refine callsIn_of_wp_marks func172 ae gI ?_ ae;simp only[ntmps172,zm,kr,r7,reduceAdd,reduceSub,zn,zp,tU,tV,ot,sL];gi_wp2_with (first|(refine⟨gI,?_⟩;gi_at_call 229;refine(r9.2 (aaQ _ _ _ _ (Kk l) M.o)).mono ?_;rintro e w1 ⟨rfl,u⟩)|(refine⟨gI,?_⟩;gi_at_call 230;refine(r9.2 (Fk _ _ _ _)).mono ?_;rintro e w' ⟨rfl,rfl⟩)|(gi_at_make;refine wpListIn_make_own _ ae _ _ 81 ae w1.heap.size 3 i0 (.int .i64 0) 1 oW hi hz0 hz1 .i64 .i64 _ (jY l).length ae ae ae bD aI (dK _) ?_;intro j d h));have N:=u.size;have V:=h.size;have H:dz w j:=u.grown h cw (λk e=>by cases e);have A:=(d.lt w1.heap.size ae).2;have⟨W0,hW0⟩:=eW (j.alloc (.cells #[.slice (s_ w1.heap.size 0) 0 (jY l).length] 81));have Z:W0.heap.size=j.heap.size+1:=by rw[hW0];simp
 have o:Boxed W0 j.heap.size 81 (.slice (s_ w1.heap.size 0) 0 (jY l).length):=by rw[hW0];exact Boxed.new _ _ _
 have C:W0.ownsRow w1.heap.size 3 1 (.slice (s_ w1.heap.size 0) 0 (jY l).length) 0 []:=by rw[hW0];exact d.alloc _
 have s:dz w W0:=by rw[hW0];exact H.alloc cw _
 rw[<-hW0];have⟨W1,hW1⟩:=eW (W0.alloc (.cells #[.slice ao l.length g] 66));have I:W1.cell? ⟨j.heap.size+1,0,none⟩=some (.slice ao l.length g):=by simp_all
 have F:W1.heap.size=j.heap.size+2:=by rw[hW1];simp;omega
 have z:Boxed W1 j.heap.size 81 (.slice (s_ w1.heap.size 0) 0 (jY l).length):=by rw[hW1];exact o.alloc _
 have J:W1.ownsRow w1.heap.size 3 1 (.slice (s_ w1.heap.size 0) 0 (jY l).length) 0 []:=by rw[hW1];exact C.alloc _
 have t:dz w W1:=by rw[hW1];exact s.alloc cw _
 rw[<-hW1];clear hW0 hW1 o C s d h;refine wpIn_rangeFunc_ownF ae cw (gf:=262) (lb:=#[cZ (j.heap.size+1) 0]) ae gI (enters_of func262 cX ae)
  (Af 4 (j.heap.size+1) _ l w W1 M.o t I) Kept.trans (Kept.wA cw) (fO _ _) (λ_=>ae)
  (λf W=>(∃v,Boxed W j.heap.size 81 v/\W.ownsRow w1.heap.size 3 1 v f.length (zu f)/\v=.slice (s_ w1.heap.size 0) f.length (jY l).length)/\dz w W)
  (λ_ _ _=>False)
  (OwnFrom.and (Own.from (holdsRow_own w1.heap.size j.heap.size 81 3 1 (λf=>f.length) (λf=>zu f) (λf v=>v=.slice (s_ w1.heap.size 0) f.length (jY l).length)) _) (ownFrom_below (dK _) cw))
  (λ_ _ _ _ _ Y _ _=>Y)
  ⟨⟨_,z,J,ae⟩,t⟩
  (λx=>{tmps:=#[.slice ao l.length g,undef,.slice none 0 0,cZ j.heap.size 0,.int .i64 (x.val:Int),.slice ao l.length g,.int .i64 ((jY l).length:Int),.slice (s_ w1.heap.size 0) 0 (jY l).length,.slice ao l.length g,.func (.func 262) #[] #[cZ (j.heap.size+1) 0],.int .i64 (x.val:Int),undef,undef,undef,undef,undef],defers:=[]}) ?assign ?body ?done ?stop
 case assign=>intro F x W K q;gi_wp2;exact q
 case body=>rintro F f x W ⟨⟨v,m,d,rfl⟩,F⟩ B;have G:=F.size;have L:=m.cell;have H:=m.frozen;have X:=m.not_row jR d;have A:=d.lt w1.heap.size ae;gi_wp2_with (first|(gi_at_builtin;refine wpListIn_append_fits _ ae _ _ 81 ae w1.heap.size 3 i0 1 oW hi hz1 w1.heap.size f.length (jY l).length (zu f) ae (d.alloc _) ⟨W.heap.size,0,none⟩ 1 1 [.int .i64 (x.val:Int)] ae ae (cell_one_new _ _ _) a8 B ?_;intro H p i;have⟨q1,q2,q3,q4,q5⟩:=m.appended jR d (gO cw (Nat.le_of_lt A.2)) cw p i;have T:=q1.cell;have U:=q1.frozen));refine⟨q4,?_,⟨⟨_,q2,?_,?_⟩,Below.trans F (q5.mono cw)⟩⟩;exact((((Kept.refl w.heap.size W1.heap.size W).grown (World.grownBy_alloc W _ none) G (λk e=>by cases e)).grown i az (λk e=>by cases e;omega)).trans (Kept.setCell (a:=⟨j.heap.size,0,none⟩) _ iG iG));rw[ik,MO];exact q3;rw[ik];rfl
 case done=>rintro D G W G rfl ⟨⟨v,m,d,rfl⟩,F⟩ q;have L:=m.cell;have R:D<W.heap.size:=(qj.1 q).1;gi_wp2;refine⟨by simp,.inl ⟨_,_,ae,run_takeDeferred q,?_⟩⟩;refine⟨_,results_tmp ae _ _ _,_,ae,?_,⟨_,_,_,ae,cw⟩,F.trans (belowK_b (w:=w) (dK _) W D _ _ cw q ae ae)⟩;refine Yt (pJ (l:=ox l) (e:=3) (base:=w1.heap.size) ?_ ?_ ?_) q ae _;unfold ox;rw[lV,sK];exact d;intro x Q;unfold ox at Q;obtain⟨y,_,rfl⟩:=fM.1 Q;exact af9 y;unfold ox;rw[lV];omega
 grind
def aaR(v:cI)(l:List (Int×Int))(w:cB)(a:eD w v l):
 CP_ 172 #[v] w λe w'=>∃r,e=.returned r/\dR .i64 w' r (ox l)/\dz w w':=(r9.1 (Xh v l w a)).mono λ_ _ ⟨r,h1,h2,_,h4⟩=>⟨r,h1,h2,h4⟩
def aaS(v:cI)(l:List (Int×Int))(w:cB)(a:eD w v l):
 CP_ 172 #[v] w λe w'=>∃r,e=.returned r/\dR .i64 w' r (ox l)/\(∃b n c,r=.slice (some ⟨b,0,none⟩) n c/\w.heap.size<=b)/\dz w w':=r9.1 (Xh v l w a)
def Pk(l:List (Int×Int))(n:Int):Bool:=decide (n∈ox l)
theorem UM(l:List (Int×Int)):(ox l).Pairwise (· < ·):=by unfold ox;by_cases h:fS l=true;rw[Ad h];exact Ix h;simp_all[vf]
theorem Yu{n:Int}(h:p++[x]<+:jY l)(c:∀y∈p,(y.val:Int)<n)(d:n<=(x.val:Int)):Pk l n=((x.val:Int)==n):=by
 have⟨r,hr⟩:=h;have a:ox l=p.map (λx=>(x.val:Int))++(x.val:Int)::r.map (λx=>(x.val:Int)):=by grind[ox]
 have b:=UM l;rw[a,pairwise_append,Bv] at b;unfold Pk;grind
theorem Yv{n:Int}(a:∀y∈jY l,(y.val:Int)<n):Pk l n=false:=by unfold Pk;grind[ox]
def aga(v:cI)(l:List (Int×Int))(n:Int)(w:cB)(Q:eD w v l):
 CallsIn Fence.wide 5 prog 281 #[v,.int .i64 n] w λe w'=>e=.returned (.bool (Pk l n))/\dz w w':=by
 have u:=Q;obtain⟨ao,b,rfl,_,_,_⟩:=Q;have R:=cq u;clear u;refine callsIn_of_wp_marks func281 ae gI ?_ ae;simp only[ntmps281,zm,kr,r7,reduceAdd,reduceSub,zn,zp,tU,tV,ot,sL];gi_wp2_with (first|(refine⟨gI,?_⟩;gi_at_call 230;refine(r9.2 (Fk _ _ _ _)).mono ?_;rintro e w' ⟨rfl,rfl⟩));have⟨Wa,hWa⟩:=eW (w.alloc (.cells #[.int .i64 n] 3));have L:Wa.heap.size=w.heap.size+1:=by rw[hWa];simp
 have q:Boxed Wa w.heap.size 3 (.int .i64 n):=by rw[hWa];exact Boxed.new _ _ _
 have m:dz w Wa:=by rw[hWa];exact aN
 rw[<-hWa];have⟨W0,hW0⟩:=eW (Wa.alloc (.cells #[.bool false] 4));have J:W0.heap.size=w.heap.size+2:=by rw[hW0];simp;omega
 have o:Boxed W0 w.heap.size 3 (.int .i64 n):=by rw[hW0];exact q.alloc _
 have t:Boxed W0 (w.heap.size+1) 4 (.bool false):=by rw[hW0,<-L];exact Boxed.new _ _ _
 have j:dz w W0:=by rw[hW0];exact m.alloc cw _
 rw[<-hW0];have⟨W1,hW1⟩:=eW (W0.alloc (.cells #[.slice ao l.length b] 66));have A:W1.cell? ⟨w.heap.size+2,0,none⟩=some (.slice ao l.length b):=by rw[hW1,<-J];simp
 have V:W1.heap.size=w.heap.size+3:=by rw[hW1];simp;omega
 have z:Boxed W1 w.heap.size 3 (.int .i64 n):=by rw[hW1];exact o.alloc _
 have G:Boxed W1 (w.heap.size+1) 4 (.bool false):=by rw[hW1];exact t.alloc _
 have k:dz w W1:=by rw[hW1];exact j.alloc cw _
 rw[<-hW1];clear hWa hW0 hW1 q m o t j;refine wpIn_rangeFunc_ownF ae cw (gf:=262) (lb:=#[cZ (w.heap.size+1+1) 0]) ae gI (enters_of func262 cX ae)
  (Af 4 (w.heap.size+2) _ l w W1 R.o k A) Kept.trans (Kept.wA cw) (fO _ _) (λ_=>ae)
  (λa W=>(Hid (∀y∈a,(y.val:Int)<n)/\Boxed W w.heap.size 3 (.int .i64 n)/\Boxed W (w.heap.size+1) 4 (.bool false))/\dz w W)
  (λc a W=>(Hid (c=.ret/\∃p x,a=p++[x]/\(∀y∈p,(y.val:Int)<n)/\n<=(x.val:Int))/\Boxed W (w.heap.size+1) 4 (.bool (match a.getLast? with|some x=>(x.val:Int)==n|none=>false)))/\dz w W)
  (OwnFrom.and (OwnFrom.and (ownFrom_pure _ _) (OwnFrom.and (Own.from (boxed_own _ _ λ_=>.int .i64 n) _) (Own.from (boxed_own _ _ λ_=>.bool false) _))) (ownFrom_below (dK _) cw))
  (λc=>OwnFrom.and (OwnFrom.and (ownFrom_pure _ _) (Own.from (boxed_own _ _ λa:List (Fin 4096)=>.bool (match a.getLast? with|some x=>(x.val:Int)==n|none=>false)) _)) (ownFrom_below (dK _) cw))
  ⟨⟨λy M=>by simp at M,z,G⟩,k⟩
  (λx=>{tmps:=#[.slice ao l.length b,.int .i64 n,undef,cZ w.heap.size 0,cZ (w.heap.size+1) 0,.int .i64 (x.val:Int),.slice ao l.length b,.func (.func 262) #[] #[cZ (w.heap.size+1+1) 0],.int .i64 (x.val:Int),undef,undef,undef,undef,undef,undef],defers:=[]}) ?assign ?body ?done ?stop
 case assign=>intro Y x W K f;gi_wp2;exact f
 case body=>
  rintro Y a x W ⟨⟨O,N,d⟩,i⟩ _;have U:=N.cell;have H:=d.cell;have I:=d.frozen;by_cases X:n<=(x.val:Int)
  . gi_wp2;refine⟨KeepsOthers.setCell _ _ _,⟨⟨ae,a,x,ae,O.o,X⟩,?_⟩,i.setCell (p:=⟨w.heap.size+1,0,none⟩) iG _⟩;have:=d.set (.bool ((x.val:Int)==n));simpa using this
  . gi_wp2;exact⟨KeepsOthers.refl _,Kept.refl _ _ _,⟨λy M=>(fL.1 M).elim (O.o y) (λe=>by simp at e;subst e;omega),N,d⟩,i⟩
 case done=>rintro D Z W T rfl ⟨⟨E,_,d⟩,i⟩ f;have H:=d.cell;have I:=d.frozen;gi_wp2;have g:=(KeepsOthers.setCell W ⟨w.heap.size+1,0,none⟩ (.bool false)).same D _ f ae;refine⟨by simp,.inl ⟨_,_,ae,run_takeDeferred g,?_⟩⟩;have h:=cell_kept (d.set (.bool false)).cell (grownBy_putObj' _ D (.deferred none)) (λr e=>by cases e;exact⟨_,g,ae⟩);refine⟨.bool false,?_,by rw[Yv E.o],(i.setCell (p:=⟨w.heap.size+1,0,none⟩) dU _).trans (belowK_b (w:=w) (dK _) _ D _ _ cw g ae ae)⟩;simp[results,f281,go_sem,h]
 case stop=>rintro D c a W T s ⟨⟨F,d⟩,i⟩ f;obtain⟨rfl,p,x,rfl,C,B⟩:=F.o;rw[getLast?_append] at d;simp only[getLast?_singleton,Option.some_or] at d;gi_wp2;refine⟨by simp,.inl ⟨_,_,ae,run_takeDeferred f,?_⟩⟩;have h:=cell_kept d.cell (grownBy_putObj' _ D (.deferred none)) (λr e=>by cases e;exact⟨_,f,ae⟩);refine⟨.bool ((x.val:Int)==n),?_,by rw[Yu s C B],i.trans (belowK_b (w:=w) (dK _) W D _ _ cw f ae ae)⟩;simp[results,f281,go_sem,h]
def ad7(v:cI)(l:List (Int×Int))(n:Int)(w:cB)(a:eD w v l):
 rF 281 #[v,.int .i64 n] w (.bool (Pk l n)):=r9.1 (aga v l n w a)
def cu.setRow(h:cu w g t n f)(a:Nat->cI):cu (w.setRow g (ct n a)) g t n a:=
 setRow_heap w g _ _ t _ h
theorem cu.setRow_other{w:cB}{g b:Nat}{t:dC}{n:Nat}{f:Nat->cI}(h:cu w b t n f)(a:b≠g)(cs:fJ):cu (w.setRow g cs) b t n f:=by grind[cu,setRow_other]
def Below.setRow{a:cB}(h:Below B a w)(b:B<=g)(cs:fJ):Below B a (w.setRow g cs):=
 h.trans ⟨ae,ae,ae,by simp,λk c=>setRow_other w g k cs cw⟩
theorem setRow_size(w:cB)(g:Nat)(cs:fJ):(w.setRow g cs).heap.size=w.heap.size:=by simp
theorem run_storeVar_row(w:cB)(ty:dC)(g:Nat)(t:dC)(n:Nat)(f a:Nat->cI)(h:cu w g t n f)(d:(P.info? ty).map (·.size)=some n)(c:∀i,(a i).oneCell'=true):
 (storeVar ty ⟨g,0,none⟩ (.agg (ct n a))).run P w=.ok () (w.setRow g (ct n a)):=by
 cases e:P.info? ty with
 |none=>grind
 |some i=>
  have j:i.size=n:=by grind
  have b:=run_storeCells_at P g 0 t (ct n a).toList 0 (ct n f) w h (by simp[ct]) (by
   grind[Array.mem_iff_getElem?,cU])
  simp_all[Bw,cF,storeVar,Value.cells,sizeOf,typeInfo]
def wpList_store_row{a:Act}(d:o.guard=none)(ty:dC)(x y:Operand)(ho:o.op=.store ty x y)(g:Nat)(m:a.eval x=.pointer (some ⟨g,0,none⟩))(n:Nat)(b:Nat->cI)(cs:fJ)(p:a.eval y=.agg cs)(c:cs=ct n b)(t:dC)(f:Nat->cI)(h:cu w g t n f)(k:(P.info? ty).map (·.size)=some n)(e:∀i,(b i).oneCell'=true)(l:wpList P ops Q rest (a.put o.dst undef) (w.setRow g (ct n b))):wpList P ops Q (o::rest) a w:=
 lF d λK j=>by
  subst c;unfold Oper.wp execOp;simp only[ho,m,p,Instr.storeAt,Instr.sureAddr,kj,qq,mS,run_storeVar_row w ty g t n f b h k e];exact j _ _ l
def rT{a:Act}(b:o.guard=none)(ty:dC)(x:Operand)(ho:o.op=.load ty x)(g:Nat)(j:a.eval x=.pointer (some ⟨g,0,none⟩))(n:Nat)(t:dC)(f:Nat->cI)(h:cu w g t n f)(d:TypeDesc)(i:P.underlying ty=some d)(c:(match d with| .struct _| .array _ _=>true|_=>false)=true)(k:(P.info? ty).map (·.size)=some n)(e:wpList P ops Q rest (a.put o.dst (.agg (ct n f))) w):wpList P ops Q (o::rest) a w:=
 wpList_load_row b ty x ho g j t (ct n f) (0,0) d h i c aD e
def ad8:(prog.info? 248).map (·.size)=some 4096:=cX
theorem aaT(a b c d:Int)(r:Bool)(h:(!((a==c)&& (b==d)))=r)(w:cB):
 (binOp .neq 141 (.agg #[.int .i64 a,.int .i64 b]) (.agg #[.int .i64 c,.int .i64 d])).run prog w=.ok (.bool r) w:=by
 subst h;have f:(Op.equal 141 (.agg #[.int .i64 a,.int .i64 b]) (.agg #[.int .i64 c,.int .i64 d])).run prog w=.ok ((a==c)&& (b==d)) w:=by unfold Op.equal Op.maxDepth;rw[run_equalIn_struct (P:=prog) w 9999 141 _ _ cX cX];have e:(prog.fieldsOf 141).toList=[{name:= "Start",type:=3,offset:=0,embedded:=false,tag:= "",pkgPath:= "",byteOffset:=0},{name:= "Len",type:=3,offset:=1,embedded:=false,tag:= "",pkgPath:= "",byteOffset:=8}]:=cX;rw[e];simp[Op.eqFields,part,isAgg3,Result.andThen,G3 w 9998 3 .i64 .i64 _ _ uh];grind
 simp_all[binOp]
theorem RF{l m:List α}(a:k<l.length)(b:k<m.length)(h:l[k]≠m[k]):l≠m:=by grind
theorem Yw{l m:List α}(a:l.length=m.length)(h:∀j(b:j<l.length)(c:j<m.length),l[j]=m[j]):l=m:=
 ext_getElem a h
def NT(w:cB)(l:List Int)(cs:fJ)(t:dC)(a:cs.toList=l.map (Value.int .i64))(e:∀x∈l,(Lit.int .i64 x).wf=true)(c:l.length<=9223372036854775807)(n cap:Nat)(d:n=l.length):
 dR .i64 (w.alloc (.cells cs t)) (.slice (some ⟨w.heap.size,0,none⟩) n cap) l:=by subst d;refine⟨_,cap,ae,c,e,λ_=>⟨w.heap.size,0,ae,by simp,λj b=>?_⟩⟩;rw[ou,yq _ _ _ _ ae,<-mj,a];simp[b]
theorem UN(w:cB)(l:List (Int×Int))(cs:fJ)(t:dC)(a:cs.toList=ir l)(e:∀x∈l,ee x.1/\ee x.2)(c:l.length<=9223372036854775807)(n cap:Nat)(d:n=l.length):
 eD (w.alloc (.cells cs t)) (.slice (some ⟨w.heap.size,0,none⟩) n cap) l:=by subst d;refine⟨_,cap,ae,c,e,λ_=>⟨w.heap.size,0,ae,by simp,λj b=>?_⟩⟩;have⟨h1,h2⟩:=uN l j b;rw[ou,yq _ _ _ _ ae,yq _ _ _ _ ae,<-mj,<-mj,a];grind
theorem NU(f:Nat->Bool)(k:Nat)(a:k<=4096):∀x∈kX f k,(Lit.int .i64 x).wf=true:=by grind[uf,WalkArith.wf_i64]
theorem IF{l:List (Int×Int)}(h:fS l=true):ox l=Kj (qp l):=by grind[ox,Ad,Yk]
abbrev km:=Bool×Int×Int
def vR(w:cB)(v:cI)(l:List km):Prop:=
 ∃ao cap,v=.slice ao l.length cap/\l.length<=9223372036854775807/\(∀x∈l,ee x.2.1/\ee x.2.2)/\
  (l≠ []->∃b o,ao=some ⟨b,o,none⟩/\b<w.heap.size/\
   ∀k(h:k<l.length),w.cell? ⟨b,o+k*3,none⟩=some (.bool l[k].1)/\w.cell? ⟨b,o+k*3+1,none⟩=some (.int .i64 l[k].2.1)/\w.cell? ⟨b,o+k*3+2,none⟩=some (.int .i64 l[k].2.2))
theorem rX(w:cB):vR w (.slice none 0 0) []:=⟨none,0,ae,by simp,by simp,λh=>absurd ae h⟩
def jZ:List km->List cI
 | []=> []
 |x::r=>.bool x.1::.int .i64 x.2.1::.int .i64 x.2.2::jZ r
theorem ui(l m:List km):jZ (l++m)=jZ l++jZ m:=by induction l<;>grind[jZ]
theorem MP(l:List km)(k:Nat)(h:k<l.length):(jZ l)[k*3]?=some (.bool l[k].1)/\(jZ l)[k*3+1]?=some (.int .i64 l[k].2.1)/\(jZ l)[k*3+2]?=some (.int .i64 l[k].2.2):=by induction l generalizing k with|nil=>simp at h|cons x r ih=>cases k with|zero=>exact⟨ae,ae,ae⟩|succ k=>have:=ih k iG;rw[show(k+1)*3=k*3+1+1+1 from by omega,show k*3+1+1+1+1=k*3+1+1+1+1 from ae,show k*3+1+1+1+2=k*3+2+1+1+1 from by omega];grind[jZ]
theorem BF{l:List km}(h:w.ownsRow base e 3 v l.length (jZ l))(f:∀x∈l,ee x.2.1/\ee x.2.2)(d:l.length<=9223372036854775807):vR w v l:=by rcases h.2 with⟨rfl,i⟩|⟨g,cap,a,rfl,n,c,p,hc,q,r⟩;grind[rX];refine⟨_,cap,ae,d,f,λ_=>⟨g,0,ae,(qj.1 c).1,λk o=>?_⟩⟩;have j:=h.cellAt (k*3) cw;have m:=h.cellAt (k*3+1) cw;have b:=h.cellAt (k*3+2) cw;grind[MP]
def Kl{o:Nat}{l:List km}(c:b<w.heap.size)(a:∀k(h:k<l.length),w.cell? ⟨b,o+k*3,none⟩=some (.bool l[k].1)/\w.cell? ⟨b,o+k*3+1,none⟩=some (.int .i64 l[k].2.1)/\w.cell? ⟨b,o+k*3+2,none⟩=some (.int .i64 l[k].2.2))(hbel:dz w wr)(h:k<l.length):
 wr.cell? ⟨b,o+k*3,none⟩=some (.bool l[k].1)/\wr.cell? ⟨b,o+k*3+1,none⟩=some (.int .i64 l[k].2.1)/\wr.cell? ⟨b,o+k*3+2,none⟩=some (.int .i64 l[k].2.2):=
 ⟨(hbel.cell (p:=⟨b,o+k*3,none⟩) c).trans (a k h).1,(hbel.cell (p:=⟨b,o+k*3+1,none⟩) c).trans (a k h).2.1,(hbel.cell (p:=⟨b,o+k*3+2,none⟩) c).trans (a k h).2.2⟩
def NW:(prog.info? 334).map (λi=>(i.zero,i.size,i.bytes))=some (some (.agg #[.bool false,.int .i64 0,.int .i64 0]),3,24):=cX
attribute [local go_sem] Oper.semAt_some
def mT(w:cB)(base:Nat)(v:cI)(l:List (Int×Int)):Prop:=w.ownsRow base 141 2 v l.length (ir l)
def mT.mono(h:mT w base v l)(a:base'<=base):mT w base' v l:=
 ⟨h.1,h.2.imp id λ⟨g,cap,cur,h1,h2,r⟩=>⟨g,cap,cur,h1,gO a h2,r⟩⟩
theorem mT.sl{f:Nat->Bool}(h:mT w base v (gG f)):eD w v (gG f):=
 sR h (IA (rD f)) (gO (sQ f 4096) cw)
def NX(b:Nat)(f:Nat->Bool)(w:cB)(A:cu w b 249 4096 (gF f)):
 CP_ 158 #[.pointer (some ⟨b,0,none⟩)] w λe w'=>∃v',e=.returned v'/\mT w' w.heap.size v' (gG f)/\dz w w':=by
 have⟨i0,hi,hz0,hz1,hz2⟩:=nB Yp;go_enter func158,ntmps158;go_wp2_with (fail)
 go_loopw [3,8] (λv i wr=>∃(k:Nat),k<=4096/\i=.int .i64 k/\wr.ownsRow w.heap.size 141 2 v (fF f k).length (ir (fF f k))/\dz w wr)
  (λ_ i _=>4096-(intOf i).toNat)
 exact⟨0,fN _,ae,gz _ _ _ _,fO _ _⟩;obtain⟨k,J,rfl,a,hbel⟩:=hrel;have N:=hbel.size;by_cases E:k<4096
 . have s:cu wr b 249 4096 (gF f):=A.cx hbel;have r:=s.cell E;simp only[gF] at r;have I:(k:Int)<(4096:Int):=cw;by_cases t:f k=true
   . (rw[t] at r;have u:Hid (fF f (k+1)=Ki (fF f k) k):=by unfold Hid;rw[fF,cL t]);clear t;rcases xl (fF f k) with he|⟨m,x,he⟩
     . rw[he] at a;have B:=cq he;clear he;have d:=a.lt;rcases Em a with⟨rfl,_⟩|⟨g,cap,rfl,z,D⟩;rotate_left
       all_goals
        have q:=cq d;clear d
        go_wp2_with (first|(go_quiet (fail))|(at_builtin;refine xq _ ae _ _ 66 ae w.heap.size 141 i0 (.agg #[.int .i64 0,.int .i64 0]) 2 16 underlying66 hi hz0 hz1 hz2 ae jR _ _ _ ae ((En a _).alloc _) ⟨wr.heap.size,0,none⟩ 1 1 [.int .i64 k,.int .i64 1] ae ae NQ (ID _ _ _ _) (by simp[maxLen]) dU az ?_;intro v' w1 n l _))
        go_roundw
        case rel=>exact⟨k+1,cw,by go_num,by rw[u.o,B.o];exact n,DD hbel (λj h=>(q.o j h).1) l⟩
        case measure=>exact oV
     . have p:=sQ f k;have c:=Ac f k J;rw[he] at a p c;rw[mL,aiL,fX,fm] at c;have Q:=c.1.2.1;have B:=cq he;clear he c;rw[ik] at a p;have⟨M,HM⟩:=xm m.length;rw[<-HM.o] at a p;simp only[kr,r7,ou] at a p;have d:=a.lt;rcases Em a with⟨rfl,O⟩|⟨g,cap,rfl,z,D⟩;omega
       . (have q:=cq d;clear d;have G:wr.cell? ⟨g,M*2,none⟩=some (.int .i64 x.1):=by rw[a.cellAt _ cw,qO,GO (by rw[oD,HM.o];omega),oD,HM.o];simp[ir]);(have F:wr.cell? ⟨g,M*2+1,none⟩=some (.int .i64 x.2):=by rw[a.cellAt _ cw,qO,GO (by rw[oD,HM.o];omega),oD,HM.o];simp[ir]);have H:wr.frozen? ⟨g,M*2+1,none⟩=false:=a.frozenAt _;have K:(M:Int)<(M:Int)+1:=cw;have w1:IntKind.i64.wrap (M:Int)=(M:Int):=j0 _ cw;have R:IntKind.i64.wrap (x.1+x.2)=x.1+x.2:=j0 _ cw;by_cases o:x.1+x.2=(k:Int)
         . (have L:(x.1+x.2==(k:Int))=true:=by simpa using o);have C:=cq o;clear o;go_wp2_with (go_quiet (fail));go_roundw;refine⟨k+1,cw,by go_num,?_,(below_drewN hbel _).setCell z _⟩;rw[u.o,B.o,ud,cL C.o,ik,<-HM.o,<-MM,<-HM.o];exact((En a _).stored _ _).1;exact oV
         . (have L:(x.1+x.2==(k:Int))=false:=by simpa using o);have C:=cq o;clear o;go_wp2_with (first|(go_quiet (fail))|(at_builtin;refine xq _ ae _ _ 66 ae w.heap.size 141 i0 (.agg #[.int .i64 0,.int .i64 0]) 2 16 underlying66 hi hz0 hz1 hz2 ae jR _ _ _ ae ((En a _).alloc _) ⟨wr.heap.size,0,none⟩ 1 1 [.int .i64 k,.int .i64 1] ae ae NQ (ID _ _ _ _) akq cw az ?_;intro v' w1 n l _));go_roundw;refine⟨k+1,cw,by go_num,?_,DD hbel (λj h=>(q.o j h).1) l⟩;rw[u.o,B.o,ud,cM C.o,qO,ik,ik,<-HM.o];exact n;exact oV
   . (have y:f k=false:=by simpa using t);(rw[y] at r;have u:Hid (fF f (k+1)=fF f k):=by unfold Hid;rw[fF,cM t]);clear t y;go_wp2_with (go_quiet (fail));go_roundw;exact⟨k+1,cw,by go_num,by rw[u.o];exact a,by refine below_drewN ?_ _;exact hbel⟩;exact oV
 . obtain rfl:k=4096:=cw;go_wp2;go_ret;exact⟨_,ae,a,hbel⟩
theorem UO(v u:cI)(l m:List (Int×Int))(w:cB)(Q:eD w v l)(O:eD w u m):
 CallsIn Fence.wide 5 prog 287 #[v,u] w λe w'=>∃r,e=.returned r/\mT w' w.heap.size r (gG (λn=>pW l n&& !pW m n))/\dz w w':=by
 have t:=O;obtain⟨z,a,rfl,_,_,_⟩:=O;have T:=cq Q;clear Q;have R:=cq t;clear t;refine callsIn_of_wp_marks func287 ae gI ?_ ae;simp only[ntmps287,zm,kr,r7,reduceAdd,reduceSub,zn,zp,tU,tV,ot,sL];gi_wp2_with (first|(refine⟨gI,?_⟩;gi_at_call 291;refine(r9.2 (aaP _ _ _ T.o)).mono ?_;rintro e w1 ⟨rfl,f,E⟩)|(refine⟨gI,?_⟩;gi_at_call 230;refine(r9.2 (Fk _ _ _ _)).mono ?_;rintro e w' ⟨rfl,rfl⟩));have F:=f.lt;have⟨W0,hW0⟩:=eW (w1.alloc (.cells #[cZ w.heap.size 0] 312));have Y:W0.heap.size=w1.heap.size+1:=by rw[hW0];simp
 have F:W0.cell? ⟨w1.heap.size,0,none⟩=some (cZ w.heap.size 0):=by simp_all
 have q:cu W0 w.heap.size 249 4096 (gF (pW l)):=by rw[hW0];exact f.alloc_old _
 have h:dz w W0:=by rw[hW0];exact E.alloc cw _
 rw[<-hW0];have⟨W1,hW1⟩:=eW (W0.alloc (.cells #[.slice z m.length a] 66));have H:W1.cell? ⟨w1.heap.size+1,0,none⟩=some (.slice z m.length a):=by simp_all
 have Z:W1.heap.size=w1.heap.size+2:=by rw[hW1];simp;omega
 have G:W1.cell? ⟨w1.heap.size,0,none⟩=some (cZ w.heap.size 0):=by simp_all
 have L:cu W1 w.heap.size 249 4096 (gF (pW l)):=by rw[hW1];exact q.alloc_old _
 have k:dz w W1:=by rw[hW1];exact h.alloc cw _
 rw[<-hW1];clear hW0 hW1 q F h f;refine wpIn_rangeFunc_ownF ae cw (gf:=262) (lb:=#[cZ (w1.heap.size+1) 0]) ae gI (enters_of func262 cX ae)
  (Af 4 (w1.heap.size+1) _ m w W1 R.o k H) Kept.trans (Kept.wA cw) (fO _ _) (λ_=>ae)
  (λb W=>(cu W w.heap.size 249 4096 (gF λn=>pW l n&& !Ag b n)/\W.cell? ⟨w1.heap.size,0,none⟩=some (cZ w.heap.size 0))/\dz w W)
  (λ_ _ _=>False)
  (OwnFrom.and (OwnFrom.and (Own.from (NR _ _ _ λb=>gF λn=>pW l n&& !Ag b n) _) (Own.from (λs A B row M V d=>cell_kept M V d) _)) (ownFrom_below (dK _) cw))
  (λ_ _ _ _ _ M _ _=>M)
  ⟨⟨L.congr (λi _=>by simp[gF,Ag]),G⟩,k⟩
  (λx=>{tmps:=#[v,.slice z m.length a,undef,undef,.slice none 0 0,cZ w1.heap.size 0,.int .i64 (x.val:Int),v,cZ w.heap.size 0,.slice z m.length a,.func (.func 262) #[] #[cZ (w1.heap.size+1) 0],.int .i64 (x.val:Int),undef,undef,undef,undef,undef,undef],defers:=[]}) ?assign ?body ?done ?stop
 case assign=>intro F x W K y;gi_wp2;exact y
 case body=>
  rintro F b x W ⟨⟨d,hc⟩,g⟩ _;have F:(x.val:Int)<(4096:Int):=by have:=x.isLt;omega
  have I:=d.cell x.isLt;have U:=d.frozen x.val;simp only[gF] at I;gi_wp2;refine⟨KeepsOthers.setCell _ _ _,Kept.setCell _ (dK _) iG,⟨d.Fl _ false (λj _=>by rw[IE];grind),?_⟩,g.setCell (p:=⟨w.heap.size,x.val,none⟩) (dK _) _⟩;rw[xp (G1 W _ _ _ iG)];exact hc
 case done=>rintro D F W F rfl ⟨⟨d,hc⟩,g⟩ y;have J:cu W w.heap.size 249 4096 (gF (λn=>pW l n&& !pW m n)):=d.congr (λi X=>by simp only[gF];rw[Fm m X]);have C:D<W.heap.size:=(qj.1 y).1;gi_wp2_with ((refine⟨gI,?_⟩;gi_at_call 158;refine(r9.2 (NX _ _ _ J)).mono ?_;rintro e F ⟨r,rfl,N,o⟩));have c:=(o.block D C).trans y;refine⟨by simp,.inl ⟨_,_,ae,run_takeDeferred c,?_⟩⟩;exact⟨_,results_tmp ae _ _ _,r,ae,mT.mono (ownsRow_putObj N _ c ae) g.size,(Below.step g g.size o).trans (belowK_b (w:=w) (dK _) F D _ _ cw c ae ae)⟩
 case stop=>grind
def Xi(v u:cI)(l m:List (Int×Int))(w:cB)(b:eD w v l)(a:eD w u m):
 CP_ 287 #[v,u] w λe w'=>∃r,e=.returned r/\mT w' w.heap.size r (gG (λn=>pW l n&& !pW m n))/\dz w w':=r9.1 (UO v u l m w b a)
def jk(a b:List (Int×Int)):List (Int×Int):=gG λn=>pW a n&& !pW b n
def oy(a b:List (Int×Int)):List km:=if(fS a&&fS b)=true then(jk a b).map (Prod.mk false)++(jk b a).map (Prod.mk true) else []
def RG(a b:List (Int×Int)):(jk a b).length<=4096:=sQ _ _
theorem Km(a b:List (Int×Int)):∀x∈jk a b,ee x.1/\ee x.2:=IA (rD _)
theorem Er{f:dC}{a:Nat}{t:Nat}{b:List cI}(q:e≠f)(h:w.ownsRow base e size v n xs)(j:w.ownsRow base' f a v' t b):v.ownBlock=none∨v.ownBlock≠v'.ownBlock:=by rcases h.2 with⟨rfl,x⟩|⟨g,cap,i,rfl,y,z,A,hc,B,C⟩;exact .inl ae;rcases j.2 with⟨rfl,k⟩|⟨u,c,d,rfl,l,o,p,m,r,s⟩;grind[Value.ownBlock];grind[Value.ownBlock]
theorem kY{w w':cB}{base:Nat}{e:dC}{size:Nat}{v:cI}{n:Nat}{xs:List cI}(h:w.ownsRow base e size v n xs)(a:dz w w'):w'.ownsRow base e size v n xs:=
 h.kept (row:=none) ⟨a.os,a.tape,a.output,a.size,λk b _=>a.block k b⟩ (z6 _)
theorem NY{cap:Nat}(h:mT w base (.slice ao n cap) l)(i:k<l.length):
 ∃b,ao=some ⟨b,0,none⟩/\b<w.heap.size/\w.cell? ⟨b,k*2,none⟩=some (.int .i64 l[k].1)/\w.cell? ⟨b,k*2+1,none⟩=some (.int .i64 l[k].2):=by rcases h.2 with⟨_,j⟩|⟨g,c,e,f,p,q,r,hc,s,t⟩;omega;have a:=f;simp only[kM] at a;obtain⟨rfl,rfl,rfl⟩:=a;have d:w.ownsRow base 141 2 (.slice (s_ g 0) l.length cap) l.length (ir l):=h;have m:=d.cellAt (k*2) cw;have o:=d.cellAt (k*2+1) cw;have⟨h3,h4⟩:=uN l k i;grind
theorem RH(h:mT w base v l):∃ao cap,v=.slice ao l.length cap:=by rcases h.2 with⟨rfl,c⟩|⟨g,a,b,rfl,_⟩<;>grind
theorem BG{a b c:cI}(e:n=w.heap.size):∀j u,[a,b,c][j]?=some u->(w.alloc (.cells #[a,b,c] t)).cell? ((⟨n,0,none⟩:Addr).add j)=some u:=by
 intro j u d;subst e
 match j,d with
 |0,d=>simp_all[Addr.add]
 |1,d=>simp_all[Addr.add]
 |2,d=>simp_all[Addr.add]
 |j+3,d=>simp at d
def Ah(t:Bool)(a b:Int):∀u∈ [Value.bool t,Value.int .i64 a,Value.int .i64 b],u.oneCell'=true:=by intro u c;simp at c;rcases c with rfl|rfl|rfl<;>rfl
theorem Kn(t:Bool)(h:k<C.length):jZ ((C.take (k+1)).map (Prod.mk t))=jZ ((C.take k).map (Prod.mk t))++[.bool t,.int .i64 C[k].1,.int .i64 C[k].2]:=by rw[xf h,mI,ui];rfl
theorem RI{a b:List (Int×Int)}:∀x∈oy a b,ee x.2.1/\ee x.2.2:=by intro x c;unfold oy at c;split at c;rcases fL.1 c with h|h;obtain⟨y,d,rfl⟩:=fM.1 h;grind[Km];obtain⟨y,d,rfl⟩:=fM.1 h;grind[Km];grind
theorem IG{a b:List (Int×Int)}(h:(fS a&&fS b)=false):oy a b=[]:=by grind[oy]
theorem RJ{a b D:List (Int×Int)}(e:fS a=true)(f:fS b=true)(c:C=jk a b)(d:D=jk b a):oy a b=C.map (Prod.mk false)++D.map (Prod.mk true):=by grind[oy]
def aaU(v u:cI)(a b:List (Int×Int))(w:cB)(U:eD w v a)(T:eD w u b):
 CP_ 277 #[v,u] w λe w'=>∃r,e=.returned r/\vR w' r (oy a b)/\dz w w':=by
 have⟨i0,hi,hz0,hz1,hz2⟩:=nB NW;have N:=cq U;clear U;have M:=cq T;clear T;have⟨r,HR⟩:=q8 (fS a);have⟨s,HS⟩:=q8 (fS b);have⟨C,HC⟩:=xm (jk a b);have⟨D,HD⟩:=xm (jk b a);have Z:C.length<=4096:=by rw[HC.o];exact RG a b
 have F:D.length<=4096:=by rw[HD.o];exact RG b a
 have L:Hid (∀x∈oy a b,ee x.2.1/\ee x.2.2):=RI;have A:=fO w.heap.size w;go_enter func277,ntmps277;go_wp2_with fail;refine ah (sS r _ a HR.o _ (N.o.cx A)) λw1 G=>?_;have q:=Below.step A A.size G;cases r with|false=>go_wp2;go_ret;refine⟨_,ae,?_,q⟩;rw[IG (by rw[HR.o,HS.o];rfl)];exact rX _|true=>
 go_wp2_with fail;refine ah (sS s _ b HS.o _ (M.o.cx q)) λF H=>?_;have l:=Below.step q q.size H;cases s with|false=>go_wp2;go_ret;refine⟨_,ae,?_,l⟩;rw[IG (by rw[HR.o,HS.o];rfl)];exact rX _|true=>
 go_wp2_with fail;refine(Xi _ _ a b _ (N.o.cx l) (M.o.cx l)).mono ?_;rw[show(gG λn=>pW a n&& !pW b n)=C from HC.o.symm];rintro e F ⟨z,rfl,g,I⟩;replace g:=mT.mono g l.size;obtain⟨ao,cap,rfl⟩:=RH g;go_wp2_with fail
 go_loopw [5,22] (λx i wr=>∃k:Nat,k<=C.length/\i=.int .i64 k/\wr.ownsRow w.heap.size 334 3 x k (jZ ((C.take k).map (Prod.mk false)))/\mT wr w.heap.size (.slice ao C.length cap) C/\dz w wr)
  (λ_ i _=>C.length-(intOf i).toNat)
 exact⟨0,fN _,ae,kY (kY (kY (gz w w.heap.size 334 3) G) H) I,g,Below.step l l.size I⟩;clear g;obtain⟨k,G,rfl,c,g,hbel⟩:=hrel;have p:=hbel.size;by_cases m:k<C.length
 . obtain⟨V,rfl,Q,X,Y⟩:=NY g m;have t:=cq c.lt;go_wp2_with (first|(at_builtin;refine xq _ ae _ _ 294 ae w.heap.size 334 i0 (.agg #[.bool false,.int .i64 0,.int .i64 0]) 3 24 underlying294 hi hz0 hz1 hz2 ae jR _ _ _ ae ((c.alloc _).alloc _) ⟨wr.heap.size+1,0,none⟩ 1 1 [.bool false,.int .i64 C[k].1,.int .i64 C[k].2] ae ae (BG dU) (Ah _ _ _) akq cw az ?_;intro v' w1 f d _));go_roundw;refine⟨k+1,cw,by go_num,?_,World.ownsRow.kept (Pm (Pm g _) _) d (Er jR g c),((hbel.alloc p _).alloc az _).grown d az (λj h=>(t.o j h).1)⟩;rw[Kn false m];exact f;exact oV
 . have B:k=C.length:=cw;subst B;rw[oT] at c;go_wp2_with fail;refine(Xi _ _ b a _ (M.o.cx hbel) (N.o.cx hbel)).mono ?_;rw[show(gG λn=>pW b n&& !pW a n)=D from HD.o.symm];rintro e F ⟨y,rfl,K,J⟩;have F:=Below.step hbel p J;have o:=kY c J;replace K:=mT.mono K p;obtain⟨O,E,rfl⟩:=RH K;clear c g hbel;go_wp2_with fail
   go_loopw [5,36] (λx i wr=>∃k:Nat,k<=D.length/\i=.int .i64 k/\wr.ownsRow w.heap.size 334 3 x (C.length+k) (jZ (C.map (Prod.mk false))++jZ ((D.take k).map (Prod.mk true)))/\mT wr w.heap.size (.slice O D.length E) D/\dz w wr)
    (λ_ i _=>D.length-(intOf i).toNat)
   exact⟨0,fN _,ae,by simpa[jZ] using o,K,F⟩;clear o K F;obtain⟨k,G,rfl,c,g,hbel⟩:=hrel;have p:=hbel.size;by_cases m:k<D.length
   . obtain⟨V,rfl,Q,X,Y⟩:=NY g m;have t:=cq c.lt;go_wp2_with (first|(at_builtin;refine xq _ ae _ _ 294 ae w.heap.size 334 i0 (.agg #[.bool false,.int .i64 0,.int .i64 0]) 3 24 underlying294 hi hz0 hz1 hz2 ae jR _ _ _ ae ((c.alloc _).alloc _) ⟨wr.heap.size+1,0,none⟩ 1 1 [.bool true,.int .i64 D[k].1,.int .i64 D[k].2] ae ae (BG dU) (Ah _ _ _) akq cw az ?_;intro v' w1 f d _));go_roundw;refine⟨k+1,cw,by go_num,?_,World.ownsRow.kept (Pm (Pm g _) _) d (Er jR g c),((hbel.alloc p _).alloc az _).grown d az (λj h=>(t.o j h).1)⟩;rw[Kn true m,<-wh];exact f;exact oV
   . have B:k=D.length:=cw;subst B;rw[oT,<-ui] at c;have R:Hid (oy a b=C.map (Prod.mk false)++D.map (Prod.mk true)):=RJ HR.o HS.o HC.o HD.o;go_wp2;go_ret;refine⟨_,ae,BF (base:=w.heap.size) (e:=334) ?_ L.o ?_,hbel⟩;rw[R.o,ik,lV,lV];exact c;rw[R.o,ik,lV,lV];omega
def Pn(u:cI)(b:List (Int×Int))(w:cB)(c:eD w u b):
 CP_ 248 #[u] w λe w'=>∃r,e=.returned r/\vR w' r (oy [] b)/\dz w w':=by have d:=cq c;clear c;go_enter func248,ntmps248;go_wp2_with fail;refine ag (aaU _ _ [] b _ (rW _) d.o) λr w1⟨f,a⟩=>?_;go_wp2;go_ret;exact⟨_,ae,f,a⟩
def ph(f:Nat->Bool)(s:Nat)(t:Bool)(k:Nat):Bool:=(range k).any λj=>f (s+j)==t
def xr(f:Nat->Bool)(s:Nat)(t:Bool)(k:Nat):Nat->Bool:=λn=>if s<=n/\n<s+k then t else f n
def pX:(Nat->Bool)->List km->Option (Nat->Bool)
 |f,[]=>some f
 |f,x::r=>if(jC x.2.1 x.2.2&& !ph f x.2.1.toNat x.1 x.2.2.toNat)=true then pX (xr f x.2.1.toNat x.1 x.2.2.toNat) r else none
def sU(l:List (Int×Int))(a:List km):Option (List (Int×Int)):=
 if fS l=true then(pX (qp l) a).map gG else none
theorem Po(f:Nat->Bool)(s:Nat)(t:Bool)(k:Nat):ph f s t (k+1)=(ph f s t k||(f (s+k)==t)):=by grind[ph]
theorem Pp{f:Nat->Bool}{s:Nat}{t:Bool}(h:ph f s t k=true)(a:k<=m):ph f s t m=true:=by grind[ph]
theorem aaV(f:Nat->Bool)(s:Nat)(t:Bool)(k:Nat):xr f s t k (s+k)=f (s+k):=by simp_all[xr]
theorem UP(f:Nat->Bool)(s:Nat)(t:Bool)(n:Nat):xr f s t 0 n=f n:=by simp_all[xr,cM]
theorem UQ(f:Nat->Bool)(s:Nat)(t:Bool)(k n:Nat):xr f s t (k+1) n=if n=s+k then t else xr f s t k n:=by unfold xr;grind
theorem Yx(s l:Int):fS [(s,l)]=jC s l:=by rw[wg];unfold fS;rw[fX];constructor;grind;intro h;have a:=(fm _ _).1 h;exact⟨h,cw,ae⟩
theorem RK{f:Nat->Bool}{x:km}{r:List km}(h:jC x.2.1 x.2.2=false):pX f (x::r)=none:=by grind[pX]
theorem MQ{f:Nat->Bool}{x:km}{r:List km}(h:ph f x.2.1.toNat x.1 x.2.2.toNat=true):pX f (x::r)=none:=by grind[pX]
theorem Fo{f:Nat->Bool}{x:km}{r:List km}(a:jC x.2.1 x.2.2=true)(h:ph f x.2.1.toNat x.1 x.2.2.toNat=false):pX f (x::r)=pX (xr f x.2.1.toNat x.1 x.2.2.toNat) r:=by grind[pX]
def Es(t:Bool)(s l:Int)(i:ee s/\ee l)(w:cB):
 rF 246 #[.agg #[.bool t,.int .i64 s,.int .i64 l]] w (.bool (jC s l)):=by
 have m:=cq i;clear i;have⟨b,hb⟩:=c8 (jC s l);rw[hb];have j:Hid (fS [(s,l)]=b):=(Yx s l).trans hb;clear hb;have⟨W0,hW0⟩:=eW (w.alloc (.cells #[.bool t,.int .i64 s,.int .i64 l] 334));have g:W0.heap.size=w.heap.size+1:=by rw[hW0];simp
 have a:dz w W0:=by rw[hW0];exact aN
 have h:eD (W0.alloc (.cells #[.int .i64 s,.int .i64 l] 141)) (.slice (s_ W0.heap.size 0) 1 1) [(s,l)]:=
  UN W0 [(s,l)] _ _ ae (by simpa using m.o) dU _ _ ae
 have k:=cq h;clear h;go_enter func246,ntmps246;go_wp2_with fail;rw[<-hW0];try rw[<-g]
 have c:=a.alloc a.size (.cells #[.int .i64 s,.int .i64 l] 141);refine ah (sS b _ _ j.o _ k.o) λn f=>?_;have d:=Below.step c c.size f;go_wp2;go_ret;exact⟨ae,d⟩
def UR(o:Option (List (Int×Int))):Int:=if o.isSome=true then 0 else 81
theorem ad9{a:List km}(h:k<a.length):a.drop k=a[k]::a.drop (k+1):=by simp_all
theorem RM(A:fJ)(k:Nat)(b:Bool)(a:k<4096)(h:A[k]?=some (.bool b))(w:cB):
 (Instr.index 248 (.agg A) (.int .i64 k)).run prog w=.ok (.bool b) w:=by simp_all[Instr.index,asIntOf,part]
theorem US(h:fS l=true)(a:n<4096):nA (ox l) n=qp l n:=by rw[IF h];unfold nA;rw[wg,pG,Kj,uf];grind
theorem aaW(h:fS l=true)(a:k<(ox l).length):0<=(ox l)[k]/\(ox l)[k]<4096:=by grind[Kj,IF,getElem_mem,uf]
def JX:(prog.info? 5).map (λi=>(i.zero,i.size,i.bytes))=some (some (.int .u8 0),1,1):=cX
def aaX:(prog.info? 82).map (λi=>(i.zero,i.size,i.bytes))=some (some (.int .u64 0),1,8):=cX
def Ko(w:cB):CP_ 245 #[] w λe w'=>∃b,e=.returned (.slice (some ⟨b,0,none⟩) 3 3)/\dR .i64 w' (.slice (some ⟨b,0,none⟩) 3 3) [1,2,2]/\b=w.heap.size/\dz w w':=by go_enter func245,ntmps245;go_wp2;go_ret;exact⟨_,ae,NT w [1,2,2] _ _ ae jR jR _ _ ae,ae,(fO _ _).alloc (dK _) _⟩
def dh(l:cD):List Int:=l.map λ(n:Nat)=>(n:Int)
theorem cV(l:cD):(dh l).length=l.length:=by grind[dh]
theorem rG(l:cD)(k:Nat)(h:k<(dh l).length):(dh l)[k]=((l[k]'(by grind[cV]):Nat):Int):=getElem_map _
def okW(ws:cD):Bool:=ws.all λw=>decide (1<=w/\w<=8)
def pE(w n:Nat):cD:=(range w).map λk=>n/256^k%256
def j8:cD->cD->cD
 |w::ws,n::ns=>pE w n++j8 ws ns
 |_,_=> []
def fitAll:cD->cD->Bool
 |w::ws,n::ns=>decide (n<256^w)&&fitAll ws ns
 |_,_=>true
def uj(ws ns:cD):Option cD:=if okW ws=true/\ns.length=ws.length/\fitAll ws ns=true then some (j8 ws ns) else none
theorem JY(k:Nat):(2:Int)^(8*k)=((256^k:Nat):Int):=by
 have h:(2:Nat)^(8*k)=256^k:=by rw[Nat.pow_mul]
 grind
theorem fo(w n:Nat):(pE w n).length=w:=by grind[pE]
theorem xt(w n:Nat):∀x∈pE w n,x<256:=by intro x a;unfold pE at a;grind
theorem aaY(w n k:Nat)(h:k<w):(pE w n).take (k+1)=(pE w n).take k++[n/256^k%256]:=by grind[take_succ_eq_append_getElem,pE]
theorem UT(ws ns:cD)(k:Nat)(h:k<ws.length)(b:k<ns.length):
 j8 (ws.take (k+1)) (ns.take (k+1))=j8 (ws.take k) (ns.take k)++pE ws[k] ns[k]:=by induction ws generalizing ns k with|nil=>grind|cons a ws ih=>cases ns with|nil=>grind|cons n ns=>cases k<;>grind[j8]
theorem RN(ws ns:cD)(k:Nat)(h:k<ws.length)(b:k<ns.length):
 fitAll (ws.take (k+1)) (ns.take (k+1))=(fitAll (ws.take k) (ns.take k)&&decide (ns[k]<256^ws[k])):=by induction ws generalizing ns k with|nil=>grind|cons a ws ih=>cases ns with|nil=>grind|cons n ns=>cases k<;>grind[fitAll]
theorem Yy(h:k<ws.length)(b:k<ns.length)(c:¬ns[k]<256^ws[k]):fitAll ws ns=false:=by induction ws generalizing ns k with|nil=>grind|cons a ws ih=>cases ns with|nil=>grind|cons n ns=>unfold fitAll;grind
theorem aaZ(ws:cD)(k:Nat)(h:k<ws.length):okW (ws.take (k+1))=(okW (ws.take k)&&decide (1<=ws[k]/\ws[k]<=8)):=by grind[okW,take_succ_eq_append_getElem]
theorem agb(h:k<ws.length)(a:¬(1<=ws[k]/\ws[k]<=8)):okW ws=false:=by grind[okW,getElem_mem]
theorem Pq(h:okW ws=true)(a:k<ws.length):1<=ws[k]/\ws[k]<=8:=by simp_all[okW]
def ru(ws:cD):Nat:=ws.sum
theorem G4(ws:cD)(k:Nat)(h:k<ws.length):ru (ws.take (k+1))=ru (ws.take k)+ws[k]:=by grind[ru,take_succ_eq_append_getElem]
theorem Pr(ws:cD)(h:okW ws=true):ru ws<=8*ws.length:=by
 induction ws with
 |nil=>simp_all[ru]
 |cons a ws ih=>
  have b:=Pq h (k:=0) dU;have c:okW ws=true:=by simp_all[okW]
  grind[ru]
theorem qP(h:ns.length=ws.length):(j8 ws ns).length=ru ws:=by induction ws generalizing ns with|nil=>rfl|cons a ws ih=>cases ns<;>grind[j8,ru,fo]
theorem vg(ws ns:cD):∀x∈j8 ws ns,x<256:=by induction ws generalizing ns with|nil=>grind[j8]|cons a ws ih=>cases ns<;>grind[j8,xt]
def xu(ws:cD):Int:=if okW ws=true then(ru ws:Nat) else 0
theorem G5(v:cI)(ws:cD)(M:ws.length<=4096)(w:cB)(K:dR .i64 w v (dh ws)):
 CP_ 72 #[v] w λe w'=>e=.returned (.tuple #[.int .i64 (xu ws),.bool (okW ws)])/\w=w':=by
 obtain⟨ao,cap,rfl,p,_,n⟩:=K;have E:=cq n;clear n;rw[cV] at p|-;go_enter func72,ntmps72;go_wp2_with fail
 go_loop [4,6,9] (λs _ i=>∃(k q:Nat),k<=ws.length/\i=.int .i64 k/\s=.int .i64 q/\Hid (q=ru (ws.take k))/\Hid (okW (ws.take k)=true)/\q<=8*k)
  (λ_ _ i=>ws.length-(intOf i).toNat)
 exact⟨0,0,fN _,ae,ae,by simp[Hid,ru],by simp[Hid,okW],cw⟩;obtain⟨k,q,L,rfl,rfl,C,F,N⟩:=hrel;by_cases d:k<ws.length
 . obtain⟨b,o,rfl,I,a⟩:=E.o bJ;have hc:=a k (by rw[cV];exact d);rw[rG] at hc;clear a;have z:=cq (G4 ws k d);have u:=cq (aaZ ws k d);by_cases c:1<=ws[k]/\ws[k]<=8
   . (have f:Hid (okW (ws.take (k+1))=true):=by unfold Hid;rw[u.o,F.o,fQ c];rfl);(have⟨x,hx⟩:=c8 (ws[k]);rw[hx] at hc c;have G:=cq hx;clear hx;have j:Hid (q+x=ru (ws.take (k+1))):=by unfold Hid;rw[z.o,C.o,G.o]);have l:¬(x:Int)<1:=cw;have A:¬(8:Int)<(x:Int):=cw;have m:decide ((x:Int)<1)=false:=iC l;have B:decide ((8:Int)<(x:Int))=false:=iC A;have r:(k:Int)<(ws.length:Int):=cw;go_wp2;go_round;grind;exact oV
   . (have g:=agb d c;have D:xu ws=0:=by unfold xu;rw[g];rfl);have t:=cq g;clear g;have y:=cq D;clear D;have⟨x,hx⟩:=c8 (ws[k]);rw[hx] at hc c;clear hx;have r:(k:Int)<(ws.length:Int):=cw;by_cases H:x<1;have l:(x:Int)<1:=cw;have m:decide ((x:Int)<1)=true:=fQ l;rotate_left;have l:¬(x:Int)<1:=cw;have A:(8:Int)<(x:Int):=cw;have m:decide ((x:Int)<1)=false:=iC l;have B:decide ((8:Int)<(x:Int))=true:=fQ A
     all_goals
      clear c H;go_wp2;refine gE (v:=.tuple #[.int .i64 0,.bool false]) (by simp[results,results72,go_sem]) ae ⟨by rw[y.o,t.o],ae⟩
 . (obtain rfl:k=ws.length:=cw;have f:Hid (okW ws=true):=by grind);(have j:Hid (xu ws=(q:Nat)):=by unfold Hid xu;rw[f.o,cL ae,C.o,oT]);have J:¬(ws.length:Int)<(ws.length:Int):=cw;go_wp2;refine gE (v:=.tuple #[.int .i64 q,.bool true]) (by simp[results,results72,go_sem]) ae ⟨by rw[j.o,f.o],ae⟩
def lS(w:cB)(base:Nat)(v:cI)(l:cD):Prop:=w.ownsRow base 5 1 v l.length (l.map λ(n:Nat)=>Value.int .u8 (n:Int))
def fp{α:Type}(c:Int)(o:Option α):Int:=if o.isSome=true then 0 else c
theorem aea(x q:Nat):(x:Int)/2^(8*q)=((x/256^q:Nat):Int):=by grind[JY]
theorem aa0{x:Nat}(d:1<=y/\y<=8)(b:Bool)(a:decide (x<256^y)=b):((x:Int)/2^(8*y) !=0)= !b:=by rw[JY,show(x:Int)/((256^y:Nat):Int)=((x/256^y:Nat):Int) from(Int.natCast_ediv x (256^y)).symm,<-a];have c:0<256^y:=Nat.pow_pos jR;by_cases h:x<256^y;grind[div_eq_of_lt];rw[iC h];have:0<x/256^y:=div_pos cw c;grind
theorem Fp(v u:cI)(ws ns:cD)(L:ws.length<=4096)(w:cB)(H:dR .i64 w v (dh ws))(I:dR .u64 w u (dh ns)):
 CP_ 73 #[v,u] w λe w'=>∃r,e=.returned (.tuple #[r,.int .i64 (fp 21 (uj ws ns))])/\lS w' w.heap.size r ((uj ws ns).getD [])/\dz w w':=by
 have⟨i0,hi,hz0,hz1',hz2⟩:=nB JX;have K:=cq H;obtain⟨ao,cap,rfl,G,_,F⟩:=H;obtain⟨H,H,rfl,U,N,H⟩:=I;have Y:=cq F;clear F;have I:=cq H;clear H;clear N;rw[cV] at G U;have G:=gz w w.heap.size 5 1;have A:Hid (lS w w.heap.size (.slice none 0 0) []):=G;clear G;rw[cV,cV];rw[cV] at K;by_cases l:okW ws=true
 case neg=>
  have F:okW ws=false:=by simpa using l
  have R:uj ws ns=none:=by unfold uj;grind
  have O:xu ws=0:=by unfold xu;rw[F];rfl
  rw[R];have g:=cq F;clear l F R;have F:=cq O;clear O;go_enter func73,ntmps73;go_wp2_with fail;refine(G5 _ ws L _ K.o).mono ?_;rw[g.o,F.o];rintro e w1 ⟨rfl,rfl⟩;go_wp2;refine gE (v:=.tuple #[.slice none 0 0,.int .i64 21]) (by simp[results,results73,go_sem]) ae ⟨_,ae,A.o,fO _ _⟩
 by_cases j:ns.length=ws.length
 case neg=>
  have R:uj ws ns=none:=by unfold uj;grind
  rw[R];have O:xu ws=(ru ws:Nat):=by unfold xu;rw[l];rfl
  have G:((ns.length:Int)!=(ws.length:Int))=true:=by rw[eO];omega
  have g:=cq l;clear l R j;have F:=cq O;clear O;go_enter func73,ntmps73;go_wp2_with fail;refine(G5 _ ws L _ K.o).mono ?_;rw[g.o,F.o];rintro e w1 ⟨rfl,rfl⟩;go_wp2;refine gE (v:=.tuple #[.slice none 0 0,.int .i64 21]) (by simp[results,results73,go_sem]) ae ⟨_,ae,A.o,fO _ _⟩
 have O:xu ws=(ru ws:Nat):=by unfold xu;rw[l];rfl
 have H:=Pr ws l;have⟨Z,HZ⟩:=q8 (ru ws);rw[HZ.o] at O H;have G:((ns.length:Int)!=(ws.length:Int))=false:=by grind
 have g:=cq l;clear l;have F:=cq O;clear O;have f:=cq j;have⟨PS,HPS⟩:=q8 (uj ws ns);rw[HPS.o];have H:ws.length<=4096:=L;rw[j] at G|-;clear j U;go_enter func73,ntmps73;go_wp2_with fail;refine(G5 _ ws L _ K.o).mono ?_;rw[g.o,F.o];rintro e w1 ⟨rfl,rfl⟩;go_wp2_with fail
 go_loop [8,9,30] (λ_ _ i=>∃k:Nat,k<=ws.length/\i=.int .i64 k/\Hid (fitAll (ws.take k) (ns.take k)=true))
  (λ_ _ i=>ws.length-(intOf i).toNat)
 exact⟨0,fN _,ae,by simp[Hid,fitAll]⟩;obtain⟨k,hk,rfl,H⟩:=hrel;by_cases n:k<ws.length
 . (obtain⟨b,o,rfl,L,c⟩:=Y.o bJ;obtain⟨ub,U,rfl,T,a⟩:=I.o ak1;have hc:=c k (by rw[cV];exact n);have E:=a k (by rw[cV];have:=f.o;omega);rw[rG] at hc E;clear c a;have K:k<ns.length:=by have:=f.o;omega);have D:=Pq g.o n;have V:=cq (RN ws ns k n K);have N:=λh=>Yy (ws:=ws) (ns:=ns) (k:=k) n K h;have⟨x,hx⟩:=c8 (ns[k]);have⟨y,hy⟩:=c8 (ws[k]);rw[hy] at hc D V N;rw[hx] at E V N;have G:=cq N;clear N;have O:(k:Int)<(ws.length:Int):=cw;have⟨bb,hbb⟩:=c8 (decide (x<256^y));have F:=aa0 D bb hbb;have F:=cq hbb;clear hbb;clear hx hy;have N:(8:Int)*(y:Int)<=64:=cw;have N:(0:Int)<=8*(y:Int):=cw;cases bb with|true=>(have N:Hid (fitAll (ws.take (k+1)) (ns.take (k+1))=true):=by unfold Hid;rw[V.o,H.o,F.o];rfl);go_wp2;go_round;grind;exact oV|false=>(have R:PS=none:=by rw[<-HPS.o];unfold uj;rw[cM (by intro h;rw[G.o (xg F.o)] at h;grind)]);have G:=cq R;clear R;go_wp2;refine gE (v:=.tuple #[.slice none 0 0,.int .i64 21]) (by simp[results,results73,go_sem]) ae ⟨_,by rw[G.o];rfl,by rw[G.o];exact A.o,fO _ _⟩
 . (obtain rfl:k=ws.length:=cw;have N:¬(ws.length:Int)<(ws.length:Int):=cw;have F:Hid (fitAll ws ns=true):=by have:=H.o;rw[oT,<-f.o,oT] at this;exact this);(have H:PS=some (j8 ws ns):=by rw[<-HPS.o];unfold uj;rw[cL ⟨g.o,f.o,F.o⟩]);have G:=cq H;clear H;go_wp2_with (refine Kq (o:=⟨some 45,_,_,_,_,_⟩) _ ae _ _ 22 ae w.heap.size 5 i0 (.int .u8 0) 1 nK hi hz0 hz1' .i64 .i64 _ Z ae ae ae bD aI (dK _) ?_;intro R H B);have F:dz w R:=(fO _ _).grown B (dK _) (λk e=>by cases e);have X:Hid (lS R w.heap.size (.slice (s_ w.heap.size 0) 0 Z) (j8 (ws.take 0) (ns.take 0))):=H;clear B H
   go_loopw [10,48] (λv i wr=>∃k:Nat,k<=ws.length/\i=.int .i64 k/\Hid (lS wr w.heap.size v (j8 (ws.take k) (ns.take k)))/\dz w wr)
    (λ_ i _=>ws.length-(intOf i).toNat)
   grind;clear X F;obtain⟨k,hk,rfl,t,hbel⟩:=hrel;by_cases n:k<ws.length
   . (obtain⟨b,o,rfl,L,c⟩:=Y.o bJ;obtain⟨ub,U,rfl,T,a⟩:=I.o ak1;have hc:=(hbel.cell (p:=⟨b,o+k,none⟩) L).trans (c k (by rw[cV];exact n));have E:=(hbel.cell (p:=⟨ub,U+k,none⟩) T).trans (a k (by rw[cV];have:=f.o;omega));rw[rG] at hc E;clear c a;have K:k<ns.length:=by have:=f.o;omega);(have D:=Pq g.o n;have J:=cq (UT ws ns k n K);have⟨x,hx⟩:=c8 (ns[k]);have⟨y,hy⟩:=c8 (ws[k]);rw[hy] at hc D J;rw[hx] at E J;clear hx hy;have Y:(j8 (ws.take k) (ns.take k)).length<=32768:=by rw[qP iG];have F:=Pr (ws.take k) (by unfold okW;rw[qk];intro z F;have:=g.o;unfold okW at this;rw[qk] at this;exact this z (lu F));grind);(have⟨L,hL⟩:=c8 (j8 (ws.take k) (ns.take k));rw[hL] at t J Y;clear hL;have Q:Hid (lS wr w.heap.size u10 (L++(pE y x).take 0)):=by grind);clear t;have O:(k:Int)<(ws.length:Int):=cw;go_wp2_with fail
     go_loopw [10,57] (λv i F=>∃q:Nat,q<=y/\i=.int .i64 q/\Hid (lS F w.heap.size v (L++(pE y x).take q))/\dz w F)
      (λ_ i _=>y-(intOf i).toNat)
     exact⟨0,fN _,ae,Q,hbel⟩;clear Q hbel hc E;obtain⟨q,F,rfl,t,hbel⟩:=hrel;have F:=hbel.size;by_cases F:q<y
     . (have H:(q:Int)<(y:Int):=cw;have I:=aea x q;have H:=cq (aaY y x q F);have⟨d,hd⟩:=c8 (x/256^q);rw[hd] at I H;clear hd;have F:(L++(pE y x).take q).length<=32776:=by rw[ik,kL,fo];omega);have s:=t.o;unfold lS at s;have⟨M,HM⟩:=q8 (L++(pE y x).take q);rw[HM.o] at s F;clear t;have F:=cq s.lt;have I:(8:Int)*(q:Int)<=64:=cw;have I:(0:Int)<=8*(q:Int):=cw;go_wp2_with (at_builtin;refine xq _ ae (.tmp 60) (.tmp 66) 22 ae w.heap.size 5 i0 (.int .u8 0) 1 1 nK hi hz0 hz1' hz2 ae jR _ _ _ ae (s.alloc _) ⟨wr.heap.size,0,none⟩ 1 1 [.int .u8 ((d:Int)%256)] ae ae (cell_one_new _ _ _) a8 aI cw az ?_;intro v' O I C _);(have K:=(hbel.alloc cw (.cells #[.int .u8 ((d:Int)%256)] 5)).grown C az (λk h=>(F.o k h).1);have m:Hid (lS O w.heap.size v' (L++(pE y x).take (q+1))):=by unfold Hid lS;rw[H.o,<-wh,HM.o,ik,mI];exact I);clear I C s;go_roundw;exact⟨q+1,cw,by go_num,m,K⟩;exact oV
     . (obtain rfl:q=y:=cw;have N:¬(q:Int)<(q:Int):=cw;have m:Hid (lS wr w.heap.size u10 (j8 (ws.take (k+1)) (ns.take (k+1)))):=by unfold Hid;rw[J.o];have:=t.o;rw[nz (by rw[fo];exact dK _)] at this;exact this);go_wp2;go_roundw;exact⟨k+1,cw,by go_num,m,hbel⟩;exact oV
   . (obtain rfl:k=ws.length:=cw;have N:¬(ws.length:Int)<(ws.length:Int):=cw;have m:Hid (lS wr w.heap.size u10 ((PS).getD [])):=by unfold Hid;rw[G.o];have:=t.o;rw[oT,<-f.o,oT] at this;exact this);(have F:Hid (fp 21 PS=0):=by unfold Hid;rw[G.o];rfl);go_wp2;refine gE (v:=.tuple #[u10,.int .i64 0]) (by simp[results,results73,go_sem]) ae ⟨_,by rw[F.o],m.o,hbel⟩
def yr(v:cI):Prop:=∃a n c,v=.slice a n c/\n<=c
def G6:yr (.slice none 0 0):=⟨_,_,_,ae,dK _⟩
def UU(h:w.ownsRow base e size v n xs):yr v:=by rcases h.2 with⟨rfl,b⟩|⟨g,cap,a,rfl,c,d,f,hc,i,j⟩;exact G6;exact⟨_,_,_,ae,cw⟩
theorem aa1:prog.underlying 22=some (.slice (prog.elem 22)):=cX
theorem agc(W:cB):(sizeOf (prog.elem 22)).run prog W=.ok 1 W:=by rfl
def kx(a:Option Addr)(c y s:Nat):Option Addr:=if c=y then a else a.map (·.add (y*s))
theorem agd(a:Option Addr)(n c y:Nat)(b:y<=n)(W:cB):(Instr.slice 22 (.slice a n c) (some (.int .i64 y)) none none).run prog W=.ok (.slice (kx a c y 1) (n-y) (c-y)) W:=by grind[run_slice_l,aa1,agc,Result.andThen,sliced,kx]
theorem IH(b o c y s:Nat)(h:y<c):kx (some ⟨b,o,none⟩) c y s=some ⟨b,o+y*s,none⟩:=by unfold kx;rw[cM cw,Kb];grind[Addr.add]
theorem Ps(b o c q:Nat):kx (some ⟨b,o,none⟩) c q 1=if c=q then some ⟨b,o,none⟩ else some ⟨b,o+q,none⟩:=by by_cases h:c=q;simp_all[kx];simp_all[kx,Addr.add]
theorem Ai{k:IntKind}{l:List Int}(h:dR k w (.slice a n c) l)(m:y<=n)(hc:n<=c):dR k w (.slice (kx a c y 1) (n-y) (c-y)) (l.drop y):=by
 have⟨ao,cap,h1,h2,h3,h4⟩:=h;simp only[kM] at h1;obtain⟨rfl,rfl,rfl⟩:=h1;refine⟨_,_,by rw[r8],by grind,λx f=>h3 x (mR f),λe=>?_⟩;have g:y<l.length:=by grind
 obtain⟨b,o,rfl,d,h6⟩:=h4 iG;refine⟨b,o+y,by rw[IH b o c y 1 cw,q7],d,λj i=>?_⟩;grind
theorem UW{k:IntKind}{l:List Int}(h:dR k w (.slice a n c) l)(f:y<=n):dR k w (.slice a y c) (l.take y):=by have⟨ao,cap,h1,h2,h3,h4⟩:=h;simp only[kM] at h1;obtain⟨rfl,rfl,rfl⟩:=h1;refine⟨_,_,by rw[kL,tW f],by grind,λx e=>h3 x (lu e),λd=>?_⟩;obtain⟨b,o,rfl,g,h6⟩:=h4 iG;grind
def iH:cD->Nat
 | []=>0
 |b::bs=>b+256*iH bs
def nZ:cD->cD->cD
 |w::ws,bs=>iH (bs.take w)::nZ ws (bs.drop w)
 | [],_=> []
def qQ(ws bs:cD):Option cD:=if okW ws=true/\bs.length=ru ws then some (nZ ws bs) else none
theorem UX(l:cD)(b:Nat):iH (l++[b])=iH l+b*256^l.length:=by induction l<;>grind[iH]
theorem Kr(l:cD)(h:∀x∈l,x<256):iH l<256^l.length:=by induction l with|nil=>simp[iH]|cons a l ih=>have b:=h a dU;grind[iH]
theorem ahI(n b q:Nat)(f:n<256^q)(e:b<256)(h:q<8):bits .or .u64 (n:Int) ((b:Int)*2^(8*q))=((n+b*256^q:Nat):Int):=by
 have g:256^q*256<=256^8:=by rw[<-Nat.pow_succ];exact Pc jR cw
 have a:b*256^q<=255*256^q:=GQ _ cw;have d:(256:Nat)^8=18446744073709551616:=by decide
 rw[JY,<-Int.natCast_mul,u64_or_nat n (b*256^q) cw cw];have c:=shiftLeft_add_eq_or_of_lt (b:=n) (i:=8*q) (by grind[Nat.pow_mul]) b;grind[shiftLeft_eq,Nat.pow_mul]
theorem aeb(n b q:Nat)(e:n<256^q)(d:b<256)(g:q<8):bits .or .u64 (n:Int) (IntKind.u64.wrap ((b:Int)*2^(8*q)))=((n+b*256^q:Nat):Int):=by
 have f:256^q*256<=256^8:=by rw[<-Nat.pow_succ];exact Pc jR cw
 have a:b*256^q<=255*256^q:=GQ _ cw;have c:(256:Nat)^8=18446744073709551616:=by decide
 have h:IntKind.u64.wrap ((b:Int)*2^(8*q))=(b:Int)*2^(8*q):=by rw[JY,<-Int.natCast_mul];show(((b*256^q:Nat):Int))%18446744073709551616=_;omega
 grind[ahI]
def JC(w:cB)(base:Nat)(v:cI)(l:cD):Prop:=w.ownsRow base 82 1 v l.length (l.map λ(n:Nat)=>Value.int .u64 (n:Int))
theorem Aj(l:cD)(k:Nat):(dh l).drop k=dh (l.drop k):=by grind[dh,map_drop]
theorem Ak{l:cD}(h:∀x∈dh l,(Lit.int .u8 x).wf=true):∀x∈l,x<256:=by intro x a;have:=h (x:Int) (fM.2 ⟨x,a,ae⟩);grind[Lit.wf,IntKind.max,IntKind.bits]
theorem RO(ws bs:cD)(k:Nat)(h:k<ws.length):nZ (ws.take (k+1)) bs=nZ (ws.take k) bs++[iH ((bs.drop (ru (ws.take k))).take ws[k])]:=by induction ws generalizing bs k with|nil=>grind|cons a ws ih=>cases k<;>grind[nZ,ru,drop_drop]
theorem MR(ws bs:cD):(nZ ws bs).length=ws.length:=by induction ws generalizing bs<;>grind[nZ]
theorem RQ(ws:cD)(k:Nat)(h:k<ws.length):ru (ws.take k)+ws[k]<=ru ws:=by rw[<-G4 ws k h];grind[ru,take_append_drop]
def II(v u:cI)(ws bs:cD)(hl:ws.length<=4096)(w:cB)(hv:dR .i64 w v (dh ws))(hu:dR .u8 w u (dh bs))(m:yr u):
 CP_ 29 #[v,u] w λe w'=>∃r,e=.returned (.tuple #[r,.int .i64 (fp 21 (qQ ws bs))])/\JC w' w.heap.size r ((qQ ws bs).getD [])/\dz w w':=by
 have⟨i0,hi,hz0,hz1',hz2⟩:=nB aaX;have HV:=cq hv;have HU:=cq hu;obtain⟨ao,cap,rfl,b5,_,b2⟩:=hv;obtain⟨uo,T,rfl,b9,b8,_⟩:=hu;have⟨a',n',c',he,m⟩:=m;simp only[kM] at he;obtain⟨rfl,rfl,rfl⟩:=he;have b1:=Ak b8;have c2:=cq b1;clear b1 b8;have HC:=cq b2;clear b2;rw[cV] at b5 b9 HV HU m;have I:Hid (JC w w.heap.size (.slice none 0 0) []):=gz w w.heap.size 82 1;rw[cV,cV];by_cases g:okW ws=true
 case neg=>
  have C:okW ws=false:=by simpa using g
  have hp:qQ ws bs=none:=by unfold qQ;rw[cM (by rw[C];simp)]
  have R:xu ws=0:=by unfold xu;rw[C];rfl
  rw[hp];have E:=cq C;clear g C hp;have HR:=cq R;clear R;go_enter func29,ntmps29;go_wp2_with fail;refine(G5 _ ws hl _ HV.o).mono ?_;rw[E.o,HR.o];rintro e w1 ⟨rfl,rfl⟩;go_wp2;refine gE (v:=.tuple #[.slice none 0 0,.int .i64 21]) (by simp[results,results29,go_sem]) ae ⟨_,ae,I.o,fO _ _⟩
 have R:xu ws=(ru ws:Nat):=by unfold xu;rw[g];rfl
 have b7:=Pr ws g;have⟨Z,hZ⟩:=c8 (ru ws);rw[hZ] at R b7;by_cases f:bs.length=Z
 case neg=>
  have hp:qQ ws bs=none:=by unfold qQ;rw[cM (λh=>f (h.2.trans hZ))]
  rw[hp];have d8:((bs.length:Int)!=(Z:Int))=true:=by rw[eO];omega
  have E:=cq g;clear g hp f hZ;have HR:=cq R;clear R;go_enter func29,ntmps29;go_wp2_with fail;refine(G5 _ ws hl _ HV.o).mono ?_;rw[E.o,HR.o];rintro e w1 ⟨rfl,rfl⟩;go_wp2;refine gE (v:=.tuple #[.slice none 0 0,.int .i64 21]) (by simp[results,results29,go_sem]) ae ⟨_,ae,I.o,fO _ _⟩
 have d8:((bs.length:Int)!=(Z:Int))=false:=by rw[tX];omega
 have⟨PS,hPS⟩:=c8 (qQ ws bs);rw[hPS];have hP:PS=some (nZ ws bs):=by rw[<-hPS];unfold qQ;rw[cL ⟨g,f.trans hZ.symm⟩]
 have HP:=cq hP;clear hP hPS;have HZ:=cq hZ;clear hZ;have E:=cq g;clear g;have HR:=cq R;clear R;have c5:=cq f;clear f;go_enter func29,ntmps29;go_wp2_with fail;refine(G5 _ ws hl _ HV.o).mono ?_;rw[E.o,HR.o];rintro e w1 ⟨rfl,rfl⟩;go_wp2_with (refine Kq (o:=⟨some 28,_,_,_,_,_⟩) _ ae _ _ 78 ae w.heap.size 82 i0 (.int .u64 0) 1 uk hi hz0 hz1' .i64 .i64 _ ws.length ae ae ae bD aI (dK _) ?_;intro w2 N t);have a8:dz w w2:=(fO _ _).grown t (dK _) (λk e=>by cases e);have J:Hid (JC w2 w.heap.size (.slice (s_ w.heap.size 0) 0 ws.length) (nZ (ws.take 0) bs)):=N;have a5:Hid (dR .u8 w (.slice uo bs.length T) (dh (bs.drop (ru (ws.take 0))))):=HU.o;clear t N
 go_loopw [1,8,31] (λu v i wr=>∃(k s n c:Nat)(a:Option Addr),k<=ws.length/\i=.int .i64 k/\u=.slice a n c/\n<=c/\n+s=bs.length/\Hid (s=ru (ws.take k))/\Hid (dR .u8 w (.slice a n c) (dh (bs.drop s)))/\Hid (JC wr w.heap.size v (nZ (ws.take k) bs))/\dz w wr)
  (λ_ _ i _=>ws.length-(intOf i).toNat)
 exact⟨0,0,bs.length,T,uo,fN _,ae,ae,m,cw,by simp[Hid,ru],a5,J,a8⟩;clear J a8 a5;obtain⟨k,s,n,c,a,hk,rfl,rfl,d7,f1,HS,X,U,hbel⟩:=hrel;by_cases L:k<ws.length
 . (obtain⟨b,o,rfl,d3,K⟩:=HC.o bJ;have hc:=(hbel.cell (p:=⟨b,o+k,none⟩) d3).trans (K k (by rw[cV];exact L));rw[rG] at hc;clear K;have b6:=Pq E.o L;have d9:=RQ ws k L;have G:=cq (RO ws bs k L);have V:=cq (G4 ws k L);have⟨y,hy⟩:=c8 (ws[k]);rw[hy,<-HS.o,HZ.o,<-c5.o] at d9;rw[hy] at hc b6 G V;clear hy;rw[<-HS.o] at G V;have e1:y<=n:=cw;have⟨B,HBB⟩:=q8 (bs.drop s);have a7:B.length=n:=by rw[<-HBB.o,r8];omega);(have F:Hid (∀x∈B,x<256):=by unfold Hid;rw[<-HBB.o];exact λx hx=>c2.o x (mR hx));rw[HBB.o] at X G;have a4:=cq a7;clear a7;obtain⟨e8,e3,b4,-,-,d2⟩:=X.o.cx hbel;simp only[kM] at b4;obtain⟨d4,-,-⟩:=b4;subst d4;obtain⟨ub,c1,rfl,e7,D⟩:=d2 (by intro h;rw[<-Bx,cV,a4.o] at h;omega);have c4:=cq D;clear D;have e4:(k:Int)<(ws.length:Int):=cw;go_wp2_with fail;go_loop [11,36] (λv j=>∃(q z:Nat),q<=y/\j=.int .i64 q/\v=.int .u64 z/\Hid (z=iH (B.take q))) (λ_ j=>y-(intOf j).toNat);exact⟨0,0,fN _,ae,ae,by simp[Hid,iH]⟩;obtain⟨q,z,hq,rfl,rfl,Y⟩:=hrel;by_cases f3:q<y
   . (have a2:q<B.length:=by have:=a4.o;omega);(have b3:=c4.o q (by rw[cV];exact a2);rw[rG] at b3;have hd:=F.o _ (lU a2);have e2:z<256^q:=by have h1:=Kr (B.take q) (λx hx=>F.o x (lu hx));rw[kL,tW cw,<-Y.o] at h1;exact h1);(have a1:=aeb z B[q] q e2 hd cw;have a3:iH (B.take (q+1))=z+B[q]*256^q:=by rw[xf a2,UX,<-Y.o,kL,tW cw]);have⟨d,hdd⟩:=c8 (B[q]);rw[hdd] at b3 hd a1 a3;have d1:=cq a3;clear a3 hdd;have c7:=cq a1;clear a1;have e5:(q:Int)<(y:Int):=cw;have h8:(8:Int)*(q:Int)<=64:=cw;have e9:(0:Int)<=8*(q:Int):=cw;go_wp2;go_round;exact⟨q+1,z+d*256^q,cw,by go_num,by rw[c7.o],d1.o.symm⟩;exact oV
   . (obtain rfl:q=y:=cw;have d5:¬(q:Int)<(q:Int):=cw;have l:=U.o;unfold JC at l;have d6:(nZ (ws.take k) bs).length=k:=by rw[MR,kL,tW cw]);have⟨M,HM⟩:=q8 (nZ (ws.take k) bs);rw[HM.o] at l d6 G;clear U;have c6:=cq l.lt;have f5:=hbel.size;have Q:=cq (Ai X.o e1 d7);rw[Ps] at Q;have f4:(q:Int)<=(n:Int):=cw;have f2:(0:Int)<=(q:Int):=cw;go_wp2_with (at_builtin;refine xq _ ae (.tmp 50) (.tmp 52) 78 ae w.heap.size 82 i0 (.int .u64 0) 1 8 uk hi hz0 hz1' hz2 ae jR _ _ _ ae (l.alloc _) ⟨wr.heap.size,0,none⟩ 1 1 [.int .u64 (z:Int)] ae ae (cell_one_new _ _ _) a8 aI cw az ?_;intro v' w3 O A _);(have a9:=(hbel.alloc cw (.cells #[.int .u64 (z:Int)] 82)).grown A az (λk h=>(c6.o k h).1);have e6:=a9.size;have H:Hid (JC w3 w.heap.size v' (nZ (ws.take (k+1)) bs)):=by unfold Hid JC;rw[G.o,<-Y.o,ik,mI];exact O);(have a6:Hid (dR .u8 w (.slice (if c=q then some ⟨ub,c1,none⟩ else some ⟨ub,c1+q,none⟩) (n-q) (c-q)) (dh (bs.drop (s+q)))):=by have h:=Q.o;rw[Aj,<-HBB.o,drop_drop] at h;exact h);(have c9:Hid (s+q=ru (ws.take (k+1))):=by unfold Hid;rw[V.o]);clear O A l;go_roundw;exact⟨k+1,s+q,n-q,c-q,_,cw,by go_num,ae,cw,by omega,c9,a6,H,a9⟩;exact oV
 . (obtain rfl:k=ws.length:=cw;have d5:¬(ws.length:Int)<(ws.length:Int):=cw;have H:Hid (JC wr w.heap.size u8 (PS.getD [])):=by unfold Hid;rw[HP.o];have:=U.o;rw[oT] at this;exact this);(have c3:Hid (fp 21 PS=0):=by unfold Hid;rw[HP.o];rfl);go_wp2;refine gE (v:=.tuple #[u8,.int .i64 0]) (by simp[results,results29,go_sem]) ae ⟨_,by rw[c3.o],H.o,hbel⟩
theorem UY(a b:Nat)(c:a<4611686018427387904)(d:b<4611686018427387904):bits .or .i64 (a:Int) (b:Int)=((a|||b:Nat):Int):=by
 have e:a|||b<2^62:=or_lt_two_pow cw cw;show IntKind.i64.wrap ((BitVec.ofInt 64 (a:Int)|||BitVec.ofInt 64 (b:Int)).toNat:Int)=_
 grind[IntWalk.i64_in]
theorem age(a b:Nat)(d:a<256)(e:b<256):bits .or .i64 (a:Int) ((b:Int)*256)=((a+256*b:Nat):Int):=by have h:=UY a (b*256) cw cw;rw[show((b*256:Nat):Int)=(b:Int)*256 from by omega] at h;rw[h];have c:=shiftLeft_add_eq_or_of_lt (b:=a) (i:=8) cw b;rw[shiftLeft_eq,show(2:Nat)^8=256 from ae] at c;grind
def NZ(u:cI)(bs:cD)(d:bs.length<2)(w:cB)(b:dR .u8 w u (dh bs)):
 CP_ 71 #[u] w λe w'=>e=.returned (.tuple #[.int .i64 0,.slice none 0 0,.bool false])/\w=w':=by obtain⟨f,a,rfl,-,-,-⟩:=b;rw[cV];have c:(bs.length:Int)<2:=cw;go_enter func71,ntmps71;go_wp2;refine gE (v:=.tuple #[.int .i64 0,.slice none 0 0,.bool false]) (by simp[results,results71,go_sem]) ae ⟨ae,ae⟩
def Ks(u:cI)(a b:Nat)(bs:cD)(q w:cB)(A:dz q w)(j:dR .u8 q u (dh (a::b::bs)))(c:yr u):
 CP_ 71 #[u] w λe w'=>∃v,e=.returned (.tuple #[.int .i64 ((a+256*b:Nat):Int),v,.bool true])/\dR .u8 q v (dh bs)/\yr v/\dz w w':=by
 have p:=cq j;have E:=j.cx A;clear j A;obtain⟨J,g,rfl,-,x,hc⟩:=E;obtain⟨F,I,G,t,c⟩:=c;simp only[kM] at t;obtain⟨rfl,rfl,rfl⟩:=t;have i:=Ak x;have C:=i a dU;have D:=i b dU;clear i x;obtain⟨ub,m,rfl,z,d⟩:=hc (by simp[dh]);have r:=d 0 (by rw[cV];simp);have s:=d 1 (by rw[cV];simp);rw[rG] at r s;simp only[getElem_cons_zero,getElem_cons_succ,wi] at r s;clear d hc;rw[cV] at p c|-;have f:(a::b::bs).length=bs.length+2:=rfl;rw[f] at p c|-;clear f;have n:=cq (Ai p.o (y:=2) cw c);rw[Ps] at n;have H:¬((bs.length:Int)+2<2):=cw;have l:=age a b C D;have o:=cq l;clear l;go_enter func71,ntmps71
 go_wp2_with fail
 go_quiet (fail)
 rw[o.o];obtain⟨B,k⟩:=c8 ((if g=2 then some ⟨ub,m,none⟩ else some ⟨ub,m+2,none⟩:Option Addr));rw[k] at n|-;clear k;go_wp2;refine gE (v:=.tuple #[.int .i64 ((a+256*b:Nat):Int),.slice B bs.length (g-2),.bool true]) (by simp[results,results71,go_sem]) ae ⟨_,ae,?_,⟨_,_,_,ae,cw⟩,?_⟩
 . have h:=n.o;rw[Aj] at h;exact h
 . exact below_drewN (fO _ _) _
def aa3:(prog.info? 22).map (λi=>(i.zero,i.size,i.bytes))=some (some (.slice none 0 0),1,24):=cX
def JD(w:cB)(base:Nat)(v:cI)(ts:List cD):Prop:=
 ∃vs:List cI,vs.length=ts.length/\w.ownsRow base 22 1 v ts.length vs/\∀k(h:k<vs.length)(a:k<ts.length),lS w base vs[k] ts[k]/\ts[k].length<=65535
def BH(w:cB)(base:Nat):JD w base (.slice none 0 0) []:=⟨[],ae,gz w base 22 1,λk h=>absurd h (u' _)⟩
theorem Kt{w w':cB}{base:Nat}{v:cI}{l:cD}(h:lS w base v l)(a:dz w w'):lS w' base v l:=kY h a
def Yz{l:cD}(h:lS w base v l)(a:base'<=base):lS w base' v l:=
 ⟨h.1,h.2.imp id λ⟨g,cap,cur,h1,h2,r⟩=>⟨g,cap,cur,h1,gO a h2,r⟩⟩
theorem Et(h:JD w base v ts)(a:dz w w'):JD w' base v ts:=by grind[kY,Kt,JD]
theorem YA{x:cI}{t:cD}(c:vs.length=ts.length)(d:w.ownsRow base 22 1 v ts.length vs)(g:∀k(h:k<vs.length)(f:k<ts.length),lS w base vs[k] ts[k]/\ts[k].length<=65535)(n:lS w base x t)(m:t.length<=65535)(e:w.grownBy w' v.ownBlock)(j:w'.ownsRow base 22 1 v' (ts.length+1) (vs++[x])):JD w' base v' (ts++[t]):=by have i:∀{y:cI}{l:cD},lS w base y l->lS w' base y l:=fun {y l} hy=>World.ownsRow.kept hy e (Er jR hy d);refine⟨vs++[x],by simp[c],by grind,λk a b=>?_⟩;grind
def DE:cD->Option (cD×cD)
 |a::b::r=>if a+256*b<=r.length then some (r.take (a+256*b),r.drop (a+256*b)) else none
 |_=>none
def pq:Nat->cD->Option (List cD×cD)
 |0,r=>some ([],r)
 |k+1,r=>match pq k r with
  |some (ts,q)=>match DE q with
   |some (t,q')=>some (ts++[t],q')
   |none=>none
  |none=>none
def um:cD->Option (List cD)
 |a::b::r=>match pq (a+256*b) r with
  |some (ts,[])=>some ts
  |_=>none
 |_=>none
theorem RR(h:pq k r=none)(a:k<=m):pq m r=none:=by induction m with|zero=>grind|succ m ih=>grind[pq]
theorem UZ(h:pq k r=some (ts,q)):ts.length=k/\q.length<=r.length:=by
 induction k generalizing ts q with
 |zero=>unfold pq at h;grind
 |succ k ih=>
  unfold pq at h;split at h;next ts' q' h'=>split at h;(next t q2 ht=>cases h;have:=ih h';refine⟨by grind,?_⟩;unfold DE at ht;grind);cases h
  cases h
theorem U0(n:Nat):madeCells (Value.int .u8 0).cells n=(replicate n (.int .u8 0:cI)).toArray:=by apply xb;intro j;by_cases h:j<n<;>simp[madeCells,Value.cells,mod_one,h]
theorem U1(n:Nat)(a:n<=281474976710656)(W:cB):(Instr.makeSlice 22 (.int .i64 n) (.int .i64 n)).run prog W=.ok (.slice (some ⟨W.heap.size,0,none⟩) n n) (W.alloc (.cells (replicate n (.int .u8 0:cI)).toArray 5)):=by have⟨i0,hi,hz0,hz1,hz2⟩:=nB JX;rw[run_make W 22 5 i0 (.int .u8 0) nK hi hz0 .i64 .i64 (n:Nat) (n:Nat) cw cw iG cw,hz1];simp_all[U0]
theorem RS{l:cD}(b:w.heap[g]?=some (.cells cs.toArray 5 (0,0)))(a:base<=g)(hc:cs=l.map λ(x:Nat)=>Value.int .u8 (x:Int))(c:l.length=n)(d:n<=9223372036854775807):lS w base (.slice (some ⟨g,0,none⟩) n n) l:=by subst c hc;refine⟨by simp,.inr ⟨g,_,_,ae,a,b,dK _,by grind[maxLen],by simp,by simp_all[nz]⟩⟩
def Xj{a:Act}(o:Oper)(h:wpList P ops Q (o::rest) a w):wpList P ops Q (o::rest) a w:=h
def Ba:(prog.info? 5).map (·.size)=some 1:=cX
def dH(l:cD):List cI:=l.map λ(x:Nat)=>Value.int .u8 (x:Int)
def Eu(l:cD):∀v∈dH l,v.oneCell'=true:=by intro v a;obtain⟨x,_,rfl⟩:=fM.1 a;rfl
theorem N0(i:dz w w')(h:dh r≠ []->∃b o,a=some ⟨b,o,none⟩/\b<w.heap.size/\∀k(h:k<(dh r).length),w.cell? ⟨b,o+k,none⟩=some (.int .u8 (dh r)[k]))(d:0<(dH (r.take n)).length):∃ad,a=some ad/\∀j v,(dH (r.take n))[j]?=some v->w'.cell? (ad.add j)=some v:=by
 unfold dH at d;rw[lV,kL] at d;obtain⟨b,o,rfl,f,g⟩:=h (by grind[cV]);refine⟨_,ae,λj v c=>?_⟩;unfold dH at c;rw[ql] at c;obtain⟨x,l,rfl⟩:=yP.1 c;have⟨hjl,hxe⟩:=mQ.1 l;rw[kL] at hjl;have hc:=g j (by grind[cV]);rw[rG] at hc;rw[getElem_take] at hxe;rw[hxe] at hc;have e:(⟨b,o,none⟩:Addr).add j=⟨b,o+j,none⟩:=by grind[Addr.add]
 rw[e];exact(i.cell (p:=⟨b,o+j,none⟩) f).trans hc
theorem RT(h:q.length<2):DE q=none:=by unfold DE;grind
theorem N3(u:cI)(bs:cD)(K:bs.length<=140737488355328)(w:cB)(I:dR .u8 w u (dh bs))(G:yr u):
 CP_ 28 #[u] w λe w'=>∃r,e=.returned (.tuple #[r,.int .i64 (fp 21 (um bs))])/\JD w' w.heap.size r ((um bs).getD [])/\dz w w':=by
 have⟨i0,hi,hz0,hz1',hz2⟩:=nB aa3;have N:=cq I;have F:Hid (JD w w.heap.size (.slice none 0 0) []):=BH w w.heap.size;by_cases c:bs.length<2
 . (have H:um bs=none:=by unfold um;split;simp at c;omega;rfl);rw[H];have hc:fp 21 (none:Option (List cD))=21:=rfl;rw[hc];obtain⟨O,H,rfl,-,-,-⟩:=I;go_enter func28,ntmps28;go_wp2_with fail;refine(NZ _ bs c _ N.o).mono ?_;rintro e w1 ⟨rfl,rfl⟩;go_wp2;refine gE (v:=.tuple #[.slice none 0 0,.int .i64 21]) (by simp[results,results28,go_sem]) ae ⟨_,ae,F.o,fO _ _⟩
 obtain⟨a,b,R,rfl⟩:∃a b R,bs=a::b::R:=by
  match bs,c with
  | [],h=>simp at h
  | [_],h=>simp at h
  |a::b::R,_=>exact⟨a,b,R,ae⟩
 have F:=Ak (l:=a::b::R) (by obtain⟨_,_,_,_,h,_⟩:=I;exact h);have L:=F a dU;have L:=F b dU;have F:R.length<=140737488355328:=by simp at K;omega
 have⟨M,hM⟩:=c8 (a+256*b);have F:M<=65535:=cw;have⟨PS,hPS⟩:=c8 (um (a::b::R));have F:PS=(match pq M R with|some (ts,[])=>some ts|_=>none):=by rw[<-hPS,<-hM];rfl
 rw[hPS];have L:=cq F;clear F;have F:=cq hM;clear hM;obtain⟨O,H,rfl,-,-,-⟩:=I;go_enter func28,ntmps28;go_wp2_with fail;refine(Ks _ a b R w _ (fO _ _) N.o G).mono ?_;rw[F.o];rintro e w1 ⟨F,rfl,G,F,I⟩;have H:=cq G;clear G;have G:=cq F;clear F;have F:Hid (JD w1 w.heap.size (.slice none 0 0) []):=BH w1 w.heap.size;go_wp2_with fail
 go_loopw [0,6,20] (λs v i wr=>∃(k:Nat)(ts:List cD)(q:cD),k<=M/\i=.int .i64 k/\Hid (pq k R=some (ts,q))/\Hid (dR .u8 w s (dh q))/\Hid (yr s)/\Hid (JD wr w.heap.size v ts)/\dz w wr)
  (λ_ _ i _=>M-(intOf i).toNat)
 exact⟨0,[],R,fN _,ae,ae,H,G,F,I⟩;obtain⟨k,ts,q,F,rfl,t,HQ,H,HT,hbel⟩:=hrel;have⟨htl,hql⟩:=UZ t.o;have I:=hbel.size;by_cases F:k<M
 . (have F:(k:Int)<(M:Int):=cw;have o:Hid (DE q=none->PS=none):=by intro h;rw[L.o,RR (k:=k+1) (by unfold pq;rw[t.o];simp only;rw[h]) cw]);by_cases U:q.length<2
   . have A:PS=none:=o.o (RT U);have p:=cq A;clear A;go_wp2_with fail;refine(NZ _ q U _ (HQ.o.cx hbel)).mono ?_;rintro e m ⟨rfl,rfl⟩;go_wp2;refine gE (v:=.tuple #[.slice none 0 0,.int .i64 21]) (by simp[results,results28,go_sem]) ae ⟨_,by rw[p.o];rfl,by rw[p.o];exact BH _ _,hbel⟩
   obtain⟨x,y,r,rfl⟩:∃x y r,q=x::y::r:=by
    match q,U with
    | [],h=>simp at h
    | [_],h=>simp at h
    |x::y::r,_=>exact⟨x,y,r,ae⟩
   (have F:=Ak (l:=x::y::r) (by obtain⟨_,_,_,_,h,_⟩:=HQ.o;exact h);have G:=F x dU;have G:=F y dU;have F:r.length<=R.length:=by simp at hql;omega);(have⟨n,hn⟩:=c8 (x+256*y);have F:n<=65535:=cw;have G:DE (x::y::r)=if n<=r.length then some (r.take n,r.drop n) else none:=by rw[<-hn];rfl);have K:=cq hn;clear hn;have F:=cq G;clear G;go_wp2_with fail;refine(Ks _ x y r w _ hbel HQ.o H.o).mono ?_;rw[K.o];rintro e m ⟨G,rfl,V,H,G⟩;have g:=Below.step hbel I G;have U:=cq (Et HT.o G);have G:=V;obtain⟨vo,vc,rfl,-,-,I⟩:=G;have G:=cq I;clear I;have a6:=cq V;clear V;obtain⟨_,_,_,I,z⟩:=H;simp only[kM] at I;obtain⟨rfl,rfl,rfl⟩:=I;rw[cV r] at a6 z|-;by_cases H:r.length<n
   . have A:PS=none:=o.o (by rw[F.o,cM cw]);have p:=cq A;clear A;have d:(r.length:Int)<(n:Int):=cw;have D:decide ((r.length:Int)<(n:Int))=true:=fQ d;go_wp2;refine gE (v:=.tuple #[.slice none 0 0,.int .i64 21]) (by simp[results,results28,go_sem]) ae ⟨_,by rw[p.o];rfl,by rw[p.o];exact BH _ _,g⟩
   (have d:¬(r.length:Int)<(n:Int):=cw;have D:decide ((r.length:Int)<(n:Int))=false:=iC d;have H:Hid (pq (k+1) R=some (ts++[r.take n],r.drop n)):=by unfold Hid pq;rw[t.o];simp only;rw[F.o,cL cw]);(have F:=U1 n cw;have⟨Zs,hZs⟩:=eW (replicate n (.int .u8 0:cI));have V:Zs.length=n:=by rw[hZs];simp);(rw[<-hZs] at F;have F:=cq hZs;clear hZs;have⟨W1,hW1⟩:=eW (m.alloc (.cells Zs.toArray 5));have X:W1.heap[m.heap.size]?=some (.cells Zs.toArray 5 (0,0)):=by rw[hW1];exact zq _ _);(have b4:dz m W1:=by rw[hW1];exact aN);(have E:=hW1.symm;have R:=cq E;clear E;have⟨cs,hcs⟩:=eW (dH (r.take n));have O:cs.length=n:=by rw[hcs];unfold dH;rw[lV,kL,tW cw]);(have K:0<cs.length->∃ad,vo=some ad/\∀j v,cs[j]?=some v->W1.cell? (ad.add j)=some v:=by intro h;rw[hcs] at h|-;exact N0 (g.trans (b4.mono g.size)) G.o h);(have I:∀v∈cs,v.oneCell'=true:=by rw[hcs];exact Eu _);(have G:cs.length=Nat.min r.length n:=by rw[O];exact(Nat.min_eq_right cw).symm);have N:=cq K;clear K;have H:=cq I;clear I;have F:=cq G;clear G;have Z:=cq X;clear X;have d4:=cq hcs;clear hcs;have Y:=cq O;clear O;have G:=cq V;clear V;have X:=agd vo r.length vc n cw;have C:=Ai a6.o (y:=n) cw z;have⟨DA,hDA⟩:=c8 (kx vo vc n 1);rw[hDA] at X C;rw[Aj] at C;have e5:=cq X;clear X;have I:=cq C;clear C;have e8:r.length-n<=vc-n:=cw;go_upto_region 12 with((with_reducible refine Xj ⟨some 40,.call {callee:=.builtin .copy,args:=#[.tmp 38,.tmp 39],argTypes:=#[22,22]},_,_,_,none⟩ ?_);rw[R.o];refine wpList_copy_splice ae (.tmp 38) (.tmp 39) 22 22 ae 5 nK Ba (some ⟨m.heap.size,0,none⟩) vo n n r.length vc ae ae m.heap.size 0 Zs 5 Z.o cs F.o (λh=>⟨ae,N.o h⟩) (by rw[Y.o,G.o];omega) H.o m.heap.size m b4 (dK _) ?_;intro V I N);(have J:splice Zs 0 cs=cs:=by unfold splice;rw[take_zero,ot,ou,Y.o,<-G.o,drop_length,vd]);(have K:V.heap[m.heap.size]?=some (.cells cs.toArray 5 (0,0)):=by have:=I.o;rw[J] at this;exact this);have O:lS V w.heap.size (.slice (some ⟨m.heap.size,0,none⟩) n n) (r.take n):=RS K g.size d4.o (by rw[kL,tW cw]) cw;have F:=Below.step g g.size N;have B:dz V (V.alloc (.cells #[.slice (some ⟨m.heap.size,0,none⟩) n n] 22)):=(fO _ _).alloc (dK _) _;have H:=Kt O B;have⟨vs,hvl,hvo2,hvk⟩:=Et (Et U.o N) B;have G:=Below.step F F.size B;have F:=G.size;have X:=cq hvo2.lt;have e3:=cq hvk;clear hvk;have e4:=cq hvl;clear hvl;have Y:=cq H;clear H;clear K O I J B N U Z R;have H:ts.length<=65535:=cw;have H:=e5.o;go_wp2_with (at_builtin;refine xq _ ae (.tmp 41) (.tmp 43) 75 ae w.heap.size 22 i0 (.slice none 0 0) 1 24 underlying75 hi hz0 hz1' hz2 ae br _ _ _ ae hvo2 ⟨V.heap.size,0,none⟩ 1 1 [.slice (some ⟨m.heap.size,0,none⟩) n n] ae ae (cell_one_new _ _ _) a8 aI cw F ?_;intro v' I Q f _);have H:=G.grown f F (λk h=>(X.o k h).1);have F:Hid (JD I w.heap.size v' (ts++[r.take n])):=YA e4.o hvo2 e3.o Y.o bf f Q;have F:Hid (yr (.slice DA (r.length-n) (vc-n))):=⟨_,_,_,ae,e8⟩;go_roundw;grind;simp[intOf];omega
 . obtain rfl:k=M:=cw;have F:¬(k:Int)<(k:Int):=cw;obtain⟨F,F,rfl,-,-,-⟩:=HQ.o;rw[cV q];by_cases T:q=[]
   . (have A:PS=some ts:=by rw[L.o,t.o,T]);(have p:=cq A;clear A;have F:(q.length:Int)=0:=by rw[T];rfl);have F:¬(0:Int)<(q.length:Int):=cw;go_wp2;refine gE (v:=.tuple #[u6,.int .i64 0]) (by simp[results,results28,go_sem]) ae ⟨_,by rw[p.o];rfl,by rw[p.o];exact HT.o,hbel⟩
   . (have A:PS=none:=by rw[L.o,t.o];grind);(have p:=cq A;clear A;have F:(0:Int)<(q.length:Int):=by have:=z7.2 T;omega);go_wp2;refine gE (v:=.tuple #[.slice none 0 0,.int .i64 21]) (by simp[results,results28,go_sem]) ae ⟨_,by rw[p.o];rfl,by rw[p.o];exact BH _ _,hbel⟩
def Al(v:cI):Prop:=v=.slice none 0 0∨∃a n c,v=.slice (some a) n c/\n<=c
def sV(h:w.ownsRow base e size v n xs):Al v:=by rcases h.2 with⟨rfl,b⟩|⟨g,cap,a,rfl,c,d,f,hc,i,j⟩;exact .inl ae;exact .inr ⟨_,_,_,ae,cw⟩
def Pt(w:cB)(v:cI)(ts:List cD):Prop:=
 ∃(ao:Option Addr)(cap:Nat)(vs:List cI),v=.slice ao ts.length cap/\vs.length=ts.length/\ts.length<=cap/\(∀k(h:k<vs.length)(a:k<ts.length),dR .u8 w vs[k] (dh ts[k])/\Al vs[k])/\
  (ts≠ []->∃b o,ao=some ⟨b,o,none⟩/\b<w.heap.size/\∀k(h:k<vs.length),w.cell? ⟨b,o+k,none⟩=some vs[k])
theorem U2{l:cD}(h:lS w base v l)(c:l.length<=9223372036854775807)(b:∀x∈l,x<256):dR .u8 w v (dh l):=by unfold lS at h;refine pJ (e:=5) (base:=base) (l:=dh l) ?_ ?_ ?_;rw[cV];unfold dh;rw[sK];exact h;intro x a;obtain⟨y,d,rfl⟩:=fM.1 a;grind[WalkArith.wf_u8];grind[cV]
def cell_two_new(w:cB)(x y:cI)(t:dC):∀j u,[x,y][j]?=some u->(w.alloc (.cells #[x,y] t)).cell? ((⟨w.heap.size,0,none⟩:Addr).add j)=some u:=by
 intro j u a
 match j,a with
 |0,a=>rw[<-a];exact aT
 |1,a=>rw[<-a];exact aT
def tK(n:Nat):cD:=[n%256,n/256]
def sW(t:cD):cD:=tK t.length++t
def sa(ts:List cD):Option cD:=if ts.length<=65535/\ts.all (λt=>decide (t.length<=65535))=true then some (tK ts.length++ts.flatMap sW) else none
def szT(ts:List cD):Nat:=(ts.map λt=>2+t.length).sum
theorem aa4(ts:List cD)(k:Nat)(h:k<ts.length):szT (ts.take (k+1))=szT (ts.take k)+(2+ts[k].length):=by grind[szT,take_succ_eq_append_getElem]
theorem YB(ts:List cD)(k:Nat)(h:k<ts.length):(ts.take (k+1)).flatMap sW=(ts.take k).flatMap sW++sW ts[k]:=by grind[take_succ_eq_append_getElem]
theorem RU(ts:List cD):(ts.flatMap sW).length=szT ts:=by induction ts<;>grind[szT,sW,tK]
theorem aa5(ts:List cD)(k:Nat):szT (ts.take k)<=szT ts:=by grind[szT,take_append_drop]
def U3(h:¬ts.length<=65535):sa ts=none:=cM λx=>h x.1
theorem YC(a:k<ts.length)(h:¬ts[k].length<=65535):sa ts=none:=by refine cM λx=>h ?_;grind
theorem aa6(h:ts.length<=65535)(b:∀k(a:k<ts.length),ts[k].length<=65535):sa ts=some (tK ts.length++ts.flatMap sW):=by refine cL ⟨h,?_⟩;rw[qk];intro t c;obtain⟨k,a,rfl⟩:=xh.1 c;grind
theorem U4(h:dR .u8 w (.slice (some ad) n c) (dh T))(f:dz w w'):∀j v,(dH T)[j]?=some v->w'.cell? (ad.add j)=some v:=by
 obtain⟨ao,cap,d,_,_,hc⟩:=h;simp only[kM] at d;obtain⟨g,_,_⟩:=d;intro j v m;have i:(dH (T.take T.length))[j]?=some v:=by grind
 have b:0<(dH (T.take T.length)).length:=by grind
 obtain⟨e,k,l⟩:=N0 (a:=some ad) f iG b;grind
def RV(v:cI)(ts:List cD)(F:ts.length<=9223372036854775807)(F:∀k(h:k<ts.length),ts[k].length<=9223372036854775807)(w:cB)(K:Pt w v ts):
 CP_ 75 #[v] w λe w'=>∃r,e=.returned (.tuple #[r,.int .i64 (fp 21 (sa ts))])/\lS w' w.heap.size r ((sa ts).getD [])/\dz w w':=by
 have⟨i0,hi,hz0,hz1',hz2⟩:=nB JX;obtain⟨ao,cap,vs,rfl,I,_,H,G⟩:=K;have X:=cq I;clear I;have V:=cq H;clear H;have H:=cq G;clear G;have N:=cq F;clear F;have F:Hid (lS w w.heap.size (.slice none 0 0) []):=gz w w.heap.size 5 1;by_cases q:¬ts.length<=65535
 . have R:=U3 q;rw[R];have M:(65535:Int)<(ts.length:Int):=cw;clear R q;go_enter func75,ntmps75;go_wp2;refine gE (v:=.tuple #[.slice none 0 0,.int .i64 21]) (by simp[results,results75,go_sem]) ae ⟨_,ae,F.o,fO _ _⟩
 have L:ts.length<=65535:=cw;have M:¬(65535:Int)<(ts.length:Int):=cw;clear q;have⟨PS,HPS⟩:=q8 (sa ts);rw[HPS.o];go_enter func75,ntmps75;go_wp2_with fail
 go_loop [4,6,15] (λs _ i=>∃(k z:Nat),k<=ts.length/\i=.int .i64 k/\s=.int .i64 z/\z<=2+65537*k/\Hid (z=2+szT (ts.take k))/\Hid (∀j(h:j<ts.length),j<k->ts[j].length<=65535))
  (λ_ _ i=>ts.length-(intOf i).toNat)
 exact⟨0,2,fN _,ae,ae,cw,by simp[Hid,szT],λj _ h=>absurd h (u' _)⟩;obtain⟨k,z,hk,rfl,rfl,G,U,Z⟩:=hrel;by_cases c:k<ts.length
 . (have I:k<vs.length:=by have:=X.o;omega);obtain⟨b,o,rfl,Y,f⟩:=H.o alk;have hc:=f k I;obtain⟨D,_⟩:=V.o k I c;obtain⟨ta,tc,E,-,-,-⟩:=D;rw[E,cV] at hc;clear f E;have G:=cq (aa4 ts k c);have K:=N.o k c;have Q:=λh=>YC (ts:=ts) (k:=k) c h;have O:=cq Q;clear Q;have⟨n,HN⟩:=q8 (ts[k].length);rw[HN.o] at hc G K O;have b4:(k:Int)<(ts.length:Int):=cw;by_cases N:n<=65535
   . (have d3:¬(65535:Int)<(n:Int):=cw;have c6:Hid (z+(2+n)=2+szT (ts.take (k+1))):=by unfold Hid;rw[G.o,U.o];omega);(have K:Hid (∀j(h:j<ts.length),j<k+1->ts[j].length<=65535):=by intro j h hj;by_cases d1:j=k;subst d1;rw[HN.o];exact N;exact Z.o j h cw);go_wp2;go_round;exact⟨k+1,z+(2+n),cw,by go_num,by go_num,cw,c6,K⟩;exact oV
   . have d3:(65535:Int)<(n:Int):=cw;have R:PS=none:=HPS.o.symm.trans (O.o cw);have O:=cq R;clear R;go_wp2;refine gE (v:=.tuple #[.slice none 0 0,.int .i64 21]) (by simp[results,results75,go_sem]) ae ⟨_,by rw[O.o];rfl,by rw[O.o];exact F.o,fO _ _⟩
 . (obtain rfl:k=ts.length:=cw;have c9:¬(ts.length:Int)<(ts.length:Int):=cw;have R:PS=some (tK ts.length++ts.flatMap sW):=HPS.o.symm.trans (aa6 L (λj hj=>Z.o j hj hj));have O:=cq R;clear R;have L:Hid (z=2+szT ts):=by have:=U.o;rw[oT] at this;exact this);clear U;have F:z<=4294967298:=cw;go_upto_region 12 with(refine Kq (o:=⟨some 29,_,_,_,_,_⟩) _ ae _ _ 22 ae w.heap.size 5 i0 (.int .u8 0) 1 nK hi hz0 hz1' .i64 .i64 _ z ae ae ae bD aI (dK _) ?_;intro R t x);have F:dz w R:=(fO _ _).grown x (dK _) (λk e=>by cases e);clear x;have U:=F.size;have K:=cq t.lt;have C:=t.alloc (.cells #[.int .u8 ((ts.length:Int)%256),.int .u8 ((ts.length:Int)/256)] 5);go_upto_region 13 with(at_builtin;refine xq _ ae (.tmp 30) (.tmp 38) 22 ae w.heap.size 5 i0 (.int .u8 0) 1 1 nK hi hz0 hz1' hz2 ae jR _ _ _ ae C ⟨R.heap.size,0,none⟩ 2 2 [.int .u8 ((ts.length:Int)%256),.int .u8 ((ts.length:Int)/256)] ae ae (cell_two_new _ _ _ _) a8 aI cw az ?_;intro v' R g a _);(have m:=(F.alloc U (.cells #[.int .u8 ((ts.length:Int)%256),.int .u8 ((ts.length:Int)/256)] 5)).grown a az (λk h=>(K.o k h).1);have d:Hid (lS R w.heap.size v' (tK ts.length++(ts.take 0).flatMap sW)):=by unfold Hid lS;simp only[take_zero,flatMap_nil,vd,tK,xd,map_nil,kr,r7,Int.natCast_emod,Int.natCast_ediv];exact g);(clear g a t C F U K;have G:Hid (∀k,(tK ts.length++(ts.take k).flatMap sW).length<=4294967298):=by intro k;rw[ik,RU];have F:=aa5 ts k;have F:=L.o;show 2+_<=_;omega);go_wp2_with fail
   go_loopw [7,9,42] (λv _ i wr=>∃k:Nat,k<=ts.length/\i=.int .i64 k/\Hid (lS wr w.heap.size v (tK ts.length++(ts.take k).flatMap sW))/\dz w wr)
    (λ_ _ i _=>ts.length-(intOf i).toNat)
   exact⟨0,fN _,ae,d,m⟩;clear d m;obtain⟨k,hk,rfl,L,hbel⟩:=hrel;have F:=hbel.size;by_cases c:k<ts.length
   . (have I:k<vs.length:=by have:=X.o;omega);(obtain⟨b,o,rfl,Y,f⟩:=H.o alk;have hc:=(hbel.cell (p:=⟨b,o+k,none⟩) Y).trans (f k I);have⟨D,hshape⟩:=V.o k I c;have H:=cq D;obtain⟨ta,tc,E,-,-,-⟩:=D;rw[E,cV] at hc;rw[E] at hshape H;rw[cV] at hshape H;clear f E;have V:=cq (YB ts k c);have N:=Z.o k c c;have⟨T,hT⟩:=c8 (ts[k]);rw[hT] at hc V N hshape H;have I:=G.o k;have Z:=G.o (k+1);have⟨A,hAA⟩:=c8 (tK ts.length++(ts.take k).flatMap sW);have X:Hid (tK ts.length++(ts.take (k+1)).flatMap sW=(A++tK T.length)++T):=by unfold Hid;rw[V.o,<-hAA];unfold sW;simp only[wh]);rw[X.o,ik,ik] at Z;rw[hAA] at L I;clear hT hAA V;have B:=L.o;unfold lS at B;have⟨n,HN⟩:=q8 T.length;rw[HN.o] at hc N hshape H Z;have b4:(k:Int)<(ts.length:Int):=cw;have J:=B.alloc (.cells #[.int .u8 ((n:Int)%256),.int .u8 ((n:Int)/256)] 5);have K:=cq B.lt;have N:=cq hshape;clear hshape;go_upto_region 17 with(at_builtin;refine xq _ ae (.tmp 46) (.tmp 54) 22 ae w.heap.size 5 i0 (.int .u8 0) 1 1 nK hi hz0 hz1' hz2 ae jR _ _ _ ae J ⟨wr.heap.size,0,none⟩ 2 2 [.int .u8 ((n:Int)%256),.int .u8 ((n:Int)/256)] ae ae (cell_two_new _ _ _ _) a8 aI cw az ?_;intro v' R g a _);(have m:=(hbel.alloc F (.cells #[.int .u8 ((n:Int)%256),.int .u8 ((n:Int)/256)] 5)).grown a az (λk h=>(K.o k h).1);have d:Hid (lS R w.heap.size v' (A++tK T.length)):=by unfold Hid lS;rw[HN.o,ik,mI];simp only[tK,xd,map_nil,kr,r7,Int.natCast_emod,Int.natCast_ediv];exact g);(clear g a B J L;have l:=d.o;unfold lS at l;have I:=m.size;have F:=cq l.lt;have K:(A++tK T.length).length=A.length+2:=by rw[ik];rfl);have G:(tK n).length=2:=rfl;rw[G] at Z;have U:(A++tK T.length).length+n<=4294967298:=cw;clear G K;rcases N.o with hsh|⟨ad,n',c',hsh,hcap⟩
     . (simp only[kM] at hsh;obtain⟨rfl,rfl,rfl⟩:=hsh;have Y:Hid (lS R w.heap.size v' (tK ts.length++(ts.take (k+1)).flatMap sW)):=by unfold Hid;rw[X.o,wj HN.o,vd];have:=d.o;rw[wj HN.o] at this;exact this);go_wp2_with (at_builtin;refine wpList_append_own_none ae (.tmp 56) (.tmp 57) 22 ae w.heap.size 5 i0 1 nK hi _ _ _ ae l ae ?_);go_roundw;exact⟨k+1,cw,by go_num,Y,m⟩;exact oV
     . (simp only[kM] at hsh;obtain⟨rfl,-,-⟩:=hsh;have G:=cq (U4 H.o m);have H:(dH T).length=n*1:=by unfold dH;rw[lV,HN.o,q7]);have K:=cq H;clear H;go_wp2_with (at_builtin;refine xq _ ae (.tmp 56) (.tmp 57) 22 ae w.heap.size 5 i0 (.int .u8 0) 1 1 nK hi hz0 hz1' hz2 ae jR _ _ _ ae l ad n tc (dH T) ae K.o G.o (Eu T) aI cw I ?_;intro H K u y _);(have G:=m.grown y I (λk h=>(F.o k h).1);have Y:Hid (lS K w.heap.size H (tK ts.length++(ts.take (k+1)).flatMap sW)):=by unfold Hid lS;rw[X.o,ik,mI,HN.o];have:=HN.o;rw[this] at u;exact u);clear u y l;go_roundw;exact⟨k+1,cw,by go_num,Y,G⟩;exact oV
   . (obtain rfl:k=ts.length:=cw;have c9:¬(ts.length:Int)<(ts.length:Int):=cw;have d:Hid (lS wr w.heap.size u7 (PS.getD [])):=by unfold Hid;rw[O.o];have:=L.o;rw[oT] at this;exact this);(have F:Hid (fp 21 PS=0):=by unfold Hid;rw[O.o];rfl);go_wp2;refine gE (v:=.tuple #[u7,.int .i64 0]) (by simp[results,results75,go_sem]) ae ⟨_,by rw[F.o],d.o,hbel⟩
theorem ahJ(ao:Option Addr)(l h cap:Nat)(W:cB):((sizeOf (prog.elem 22)).run prog W).andThen (λs w=>.ok (sliced ao l h cap s) w)=.ok (sliced ao l h cap 1) W:=by rfl
theorem aec(n:Nat)(h:n<256):pE 1 n=[n]:=by grind[pE]
theorem aed(n:Nat)(h:n<65536):pE 2 n=[n%256,n/256]:=by grind[pE,range_succ]
theorem aa7(t s n:Nat)(c:t<=1)(b:s<4096)(a:n<=4096):uj [1,2,2] [t,s,n]=some [t,s%256,s/256,n%256,n/256]:=by unfold uj;rw[cL ⟨by decide,ae,by grind[fitAll]⟩];grind[j8,aec,aed]
theorem aee(b c:Nat)(t s n:Nat)(k:t<=1)(j:s<4096)(h:n<=4096)(w:cB)(g:dR .i64 w (.slice (some ⟨b,0,none⟩) 3 3) [1,2,2])(hc:w.cell? ⟨c,0,none⟩=some (.int .u64 t)/\w.cell? ⟨c,1,none⟩=some (.int .u64 s)/\w.cell? ⟨c,2,none⟩=some (.int .u64 n))(d:c<w.heap.size):
 CP_ 73 #[.slice (some ⟨b,0,none⟩) 3 3,.slice (some ⟨c,0,none⟩) 3 3] w λe w'=>∃r,e=.returned (.tuple #[r,.int .i64 0])/\dR .u8 w' r [(t:Int),(s:Int)%256,(s:Int)/256,(n:Int)%256,(n:Int)/256]/\dz w w':=by
 have m:dR .i64 w (.slice (s_ b 0) 3 3) (dh [1,2,2]):=g;have l:dR .u64 w (.slice (s_ c 0) 3 3) (dh [t,s,n]):=by refine⟨some ⟨c,0,none⟩,3,ae,by simp[dh],?_,λ_=>⟨c,0,ae,d,?_⟩⟩;intro x f;simp[dh] at f;rcases f with rfl|rfl|rfl<;>(grind[Lit.wf,IntKind.min,IntKind.max,IntKind.bits]);grind[dh]
 refine(Fp _ _ [1,2,2] [t,s,n] jR w m l).mono ?_;rw[aa7 t s n k j h];rintro e w' ⟨r,rfl,i,a⟩;refine⟨r,ae,?_,a⟩;have:=U2 i dU iG;grind[dh]
theorem aa8(a b c d e:Nat):qQ [1,2,2] [a,b,c,d,e]=some [a,b+256*c,d+256*e]:=by rfl
theorem aef(b c o cap:Nat)(h i j k l:Nat)(C:h<256/\i<256/\j<256/\k<256/\l<256)(a:5<=cap)(w:cB)(u:dR .i64 w (.slice (some ⟨b,0,none⟩) 3 3) [1,2,2])(hc:w.cell? ⟨c,o,none⟩=some (.int .u8 h)/\w.cell? ⟨c,o+1,none⟩=some (.int .u8 i)/\w.cell? ⟨c,o+2,none⟩=some (.int .u8 j)/\w.cell? ⟨c,o+3,none⟩=some (.int .u8 k)/\w.cell? ⟨c,o+4,none⟩=some (.int .u8 l))(s:c<w.heap.size):
 CP_ 29 #[.slice (some ⟨b,0,none⟩) 3 3,.slice (some ⟨c,o,none⟩) 5 cap] w λe w'=>∃g d,e=.returned (.tuple #[.slice (some ⟨g,0,none⟩) 3 d,.int .i64 0])/\
  (w'.cell? ⟨g,0,none⟩=some (.int .u64 h)/\w'.cell? ⟨g,1,none⟩=some (.int .u64 ((i:Int)+256*(j:Int)))/\w'.cell? ⟨g,2,none⟩=some (.int .u64 ((k:Int)+256*(l:Int))))/\g<w'.heap.size/\w.heap.size<=g/\dz w w':=by
 have z:dR .i64 w (.slice (s_ b 0) 3 3) (dh [1,2,2]):=u;have y:dR .u8 w (.slice (s_ c o) 5 cap) (dh [h,i,j,k,l]):=by refine⟨some ⟨c,o,none⟩,cap,ae,by simp[dh],?_,λ_=>⟨c,o,ae,s,?_⟩⟩;intro x f;simp[dh] at f;rcases f with rfl|rfl|rfl|rfl|rfl<;>exact WalkArith.wf_u8 cw;grind[dh]
 refine(II _ _ [1,2,2] [h,i,j,k,l] jR w z y ⟨_,_,_,ae,a⟩).mono ?_;rw[aa8];rintro e w' ⟨r,rfl,m,p⟩;rcases m.2 with⟨_,n⟩|⟨g,d,t,rfl,q,v,_⟩;simp at n;have n:=G7 m 0 dU;have A:=G7 m 1 dU;have B:=G7 m 2 dU;refine⟨g,d,ae,⟨n,?_,?_⟩,(qj.1 v).1,q,p⟩;grind;grind
end Go.Proofs.YtklligbjoplbgaaGreat