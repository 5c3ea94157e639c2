/- Lemmas for the last texts. -/
import Derived.Test.YtnnokglddolglaaGreatDoorM08
import Derived.Deep.Cut
set_option maxHeartbeats 6400000
set_option maxRecDepth 100000
namespace Go.Proofs.YtnnokglddolglaaGreatDoor
open Go.RowKit Go.Proofs.Tryz
section
open Go.RowKit
def zfU(f:Nat)(s:ByteArray)(op:Nat)(P:RS->TR):Prop:=
 ∀(g:Nat) (q:RS) (W:World),RdAt g s q W->q.pos<=s.size->q.op=op->Calls prog f #[.pointer (some ⟨g,0,none⟩)] W (zjW g s (P q) W)
def zio(g n:Nat)(w:World):Nat:=match w.cell? ⟨g,3,none⟩,w.cell? ⟨g,1,none⟩with
 |some (.int _ e),some (.int _ p)=>if e=0 then n-p.toNat+1 else 0
 |_,_=>0
theorem zeP{g:Nat}{s:ByteArray}{r:RS}{w:World}(h:RdAt g s r w):zio g s.size w=zbP s.data.toList r:=by
 obtain⟨_,c1,_,c3⟩:=h.cells;have a:s.data.toList.length=s.size:=by simp
 unfold zio zbP;rw[c3,c1,a]
 rfl
theorem OutSt.start{g:Nat}{s:ByteArray}{w d w2:World}{x:TR}{A:Option Addr}{c:Nat}(_:g<w.heap.size)(f:ZeroX w2 w.heap.size)(i:w.grownBy w2 (some g))(e:w.heap.size<d.heap.size)
 (k:NewX d w2 x.1 A c) (j:RdAt g s x.2 w2) (h:d.heap.size<=w2.heap.size):
 OutSt g s w w2.heap.size x A c (w2.alloc (.cells (zap x.1.kind x.1.set A x.1.kids.length c).toArray 185)):=by
 have a:Below w2.heap.size w2 (w2.alloc (.cells (zap x.1.kind x.1.set A x.1.kids.length c).toArray 185)):=WaL;refine⟨j.below a,PutX.new w2 _,LX.keep (λb hb=>⟨Qv e hb.1,?_,?_⟩) (λb o hb=>a.cell (p:=⟨b,o,none⟩) hb.2) _ _ k,(a.block _ f.lt).trans f,zay i (zci (zaU w2 _) a),by omega⟩
 ·have:=hb.2;omega
 ·have:=hb.2;have:=a.size;omega
def zqS(g:Nat)(s:ByteArray)(w:World)(k op:Nat)(step:TR->Option TR)(R:TR)(wr:World):Prop:=
 ∃(x:TR) (A:Option Addr) (c:Nat),fixI step (ze8 s.data.toList) x=R/\x.2.pos<=s.size/\x.2.op=op/\OutSt g s w k x A c wr
theorem ztp(s:ByteArray)(op:Nat)(P:RS->TR)(_:s.size<=4096)(hP:zpf s.data.toList P)(hC:zfU 217 s op P):
 zfU 174 s op (rowR s.data.toList P):=by
 intro g r w h hp hf;have hz:s.data.toList.length=s.size:=by simp
 have D:=h.lt;have h3:=hIx hC;have G:=hIx hP;obtain⟨S,F⟩:∃S,w.alloc (.cells #[.int .i64 0,.int .u64 0,.int .u64 0,.int .u64 0,.int .u64 0,.slice none 0 0] 185)=S:=⟨_,rfl⟩
 have O:Below w.heap.size w S:=by rw[<-F];exact WaL
 have N:ZeroX S w.heap.size:=by rw[<-F];exact ZeroX.new w
 have hv:w.heap.size<S.heap.size:=N.lt;have hd:=h.below O;have C:=hIx (znB g s r S hd hp);have h9:Hid (w.grownBy S (some g)):=zci (zaU w _) O;have hj:=hIx N;have HR:Hid (rowR s.data.toList P r=if zgx s.data.toList r=true then (emT,r)else fixI (rowS s.data.toList P) (ze8 s.data.toList) (P r)):=rfl;have K:=hIx (hP r (by omega)).1.step;generalize hR:rowR s.data.toList P r=R at *;have ht:=hIx F;clear h hC hP O F hd N hR
 go_in
 go_upto_region 1 with fail
 rw[ht.out];cases f:zgx s.data.toList r with
 |true=>
  rw[f]at C HR;have H:Hid (R=(emT,r)):=by unfold Hid;rw[HR.out];rfl
  go_wp2_with (go_at_call 216;apply Hid.out);refine WhM C ?_;rintro e V ⟨rfl,h1⟩;have i:=hj.out.grown h1.2 (by omega);have HX:=hIx (i.fill (.int .i64 2) (.int .u64 0) (.int .u64 0) (.int .u64 0) (.int .u64 0) (.slice none 0 0));have U:Below w.heap.size V (zah V w.heap.size (.int .i64 2) (.int .u64 0) (.int .u64 0) (.int .u64 0) (.int .u64 0) (.slice none 0 0)):=zbr (Qg _ _) (Qd _) _ _ _ _ _ _;have hh:Hid (RdEnd g s r w (zah V w.heap.size (.int .i64 2) (.int .u64 0) (.int .u64 0) (.int .u64 0) (.int .u64 0) (.slice none 0 0))):=⟨(U.block g D).trans h1.1,zcX (zay h9.out h1.2) (Qd _) U⟩
  have ⟨z0,z1,z2,z3,z4,z5⟩:=i.cells;have y0:=i.free 0;have y1:=i.free 1;have y2:=i.free 2;have y3:=i.free 3;have y4:=i.free 4;have y5:=i.free 5;clear h1 U i;go_wp2_with fail;have ⟨s0,s1,s2,s3,s4,s5⟩:=HX.out.cells;unfold zah at s0 s1 s2 s3 s4 s5;exact Qj (v:=argX emT none 0) (by simp[results,results174,go_sem,s0,s1,s2,s3,s4,s5,argX,emT,Tree.kind,Tree.set,Tree.kids,Set4.zero]) rfl (by rw[H.out];exact⟨none,0,rfl,LX.leaf _ _ _ _ _ _ zbI,hh.out⟩)
 |false=>
  rw[f]at C HR;have H:Hid (fixI (rowS s.data.toList P) (ze8 s.data.toList) (P r)=R):=by unfold Hid;rw[HR.out];rfl
  go_wp2_with (go_at_call 216;apply Hid.out);refine WhM C ?_;rintro e V ⟨rfl,h1⟩;have Z:=hIx (h3.out g r V h1.1 hp hf);have i:=hj.out.grown h1.2 (by omega);have hm:=zay h9.out h1.2;have hr:w.heap.size<V.heap.size:=i.lt;have L:=hIx (And.intro i hm);clear h1 i hm;go_wp2_with (go_at_call 217;apply Hid.out);refine WhM Z ?_;rintro e w2 ⟨A,c,rfl,hi,h2⟩
  have HO:Hid (OutSt g s w w2.heap.size (P r) A c (w2.alloc (.cells #[.int .i64 (P r).1.kind,.int .u64 (P r).1.set.a,.int .u64 (P r).1.set.b,.int .u64 (P r).1.set.c,.int .u64 (P r).1.set.d,.slice A (P r).1.kids.length c] 185))):=
   OutSt.start D (L.out.1.grown h2.2 (by omega)) (zay L.out.2 h2.2) hr hi h2.1 h2.2.size
  have u:(P r).2.pos<=s.size:=by have:=K.out.inn;omega
  have z:(P r).2.op=op:=K.out.op.trans hf;clear hi h2 K Z L HR;generalize P r=x at *;unfold argX;go_upto_region 4 with fail
  generalize w2.alloc (.cells #[.int .i64 x.1.kind,.int .u64 x.1.set.a,.int .u64 x.1.set.b,.int .u64 x.1.set.c,.int .u64 x.1.set.d,.slice A x.1.kids.length c] 185)=W3 at *;generalize w2.heap.size=k at *;have HS:Hid (zqS g s w k op (rowS s.data.toList P) R W3):=⟨x,A,c,H.out,u,z,HO.out⟩
  clear HO u z H f
  go_loopw [9] (λ_ wr=>zqS g s w k op (rowS s.data.toList P) R wr) (λ_ wr=>zio g s.size wr)
  case atStart=>exact HS.out
  case round=>
   obtain⟨x,A,c,hx,u,z,Y⟩:=hrel;have HM:=hIx (zeP Y.rd);have HE:=hIx (znB g s x.2 wr Y.rd u);have HO:=hIx Y;have t:InR s.data.toList x:=by unfold InR;omega
   cases f:zgx s.data.toList x.2 with
   |true=>
    rw[f]at HE
    have ho:Hid (R=x):=by
     unfold Hid;rw[<-hx,zhw (zgL G.out) t (by unfold rowS;rw[f];rfl)]
    clear hx Y HM t f;go_wp2_with (go_at_call 216;apply Hid.out);refine WhM HE ?_;rintro e J ⟨rfl,h4⟩;have j:=HO.out.call D h4;have HD:=hIx (OutSt.done D j);have ⟨o0,o1,o2,o3,o4,o5⟩:=(show PutX J k [_,_,_,_,_,_]from j.out).cells;have ⟨z0,z1,z2,z3,z4,z5⟩:=j.zero.cells;have y0:=j.zero.free 0;have y1:=j.zero.free 1;have y2:=j.zero.free 2;have y3:=j.zero.free 3;have y4:=j.zero.free 4;have y5:=j.zero.free 5;clear h4 j;go_wp2_with fail;obtain⟨d1,d2,d3⟩:=HD.out;have ⟨s0,s1,s2,s3,s4,s5⟩:=(show PutX _ w.heap.size [_,_,_,_,_,_]from d1).cells;unfold zah at s0 s1 s2 s3 s4 s5;exact Qj (v:=argX x.1 A c) (by simp[results,results174,go_sem,s0,s1,s2,s3,s4,s5,argX]) rfl (by rw[ho.out];exact⟨A,c,rfl,d2,d3⟩)
   |false=>
    rw[f]at HE;have I:Hid (rowS s.data.toList P x=some (jnT x.1 (P x.2).1,(P x.2).2)):=by unfold Hid rowS;rw[f];rfl
    have T:Hid (fixI (rowS s.data.toList P) (ze8 s.data.toList) (jnT x.1 (P x.2).1,(P x.2).2)=R):=by unfold Hid;rw[<-hx];exact(zir (zgL G.out) t I.out).symm
    have Q:Hid (zbP s.data.toList (P x.2).2<zbP s.data.toList x.2):=(zgL G.out).less x (jnT x.1 (P x.2).1,(P x.2).2) t I.out;have E:=hIx (G.out x.2 t).1.step;clear hx Y t f;go_wp2_with (go_at_call 216;apply Hid.out);refine WhM HE ?_;rintro e J ⟨rfl,h4⟩;have j:=HO.out.call D h4;have h8:Hid (∀W,Below J.heap.size J W->Calls prog 217 #[.pointer (some ⟨g,0,none⟩)] W (zjW g s (P x.2) W)):=λW hW=>h3.out g x.2 W (j.rd.below hW) u z
    have H5:=hIx j;have ⟨o0,o1,o2,o3,o4,o5⟩:=(show PutX J k [_,_,_,_,_,_]from j.out).cells;have f0:=j.out.free 0;have f1:=j.out.free 1;have f2:=j.out.free 2;have f3:=j.out.free 3;have f4:=j.out.free 4;have f5:=j.out.free 5;clear h4 j;have hA:k<J.heap.size:=H5.out.out.lt;have hw:w.heap.size<k:=H5.out.far;obtain⟨y,hy⟩:∃y,P x.2=y:=⟨_,rfl⟩
    rw[hy]at h8 I T Q E
    have hq:Hid (∀(X:Option Addr) (c4:Nat) (W B:World),Below J.heap.size J W->NewX W B y.1 X c4->RdEnd g s y.2 W B->
     OutSt g s w k (x.1,y.2) A c B/\Calls prog 176 #[.int .i64 4,.agg #[.int .i64 x.1.kind,.int .u64 x.1.set.a,.int .u64 x.1.set.b,.int .u64 x.1.set.c,.int .u64 x.1.set.d,.slice A x.1.kids.length c],.agg #[.int .i64 y.1.kind,.int .u64 y.1.set.a,.int .u64 y.1.set.b,.int .u64 y.1.set.c,.int .u64 y.1.set.d,.slice X y.1.kids.length c4]] B
      (λe n=>∃o q,e=.returned (argX (jnT x.1 y.1) o q)/\OutSt g s w k (x.1,y.2) A c n/\LX n (λb=>w.heap.size<b/\b≠k/\b<n.heap.size) (jnT x.1 y.1) (zap 4 .zero o 2 q))):=λX c4 W B hW hn h6=>by
     have m:=(H5.out.low D hW).call D h6;refine⟨m,(zhm 4 x.1 y.1 A X c c4 (λb=>w.heap.size<b/\b≠k/\b<B.heap.size) B (λb hb=>hb.2.2) m.tree (LX.keep (λb hb=>⟨by have:=hb.1;have:=hW.size;omega,by have:=hb.1;have:=hW.size;omega,hb.2⟩) (λ_ _ _=>rfl) _ _ hn)).mono ?_⟩;rintro e n ⟨o,q,rfl,p,hk⟩;refine⟨o,q,rfl,m.low D hk,LX.keep (λb hb=>?_) (λ_ _ _=>rfl) _ _ p⟩;have h1:=m.out.lt;have h2:=hk.size
     rcases hb with hb|hb
     ·exact⟨hb.1,hb.2.1,by omega⟩
     ·have:=hb.1;have:=hb.2;exact⟨by omega,by omega,hb.2⟩
    have he:Hid (∀o q n,OutSt g s w k (x.1,y.2) A c n->LX n (λb=>w.heap.size<b/\b≠k/\b<n.heap.size) (jnT x.1 y.1) (zap 4 .zero o 2 q)->
     zqS g s w k op (rowS s.data.toList P) R (zah n k (.int .i64 (jnT x.1 y.1).kind) (.int .u64 (jnT x.1 y.1).set.a) (.int .u64 (jnT x.1 y.1).set.b) (.int .u64 (jnT x.1 y.1).set.c) (.int .u64 (jnT x.1 y.1).set.d) (.slice o (jnT x.1 y.1).kids.length q))/\
     zio g s.size (zah n k (.int .i64 (jnT x.1 y.1).kind) (.int .u64 (jnT x.1 y.1).set.a) (.int .u64 (jnT x.1 y.1).set.b) (.int .u64 (jnT x.1 y.1).set.c) (.int .u64 (jnT x.1 y.1).set.d) (.slice o (jnT x.1 y.1).kids.length q))<zio g s.size wr):=λo q n h7 p=>by
     have hp:=h7.put D (jnT x.1 y.1) o q p;refine⟨⟨_,o,q,T.out,?_,?_,hp⟩,?_⟩
     ·have:=E.out.inn;show y.2.pos<=_;omega
     ·exact E.out.op.trans z
     ·rw[HM.out];rw[zeP hp.rd];exact Q.out
    clear hy HM E Q T I;go_upto_region 5 with fail
    go_region_with (first
     |(go_at_call 217;(with_reducible refine(h8.out _ ?_).mono ?_);(first|exact Qg _ _|exact(Qg _ _).drew);rintro e B ⟨X,c4,rfl,ha,h6⟩;obtain⟨m,h0⟩:=hq.out X c4 _ B (by first|exact Qg _ _|exact(Qg _ _).drew) ha h6;have hu:=hIx h0;have ⟨o0,o1,o2,o3,o4,o5⟩:=(show PutX B k [_,_,_,_,_,_]from m.out).cells;clear ha h6 h0 m;unfold argX)
     |(go_at_call 176;(refine hu.out.mono ?_);rintro e n ⟨o,q,rfl,l,p⟩;have f0:=l.out.free 0;have f1:=l.out.free 1;have f2:=l.out.free 2;have f3:=l.out.free 3;have f4:=l.out.free 4;have f5:=l.out.free 5;have ⟨o0,o1,o2,o3,o4,o5⟩:=(show PutX n k [_,_,_,_,_,_]from l.out).cells;have hc:=hIx (he.out o q n l p);clear l p;unfold argX))
    all_goals go_roundw
    all_goals first
     |exact hc.out.2
     |((repeat apply Exists.intro);exact⟨hc.out.1,rfl⟩)
     |fail "row"
end
section
open Go.RowKit
theorem zuJ(s:ByteArray)(op:Nat)(P:RS->TR)(hs:s.size<=4096)(hP:ziS s.data.toList P)(hC:zfU 174 s op P):
 zfU 137 s op (altR s.data.toList P):=by
 intro g r w h hp h9;have hq:s.data.toList.length=s.size:=by simp
 have F:=h.lt;have hi:=hIx hC;have D:=hIx hP;obtain⟨G,C⟩:∃G,w.alloc (.cells #[.int .i64 0,.int .u64 0,.int .u64 0,.int .u64 0,.int .u64 0,.slice none 0 0] 185)=G:=⟨_,rfl⟩
 have L:Below w.heap.size w G:=by rw[<-C];exact WaL
 have K:ZeroX G w.heap.size:=by rw[<-C];exact ZeroX.new w
 have hj:w.heap.size<G.heap.size:=K.lt;have V:=hIx (hC g r G (h.below L) hp h9);have J:Hid (ZeroX G w.heap.size/\w.grownBy G (some g)):=⟨K,zci (zaU w _) L⟩
 have hd:Hid (fixI (altS s.data.toList P) (ze8 s.data.toList) (P r)=altR s.data.toList P r):=rfl;have I:=hIx (hP r (by omega)).step;generalize hR:altR s.data.toList P r=R at *;have hk:=hIx C;clear h hC hP L C K hR
 go_in
 go_upto_region 1 with fail
 rw[hk.out];go_wp2_with (go_at_call 174;apply Hid.out);refine WhM V ?_;rintro e w2 ⟨A,c,rfl,ha,h2⟩
 have X:Hid (OutSt g s w w2.heap.size (P r) A c (w2.alloc (.cells #[.int .i64 (P r).1.kind,.int .u64 (P r).1.set.a,.int .u64 (P r).1.set.b,.int .u64 (P r).1.set.c,.int .u64 (P r).1.set.d,.slice A (P r).1.kids.length c] 185))):=
  OutSt.start F (J.out.1.grown h2.2 (by omega)) (zay J.out.2 h2.2) hj ha h2.1 h2.2.size
 have z:(P r).2.pos<=s.size:=by have:=I.out.inn;omega
 have q:(P r).2.op=op:=I.out.op.trans h9;clear ha h2 I V J;generalize P r=x at *;unfold argX;go_upto_region 2 with fail
 generalize w2.alloc (.cells #[.int .i64 x.1.kind,.int .u64 x.1.set.a,.int .u64 x.1.set.b,.int .u64 x.1.set.c,.int .u64 x.1.set.d,.slice A x.1.kids.length c] 185)=W3 at *;generalize w2.heap.size=k at *;have HS:Hid (zqS g s w k op (altS s.data.toList P) R W3):=⟨x,A,c,hd.out,z,q,X.out⟩
 clear X z q hd
 go_loopw [6] (λ_ wr=>zqS g s w k op (altS s.data.toList P) R wr) (λ_ wr=>zio g s.size wr)
 case atStart=>exact HS.out
 case round=>
  obtain⟨x,A,c,hx,z,q,T⟩:=hrel;have HM:=hIx (zeP T.rd);have HE:=hIx (zcM g s x.2 124 wr T.rd z hs);have X:=hIx T;have t:InR s.data.toList x:=by unfold InR;omega
  by_cases f:zad s.data.toList x.2=124
  rotate_left
  ·have S:zaH s.data.toList x.2 124=(false,x.2):=by unfold zaH;rw[Qe f]
   rw[S]at HE
   have he:Hid (R=x):=by
    unfold Hid;rw[<-hx,zhw (zgj D.out) t (by unfold altS;rw[Qe f])]
   clear hx T HM t f S;go_wp2_with (go_at_call 175;apply Hid.out);refine WhM HE ?_;rintro e H ⟨rfl,h4⟩;have i:=X.out.call F h4;have HD:=hIx (OutSt.done F i);have ⟨o0,o1,o2,o3,o4,o5⟩:=(show PutX H k [_,_,_,_,_,_]from i.out).cells;have ⟨z0,z1,z2,z3,z4,z5⟩:=i.zero.cells;have y0:=i.zero.free 0;have y1:=i.zero.free 1;have y2:=i.zero.free 2;have y3:=i.zero.free 3;have y4:=i.zero.free 4;have y5:=i.zero.free 5;clear h4 i;go_wp2_with fail;obtain⟨d1,d2,d3⟩:=HD.out;have ⟨s0,s1,s2,s3,s4,s5⟩:=(show PutX _ w.heap.size [_,_,_,_,_,_]from d1).cells;unfold zah at s0 s1 s2 s3 s4 s5;exact Qj (v:=argX x.1 A c) (by simp[results,results137,go_sem,s0,s1,s2,s3,s4,s5,argX]) rfl (by rw[he.out];exact⟨A,c,rfl,d2,d3⟩)
  ·have S:zaH s.data.toList x.2 124=(true,onR x.2):=by unfold zaH;rw[Qi f];rfl
   rw[S]at HE;have hf:(onR x.2).pos<=s.data.toList.length:=(zdi f (by decide)).1.inn;have U:(onR x.2).pos<=s.size:=by omega
   have E:Hid (altS s.data.toList P x=some (orT x.1 (P (onR x.2)).1,(P (onR x.2)).2)):=by unfold Hid altS;rw[Qi f]
   have O:Hid (fixI (altS s.data.toList P) (ze8 s.data.toList) (orT x.1 (P (onR x.2)).1,(P (onR x.2)).2)=R):=by unfold Hid;rw[<-hx];exact(zir (zgj D.out) t E.out).symm
   have N:Hid (zbP s.data.toList (P (onR x.2)).2<zbP s.data.toList x.2):=(zgj D.out).less x (orT x.1 (P (onR x.2)).1,(P (onR x.2)).2) t E.out;have B:=hIx (D.out (onR x.2) hf).step;clear hx T t f S;go_wp2_with (go_at_call 175;apply Hid.out);refine WhM HE ?_;rintro e H ⟨rfl,h4⟩;have i:=X.out.call F h4;have Z:Hid (∀W,Below H.heap.size H W->Calls prog 174 #[.pointer (some ⟨g,0,none⟩)] W (zjW g s (P (onR x.2)) W)):=λW hW=>hi.out g (onR x.2) W (i.rd.below hW) U q
   have H5:=hIx i;have ⟨o0,o1,o2,o3,o4,o5⟩:=(show PutX H k [_,_,_,_,_,_]from i.out).cells;have f0:=i.out.free 0;have f1:=i.out.free 1;have f2:=i.out.free 2;have f3:=i.out.free 3;have f4:=i.out.free 4;have f5:=i.out.free 5;clear h4 i;have hr:k<H.heap.size:=H5.out.out.lt;have ho:w.heap.size<k:=H5.out.far;obtain⟨y,hy⟩:∃y,P (onR x.2)=y:=⟨_,rfl⟩
   rw[hy]at Z E O N B
   have hh:Hid (∀(Q:Option Addr) (c4:Nat) (W u:World),Below H.heap.size H W->NewX W u y.1 Q c4->RdEnd g s y.2 W u->
    OutSt g s w k (x.1,y.2) A c u/\Calls prog 176 #[.int .i64 5,.agg #[.int .i64 x.1.kind,.int .u64 x.1.set.a,.int .u64 x.1.set.b,.int .u64 x.1.set.c,.int .u64 x.1.set.d,.slice A x.1.kids.length c],.agg #[.int .i64 y.1.kind,.int .u64 y.1.set.a,.int .u64 y.1.set.b,.int .u64 y.1.set.c,.int .u64 y.1.set.d,.slice Q y.1.kids.length c4]] u
     (λe m=>∃n p,e=.returned (argX (orT x.1 y.1) n p)/\OutSt g s w k (x.1,y.2) A c m/\LX m (λb=>w.heap.size<b/\b≠k/\b<m.heap.size) (orT x.1 y.1) (zap 5 .zero n 2 p))):=λQ c4 W u hW hn h6=>by
    have l:=(H5.out.low F hW).call F h6;refine⟨l,(zhm 5 x.1 y.1 A Q c c4 (λb=>w.heap.size<b/\b≠k/\b<u.heap.size) u (λb hb=>hb.2.2) l.tree (LX.keep (λb hb=>⟨by have:=hb.1;have:=hW.size;omega,by have:=hb.1;have:=hW.size;omega,hb.2⟩) (λ_ _ _=>rfl) _ _ hn)).mono ?_⟩;rintro e m ⟨n,p,rfl,o,hc⟩;refine⟨n,p,rfl,l.low F hc,LX.keep (λb hb=>?_) (λ_ _ _=>rfl) _ _ o⟩;have h1:=l.out.lt;have h2:=hc.size
    rcases hb with hb|hb
    ·exact⟨hb.1,hb.2.1,by omega⟩
    ·have:=hb.1;have:=hb.2;exact⟨by omega,by omega,hb.2⟩
   have h8:Hid (∀n p m,OutSt g s w k (x.1,y.2) A c m->LX m (λb=>w.heap.size<b/\b≠k/\b<m.heap.size) (orT x.1 y.1) (zap 5 .zero n 2 p)->
    zqS g s w k op (altS s.data.toList P) R (zah m k (.int .i64 (orT x.1 y.1).kind) (.int .u64 (orT x.1 y.1).set.a) (.int .u64 (orT x.1 y.1).set.b) (.int .u64 (orT x.1 y.1).set.c) (.int .u64 (orT x.1 y.1).set.d) (.slice n (orT x.1 y.1).kids.length p))/\
    zio g s.size (zah m k (.int .i64 (orT x.1 y.1).kind) (.int .u64 (orT x.1 y.1).set.a) (.int .u64 (orT x.1 y.1).set.b) (.int .u64 (orT x.1 y.1).set.c) (.int .u64 (orT x.1 y.1).set.d) (.slice n (orT x.1 y.1).kids.length p))<zio g s.size wr):=λn p m h7 o=>by
    have hp:=h7.put F (orT x.1 y.1) n p o;refine⟨⟨_,n,p,O.out,?_,?_,hp⟩,?_⟩
    ·have:=B.out.inn;show y.2.pos<=_;omega
    ·exact B.out.op.trans q
    ·rw[HM.out];rw[zeP hp.rd];exact N.out
   clear hy HM B N O E;go_upto_region 3 with fail
   go_region_with (first
    |(go_at_call 174;(with_reducible refine(Z.out _ ?_).mono ?_);(first|exact Qg _ _|exact(Qg _ _).drew);rintro e u ⟨Q,c4,rfl,h0,h6⟩;obtain⟨l,Y⟩:=hh.out Q c4 _ u (by first|exact Qg _ _|exact(Qg _ _).drew) h0 h6;have hm:=hIx Y;have ⟨o0,o1,o2,o3,o4,o5⟩:=(show PutX u k [_,_,_,_,_,_]from l.out).cells;clear h0 h6 Y l;unfold argX)
    |(go_at_call 176;(refine hm.out.mono ?_);rintro e m ⟨n,p,rfl,j,o⟩;have f0:=j.out.free 0;have f1:=j.out.free 1;have f2:=j.out.free 2;have f3:=j.out.free 3;have f4:=j.out.free 4;have f5:=j.out.free 5;have ⟨o0,o1,o2,o3,o4,o5⟩:=(show PutX m k [_,_,_,_,_,_]from j.out).cells;have h3:=hIx (h8.out n p m j o);clear j o;unfold argX))
   all_goals go_roundw
   all_goals first
    |exact h3.out.2
    |((repeat apply Exists.intro);exact⟨h3.out.1,rfl⟩)
    |fail "row"
end
section
open Go.RowKit
structure TC where
 t:Tree
 A:Option Addr
 c:Nat
def zc3(x:TC):List Value:=zap x.t.kind x.t.set x.A x.t.kids.length x.c
def OwnT(w:World)(base:Nat)(v:Value)(l:List TC):Prop:=w.ownsRow base 185 6 v l.length (l.flatMap zc3)
theorem OwnT.nil(w:World)(base:Nat):OwnT w base (.slice none 0 0) []:=ZI w base 185 6
theorem OwnT.below{w w':World}{base:Nat}{v:Value}{l:List TC}(h:OwnT w base v l)(hb:Below w.heap.size w w'):OwnT w' base v l:=zaP h hb
theorem OwnT.keep{w w':World}{base:Nat}{v:Value}{l:List TC}(h:OwnT w base v l)(b:∀g,v.ownBlock=some g->w'.heap[g]? = w.heap[g]?):OwnT w' base v l:=by
 refine⟨h.1,?_⟩
 rcases h.2 with d|⟨g,cap,a,h1,h2,e,c⟩
 ·exact .inl d
 ·exact .inr ⟨g,cap,a,h1,h2,(b g (by rw[h1];rfl)).trans e,c⟩
theorem zp6{w:World}{p:Nat->Prop}:∀(l:List TC) (b a:Nat),p b->(∀x∈l,LX w p x.t (zc3 x))->(∀j u,(l.flatMap zc3)[j]? = some u->w.cell? ⟨b,a+j,none⟩=some u)->LXK w p (l.map TC.t) (some ⟨b,a,none⟩)
 | [],_,_,_,_,_=>by rw[ZE,LXK];trivial
 |x::l,b,a,hb,hl,d=>by
  rw[QX,LXK];refine⟨b,a,zc3 x,rfl,hb,rfl,λj c=>?_,hl x (by simp),zp6 l b (a+6) hb (λy e=>hl y (by simp[e])) λj u f=>?_⟩
  ·refine d j _ ?_
   rw[QM,Zo c,Qc c]
  ·have:=d (6+j) u (by rw[QM,QZ (by show 6<=_;omega)];show (l.flatMap zc3)[6+j-6]? = _;rw[Nat.add_sub_cancel_left];exact f)
   rw[Zh];exact this
theorem zwu:(prog.info? 185).map (λi=>(i.zero,i.size,i.bytes))=some (some (.agg #[.int .i64 0,.int .u64 0,.int .u64 0,.int .u64 0,.int .u64 0,.slice none 0 0]),6,64):=by kernel_rfl
section
variable {ops:Array Oper} {o:Oper} {a:Act} {Q:Exit->Act->World->Prop} {w:World}
theorem zkZ{K:Act->World->Prop}{E:Prop}(i:o.guard=none)(s x:Operand)(B:o.op=.call {callee:=.builtin .append,args:=#[s,x],argTypes:=#[183,183]})
 (base:Nat) (v:Value) (l:List TC) (n:Nat) (H:l.length=n) (D:a.eval s=v) (d:OwnT w base v l) (b:base<=w.heap.size) (y:TC) (f c:Nat) (G:a.eval x=.slice (some ⟨f,0,none⟩) 1 c) (z:PutX w f (zc3 y)) (q:n<=1000)
 (h:∀g cap w',OwnT w' base (.slice (some ⟨g,0,none⟩) (n+1) cap) (l++[y])->w.grownBy w' v.ownBlock->(v.ownBlock=some g\/g=w.heap.size)->g<w'.heap.size->K (a.put o.dst (.slice (some ⟨g,0,none⟩) (n+1) cap)) w'):
 if Region.wanted o (yielded ops a.tmps)=true then Oper.wp prog o a w K Q else E:=by
 subst H;have A:Region.wanted o (yielded ops a.tmps)=true:=by simp[Region.wanted,i]
 rw[Qi A];obtain⟨t,F,k,m,p⟩:=ZC zwu
 refine wp_append_lies (P:=prog) w s x 183 B base 185 t _ 6 64 underlying183 F k m p rfl (by decide) v l.length (l.flatMap zc3) D d
  ⟨f,0,none⟩ 1 c (zc3 y) G rfl (λj u e=>?_) (λu e=>?_) (by decide) (by unfold maxLen;omega) (by omega) b w.heap.size rfl ?_
 ·rw[zbq]
  exact(Qf w f j _ _ _ z).trans (by simpa using e)
 ·unfold zc3 zap at e
  simp only[QJ,ZR,X0]at e
  rcases e with rfl|rfl|rfl|rfl|rfl|rfl <;> rfl
 ·intro g cap w' h1 h2 C r
  refine h g cap w' ?_ h2 C r;unfold OwnT;rw[Qa,Q4,QM,XE,QI];exact h1
end
def zyb(t:Tree):Prop:=∀(A:Option Addr) (c:Nat) (w:World),LT w w.heap.size t (zap t.kind t.set A t.kids.length c)->
 Calls prog 259 #[argX t A c] w λe w'=>∃b a,e=.returned (argX t b a)/\NewX w w' t b a/\Below w.heap.size w w'
structure CpSt(ts:List Tree)(k:Int)(S:Set4)(w:World)(j:Nat)(l:List TC)(A:Option Addr)(c:Nat)(wr:World):Prop where
 map:l.map TC.t=ts.take j
 len:l.length=j
 own:OwnT wr (w.heap.size+3) (.slice A j c) l
 out:PutX wr (w.heap.size+2) (zap k S A j c)
 trees:∀x∈l,LX wr (λb=>w.heap.size+2<b/\(Value.slice A j c).ownBlock≠some b/\b<wr.heap.size) x.t (zc3 x)
 zero:ZeroX wr (w.heap.size+1)
 low:Below w.heap.size w wr
theorem CpSt.size{a:List Tree}{k:Int}{S:Set4}{w:World}{j:Nat}{l:List TC}{A:Option Addr}{c:Nat}{wr:World}(h:CpSt a k S w j l A c wr):w.heap.size+2<wr.heap.size:=h.out.lt
theorem CpSt.more{d:List Tree}{k:Int}{S:Set4}{w:World}{j:Nat}{l:List TC}{A:Option Addr}{c:Nat}{wr w':World}(h:CpSt d k S w j l A c wr)(hb:Below wr.heap.size wr w'):CpSt d k S w j l A c w':=
 ⟨h.map,h.len,h.own.below hb,(hb.block _ h.out.lt).trans h.out,
  λx e=>LX.keep (λ_ a=>⟨a.1,a.2.1,Qv a.2.2 hb.size⟩) (λb o a=>hb.cell (p:=⟨b,o,none⟩) a.2.2) _ _ (h.trees x e),(hb.block _ h.zero.lt).trans h.zero,h.low.trans (hb.mono h.low.size)⟩
theorem CpSt.add{s:List Tree}{k:Int}{S:Set4}{w:World}{j:Nat}{l:List TC}{A:Option Addr}{c:Nat}{u wr w':World}{y:TC}{g cap:Nat}(h:CpSt s k S w j l A c wr)(G:s.take (j+1)=s.take j++[y.t])
 (I:w.heap.size+2<u.heap.size) (E:LX wr (ziQ u.heap.size wr.heap.size) y.t (zc3 y)) (v:∀b,(Value.slice A j c).ownBlock=some b->b<u.heap.size)
 (z:OwnT w' (w.heap.size+3) (.slice (some ⟨g,0,none⟩) (j+1) cap) (l++[y])) (q:wr.grownBy w' (Value.slice A j c).ownBlock) (r:(Value.slice A j c).ownBlock=some g\/g=wr.heap.size):
 CpSt s k S w (j+1) (l++[y]) (some ⟨g,0,none⟩) cap (w'.setCell ⟨w.heap.size+2,5,none⟩ (.slice (some ⟨g,0,none⟩) (j+1) cap)):=by
 have D:=q.size;have H:=QK z g rfl;have a:∀b,(Value.slice A j c).ownBlock=some b->w.heap.size+3<=b:=λb hb=>(QK h.own b hb).1
 have i:∀b,b<wr.heap.size->(Value.slice A j c).ownBlock≠some b->b≠w.heap.size+2->(w'.setCell ⟨w.heap.size+2,5,none⟩ (.slice (some ⟨g,0,none⟩) (j+1) cap)).heap[b]? = wr.heap[b]? := λb h1 h2 B=>
  (Ql _ _ _ _ B).trans (q.block b h1 (λe=>h2 e.symm))
 have F:(w'.setCell ⟨w.heap.size+2,5,none⟩ (.slice (some ⟨g,0,none⟩) (j+1) cap)).heap.size=w'.heap.size:=by simp[World.setCell]
 have p:w'.heap[w.heap.size+2]? = wr.heap[w.heap.size+2]? := q.block _ (by have:=h.size;omega) (λe=>by have:=a _ e.symm;omega);refine⟨?_,?_,?_,?_,λx n=>?_,?_,?_⟩
 ·rw[QU,h.map,G];rfl
 ·rw[Qa,h.len];rfl
 ·exact z.keep λb hb=>Ql _ _ _ _ (show b≠w.heap.size+2 by have:=(QK z b hb).1;omega)
 ·have:=p.trans h.out
  unfold PutX;simp only[World.setCell,Q8,this]
  rfl
 ·have f:∀b,(Value.slice A j c).ownBlock≠some b->b<wr.heap.size->(Value.slice (some ⟨g,0,none⟩) (j+1) cap).ownBlock≠some b:=λb h1 h2 e=>by
   have C:g=b:=QD e
   rcases r with r|r
   ·exact h1 (by rw[r,C])
   ·omega
  have d:∀b o,b<wr.heap.size->(Value.slice A j c).ownBlock≠some b->b≠w.heap.size+2->(w'.setCell ⟨w.heap.size+2,5,none⟩ (.slice (some ⟨g,0,none⟩) (j+1) cap)).cell? ⟨b,o,none⟩=wr.cell? ⟨b,o,none⟩:=λb o h1 h2 B=>by
   simp only[World.cell?, i b h1 h2 B]
  rcases QN.1 n with n|n
  ·exact LX.keep (λb hb=>⟨hb.1,f b hb.2.1 hb.2.2,by have:=hb.2.2;omega⟩) (λb o hb=>d b o hb.2.2 hb.2.1 (by have:=hb.1;omega)) _ _ (h.trees x n)
  ·rw[QE.1 n]
   have m:∀b,u.heap.size<=b->(Value.slice A j c).ownBlock≠some b:=λb hb e=>by have:=v b e;omega
   exact LX.keep (λb hb=>⟨by have:=hb.1;omega,f b (m b hb.1) hb.2,by have:=hb.2;omega⟩) (λb o hb=>d b o hb.2 (m b hb.1) (by have:=hb.1;omega)) _ _ E
 ·exact(i _ h.zero.lt (λe=>by have:=a _ e;omega) (by omega)).trans h.zero
 ·refine(h.low.grown q h.low.size (λb hb=>by have:=a b hb;omega)).setCell (by show w.heap.size<=w.heap.size+2;omega) _
theorem CpSt.tree{a:List Tree}{k:Int}{S:Set4}{w:World}{l:List TC}{A:Option Addr}{c:Nat}{wr:World}(h:CpSt a k S w a.length l A c wr)(r:S.Wf):
 LX wr (λb=>w.heap.size+2<b/\b<wr.heap.size) (.node k S a) (zap k S A a.length c):=by
 have f:l.map TC.t=a:=by rw[h.map,QV]
 rw[LX];refine⟨A,c,rfl,r,?_⟩
 rcases h.own.2 with ⟨_,i⟩|⟨g,cap,n,e,s,p,_⟩
 ·have:l=[]:=QA i
  subst this;rw[<-f];exact LXK.nil _ _ _
 ·have d:=QK h.own g (by rw[e];rfl)
  have m:A=some ⟨g,0,none⟩:=by injection e
  rw[m,<-f];refine zp6 l g 0 ⟨by omega,d.2⟩ (λx q=>LX.keep (λb hb=>⟨hb.1,hb.2.2⟩) (λ_ _ _=>rfl) _ _ (h.trees x q)) λj u o=>?_
  have:=Zx (g:=g) h.own (by rw[e];rfl) j u o;rw[zbq]at this;rw[Zc];exact this
end
section
open Go.RowKit
def zvd(b:List Tree)(k:Int)(S:Set4)(w:World)(a:Value)(wr:World):Prop:=
 ∃(j:Nat) (l:List TC) (A:Option Addr) (c:Nat),a=.int .i64 j/\j<=b.length/\CpSt b k S w j l A c wr
theorem zt1(k:Int)(S:Set4)(m:List Tree)(hD:m.length<=2)(ih:∀(i:Nat) (h:i<m.length),zyb m[i]):zyb (.node k S m):=by
 intro A c w hl;have IH:=hIx ih;rw[LT]at hl;obtain⟨r,z,he,h0,hk⟩:=hl;have hA:r=A:=by unfold zap at he;simp only[List.cons.injEq,Value.slice.injEq]at he;exact he.2.2.2.2.2.1.1.symm
 subst hA;have hn:=hIx h0;have ho:Hid (∀W,Below w.heap.size w W->LK W w.heap.size m r):=λW h=>hk.below h
 have hf:Hid (zvd m k S w (.int .i64 (0:Nat)) (((w.alloc (.cells #[.int .i64 k,.int .u64 S.a,.int .u64 S.b,.int .u64 S.c,.int .u64 S.d,.slice r m.length c] 185)).alloc (.cells #[.int .i64 0,.int .u64 0,.int .u64 0,.int .u64 0,.int .u64 0,.slice none 0 0] 185)).alloc (.cells #[.int .i64 k,.int .u64 S.a,.int .u64 S.b,.int .u64 S.c,.int .u64 S.d,.slice none 0 0] 185))):=by
  refine⟨0,[],none,0,rfl,Qm _,⟨rfl,rfl,OwnT.nil _ _,?_,λx hx=>absurd hx (by simp),?_,?_⟩⟩
  ·have:=PutX.new ((w.alloc (.cells #[.int .i64 k,.int .u64 S.a,.int .u64 S.b,.int .u64 S.c,.int .u64 S.d,.slice r m.length c] 185)).alloc (.cells #[.int .i64 0,.int .u64 0,.int .u64 0,.int .u64 0,.int .u64 0,.slice none 0 0] 185)) (zap k S none 0 0)
   simpa[zap]using this
  ·have:=ZeroX.new (w.alloc (.cells #[.int .i64 k,.int .u64 S.a,.int .u64 S.b,.int .u64 S.c,.int .u64 S.d,.slice r m.length c] 185))
   rw[Qr]at this;exact(Qt _ _ _ (by simp)).trans this
  ·exact(WaL.alloc (by simp) _).alloc (by simp;omega) _
 unfold argX Tree.kind Tree.set Tree.kids;dsimp only;clear ih hk he h0
 go_in
 go_upto_region 3 with fail
 generalize ((w.alloc (.cells #[.int .i64 k,.int .u64 S.a,.int .u64 S.b,.int .u64 S.c,.int .u64 S.d,.slice r m.length c] 185)).alloc (.cells #[.int .i64 0,.int .u64 0,.int .u64 0,.int .u64 0,.int .u64 0,.slice none 0 0] 185)).alloc (.cells #[.int .i64 k,.int .u64 S.a,.int .u64 S.b,.int .u64 S.c,.int .u64 S.d,.slice none 0 0] 185)=W1 at *
 go_loopw [14] (λL wr=>zvd m k S w L wr) (λL _=>m.length-(intOf L).toNat)
 case atStart=>exact hf.out
 case round=>
  obtain⟨j,l,n,c2,rfl,hj,q⟩:=hrel;have G:=hIx q;have hz:=q.size;have ⟨o0,o1,o2,o3,o4,o5⟩:=(show PutX wr (w.heap.size+1+1) [_,_,_,_,_,_]from q.out).cells
  by_cases B:j<m.length
  ·have d1:decide ((j:Int)<(m.length:Int))=true:=Qu (by omega)
   have i7:IntKind.i64.wrap ((j:Int)+1)=(j:Int)+1:=Qx _ (by omega);obtain⟨b,hg,hE,rfl,hw,O,I⟩:=(ho.out wr q.low).at j B;have h7:=IH.out j B;have hc:Hid (m.take (j+1)=m.take j++[m[j]]):=by unfold Hid;rw[Qq B]
   generalize m[j]=f at *;obtain⟨T,c3,Q,_⟩:=I.parts;subst Q;have ⟨y0,y1,y2,y3,y4,y5⟩:=(show CellsAt wr b (hg+j*6) [_,_,_,_,_,_]from O).six;have Y:=hIx I;clear O q;obtain⟨t,u⟩:∃t,wr.alloc (.cells #[.int .i64 f.kind,.int .u64 f.set.a,.int .u64 f.set.b,.int .u64 f.set.c,.int .u64 f.set.d,.slice T f.kids.length c3] 185)=t:=⟨_,rfl⟩
   have U:Below wr.heap.size wr t:=by rw[<-u];exact WaL
   have K:wr.heap.size<t.heap.size:=by rw[<-u];simp
   have X:PutX t wr.heap.size [.int .i64 f.kind,.int .u64 f.set.a,.int .u64 f.set.b,.int .u64 f.set.c,.int .u64 f.set.d,.slice T f.kids.length c3]:=by rw[<-u];exact PutX.new wr (zap f.kind f.set T f.kids.length c3)
   have ⟨x0,x1,x2,x3,x4,x5⟩:=X.cells;have D:=G.out.more U;have Z:∀b,(Value.slice n j c2).ownBlock=some b->b<t.heap.size:=λb hb=>(QK D.own b hb).2
   have hm:=hIx Z;have V:=hIx D
   have hh:Hid (∀W,Below t.heap.size t W->Calls prog 259 #[.agg #[.int .i64 f.kind,.int .u64 f.set.a,.int .u64 f.set.b,.int .u64 f.set.c,.int .u64 f.set.d,.slice T f.kids.length c3]] W λe w'=>∃r z,e=.returned (.agg #[.int .i64 f.kind,.int .u64 f.set.a,.int .u64 f.set.b,.int .u64 f.set.c,.int .u64 f.set.d,.slice r f.kids.length z])/\LX w' (ziQ t.heap.size w'.heap.size) f (zap f.kind f.set r f.kids.length z)/\CpSt m k S w j l n c2 w'):=λW hW=>
    (h7 T c3 W (LT.keep (Qn (Qn G.out.low.size (Q5 K)) hW.size) (λbb oo hp=>(U.trans (hW.mono (Q5 K))).cell (p:=⟨bb,oo,none⟩) (Qv hp G.out.low.size)) _ _ Y.out)).mono
     (λe w' ⟨r,z,h1,h2,h3⟩=>⟨r,z,h1,LX.keep (λb hb=>⟨Qn hW.size hb.1,hb.2⟩) (λ_ _ _=>rfl) _ _ h2,D.more (hW.trans (h3.mono hW.size))⟩)
   clear I D Z h7;have hF:=hIx u;go_upto_region 5 with fail
   clear u y0 y1 y2 y3 y4 y5;have ⟨o0,o1,o2,o3,o4,o5⟩:=(show PutX t (w.heap.size+1+1) [.int .i64 k,.int .u64 S.a,.int .u64 S.b,.int .u64 S.c,.int .u64 S.d,.slice n j c2]from V.out.out).cells;have hd:j<=1000:=by omega
   have hs:l.length=j:=V.out.len
   have P:Hid (∀r z w2 w3 g cap,LX w2 (ziQ t.heap.size w2.heap.size) f (zap f.kind f.set r f.kids.length z)->CpSt m k S w j l n c2 w2->
    OwnT w3 (w.heap.size+3) (.slice (some ⟨g,0,none⟩) (j+1) cap) (l++[⟨f,r,z⟩])->w2.grownBy w3 (Value.slice n j c2).ownBlock->((Value.slice n j c2).ownBlock=some g\/g=w2.heap.size)->
    zvd m k S w (.int .i64 ((j:Int)+1)) (w3.setCell ⟨w.heap.size+2,5,none⟩ (.slice (some ⟨g,0,none⟩) (j+1) cap))):=λr z w2 w3 g cap h1 h2 h3 h4 h5=>
    ⟨j+1,_,_,_,by rw[Int.natCast_succ],B,CpSt.add (y:=⟨f,r,z⟩) h2 hc.out (Qv hz (Q5 K)) h1 hm.out h3 h4 h5⟩
   clear X
   go_region_law (first
    |(refine zkZ rfl (.tmp 19) (.tmp 22) rfl (w.heap.size+3) (.slice n j c2) l j hs rfl (by exact s.out.own) (by exact s.out.size) ⟨f,A9,c9⟩ w2.heap.size 1 rfl (by exact PutX.new w2 _) hd ?_;intro g cap w3 h6 F E h8;have H:PutX w3 (w.heap.size+1+1) [.int .i64 k,.int .u64 S.a,.int .u64 S.b,.int .u64 S.c,.int .u64 S.d,.slice n j c2]:=(F.block _ s.out.out.lt (λe=>by have:=(QK s.out.own _ e.symm).1;omega)).trans s.out.out;have o5:=H.cells.2.2.2.2.2;have f5:=H.free 5)
    |(go_simp;go_at_call 259;refine(hh.out _ (by first|exact Qg _ _|exact(Qg _ _).drew)).mono ?_;rintro e w2 ⟨A9,c9,rfl,hv,C⟩;have hy:=hIx C;have hu:PutX w2 (w.heap.size+1+1) [.int .i64 k,.int .u64 S.a,.int .u64 S.b,.int .u64 S.c,.int .u64 S.d,.slice n j c2]:=C.out;have o5:=hu.cells.2.2.2.2.2;have hB:w.heap.size+1+1<w2.heap.size:=C.size;have s:Hid (CpSt m k S w j l n c2 (w2.alloc (.cells #[.int .i64 f.kind,.int .u64 f.set.a,.int .u64 f.set.b,.int .u64 f.set.c,.int .u64 f.set.d,.slice A9 f.kids.length c9] 185))):=C.more WaL))
   all_goals
    have hN:=P.out A9 c9 (w2.alloc (.cells #[.int .i64 f.kind,.int .u64 f.set.a,.int .u64 f.set.b,.int .u64 f.set.c,.int .u64 f.set.d,.slice A9 f.kids.length c9] 185)) w3 g cap
     (LX.keep (λb hb=>⟨hb.1,by have:=hb.2;rw[Qr];omega⟩) (λb o hb=>((Qg w2.heap.size w2).alloc (Qd _) _).cell (p:=⟨b,o,none⟩) hb.2) _ _ hv) s.out h6 (by exact F) (by exact E)
    have hr:Hid (zvd m k S w (.int .i64 ((j:Int)+1)) (w3.setCell ⟨w.heap.size+1+1,5,none⟩ (.slice (some ⟨g,0,none⟩) (j+1) cap))):=hN;generalize w3.setCell ⟨w.heap.size+1+1,5,none⟩ (.slice (some ⟨g,0,none⟩) (j+1) cap)=w4 at *;clear hN h6 F E h8 H o5 f5;go_wp2;exact⟨hr.out,by dsimp only[intOf];omega⟩
  ·obtain rfl:j=m.length:=by omega
   have d1:decide ((m.length:Int)<(m.length:Int))=false:=by simp
   have hq:=hIx (q.tree hn.out);have J:Below (w.heap.size+1) wr (zah wr (w.heap.size+1) (.int .i64 k) (.int .u64 S.a) (.int .u64 S.b) (.int .u64 S.c) (.int .u64 S.d) (.slice n m.length c2)):=zbr (Qg _ _) (Qd _) _ _ _ _ _ _
   have h9:∀i,i≠w.heap.size+1->(zah wr (w.heap.size+1) (.int .i64 k) (.int .u64 S.a) (.int .u64 S.b) (.int .u64 S.c) (.int .u64 S.d) (.slice n m.length c2)).heap[i]? = wr.heap[i]? := λi N=>by
    unfold zah;rw[Ql _ _ _ _ N,Ql _ _ _ _ N,Ql _ _ _ _ N,Ql _ _ _ _ N,Ql _ _ _ _ N,Ql _ _ _ _ N]
   have ha:Hid (NewX w (zah wr (w.heap.size+1) (.int .i64 k) (.int .u64 S.a) (.int .u64 S.b) (.int .u64 S.c) (.int .u64 S.d) (.slice n m.length c2)) (.node k S m) n c2):=
    LX.keep (λb hb=>⟨by have:=hb.1;omega,Qv hb.2 J.size⟩) (λb o hb=>by simp only[World.cell?, h9 b (show b≠w.heap.size+1 by have:=hb.1;omega)]) _ _ hq.out
   have ht:Hid (Below w.heap.size w (zah wr (w.heap.size+1) (.int .i64 k) (.int .u64 S.a) (.int .u64 S.b) (.int .u64 S.c) (.int .u64 S.d) (.slice n m.length c2))):=q.low.trans (J.mono (Zg _));have HX:=hIx (q.zero.fill (.int .i64 k) (.int .u64 S.a) (.int .u64 S.b) (.int .u64 S.c) (.int .u64 S.d) (.slice n m.length c2));have ⟨z0,z1,z2,z3,z4,z5⟩:=q.zero.cells;have q0:=q.zero.free 0;have q1:=q.zero.free 1;have q2:=q.zero.free 2;have q3:=q.zero.free 3;have q4:=q.zero.free 4;have q5:=q.zero.free 5;clear q J h9;go_wp2_with fail;have ⟨s0,s1,s2,s3,s4,s5⟩:=HX.out.cells;unfold zah at s0 s1 s2 s3 s4 s5;exact Qj (v:=argX (.node k S m) n c2) (by simp[results,results259,go_sem,s0,s1,s2,s3,s4,s5,argX,Tree.kind,Tree.set,Tree.kids]) rfl ⟨n,c2,rfl,ha.out,ht.out⟩
theorem zp5(t:Tree)(h:FewT t):zyb t:=
 match t,h with
 |.node k S a,h=>by
  rw[FewT]at h;exact zt1 k S a h.1 λi b=>zp5 a[i] (h.2.at i b)
termination_by SizeOf.sizeOf t
decreasing_by
 have:=List.sizeOf_lt_of_mem (Qy b);simp only[Tree.node.sizeOf_spec];omega
end
