/- Lemmas for the last texts. -/
import Derived.Test.YtnnokglddolglaaGreatDoorM11
import Derived.Laws.OwnMore
import Derived.Below
set_option maxHeartbeats 3200000
set_option maxRecDepth 100000
namespace Go.Proofs.YtnnokglddolglaaGreatDoor
open Go.RowKit Go.Proofs.Tryz
theorem zs2(s:ByteArray)(a:s.size<=4096):∀d op,op+d=20->zfG 137 s op (altD s.data.toList (d+1))
 |0,op,h=>ztY s op _ a (zmM _ 0) (zsJ s op _ a (ze1 _ 0) (zmk s op _ a (zcO _ 0) (zoq s op _ a (by omega) (zcO _ 0) λh1=>absurd h1 (by omega))))
 |d+1,op,h=>ztY s op _ a (zmM _ (d+1)) (zsJ s op _ a (ze1 _ (d+1)) (zmk s op _ a (zcO _ (d+1)) (zoq s op _ a (by omega) (zcO _ (d+1)) λ_=>zs2 s a d (op+1) (by omega))))
def zmS:RS:=⟨0,0,0⟩
def topT(s:jE):TR:=altD s 21 zmS
def topR(s:jE):RS:=if (topT s).2.e=0/\(topT s).2.pos<s.length then zaF (topT s).2 3 else (topT s).2
def zc4(s:jE):Tree × Nat × Int:=
 if 200<s.length then (kT 0,0,2)else if (topR s).e≠0 then (kT 0,(topR s).pos,(topR s).e)else if zbh (topT s).1≠0 then (kT 0,s.length,zbh (topT s).1)else ((topT s).1,0,0)
def zzt(P:Tree × Nat × Int)(w:World)(e:Ending)(w':World):Prop:=
 ∃A c,e=jC (.tuple #[argX P.1 A c,jA P.2.1,jA P.2.2])/\NewX w w' P.1 A c/\w w'
theorem NewX.drew{w W:World}{t:Tree}{A:Option Addr}{c:Nat}(h:NewX w W t A c):NewX w W.drew t A c:=by
 have d:∀b o,ziB w.heap.size W.heap.size b->W.drew.cell? ⟨b,o,none⟩=W.cell? ⟨b,o,none⟩:=λ_ _ _=>rfl
 have a:∀b,ziB w.heap.size W.heap.size b->ziB w.heap.size W.drew.heap.size b:=λ_ h=>h
 exact LX.keep a d _ _ h
structure PaSt(s:ByteArray)(w:World)(k:Nat)(x:TR)(A:Option Addr)(c:Nat)(wr:World):Prop where
 rd:RdAt (w.heap.size+1) s x.2 wr
 zero:ZeroX wr w.heap.size
 out:PutX wr k (zan x.1.kind x.1.set A x.1.kids.length c)
 tree:LX wr (λb=>w.heap.size+1<b/\b<wr.heap.size) x.1 (zan x.1.kind x.1.set A x.1.kids.length c)
 low:w wr
 far:w.heap.size+1<k
theorem zls{a w w':World}{B g:Nat}(h:Below B a w)(f:B<=w.heap.size)(b:w.grownBy w' (some g))(c:B<=g):Below B a w':=
 ⟨b.os.trans h.os,b.tape.trans h.tape,b.output.trans h.output,Ql h.size b.size,λi d=>(b.block i (by omega) (λe=>by have:=QD e;omega)).trans (h.block i d)⟩
theorem PaSt.call{s:ByteArray}{w:World}{k:Nat}{x:TR}{q:RS}{A:Option Addr}{c:Nat}{wr w':World}(h:PaSt s w k x A c wr)(e:RdEnd (w.heap.size+1) s q wr w'):PaSt s w k (x.1,q) A c w':=
 ⟨e.1,h.zero.grown e.2 (by omega),h.out.grown e.2 (by have:=h.far;omega),
  LX.keep (λb hb=>⟨hb.1,Qv hb.2 e.2.size⟩) (λb o hb=>zgo e.2 hb.2 (by have:=hb.1;omega)) _ _ h.tree,
  zls h.low h.low.size e.2 (Zc _),h.far⟩
theorem PaSt.more{s:ByteArray}{w:World}{k:Nat}{x:TR}{A:Option Addr}{c:Nat}{wr w':World}(h:PaSt s w k x A c wr)(hb:wr w'):PaSt s w k x A c w':=h.call (zfl h.rd hb)
theorem zmR{w wr:World}{t:Tree}{A:Option Addr}{c:Nat}(k:ZeroX wr w.heap.size)(h:w wr)(j:LX wr (λb=>w.heap.size<b/\b<wr.heap.size) t (zan t.kind t.set A t.kids.length c)):
 PutX (zai wr w.heap.size (jA t.kind) (jB t.set.a) (jB t.set.b) (jB t.set.c) (jB t.set.d) (.slice A t.kids.length c)) w.heap.size (zan t.kind t.set A t.kids.length c)/\
 NewX w (zai wr w.heap.size (jA t.kind) (jB t.set.a) (jB t.set.b) (jB t.set.c) (jB t.set.d) (.slice A t.kids.length c)) t A c/\
 w (zai wr w.heap.size (jA t.kind) (jB t.set.a) (jB t.set.b) (jB t.set.c) (jB t.set.d) (.slice A t.kids.length c)):=by
 have hb:Below w.heap.size wr (zai wr w.heap.size (jA t.kind) (jB t.set.a) (jB t.set.b) (jB t.set.c) (jB t.set.d) (.slice A t.kids.length c)):=zbD (Qj _ _) (Qc _) _ _ _ _ _ _
 have g:∀i,i≠w.heap.size->(zai wr w.heap.size (jA t.kind) (jB t.set.a) (jB t.set.b) (jB t.set.c) (jB t.set.d) (.slice A t.kids.length c)).heap[i]? = wr.heap[i]? := λi f=>by
  unfold zai;rw[Qk _ _ _ _ f,Qk _ _ _ _ f,Qk _ _ _ _ f,Qk _ _ _ _ f,Qk _ _ _ _ f,Qk _ _ _ _ f]
 refine⟨k.fill _ _ _ _ _ _,LX.keep (λb e=>⟨QX e.1,Qv e.2 hb.size⟩) (λb o e=>?_) _ _ j,h.trans hb⟩;simp only[World.cell?, g b (show b≠w.heap.size by have:=e.1;omega)]
theorem zlw(s:ByteArray)(w:World)(hj:s.size<=maxLen):Calls prog 103 #[.string s] w (zzt (zc4 s.data.toList) w):=by
 have h3:s.data.toList.length=s.size:=by simp
 obtain⟨U,L⟩:∃U,w.alloc (.cells #[jA 0,jB 0,jB 0,jB 0,jB 0,jD 0 0] 185)=U:=⟨_,rfl⟩
 have X:w U:=by rw[<-L];exact WaL
 have g:ZeroX U w.heap.size:=by rw[<-L];exact ZeroX.new w
 have W:U.heap.size=w.heap.size+1:=by rw[<-L];simp
 have hf:=hIx L;unfold maxLen at hj;have HP:Hid (zc4 s.data.toList=if 200<s.data.toList.length then (kT 0,0,2)else if (topR s.data.toList).e≠0 then (kT 0,(topR s.data.toList).pos,(topR s.data.toList).e)else if zbh (topT s.data.toList).1≠0 then (kT 0,s.data.toList.length,zbh (topT s.data.toList).1)else ((topT s.data.toList).1,0,0)):=rfl;obtain⟨P,ha⟩:∃P,zc4 s.data.toList=P:=⟨_,rfl⟩
 rw[ha]at HP ⊢;rw[h3]at HP;clear ha L
 by_cases h0:200<s.size
 ·have d0:decide ((200:Int)<(s.size:Int))=true:=Qu (by omega)
  have j:Hid (P=(kT 0,0,2)):=by unfold Hid;rw[HP.out,Qg h0]
  have Y:Hid (PutX (zai U w.heap.size (jA 0) (jB 0) (jB 0) (jB 0) (jB 0) (jD 0 0)) w.heap.size [jA 0,jB 0,jB 0,jB 0,jB 0,jD 0 0]/\
   NewX w (zai U w.heap.size (jA 0) (jB 0) (jB 0) (jB 0) (jB 0) (jD 0 0)) (kT 0) none 0/\w (zai U w.heap.size (jA 0) (jB 0) (jB 0) (jB 0) (jB 0) (jD 0 0))):=
   zmR (t:=kT 0) g X (LX.leaf _ _ _ _ _ _ zbE)
  have ⟨z0,z1,z2,z3,z4,z5⟩:=g.cells;have y0:=g.free 0;have y1:=g.free 1;have y2:=g.free 2;have y3:=g.free 3;have y4:=g.free 4;have y5:=g.free 5;clear HP X g W h3
  go_in
  go_upto_region 1 with fail
  rw[hf.out];go_wp2_with fail;obtain⟨r,q,n⟩:=Y.out;have ⟨u,y,C,z,x,B⟩:=r.cells;unfold zai at u y C z x B;exact Qi (v:=.tuple #[argX (kT 0) none 0,jA 0,jA 2]) (by simp[results,results103,go_sem,u,y,C,z,x,B,argX,kT,Tree.kind,Tree.set,Tree.kids,Set4.zero]) rfl (by rw[j.out];exact⟨none,0,rfl,q,n⟩)
 ·have d0:decide ((200:Int)<(s.size:Int))=false:=Qq (by omega)
  have hs:s.size<=4096:=by omega
  have H:Hid (P=if (topR s.data.toList).e≠0 then (kT 0,(topR s.data.toList).pos,(topR s.data.toList).e)else if zbh (topT s.data.toList).1≠0 then (kT 0,s.size,zbh (topT s.data.toList).1)else ((topT s.data.toList).1,0,0)):=by unfold Hid;rw[HP.out,Qe h0]
  obtain⟨W1,D⟩:∃W1,U.alloc (.cells #[.string s,jA 0,jA 0,jA 0] 229)=W1:=⟨_,rfl⟩
  have h7:RdAt (w.heap.size+1) s zmS W1:=by rw[<-D,<-W];exact Qt U _
  have hi:w W1:=by rw[<-D];exact X.alloc (by omega) _
  have hg:ZeroX W1 w.heap.size:=by rw[<-D];exact(Qr _ _ _ (by omega)).trans g
  have Z:W1.heap.size=w.heap.size+1+1:=by rw[<-D,Qp,W]
  have J:=zcO s.data.toList 21 zmS (Qm _);have hd:Hid (Calls prog 137 #[.pointer (w.heap.size+1:)] W1 (zjD (w.heap.size+1) s (topT s.data.toList) W1)):=zs2 s hs 20 0 rfl (w.heap.size+1) zmS W1 h7 (Qm _) rfl;have N:Hid (topR s.data.toList=if (topT s.data.toList).2.e=0/\(topT s.data.toList).2.pos<s.size then zaF (topT s.data.toList).2 3 else (topT s.data.toList).2):=by unfold Hid topR;rw[h3]
  have h9:altD s.data.toList 21 zmS=topT s.data.toList:=rfl;rw[h9]at J;obtain⟨T,hT⟩:∃T,topT s.data.toList=T:=⟨_,rfl⟩
  rw[hT]at J hd N H;have hn:T.2.pos<=s.size:=by have:=J.step.inn;omega
  have ho:=hIx J;have G:=hIx (And.intro hg (And.intro hi Z));have hm:=hIx D;clear HP X g h7 hi hg Z J h9 hT D;obtain⟨Q,O⟩:∃Q,topR s.data.toList=Q:=⟨_,rfl⟩
  rw[O]at N H;clear O
  go_in
  go_upto_region 1 with fail
  rw[hf.out];go_upto_region 4 with fail
  -- WAYS
  rw[hm.out];go_wp2_with (go_at_call 137;apply Hid.out);refine WhM hd ?_;rintro e w2 ⟨A,c,rfl,hh,h2⟩;have Z:=G.out.2.2
  have m:Hid (PaSt s w w2.heap.size T A c (w2.alloc (.cells #[jA T.1.kind,jB T.1.set.a,jB T.1.set.b,jB T.1.set.c,jB T.1.set.d,.slice A T.1.kids.length c] 185))):=by
   have I:w2 (w2.alloc (.cells #[jA T.1.kind,jB T.1.set.a,jB T.1.set.b,jB T.1.set.c,jB T.1.set.d,.slice A T.1.kids.length c] 185)):=WaL;have hq:=h2.2.size;have hc:=G.out.1.grown h2.2 (by omega)
   exact⟨h2.1.below I,(I.block _ hc.lt).trans hc,PutX.new w2 _,LX.keep (λb hb=>⟨by have:=hb.1;omega,by have:=hb.2;have:=I.size;omega⟩) (λb o hb=>I.cell (p:=⟨b,o,none⟩) hb.2) _ _ hh,
    (zls G.out.2.1 G.out.2.1.size h2.2 (Zc _)).trans (I.mono (by omega)),by omega⟩
  clear hh h2 Z G W;unfold argX;go_upto_region 5 with fail
  generalize w2.alloc (.cells #[jA T.1.kind,jB T.1.set.a,jB T.1.set.b,jB T.1.set.c,jB T.1.set.d,.slice A T.1.kids.length c] 185)=V at *;generalize w2.heap.size=k at *;have ⟨c0,c1,c2,c3⟩:=m.out.rd.cells
  by_cases F:T.2.e=0
  ·have r:(T.2.e==0)=true:=by rw[F];rfl
   by_cases hl:T.2.pos<s.size
   ·have q:decide ((T.2.pos:Int)<(s.size:Int))=true:=Qu (by omega)
    obtain⟨i,l⟩:∃i:RS,zaF T.2 3=i:=⟨_,rfl⟩
    have O:Q=i:=by rw[N.out,Qg ⟨F,hl⟩,l]
    have h5:i.e=3:=by rw[<-l];unfold zaF;rw[Qg F]
    have j:Hid (P=(kT 0,i.pos,i.e)):=by unfold Hid;rw[H.out,O,Qg (by rw[h5];decide)]
    have n:(i.e != 0)=true:=by rw[h5];rfl
    have hk:Hid (Calls prog 138 #[.pointer (w.heap.size+1:),jA 3] V λe w'=>e=jC (.tuple #[])/\PaSt s w k (T.1,i) A c w'):=
     (zc9 (w.heap.size+1) s T.2 3 V m.out.rd).mono (λe w' ⟨h1,h2⟩=>⟨h1,by rw[l]at h2;exact m.out.call h2⟩)
    clear O h5 l;go_wp2_with (go_at_call 138;apply Hid.out);refine WhM hk ?_;rintro e K ⟨rfl,f⟩;have ⟨c0,c1,c2,c3⟩:=f.rd.cells;have Y:Hid (PutX (zai K w.heap.size (jA 0) (jB 0) (jB 0) (jB 0) (jB 0) (jD 0 0)) w.heap.size [jA 0,jB 0,jB 0,jB 0,jB 0,jD 0 0]/\NewX w (zai K w.heap.size (jA 0) (jB 0) (jB 0) (jB 0) (jB 0) (jD 0 0)) (kT 0) none 0/\w (zai K w.heap.size (jA 0) (jB 0) (jB 0) (jB 0) (jB 0) (jD 0 0))):=zmR (t:=(kT 0)) (A:=none) (c:=0) f.zero f.low (LX.leaf _ _ _ _ _ _ zbE);have ⟨z0,z1,z2,z3,z4,z5⟩:=f.zero.cells;have y0:=f.zero.free 0;have y1:=f.zero.free 1;have y2:=f.zero.free 2;have y3:=f.zero.free 3;have y4:=f.zero.free 4;have y5:=f.zero.free 5;go_upto_region 8 with fail
    go_region
    obtain⟨r,q,n⟩:=Y.out;have ⟨u,y,C,z,x,B⟩:=r.cells;unfold zai at u y C z x B;have S:=hIx (And.intro (NewX.drew q) n.drew);clear r q n z0 z1 z2 z3 z4 z5 y0 y1 y2 y3 y4 y5 c0 c1 c2 c3;go_wp2;exact Qi (v:=.tuple #[argX (kT 0) none 0,jA i.pos,jA i.e]) (by simp[results,results103,go_sem,u,y,C,z,x,B,argX,kT,Tree.kind,Tree.set,Tree.kids,Set4.zero]) rfl (by rw[j.out];exact⟨none,0,rfl,S.out.1,S.out.2⟩)
   ·have q:decide ((T.2.pos:Int)<(s.size:Int))=false:=Qq (by omega)
    have O:Q=T.2:=by rw[N.out,Qe (λh=>hl h.2)]
    have n:(T.2.e != 0)=false:=by rw[F];rfl
    have h8:Hid (P=if zbh T.1≠0 then (kT 0,s.size,zbh T.1)else (T.1,0,0)):=by unfold Hid;rw[H.out,O,Qe (λh=>h F)]
    have hp:s.size<=T.2.pos:=by omega
    clear O F hl
    have h6:Hid (Calls prog 139 #[.agg #[jA T.1.kind,jB T.1.set.a,jB T.1.set.b,jB T.1.set.c,jB T.1.set.d,.slice A T.1.kids.length c]] V λe w'=>e=jC (jA (zbh T.1))/\PaSt s w k T A c w'):=
     (zjU T.1 (zan T.1.kind T.1.set A T.1.kids.length c) V (LX.lt (λ_ hb=>hb.2) _ _ m.out.tree)).mono (λe w' ⟨h1,h2⟩=>⟨h1,m.out.more h2⟩)
    have ⟨o0,o1,o2,o3,o4,o5⟩:=(show PutX V k [_,_,_,_,_,_]from m.out.out).cells;go_wp2_with (go_at_call 139;apply Hid.out);refine WhM h6 ?_;rintro e K ⟨rfl,f⟩;clear c0 c1 c2 c3 o0 o1 o2 o3 o4 o5 h6 r q n
    by_cases E:zbh T.1=0
    ·have d4:(zbh T.1 != 0)=false:=by rw[E];rfl
     have j:Hid (P=(T.1,0,0)):=by unfold Hid;rw[h8.out,Qe (λh=>h E)]
     have Y:Hid (PutX (zai K w.heap.size (jA T.1.kind) (jB T.1.set.a) (jB T.1.set.b) (jB T.1.set.c) (jB T.1.set.d) (.slice A T.1.kids.length c)) w.heap.size [jA T.1.kind,jB T.1.set.a,jB T.1.set.b,jB T.1.set.c,jB T.1.set.d,.slice A T.1.kids.length c]/\NewX w (zai K w.heap.size (jA T.1.kind) (jB T.1.set.a) (jB T.1.set.b) (jB T.1.set.c) (jB T.1.set.d) (.slice A T.1.kids.length c)) T.1 A c/\w (zai K w.heap.size (jA T.1.kind) (jB T.1.set.a) (jB T.1.set.b) (jB T.1.set.c) (jB T.1.set.d) (.slice A T.1.kids.length c))):=zmR (t:=T.1) (A:=A) (c:=c) f.zero f.low (LX.keep (λb hb=>⟨by have:=hb.1;omega,hb.2⟩) (λ_ _ _=>rfl) _ _ f.tree);have ⟨z0,z1,z2,z3,z4,z5⟩:=f.zero.cells;have y0:=f.zero.free 0;have y1:=f.zero.free 1;have y2:=f.zero.free 2;have y3:=f.zero.free 3;have y4:=f.zero.free 4;have y5:=f.zero.free 5;have ⟨o0,o1,o2,o3,o4,o5⟩:=(show PutX K k [_,_,_,_,_,_]from f.out).cells;clear f E;go_wp2_with fail;obtain⟨r,q,n⟩:=Y.out;have ⟨u,y,C,z,x,B⟩:=r.cells;unfold zai at u y C z x B;exact Qi (v:=.tuple #[argX T.1 A c,jA 0,jA 0]) (by simp[results,results103,go_sem,u,y,C,z,x,B,argX]) rfl (by rw[j.out];exact⟨A,c,rfl,q,n⟩)
    ·have d4:(zbh T.1 != 0)=true:=Q7.2 E
     have j:Hid (P=(kT 0,s.size,zbh T.1)):=by unfold Hid;rw[h8.out,Qg E]
     have Y:Hid (PutX (zai K w.heap.size (jA 0) (jB 0) (jB 0) (jB 0) (jB 0) (jD 0 0)) w.heap.size [jA 0,jB 0,jB 0,jB 0,jB 0,jD 0 0]/\NewX w (zai K w.heap.size (jA 0) (jB 0) (jB 0) (jB 0) (jB 0) (jD 0 0)) (kT 0) none 0/\w (zai K w.heap.size (jA 0) (jB 0) (jB 0) (jB 0) (jB 0) (jD 0 0))):=zmR (t:=(kT 0)) (A:=none) (c:=0) f.zero f.low (LX.leaf _ _ _ _ _ _ zbE);have ⟨z0,z1,z2,z3,z4,z5⟩:=f.zero.cells;have y0:=f.zero.free 0;have y1:=f.zero.free 1;have y2:=f.zero.free 2;have y3:=f.zero.free 3;have y4:=f.zero.free 4;have y5:=f.zero.free 5;clear f E;generalize zbh T.1=ce at *;go_wp2_with fail;obtain⟨r,q,n⟩:=Y.out;have ⟨u,y,C,z,x,B⟩:=r.cells;unfold zai at u y C z x B;exact Qi (v:=.tuple #[argX (kT 0) none 0,jA s.size,jA ce]) (by simp[results,results103,go_sem,u,y,C,z,x,B,argX,kT,Tree.kind,Tree.set,Tree.kids,Set4.zero]) rfl (by rw[j.out];exact⟨none,0,rfl,q,n⟩)
  ·obtain⟨i,l⟩:∃i:RS,T.2=i:=⟨_,rfl⟩
   have f:PaSt s w k (T.1,i) A c V:=by rw[<-l];exact m.out
   have O:Q=T.2:=by rw[N.out,Qe (λh=>F h.1)]
   have j:Hid (P=(kT 0,i.pos,i.e)):=by unfold Hid;rw[H.out,O,Qg F,l]
   rw[l]at F;have r:(i.e==0)=false:=Qb.2 F;have n:(i.e != 0)=true:=Q7.2 F;clear O F c0 c1 c2 c3 l m;have ⟨c0,c1,c2,c3⟩:=f.rd.cells;have Y:Hid (PutX (zai V w.heap.size (jA 0) (jB 0) (jB 0) (jB 0) (jB 0) (jD 0 0)) w.heap.size [jA 0,jB 0,jB 0,jB 0,jB 0,jD 0 0]/\NewX w (zai V w.heap.size (jA 0) (jB 0) (jB 0) (jB 0) (jB 0) (jD 0 0)) (kT 0) none 0/\w (zai V w.heap.size (jA 0) (jB 0) (jB 0) (jB 0) (jB 0) (jD 0 0))):=zmR (t:=(kT 0)) (A:=none) (c:=0) f.zero f.low (LX.leaf _ _ _ _ _ _ zbE);have ⟨z0,z1,z2,z3,z4,z5⟩:=f.zero.cells;have y0:=f.zero.free 0;have y1:=f.zero.free 1;have y2:=f.zero.free 2;have y3:=f.zero.free 3;have y4:=f.zero.free 4;have y5:=f.zero.free 5;go_upto_region 8 with fail
   go_region
   obtain⟨r,q,n⟩:=Y.out;have ⟨u,y,C,z,x,B⟩:=r.cells;unfold zai at u y C z x B;have S:=hIx (And.intro (NewX.drew q) n.drew);clear r q n z0 z1 z2 z3 z4 z5 y0 y1 y2 y3 y4 y5 c0 c1 c2 c3;go_wp2;exact Qi (v:=.tuple #[argX (kT 0) none 0,jA i.pos,jA i.e]) (by simp[results,results103,go_sem,u,y,C,z,x,B,argX,kT,Tree.kind,Tree.set,Tree.kids,Set4.zero]) rfl (by rw[j.out];exact⟨none,0,rfl,S.out.1,S.out.2⟩)
theorem zwj(p a d:List Ins)(x y b c:Ins):((p++[x]++a++[y]).set p.length b++d).set (p++[x]++a).length c=p++(b::(a++c::d)):=by
 have h1:(p++[x]++a++[y]).set p.length b=p++(b::a)++[y]:=by
  rw[QG,QG,ZH _ _ (Qc _),Xg];simp
 have h2:(p++[x]++a).length=(p++(b::a)).length:=by simp
 rw[h1,h2,QG,ZH _ _ (Qc _),Xg];simp
theorem zzj(p a c:List Ins)(x y b:Ins)(h:(p++[x]++a).length<((p++[x]++a++[y]).set p.length b++c).length):((p++[x]++a++[y]).set p.length b++c)[(p++[x]++a).length]=y:=by
 rw[Zw (by simp),List.getElem_set_ne (by simp)];simp
theorem zu4(S:Set4)(J tb:Tree)(he:CodeC J)(h4:CodeC tb):CodeC (.node 5 S [J,tb]):=by
 intro A c w B v p hB Y hO hn;obtain⟨y,off,ca,cb,rfl,Z,K,T,hh,H⟩:=LK.two Y;obtain⟨A1,c1,rfl,_,_⟩:=T.parts;obtain⟨A2,c2,rfl,_,_⟩:=H.parts;have HA:=hIx (he.call T);have HB:=hIx (h4.call H);have HY:=hIx λW hb=>zee hh (W:=W) hb Z
 have HX:=hIx λW hb=>(zee K (W:=W) hb Z).six
 simp only[nodes,zcz]at hn;obtain⟨A0,c0,rfl,_⟩:=hO.form;have h3:∀o,OwnP (w.alloc o) B (.slice A0 p.length c0) p:=λo=>hO.below ((Qj _ _).alloc (Qc _) o)
 have x:Hid (∀k a b c d A n q W,Keeps (w.alloc (boxX k a b c d A n q)) W->_):=λk a b c d A n q W h=>(zi5 h).1
 unfold boxX at x;unfold argX at HA HB ⊢;obtain⟨a,b,c',d⟩:=S;dsimp only[Tree.kind,Tree.set,Tree.kids,List.length_nil,List.length_cons]at x ⊢;clear Y he h4 T H hh;have hE:=hIx hO;have i1:IntKind.i64.wrap ((p.length:Int)+1)=(p.length:Int)+1:=Qx _ (by omega)
 go_in
 obtain⟨x0,x1,x2,x3,x4,x5⟩:=K.six;clear K;have hP:y<w.heap.size:=by omega
 go_wp2_with fail;have h8:∀o,B<=(w.alloc o).heap.size:=λo=>by simp;omega
 have HS:=hIx λW Y hb=>And.intro (x.out 5 a b c' d (some ⟨y,off,none⟩) 2 c W Y) (HX.out W hb)
 go_region_held3 (λw'=>w'.cell? ⟨w.heap.size,5,none⟩=some (.slice (some ⟨y,off,none⟩) 2 c)/\w'.cell? ⟨y,off,none⟩=some (jA J.kind)/\w'.cell? ⟨y,off+1,none⟩=some (jB J.set.a)/\w'.cell? ⟨y,off+2,none⟩=some (jB J.set.b)/\
  w'.cell? ⟨y,off+3,none⟩=some (jB J.set.c)/\w'.cell? ⟨y,off+4,none⟩=some (jB J.set.d)/\w'.cell? ⟨y,off+5,none⟩=some (.slice A1 J.kids.length c1))
  (first|exact HS.out _ (u.trans U) (f.trans V)|exact HS.out _ u f|go_keep)
  (first
   |(refine zfa rfl (.tmp 48) (.tmp 52) rfl B (.slice A0 p.length c0) p rfl (h3 _).drew (h8 _) _ ⟨2,(p.length:Int)+1,0,.zero⟩ rfl (w.heap.size+1) (by simp) 1 rfl (by omega) ?_;intro v8 w8 hg h6 hf hz;have u:=Keeps.undrew (Keeps.own (h3 _).drew hf);have f:Below B w w8:=((Qj B w).alloc hB _).drew.trans h6)
   |(go_at_call 140;(with_reducible refine(HA.out w8 v8 (p++[⟨2,(p.length:Int)+1,0,.zero⟩]) (Ql hB f.size) f hg (by rw[Qa,QC];omega)).mono ?_);rintro e w1 ⟨v1,G,rfl,X,z,V,U,hS⟩))
 rw[Qa,QC]at X;have hQ:=zfF X;have m:=f.trans V;have I:=u.trans U;have hq:=λW Y hb=>And.intro (x.out 5 a b c' d (some ⟨y,off,none⟩) 2 c W Y) ((HY.out W hb).six)
 clear HA HS HX x HY V U h6 hf x0 x1 x2 x3 x4 x5 hg h8;have hN:=m.size;have hp:B<=w1.heap.size:=Ql hB m.size;have hw:y<w1.heap.size:=by omega
 obtain⟨hD,hR,rfl,_⟩:=z.form;have hc:=hIx (zwj p G);have hd:=hIx (zzj p G);have E:=hIx (zq9 p G ⟨2,(p.length:Int)+1,0,.zero⟩ ⟨3,0,0,.zero⟩);have C:Hid ((p++[(⟨2,(p.length:Int)+1,0,.zero⟩:Ins)]++G).length=p.length+1+G.length):=hIx (by simp;omega);have l:=hIx λD x' y'=>hc.out D ⟨2,(p.length:Int)+1,0,.zero⟩ ⟨3,0,0,.zero⟩ x' y'
 have j:=hIx λD x'=>hd.out D ⟨2,(p.length:Int)+1,0,.zero⟩ ⟨3,0,0,.zero⟩ x'
 clear hc hd;generalize hM:p++[(⟨2,(p.length:Int)+1,0,.zero⟩:Ins)]++G=M at l j E C z;have F:Hid ((M++[(⟨3,0,0,.zero⟩:Ins)]).length=p.length+1+G.length+1):=hIx (by rw[Qa,QC,C.out]);generalize hL:M++[(⟨3,0,0,.zero⟩:Ins)]=L at l j E F;have hj:=hIx hq;go_wp2_with (at_builtin;refine zb2 rfl _ _ rfl B _ M rfl z hp _ ⟨3,0,0,.zero⟩ rfl w1.heap.size rfl 1 rfl (by rw[C.out];omega) ?_;intro v2 w2 r ht hs hu;rw[hL]at r;have h9:p.length<L.length:=(by rw[F.out];omega);have hI:(p.length:Int)<(L.length:Int):=(by omega);obtain⟨gq,cq,rfl,hv,hC⟩:=r.head (by omega);have ⟨⟨_,hK⟩,_,hH⟩:=r.ab p.length h9;have i:=r.setAB p.length h9 2 (by decide) (jA (L.length:Int)) ⟨2,(p.length:Int)+1,(L.length:Int),.zero⟩ (by rw[E.out];rfl);have s:=(I.trans (Keeps.own z hs)).trans (Keeps.only r i.2);have g:=(m.trans ht).setCell hv (jA (L.length:Int)) (p:=⟨gq,p.length*7+2,none⟩);have ⟨f5,y0,y1,y2,y3,y4,y5⟩:=hj.out _ s g);have hr:B<=(w2.setCell ⟨gq,p.length*7+2,none⟩ (jA (L.length:Int))).heap.size:=Ql hB g.size;have hy:w1.heap.size<(w2.setCell ⟨gq,p.length*7+2,none⟩ (jA (L.length:Int))).heap.size:=by simpa using hu
 have P:Hid ((L.set p.length ⟨2,(p.length:Int)+1,(L.length:Int),.zero⟩).length=p.length+1+G.length+1):=hIx (List.length_set.trans F.out);refine(HB.out _ _ (L.set p.length ⟨2,(p.length:Int)+1,(L.length:Int),.zero⟩) hr g i.1 (by rw[P.out];omega)).mono ?_;rintro e w4 ⟨v4,D,rfl,Q,t,ho,hi,hT⟩;have H:=zfF Q;have h5:=g.trans ho;have hm:=s.trans hi;have ha:=hIx λy'=>l.out D ⟨2,(p.length:Int)+1,(L.length:Int),.zero⟩ y'
 have h7:=hIx (j.out D ⟨2,(p.length:Int)+1,(L.length:Int),.zero⟩);have O:Hid ((L.set p.length ⟨2,(p.length:Int)+1,(L.length:Int),.zero⟩++D).length=p.length+1+G.length+1+D.length):=hIx (by rw[Qa,P.out]);rw[P.out]at Q;clear HB l j E hj f5 y0 y1 y2 y3 y4 y5 i ho hi s g r I m;generalize L.set p.length ⟨2,(p.length:Int)+1,(L.length:Int),.zero⟩++D=N at ha h7 O t;have hJ:M.length<N.length:=by rw[O.out,C.out];omega
 have hG:(M.length:Int)<(N.length:Int):=by omega
 obtain⟨gn,cn,rfl,h0,hx⟩:=t.head (by omega);have ⟨⟨hA,_⟩,hF,_⟩:=t.ab M.length hJ;have i:=t.setAB M.length hJ 1 (by decide) (jA (N.length:Int)) ⟨3,(N.length:Int),0,.zero⟩ (by rw[h7.out];rfl);go_wp2;go_ret;rw[ha.out]at i;refine⟨_,_,rfl,.alt _ _ _ _ _ _ X Q,?_,h5.setCell h0 _,((Keeps.alloc _ _).trans hm).trans (Keeps.only t i.2),by simp;omega⟩;have h:=i.1;rw[O.out,F.out]at h ⊢;exact h
theorem zel(t:Tree)(h:Fine t):CodeC t:=by
 match t,h with
 |.node k S e,h=>
  have d:=zq2 h
  match k,e,d with
  |_,_,.none=>exact zg9 1 S _ (.inl ⟨.inl rfl,rfl⟩) λ_=>.none _ _
  |_,_,.empty=>exact zqG S
  |_,_,.byte=>exact zg9 3 S _ (.inl ⟨.inr rfl,rfl⟩) λ_=>.byte _ _
  |_,_,.cat a b c hb=>exact zuK S a b (zel a c) (zel b hb)
  |_,_,.alt a b c hb=>exact zu4 S a b (zel a c) (zel b hb)
  |_,_,.star a c=>exact zs0 S a (zel a c)
  |_,_,.begin=>exact zg9 7 S _ (.inr (.inl ⟨rfl,rfl⟩)) λ_=>.begin _ _
  |_,_,.finish=>exact zg9 8 S _ (.inr (.inr ⟨rfl,rfl⟩)) λ_=>.finish _ _
termination_by SizeOf.sizeOf t
mutual
theorem zil:∀(t:Tree) (a n:Int),(chk t a n).2=0->(chk t a n).1=n+nodes t/\n+nodes t<=80
 |.node k s b,a,n,h=>by
  rw[chk]at h ⊢
  by_cases c1:80<n+1
  ·rw[Qg c1]at h;exact absurd (show (2:Int)=0 from h) (by decide)
  ·rw[Qe c1]at h ⊢
   by_cases c2:20<a
   ·rw[Qg c2]at h;exact absurd (show (11:Int)=0 from h) (by decide)
   ·rw[Qe c2]at h ⊢
    cases c3:badT k s b.length with
    |true=>rw[c3,Qg rfl]at h;exact absurd (show (1:Int)=0 from h) (by decide)
    |false=>
     rw[c3,Qe (by decide)]at h;rw[Qe (by decide)];have:=zjv b _ _ h;rw[nodes];exact⟨by rw[this.1];omega,by have:=this.2 (by omega);omega⟩
theorem zjv:∀(b:List Tree) (a n:Int),(chkL b a n).2=0->(chkL b a n).1=n+zcz b/\(n<=80->n+zcz b<=80)
 | [],_,_,_=>by rw[chkL,zcz];exact⟨by simp,λh=>by simpa using h⟩
 |t::b,a,n,h=>by
  rw[chkL]at h ⊢
  by_cases c:(chk t a n).2≠0
  ·rw[Qg c]at h;exact absurd h c
  ·rw[Qe c]at h ⊢
   have h1:=zil t a n (Z2.1 c);have h2:=zjv b _ _ h;rw[zcz];rw[h1.1]at h2 ⊢;exact⟨by rw[h2.1];omega,λ_=>by have:=h2.2 h1.2;omega⟩
end
def zi3(t:Tree)(w:World)(e:Ending)(w':World):Prop:=
 ∃v,e=jC (.tuple #[v,jA (zbh t)])/\(zbh t≠0->v=jD 0 0)/\(zbh t=0->∃l,Code t 0 l/\l.length<=160/\OwnP w' w.heap.size v (l++[⟨6,0,0,.zero⟩]))/\w w'
theorem zop(t:Tree)(A:Option Addr)(c:Nat)(w:World)(h:LT w w.heap.size t (zan t.kind t.set A t.kids.length c)):
 Calls prog 104 #[argX t A c] w (zi3 t w):=by
 have f:Hid (∀W,w W->Calls prog 139 #[argX t A c] W λe w'=>e=jC (jA (zbh t))/\W w'):=λW hb=>zjU t _ W ((h.below hb).more hb.size)
 have k:Hid (zbh t=0->∀W,w W->Calls prog 140 #[jD 0 0,argX t A c] W (zhA t [] w.heap.size W)):=λa W hb=>by
  have D:=(zil t 1 0 a).2;obtain⟨L,J,e,_,K⟩:=h.parts;exact(zel t (zkO t 1 0 a)).call h W _ [] hb.size hb (OwnP.nil _ _) (by simp;omega)
 have n:Hid (∀l,zbh t=0->Code t 0 l->l.length<=160):=λl a hl=>by
  have D:=(zil t 1 0 a).2;have:=zfF hl;omega
 clear h;unfold argX at f k ⊢
 go_in
 go_wp2_with fail;refine(f.out _ WaL).mono ?_;rintro e u ⟨rfl,i⟩;have d:w u:=WaL.trans (i.mono (by simp))
 by_cases a:zbh t=0
 ·have z:(zbh t != 0)=false:=by rw[a];rfl
  obtain⟨⟨x,y,F,I,G,B⟩,_⟩:=zxZ i;go_wp2_with fail;refine(k.out a _ d).mono ?_;rintro e w2 ⟨N,l,rfl,j,g,q,_,_⟩;have m:=n.out l a j;have b:=d.trans q;have p:=b.size;obtain⟨H,c2,rfl,_⟩:=g.form;clear x y F I G B;go_wp2_with (at_builtin;refine zb2 rfl (.tmp 11) (.tmp 13) rfl w.heap.size (.slice H ([]++l).length c2) ([]++l) rfl g p _ ⟨6,0,0,.zero⟩ rfl w2.heap.size rfl 1 rfl (by simp;omega) ?_;intro s w3 o r C E);exact Qi (v:=.tuple #[s,jA 0]) (by simp[results,results104,go_sem]) rfl ⟨s,by rw[a],λh=>absurd a h,λ_=>⟨l,j,m,o⟩,b.trans r⟩
 ·have z:(zbh t != 0)=true:=by simpa using a
  go_wp2;exact Qi (v:=.tuple #[jD 0 0,jA (zbh t)]) (by simp[results,results104,go_sem]) rfl ⟨_,rfl,λ_=>rfl,λh=>absurd h a,d⟩
structure RowT(α:Type) where
 e:TypeId
 t:TypeId
 size:Nat
 bytes:Nat
 z:Value
 cells:α->List Value
 hsz:∀a,(cells a).length=size
 hpos:0<size
 under:prog.underlying t=some (.slice e)
 info:(prog.info? e).map (λi=>(i.zero,i.size,i.bytes))=some (some z,size,bytes)
 hz:z.cells.size=size
 one:∀a,∀u∈cells a,u.oneCell'=true
 hbytes:bytes<=128
def OwnG{a:Type}(R:RowT a)(w:World)(base:Nat)(v:Value)(l:List a):Prop:=w.ownsRow base R.e R.size v l.length (l.flatMap R.cells)
theorem OwnG.nil{a:Type}(R:RowT a)(w:World)(base:Nat):OwnG R w base (jD 0 0) []:=ZU w base R.e R.size
theorem OwnG.below{a:Type}{R:RowT a}{w w':World}{base:Nat}{v:Value}{l:List a}(h:OwnG R w base v l)(hb:w w'):OwnG R w' base v l:=zaU h hb
theorem OwnG.keep{b:Type}{R:RowT b}{w w':World}{base:Nat}{v:Value}{l:List b}(h:OwnG R w base v l)(c:∀g,v.ownBlock=some g->w'.heap[g]? = w.heap[g]?):OwnG R w' base v l:=by
 refine⟨h.1,?_⟩
 rcases h.2 with e|⟨g,cap,a,h1,h2,f,d⟩
 ·exact .inl e
 ·exact .inr ⟨g,cap,a,h1,h2,(c g (by rw[h1];rfl)).trans f,d⟩
theorem OwnG.low{c:Type}{R:RowT c}{w:World}{base b:Nat}{v:Value}{l:List c}(h:OwnG R w base v l)(hb:b<=base):OwnG R w b v l:=
 ⟨h.1,h.2.imp_right λ⟨g,cap,a,h1,h2,d⟩=>⟨g,cap,a,h1,Ql hb h2,d⟩⟩
theorem OwnG.lt{a:Type}{R:RowT a}{w:World}{base:Nat}{v:Value}{l:List a}(h:OwnG R w base v l):∀k,v.ownBlock=some k->base<=k/\k<w.heap.size:=QK h
theorem OwnG.head{a:Type}{R:RowT a}{w:World}{base:Nat}{v:Value}{l:List a}(h:OwnG R w base v l)(hl:0<l.length):∃g c,v=.slice (some ⟨g,0,none⟩) l.length c/\base<=g/\g<w.heap.size:=by
 rcases h.2 with ⟨h1,h2⟩|⟨g,cap,b,h1,hb,d,_⟩
 ·omega
 ·exact⟨g,cap,h1,hb,(QK h g (by rw[h1];simp[Value.ownBlock])).2⟩
theorem OwnG.cases{a:Type}{R:RowT a}{w:World}{base:Nat}{v:Value}{l:List a}(h:OwnG R w base v l):(v=jD 0 0/\l=[])\/∃g c,v=.slice (some ⟨g,0,none⟩) l.length c/\base<=g/\g<w.heap.size:=by
 rcases h.2 with ⟨h1,h2⟩|⟨g,cap,b,h1,hb,d,_⟩
 ·exact .inl ⟨h1,QA h2⟩
 ·exact .inr ⟨g,cap,h1,hb,(QK h g (by rw[h1];simp[Value.ownBlock])).2⟩
theorem OwnG.at{b:Type}{R:RowT b}{w:World}{base g c:Nat}{l:List b}(h:OwnG R w base (.slice g l.length c) l)(k:Nat)(a:k<l.length)(j:Nat)(e:j<R.size):
 w.cell? ⟨g,k*R.size+j,none⟩=(R.cells l[k])[j]? /\ w.frozen? ⟨g,k*R.size+j,none⟩=false:=by
 have h1:=zcw R.cells R.size R.hsz l k j a e;have hl:=za0 R.cells R.size R.hsz l
 have h2:k*R.size+j<(l.flatMap R.cells).length:=by
  rw[hl];have:(k+1)*R.size<=l.length*R.size:=Xs _ a;rw[Xq]at this;omega
 have d:=Zq (g:=g) h (by simp[Value.ownBlock]) (k*R.size+j) _ (Qd h2);rw[zba]at d;rw[Qd h2]at h1;exact⟨d.trans h1,World.ownsRow.frozenAt h _⟩
theorem OwnG.form{a:Type}{R:RowT a}{w:World}{base:Nat}{v:Value}{l:List a}(h:OwnG R w base v l):∃A c,v=.slice A l.length c/\Sl w w.heap.size R.size A l.length (l.flatMap R.cells):=by
 rcases h.cases with ⟨h1,h2⟩|⟨g,cap,h1,hb,d⟩
 ·subst h2
  exact⟨none,0,h1,Sl.nil _ _ _ _⟩
 ·refine⟨_,_,h1,za0 R.cells R.size R.hsz l,λe=>⟨g,0,rfl,d,λj b=>?_⟩⟩
  have:=Zq (g:=g) h (by rw[h1];simp[Value.ownBlock]) j _ (Qd b);rw[zba]at this;rw[Zh];exact this
theorem OwnG.stored{b:Type}{R:RowT b}{w:World}{base g c:Nat}{l:List b}(h:OwnG R w base (.slice g l.length c) l)(k:Nat)(i:k<l.length)(j:Nat)(n:j<R.size)(u:Value)(y:b)(m:R.cells y=(R.cells l[k]).set j u):
 OwnG R (w.setCell ⟨g,k*R.size+j,none⟩ u) base (.slice g l.length c) (l.set k y)/\w.grownBy (w.setCell ⟨g,k*R.size+j,none⟩ u) (some g):=by
 have f:=World.ownsRow.stored h (k*R.size+j) u;refine⟨?_,f.2⟩
 have d:∀(l:List b) (k:Nat) (h:k<l.length),R.cells y=(R.cells l[k]).set j u->(l.flatMap R.cells).set (k*R.size+j) u=(l.set k y).flatMap R.cells:=by
  intro l
  induction l with
  |nil=>intro k h;exact absurd h (by simp)
  |cons a r ih=>
   intro k h d;cases k with
   |zero=>
    have e:R.cells y=(R.cells a).set j u:=d;simp only[QH,Za,XP,Zh];rw[List.set_append_left _ _ (by rw[R.hsz];exact n),e]
   |succ k=>
    simp only[QH,Zf];rw[ZH _ _ (by rw[R.hsz,Xq];omega),R.hsz,show (k+1)*R.size+j-R.size=k*R.size+j by rw[Xq];omega];rw[ih k (by simpa using h) d]
 unfold OwnG;rw[Xm,<-d l k i m];exact f.1
section
variable {ops:Array Oper} {rest:List Oper} {o:Oper} {a:Act} {Q:Exit->Act->World->Prop} {w:World}
theorem zeN{m:Type}(R:RowT m){K:Act->World->Prop}(s x:Operand)(y:o.op=.call {callee:=.builtin .append,args:=#[s,x],argTypes:=#[R.t,R.t]})
 (base:Nat) (v:Value) (l:List m) (A:a.eval s=v) (f:OwnG R w base v l) (d:base<=w.heap.size)
 (p:List Value) (new:m) (D:p=R.cells new) (q:Nat) (n:w.heap.size=q) (c:Nat) (C:a.eval x=.slice q 1 c)
 (b:l.length<=1048576)
 (h:∀v' w',OwnG R w' base v' (l++[new])->Below base w w'->(∀g,g<w.heap.size->v.ownBlock≠some g->w'.heap[g]? = w.heap[g]?)->w.heap.size<w'.heap.size->K (a.put o.dst v') w'):
 o.wp prog a (w.alloc (.cells p.toArray R.e)) K Q:=by
 subst D;subst n
 obtain⟨u,B,i,j,k⟩:=ZG R.info;have hb:=R.hbytes
 exact zaV s x R.t y base R.e u _ R.size R.bytes R.under B i j k R.hz R.hpos v l.length (l.flatMap R.cells) A f d (R.cells new) 1 c C (by rw[R.hsz,Nat.one_mul])
  (R.one new) (by unfold maxLen;omega) (Ql (Nat.mul_le_mul (Nat.add_le_add_right b 1) hb) (by omega)) λv' w' h1 h2 z r=>h v' w' (by unfold OwnG;rw[Qa,Q6];simpa using h1) h2 z r
theorem zaw{m:Type}(R:RowT m)(i:o.guard=none)(s x:Operand)(r:o.op=.call {callee:=.builtin .append,args:=#[s,x],argTypes:=#[R.t,R.t]})
 (base:Nat) (v:Value) (l:List m) (y:a.eval s=v) (f:OwnG R w base v l) (d:base<=w.heap.size)
 (j:List Value) (new:m) (A:j=R.cells new) (k:Nat) (n:w.heap.size=k) (c:Nat) (z:a.eval x=.slice k 1 c)
 (b:l.length<=1048576)
 (h:∀v' w',OwnG R w' base v' (l++[new])->Below base w w'->(∀g,g<w.heap.size->v.ownBlock≠some g->w'.heap[g]? = w.heap[g]?)->w.heap.size<w'.heap.size->wpList prog ops Q rest (a.put o.dst v') w'):
 wpList prog ops Q (o::rest) a (w.alloc (.cells j.toArray R.e)):=
 Xe i λ_ q=>zeN R s x r base v l y f d j new A k n c z b λv' w' h1 h2 u p=>q _ _ (h v' w' h1 h2 u p)
theorem zkP{m:Type}(R:RowT m){K:Act->World->Prop}{E:Prop}(i:o.guard=none)(s x:Operand)(q:o.op=.call {callee:=.builtin .append,args:=#[s,x],argTypes:=#[R.t,R.t]})
 (base:Nat) (v:Value) (l:List m) (r:a.eval s=v) (f:OwnG R w base v l) (d:base<=w.heap.size)
 (j:List Value) (new:m) (y:j=R.cells new) (k:Nat) (n:w.heap.size=k) (c:Nat) (u:a.eval x=.slice k 1 c)
 (b:l.length<=1048576)
 (h:∀v' w',OwnG R w' base v' (l++[new])->Below base w w'->(∀g,g<w.heap.size->v.ownBlock≠some g->w'.heap[g]? = w.heap[g]?)->w.heap.size<w'.heap.size->K (a.put o.dst v') w'):
 if Region.wanted o (yielded ops a.tmps)=true then Oper.wp prog o a (w.alloc (.cells j.toArray R.e)) K Q else E:=by
 have p:Region.wanted o (yielded ops a.tmps)=true:=by simp[Region.wanted,i]
 rw[Qg p];exact zeN R s x q base v l r f d j new y k n c u b h
end
structure TrieS(ss:List jE):Prop where
 root:ss[0]? = some []
 uniq:ss.Nodup
 pre:∀v b,v++[b]∈ss->v∈ss
 order:∀i j (hi:i<ss.length) (hj:j<ss.length),ss[i].length<ss[j].length->i<j
theorem TrieS.nil_mem{a:List jE}(h:TrieS a):[]∈a:=Xb h.root
def zfu(a:List jE)(s v:jE):Prop:=v∈a/\v <:+s/\∀u,u∈a->u <:+s->u <:+v
def IsFail(a:List jE)(s v:jE):Prop:=v∈a/\v <:+s/\v≠s/\∀u,u∈a->u <:+s->u≠s->u <:+v
theorem zi4{u s:jE}(h:u <:+s)(hl:s.length<=u.length):u=s:=h.eq_of_length (Nat.le_antisymm h.length_le hl)
theorem zcS{u s:jE}{b c:UInt8}:u++[b] <:+s++[c]↔b=c/\u <:+s:=by
 constructor
 ·rintro⟨t,h⟩
  rw[<-QG]at h;obtain⟨h1,h2⟩:=List.append_inj' h rfl;exact⟨by simpa using h2,⟨t,h1⟩⟩
 ·rintro⟨rfl,t,h⟩
  exact⟨t,by rw[<-QG,h]⟩
theorem zno{u s:jE}{c:UInt8}(h:u <:+s++[c])(d:u≠[]):∃a,u=a++[c]/\a <:+s:=by
 obtain⟨a,b,rfl⟩:∃a b,u=a++[b]:=by
  rcases List.eq_nil_or_concat u with e|⟨a,b,h1⟩
  ·exact absurd e d
  ·exact⟨a,b,by rw[h1,List.concat_eq_append]⟩
 obtain⟨rfl,h2⟩:=zcS.1 h;exact⟨a,rfl,h2⟩
def Cand(a:List jE)(s:jE)(b:UInt8)(v:jE):Prop:=v∈a/\v <:+s/\∀u,u∈a->u <:+s->u++[b]∈a->u <:+v
theorem zgD{a:List jE}{s v:jE}(b:UInt8)(h:zfu a s v):Cand a s b v:=⟨h.1,h.2.1,λu c d _=>h.2.2 u c d⟩
theorem zso{a:List jE}{s v f:jE}{b:UInt8}(h:Cand a s b v)(i:v++[b] ∉ a)(c:IsFail a v f):Cand a s b f:=by
 refine⟨c.1,c.2.1.trans h.2.1,λu d g hb=>?_⟩;have h1:=h.2.2 u d g hb;exact c.2.2.2 u d h1 λe=>i (by rw[<-e];exact hb)
theorem zqH{a:List jE}{s v:jE}{b:UInt8}(g:TrieS a)(h:Cand a s b v)(f:v++[b]∈a):zfu a (s++[b]) (v++[b]):=by
 refine⟨f,zcS.2 ⟨rfl,h.2.1⟩,λu c i=>?_⟩
 by_cases d:u=[]
 ·rw[d];exact List.nil_suffix
 ·obtain⟨e,rfl,h1⟩:=zno i d
  exact zcS.2 ⟨rfl,h.2.2 e (g.pre e b c) h1 c⟩
theorem zsh{a:List jE}{s:jE}{b:UInt8}(d:TrieS a)(h:Cand a s b [])(i:[b] ∉ a):zfu a (s++[b]) []:=by
 refine⟨d.nil_mem,List.nil_suffix,λu c g=>?_⟩
 by_cases e:u=[]
 ·rw[e];exact List.suffix_refl _
 ·obtain⟨f,rfl,h1⟩:=zno g e
  have:=h.2.2 f (d.pre f b c) h1 c;rw[List.suffix_nil]at this;rw[this]at c;exact absurd c i
theorem zmG{a:List jE}{p f v:jE}{b:UInt8}(j:IsFail a p f)(d:zfu a (f++[b]) v)(l:TrieS a)(c:p++[b] ∉ a):
 v∈a/\v <:+p++[b]/\v≠p++[b]/\∀u,u∈a->u <:+p++[b]->u≠p++[b]->u <:+v:=by
 have n:f++[b] <:+p++[b]:=zcS.2 ⟨rfl,j.2.1⟩;refine⟨d.1,d.2.1.trans n,λe=>c (by rw[<-e];exact d.1),λu k h1 h2=>?_⟩
 by_cases i:u=[]
 ·rw[i];exact List.nil_suffix
 ·obtain⟨h,rfl,m⟩:=zno h1 i
  have g:h≠p:=λe=>h2 (by rw[e])
  exact d.2.2 _ k (zcS.2 ⟨rfl,j.2.2.2 h (l.pre h b k) m g⟩)
theorem zua{a:List jE}{b:UInt8}(d:TrieS a):[]∈a/\[] <:+[b]/\([]:jE)≠[b]/\∀u,u∈a->u <:+[b]->u≠[b]->u <:+[]:=by
 refine⟨d.nil_mem,List.nil_suffix,by simp,λu _ h1 h2=>?_⟩
 by_cases c:u=[]
 ·rw[c];exact List.suffix_refl _
 ·have e:=h1.length_le
  have f:0<u.length:=ZJ.2 c;exact absurd (zi4 h1 (by simp only[QC]at e ⊢;omega)) h2
theorem IsFail.more{b:List jE}{s v x:jE}(h:IsFail b s v)(c:s.length<=x.length):IsFail (b++[x]) s v:=
 ⟨ZN _ h.1,h.2.1,h.2.2.1,λu a h1 h2=>by
  rcases QO.1 a with a|a
  ·exact h.2.2.2 u a h1 h2
  ·rw[Qy.1 a]at h1 h2
   exact absurd (zi4 h1 c) h2⟩
theorem zuJ{f:List jE}(h:TrieS f){p:jE}{b:UInt8}(l:p∈f)(o:p++[b] ∉ f)(hl:∀v,v∈f->v.length<=p.length+1):TrieS (f++[p++[b]]):=by
 have g:0<f.length:=List.length_pos_of_mem l;refine⟨by rw[Zj g];exact h.root,?_,λv c k=>?_,λi j n q d=>?_⟩
 ·rw[List.nodup_append]
  refine⟨h.uniq,by simp,λa r s hb=>?_⟩;rw[Qy.1 hb];exact λe=>o (by rw[<-e];exact r)
 ·rcases QO.1 k with k|k
  ·exact ZN _ (h.pre v c k)
  ·have:=Qy.1 k
   obtain⟨e,_⟩:=List.append_inj' this rfl;rw[e];exact ZN _ l
 ·rw[Qa,QC]at n q
  by_cases c1:i<f.length
  ·by_cases c2:j<f.length
   ·rw[Zw c1,Zw c2]at d
    exact h.order i j c1 c2 d
   ·omega
  ·have e:(f++[p++[b]])[i]=p++[b]:=by rw[ZO (by omega)];simp
   rw[e]at d
   by_cases c2:j<f.length
   ·rw[Zw c2]at d
    have:=hl _ (Qz c2);simp only[Qa,QC]at d;omega
   ·have m:(f++[p++[b]])[j]=p++[b]:=by rw[ZO (by omega)];simp
    rw[m]at d;omega
def zaR(ws:List jE)(s:jE):List Nat:=(List.range ws.length).filter λk=>decide (ws.getD k [] <:+s)
theorem zcI{ws:List jE}{s:jE}{k:Nat}:k∈zaR ws s↔k<ws.length/\ws.getD k [] <:+s:=by
 unfold zaR;rw[ZE,ZP,QY]
theorem zcD(ws:List jE)(s:jE):(zaR ws s).Pairwise (·<·):=List.Pairwise.filter _ List.pairwise_lt_range
theorem zgf:∀{l m:List Nat},l.Pairwise (·<·)->m.Pairwise (·<·)->(∀k,k∈l↔k∈m)->l=m
 | [],[],_,_,_=>rfl
 | [],b::m,_,_,h=>absurd ((h b).2 (by simp)) (by simp)
 |a::l,[],_,_,h=>absurd ((h a).1 (by simp)) (by simp)
 |a::l,b::m,h1,h2,h=>by
  rw[List.pairwise_cons]at h1 h2
  have e:a=b:=by
   rcases QI.1 ((h a).1 (by simp))with e|d
   ·exact e
   ·rcases QI.1 ((h b).2 (by simp))with e|f
    ·exact e.symm
    ·have:=h2.1 a d;have:=h1.1 b f;omega
  subst e;refine Zi (a::·) (zgf h1.2 h2.2 λk=>⟨λc=>?_,λc=>?_⟩)
  ·rcases QI.1 ((h k).1 (by simp[c]))with e|d
   ·have:=h1.1 k c;omega
   ·exact d
  ·rcases QI.1 ((h k).2 (by simp[c]))with e|d
   ·have:=h2.1 k c;omega
   ·exact d
theorem zlr{ws a:List jE}{s v:jE}(b:∀k,k<ws.length->ws.getD k []∈a)(h:zfu a s v):zaR ws s=zaR ws v:=
 zgf (zcD _ _) (zcD _ _) λk=>by
  rw[zcI,zcI];exact⟨λ⟨h1,h2⟩=>⟨h1,h.2.2 _ (b k h1) h2⟩,λ⟨h1,h2⟩=>⟨h1,h2.trans h.2.1⟩⟩
theorem zkv{ws a:List jE}{s v:jE}(b:∀k,k<ws.length->ws.getD k []∈a)(h:IsFail a s v)(k:Nat):k∈zaR ws s↔k∈zaR ws v\/(k<ws.length/\ws.getD k []=s):=by
 rw[zcI,zcI]
 constructor
 ·rintro⟨h1,h2⟩
  by_cases e:ws.getD k []=s
  ·exact .inr ⟨h1,e⟩
  ·exact .inl ⟨h1,h.2.2.2 _ (b k h1) h2 e⟩
 ·rintro(⟨h1,h2⟩|⟨h1,h2⟩)
  ·exact⟨h1,h2.trans h.2.1⟩
  ·exact⟨h1,by rw[h2];exact List.suffix_refl _⟩
