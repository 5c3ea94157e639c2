/- Lemmas for the last texts. -/
import Derived.Test.YtnnokglddolglaaGreatDoorM05
import Derived.Test.YtnnokglddolglaaGreatDoorM10
set_option maxHeartbeats 6400000
set_option maxRecDepth 100000
namespace Go.Proofs.YtnnokglddolglaaGreatDoor
open Go.RowKit Go.Proofs.Tryz
theorem zdH{g:Nat}{s:ByteArray}{w wr:World}{q:RS}{t:Tree}{A:Option Addr}{c:Nat}(k:g<w.heap.size)(n:RdAt g s q wr)(l:ZeroX wr w.heap.size)(m:w.grownBy wr (some g))
 (j:LX wr (λb=>w.heap.size<b/\b<wr.heap.size) t (zap t.kind t.set A t.kids.length c)):
 PutX (zah wr w.heap.size (.int .i64 t.kind) (.int .u64 t.set.a) (.int .u64 t.set.b) (.int .u64 t.set.c) (.int .u64 t.set.d) (.slice A t.kids.length c)) w.heap.size (zap t.kind t.set A t.kids.length c)/\
 NewX w (zah wr w.heap.size (.int .i64 t.kind) (.int .u64 t.set.a) (.int .u64 t.set.b) (.int .u64 t.set.c) (.int .u64 t.set.d) (.slice A t.kids.length c)) t A c/\
 RdEnd g s q w (zah wr w.heap.size (.int .i64 t.kind) (.int .u64 t.set.a) (.int .u64 t.set.b) (.int .u64 t.set.c) (.int .u64 t.set.d) (.slice A t.kids.length c)):=by
 have hb:Below w.heap.size wr (zah wr w.heap.size (.int .i64 t.kind) (.int .u64 t.set.a) (.int .u64 t.set.b) (.int .u64 t.set.c) (.int .u64 t.set.d) (.slice A t.kids.length c)):=zbr (Qg _ _) (Qd _) _ _ _ _ _ _
 have h:∀i,i≠w.heap.size->(zah wr w.heap.size (.int .i64 t.kind) (.int .u64 t.set.a) (.int .u64 t.set.b) (.int .u64 t.set.c) (.int .u64 t.set.d) (.slice A t.kids.length c)).heap[i]? = wr.heap[i]? := λi f=>by
  unfold zah;rw[Ql _ _ _ _ f,Ql _ _ _ _ f,Ql _ _ _ _ f,Ql _ _ _ _ f,Ql _ _ _ _ f,Ql _ _ _ _ f]
 refine⟨l.fill _ _ _ _ _ _,LX.keep (λb e=>⟨Q5 e.1,Qv e.2 hb.size⟩) (λb o e=>?_) _ _ j,(hb.block g k).trans n,zcX m (Qd _) hb⟩;simp only[World.cell?, h b (show b≠w.heap.size by have:=e.1;omega)]
structure AtSt(g:Nat)(s:ByteArray)(w:World)(q:RS)(wr:World):Prop where
 rd:RdAt g s q wr
 zero:ZeroX wr w.heap.size
 frame:w.grownBy wr (some g)
theorem AtSt.call{g:Nat}{s:ByteArray}{w:World}{q a:RS}{wr w':World}(b:g<w.heap.size)(h:AtSt g s w q wr)(e:RdEnd g s a wr w'):AtSt g s w a w':=
 ⟨e.1,h.zero.grown e.2 (by omega),zay h.frame e.2⟩
theorem AtSt.low{g:Nat}{s:ByteArray}{w:World}{q:RS}{wr w':World}(a:g<w.heap.size)(h:AtSt g s w q wr)(hb:Below wr.heap.size wr w'):AtSt g s w q w':=h.call a (zfy h.rd hb)
theorem zoV(s:ByteArray)(op:Nat)(AF:RS->TR)(hs:s.size<=4096)(gg:op<=20)(hA:ziS s.data.toList AF)(hC:op<20->zfU 137 s (op+1) AF):
 zfU 257 s op (zhy s.data.toList AF):=by
 intro g r w h hp gr;subst gr;have gz:s.data.toList.length=s.size:=by simp
 have u:=h.lt;obtain⟨W0,hn⟩:∃W0,w.alloc (.cells #[.int .i64 0,.int .u64 0,.int .u64 0,.int .u64 0,.int .u64 0,.slice none 0 0] 185)=W0:=⟨_,rfl⟩
 have hF:Below w.heap.size w W0:=by rw[<-hn];exact WaL
 have hD:ZeroX W0 w.heap.size:=by rw[<-hn];exact ZeroX.new w
 have gB:w.heap.size<W0.heap.size:=hD.lt;have hk:AtSt g s w r W0:=⟨h.below hF,hD,zci (zaU w _) hF⟩
 have g8:=hIx hk
 have hV:Hid (Calls prog 218 #[.pointer (some ⟨g,0,none⟩)] W0 λe w'=>e=.returned (.int .i64 (zad s.data.toList r))/\AtSt g s w r w'):=
  (zeM g s r W0 hk.rd hp).mono (λe w' ⟨h1,h2⟩=>⟨h1,hk.call u h2⟩)
 have hx:Hid (∀(b:Int) W,AtSt g s w r W->Calls prog 175 #[.pointer (some ⟨g,0,none⟩),.int .i64 b] W λe w'=>e=.returned (.bool (decide (zad s.data.toList r=b)))/\AtSt g s w (if zad s.data.toList r=b then onR r else r) w'):=λb W hW=>
  (zcM g s r b W hW.rd hp hs).mono (λe w' ⟨h1,h2⟩=>by
   have I:=hW.call u h2;unfold zaH at h1 I
   by_cases hb:zad s.data.toList r=b
   ·rw[Qi hb]at h1 I
    rw[Qi hb];exact⟨by rw[h1,Qu hb],I⟩
   ·rw[Qe hb]at h1 I
    rw[Qe hb];exact⟨by rw[h1,Qs hb],I⟩)
 have hr:Hid (∀(b:Int) W,zad s.data.toList r=b->AtSt g s w r W->Calls prog 175 #[.pointer (some ⟨g,0,none⟩),.int .i64 b] W λe w'=>e=.returned (.bool true)/\AtSt g s w (onR r) w'):=λb W hb hW=>
  (hx.out b W hW).mono λe w' ⟨h1,h2⟩=>⟨by rw[h1,Qu hb],by rw[Qi hb]at h2;exact h2⟩
 have hu:Hid (∀(b:Int) W,zad s.data.toList r≠b->AtSt g s w r W->Calls prog 175 #[.pointer (some ⟨g,0,none⟩),.int .i64 b] W λe w'=>e=.returned (.bool false)/\AtSt g s w r w'):=λb W hb hW=>
  (hx.out b W hW).mono λe w' ⟨h1,h2⟩=>⟨by rw[h1,Qs hb],by rw[Qe hb]at h2;exact h2⟩
 have l:Hid (zhy s.data.toList AF r=if zad s.data.toList r=40 then (if r.op=20 then (kT 0,zaA r 11)else zg6 s.data.toList (AF {r with pos:=r.pos+1,op:=r.op+1}))
  else if zad s.data.toList r=46 then (byT (λx=>!(rgF 10 10 x)),onR r)
  else if zad s.data.toList r=94 then (kT 7,onR r)
  else if zad s.data.toList r=36 then (kT 8,onR r)
  else if zad s.data.toList r=91 then (byT (zeZ s.data.toList (onR r)).1,(zeZ s.data.toList (onR r)).2)
  else zoR s.data.toList r):=rfl
 obtain⟨R,hR⟩:∃R,zhy s.data.toList AF r=R:=⟨_,rfl⟩
 rw[hR]at l ⊢;have gj:=hIx hC;have gb:=hIx hA;have gs:=hIx hn;have HH:=hIx h;clear h hC hA hF hn hD hR hk hx
 go_in
 go_upto_region 1 with fail
 rw[gs.out];go_wp2_with (go_at_call 218;apply Hid.out);refine WhM hV ?_;rintro e w1 ⟨rfl,O⟩;have V:=hIx O;have ⟨c0,c1,c2,c3⟩:=O.rd.cells;have ⟨z0,z1,z2,z3,z4,z5⟩:=O.zero.cells;have y0:=O.zero.free 0;have y1:=O.zero.free 1;have y2:=O.zero.free 2;have y3:=O.zero.free 3;have y4:=O.zero.free 4;have y5:=O.zero.free 5;clear hV g8 O
 -- WAYS
 clear z0 z1 z2 z3 z4 z5 y0 y1 y2 y3 y4 y5
 by_cases Q:zad s.data.toList r=40
 ·have d0:(zad s.data.toList r==40)=true:=by rw[Q];rfl
  rw[Qi Q]at l;have gA:=(zaQ Q (by decide)).1
  by_cases ho:r.op=20
  ·have P:((r.op:Int)==20)=true:=by rw[ho];rfl
   rw[Qi ho]at l;have gd:Hid (Calls prog 138 #[.pointer (some ⟨g,0,none⟩),.int .i64 11] w1 λe w'=>e=.returned (.tuple #[])/\AtSt g s w (zaA r 11) w'):=(zcn g s r 11 w1 V.out.rd).mono (λe w' ⟨h1,h2⟩=>⟨h1,V.out.call u h2⟩);clear Q ho;go_wp2_with (go_at_call 138;apply Hid.out);refine WhM gd ?_;rintro e w2 ⟨rfl,p⟩;have Y:Hid (PutX (zah w2 w.heap.size (.int .i64 0) (.int .u64 0) (.int .u64 0) (.int .u64 0) (.int .u64 0) (.slice none 0 0)) w.heap.size [.int .i64 0,.int .u64 0,.int .u64 0,.int .u64 0,.int .u64 0,.slice none 0 0]/\NewX w (zah w2 w.heap.size (.int .i64 0) (.int .u64 0) (.int .u64 0) (.int .u64 0) (.int .u64 0) (.slice none 0 0)) (kT 0) none 0/\RdEnd g s _ w (zah w2 w.heap.size (.int .i64 0) (.int .u64 0) (.int .u64 0) (.int .u64 0) (.int .u64 0) (.slice none 0 0))):=zdH (t:=(kT 0)) (A:=none) (c:=0) u p.rd p.zero p.frame (LX.leaf _ _ _ _ _ _ zbI);have ⟨z0,z1,z2,z3,z4,z5⟩:=p.zero.cells;have y0:=p.zero.free 0;have y1:=p.zero.free 1;have y2:=p.zero.free 2;have y3:=p.zero.free 3;have y4:=p.zero.free 4;have y5:=p.zero.free 5;go_wp2_with fail;obtain⟨P,U,X⟩:=Y.out;have ⟨B,E,H,F,D,G⟩:=P.cells;unfold zah at B E H F D G
   exact Qj (v:=argX (kT 0) none 0) (by simp[results,results257,go_sem,B,E,H,F,D,G,argX,kT,Tree.kind,Tree.set,Tree.kids,Set4.zero]) rfl (by rw[l.out];exact⟨none,0,rfl,U,X⟩)
  ·have P:((r.op:Int)==20)=false:=Qb.2 (by omega)
   rw[Qe ho]at l;have hP:r.op<20:=by omega
   have f1:=V.out.rd.free 1;have f2:=V.out.rd.free 2;have i1:IntKind.i64.wrap ((r.pos:Int)+1)=(r.pos:Int)+1:=Qx _ (by omega);have i2:IntKind.i64.wrap ((r.op:Int)+1)=(r.op:Int)+1:=Qx _ (by omega)
   have p:AtSt g s w {r with pos:=r.pos+1,op:=r.op+1} ((w1.setCell ⟨g,1,none⟩ (.int .i64 ((r.pos:Int)+1))).setCell ⟨g,2,none⟩ (.int .i64 ((r.op:Int)+1))):=by
    have e1:=V.out.rd.setPos (r.pos+1);have e2:=e1.setOp (r.op+1);exact V.out.call u ⟨e2,zan (zan (zaU w1 _) 1 _) 2 _⟩
   have hE:=hIx p;clear p Q;go_upto_region 7 with fail
   generalize (w1.setCell ⟨g,1,none⟩ (.int .i64 ((r.pos:Int)+1))).setCell ⟨g,2,none⟩ (.int .i64 ((r.op:Int)+1))=w2 at *;have hm:zfY s.data.toList {r with pos:=r.pos+1,op:=r.op+1} (AF {r with pos:=r.pos+1,op:=r.op+1}):=gb.out _ (show r.pos+1<=s.data.toList.length by omega);have hS:=hIx (gj.out hP g {r with pos:=r.pos+1,op:=r.op+1} w2 hE.out.rd (show r.pos+1<=s.size by omega) (rfl));obtain⟨T,hT⟩:∃T,AF {r with pos:=r.pos+1,op:=r.op+1}=T:=⟨_,rfl⟩
   rw[hT]at hm hS l;have ga:T.2.op=r.op+1:=hm.step.op;have gx:1<=T.2.op:=by omega
   have gw:T.2.op<=21:=by omega
   have g2:T.2.pos<=s.size:=by have:=hm.step.inn;omega
   clear c0 c1 c2 c3 f1 f2 hm hT i1 i2 d0 P ga;go_wp2_with (go_at_call 137;apply Hid.out);refine WhM hS ?_;rintro e w3 ⟨A,c,rfl,hQ,h3⟩;have q:=hE.out.call u h3;have g4:w.heap.size<w2.heap.size:=hE.out.zero.lt;have gy:g<w3.heap.size:=q.rd.lt;have ⟨c0,c1,c2,c3⟩:=q.rd.cells;have f2:=q.rd.free 2;have i3:IntKind.i64.wrap ((T.2.op:Int)-1)=(T.2.op:Int)-1:=Qx _ (by omega)
   have m:AtSt g s w {T.2 with op:=T.2.op-1} ((w3.setCell ⟨g,2,none⟩ (.int .i64 ((T.2.op:Int)-1))).alloc (.cells #[.int .i64 T.1.kind,.int .u64 T.1.set.a,.int .u64 T.1.set.b,.int .u64 T.1.set.c,.int .u64 T.1.set.d,.slice A T.1.kids.length c] 185)):=by
    have e1:=q.rd.setOp (T.2.op-1);rw[show ((T.2.op-1:Nat):Int)=(T.2.op:Int)-1 by omega]at e1;have m:=q.call u ⟨e1,zan (zaU w3 _) 2 _⟩;exact m.low u WaL
   have hz:PutX ((w3.setCell ⟨g,2,none⟩ (.int .i64 ((T.2.op:Int)-1))).alloc (.cells #[.int .i64 T.1.kind,.int .u64 T.1.set.a,.int .u64 T.1.set.b,.int .u64 T.1.set.c,.int .u64 T.1.set.d,.slice A T.1.kids.length c] 185)) w3.heap.size [.int .i64 T.1.kind,.int .u64 T.1.set.a,.int .u64 T.1.set.b,.int .u64 T.1.set.c,.int .u64 T.1.set.d,.slice A T.1.kids.length c]:=by
    have:=PutX.new (w3.setCell ⟨g,2,none⟩ (.int .i64 ((T.2.op:Int)-1))) [.int .i64 T.1.kind,.int .u64 T.1.set.a,.int .u64 T.1.set.b,.int .u64 T.1.set.c,.int .u64 T.1.set.d,.slice A T.1.kids.length c];rw[show (w3.setCell ⟨g,2,none⟩ (.int .i64 ((T.2.op:Int)-1))).heap.size=w3.heap.size by simp[World.setCell]]at this;exact this
   have hY:LX ((w3.setCell ⟨g,2,none⟩ (.int .i64 ((T.2.op:Int)-1))).alloc (.cells #[.int .i64 T.1.kind,.int .u64 T.1.set.a,.int .u64 T.1.set.b,.int .u64 T.1.set.c,.int .u64 T.1.set.d,.slice A T.1.kids.length c] 185)) (λb=>w.heap.size<b/\b<w3.heap.size) T.1 (zap T.1.kind T.1.set A T.1.kids.length c):=by
    refine LX.keep (λb hb=>⟨Qv g4 hb.1,hb.2⟩) (λb o hb=>?_) _ _ hQ;have g1:b≠g:=by have:=hb.1;omega
    have h5:((w3.setCell ⟨g,2,none⟩ (.int .i64 ((T.2.op:Int)-1))).alloc (.cells #[.int .i64 T.1.kind,.int .u64 T.1.set.a,.int .u64 T.1.set.b,.int .u64 T.1.set.c,.int .u64 T.1.set.d,.slice A T.1.kids.length c] 185)).heap[b]? = w3.heap[b]? :=
     (Qt _ _ _ (by have:=hb.2;simp only[World.setCell,Array.size_modify];exact this)).trans (Ql _ _ _ _ g1)
    simp only[World.cell?, h5]
   have hw:w3.heap.size<((w3.setCell ⟨g,2,none⟩ (.int .i64 ((T.2.op:Int)-1))).alloc (.cells #[.int .i64 T.1.kind,.int .u64 T.1.set.a,.int .u64 T.1.set.b,.int .u64 T.1.set.c,.int .u64 T.1.set.d,.slice A T.1.kids.length c] 185)).heap.size:=hz.lt;clear hQ h3 q;unfold argX;go_upto_region 9 with fail
   generalize (w3.setCell ⟨g,2,none⟩ (.int .i64 ((T.2.op:Int)-1))).alloc (.cells #[.int .i64 T.1.kind,.int .u64 T.1.set.a,.int .u64 T.1.set.b,.int .u64 T.1.set.c,.int .u64 T.1.set.d,.slice A T.1.kids.length c] 185)=w4 at *;obtain⟨q4,hj⟩:∃q4:RS,q4={T.2 with op:=T.2.op-1}:=⟨_,rfl⟩
   have hL:q4.pos<=s.size:=by rw[hj];exact g2
   rw[<-hj]at m;have h9:Hid (R=(T.1,if (zaH s.data.toList q4 41).1=true then (zaH s.data.toList q4 41).2 else zaA q4 3)):=by unfold Hid;rw[l.out,hj];rfl
   have hh:Hid (∀w',w4.grownBy w' (some g)->PutX w' w3.heap.size [.int .i64 T.1.kind,.int .u64 T.1.set.a,.int .u64 T.1.set.b,.int .u64 T.1.set.c,.int .u64 T.1.set.d,.slice A T.1.kids.length c]/\LX w' (λb=>w.heap.size<b/\b<w'.heap.size) T.1 (zap T.1.kind T.1.set A T.1.kids.length c)):=λw' hB=>
    ⟨hz.grown hB (by omega),LX.keep (λb hb=>⟨hb.1,Qv (ZD hb.2 hw) hB.size⟩) (λb o hb=>zgB hB (ZD hb.2 hw) (by have:=hb.1;omega)) _ _ hY⟩
   have h4:Hid (Calls prog 175 #[.pointer (some ⟨g,0,none⟩),.int .i64 41] w4 λe w'=>e=.returned (.bool (zaH s.data.toList q4 41).1)/\AtSt g s w (zaH s.data.toList q4 41).2 w'/\w4.grownBy w' (some g)):=
    (zcM g s q4 41 w4 m.rd hL hs).mono (λe w' ⟨h1,h2⟩=>⟨h1,m.call u h2,h2.2⟩)
   clear hz hY m hj c0 c1 c2 c3 f2 l;cases hf:(zaH s.data.toList q4 41).1 with
   |true=>
    rw[hf]at h4 h9;rw[Qi rfl]at h9;go_wp2_with (go_at_call 175;apply Hid.out);refine WhM h4 ?_;rintro e Z ⟨rfl,k,hv⟩;obtain⟨gq,gt⟩:=hh.out Z hv;have ⟨b0,b1,b2,b3,b4,b5⟩:=gq.cells;have Y:Hid (PutX (zah Z w.heap.size (.int .i64 T.1.kind) (.int .u64 T.1.set.a) (.int .u64 T.1.set.b) (.int .u64 T.1.set.c) (.int .u64 T.1.set.d) (.slice A T.1.kids.length c)) w.heap.size [.int .i64 T.1.kind,.int .u64 T.1.set.a,.int .u64 T.1.set.b,.int .u64 T.1.set.c,.int .u64 T.1.set.d,.slice A T.1.kids.length c]/\NewX w (zah Z w.heap.size (.int .i64 T.1.kind) (.int .u64 T.1.set.a) (.int .u64 T.1.set.b) (.int .u64 T.1.set.c) (.int .u64 T.1.set.d) (.slice A T.1.kids.length c)) T.1 A c/\RdEnd g s _ w (zah Z w.heap.size (.int .i64 T.1.kind) (.int .u64 T.1.set.a) (.int .u64 T.1.set.b) (.int .u64 T.1.set.c) (.int .u64 T.1.set.d) (.slice A T.1.kids.length c))):=zdH (t:=T.1) (A:=A) (c:=c) u k.rd k.zero k.frame gt;have ⟨z0,z1,z2,z3,z4,z5⟩:=k.zero.cells;have y0:=k.zero.free 0;have y1:=k.zero.free 1;have y2:=k.zero.free 2;have y3:=k.zero.free 3;have y4:=k.zero.free 4;have y5:=k.zero.free 5;go_wp2_with fail;obtain⟨P,U,X⟩:=Y.out;have ⟨B,E,H,F,D,G⟩:=P.cells;unfold zah at B E H F D G
    exact Qj (v:=argX T.1 A c) (by simp[results,results257,go_sem,B,E,H,F,D,G,argX]) rfl (by rw[h9.out];exact⟨A,c,rfl,U,X⟩)
   |false=>
    have gh:(zaH s.data.toList q4 41).2=q4:=by
     unfold zaH at hf ⊢
     by_cases h:zad s.data.toList q4=41
     ·rw[Qi h]at hf;cases hf
     ·rw[Qe h]
    rw[hf]at h4 h9;rw[Qe (by decide)]at h9;rw[gh]at h4;go_wp2_with (go_at_call 175;apply Hid.out);refine WhM h4 ?_;rintro e Z ⟨rfl,k,hv⟩
    have gn:Hid (Calls prog 138 #[.pointer (some ⟨g,0,none⟩),.int .i64 3] Z λe w'=>e=.returned (.tuple #[])/\AtSt g s w (zaA q4 3) w'/\w4.grownBy w' (some g)):=
     (zcn g s q4 3 Z k.rd).mono (λe w' ⟨h1,h2⟩=>⟨h1,k.call u h2,zay hv h2.2⟩)
    clear k hv;go_wp2_with (go_at_call 138;apply Hid.out);refine WhM gn ?_;rintro e L ⟨rfl,j,gm⟩;obtain⟨gk,hq⟩:=hh.out L gm;have ⟨b0,b1,b2,b3,b4,b5⟩:=gk.cells;have Y:Hid (PutX (zah L w.heap.size (.int .i64 T.1.kind) (.int .u64 T.1.set.a) (.int .u64 T.1.set.b) (.int .u64 T.1.set.c) (.int .u64 T.1.set.d) (.slice A T.1.kids.length c)) w.heap.size [.int .i64 T.1.kind,.int .u64 T.1.set.a,.int .u64 T.1.set.b,.int .u64 T.1.set.c,.int .u64 T.1.set.d,.slice A T.1.kids.length c]/\NewX w (zah L w.heap.size (.int .i64 T.1.kind) (.int .u64 T.1.set.a) (.int .u64 T.1.set.b) (.int .u64 T.1.set.c) (.int .u64 T.1.set.d) (.slice A T.1.kids.length c)) T.1 A c/\RdEnd g s _ w (zah L w.heap.size (.int .i64 T.1.kind) (.int .u64 T.1.set.a) (.int .u64 T.1.set.b) (.int .u64 T.1.set.c) (.int .u64 T.1.set.d) (.slice A T.1.kids.length c))):=zdH (t:=T.1) (A:=A) (c:=c) u j.rd j.zero j.frame hq;have ⟨z0,z1,z2,z3,z4,z5⟩:=j.zero.cells;have y0:=j.zero.free 0;have y1:=j.zero.free 1;have y2:=j.zero.free 2;have y3:=j.zero.free 3;have y4:=j.zero.free 4;have y5:=j.zero.free 5;go_wp2_with fail;obtain⟨P,U,X⟩:=Y.out;have ⟨B,E,H,F,D,G⟩:=P.cells;unfold zah at B E H F D G;exact Qj (v:=argX T.1 A c) (by simp[results,results257,go_sem,B,E,H,F,D,G,argX]) rfl (by rw[h9.out];exact⟨A,c,rfl,U,X⟩)
 have d0:(zad s.data.toList r==40)=false:=Qb.2 Q;rw[Qe Q]at l;clear c0 c1 c2 c3
 by_cases h8:zad s.data.toList r=46
 ·rw[Qi h8]at l
  have HT:=hIx (hr.out 46 w1 h8 V.out);clear Q h8;go_wp2_with (go_at_call 175;apply Hid.out);refine WhM HT ?_;rintro e w2 ⟨rfl,p⟩;obtain⟨Sr,hI⟩:∃Sr,setF (rgF 10 10)=Sr:=⟨_,rfl⟩
  obtain⟨z,ht⟩:∃z,setF (λx=>!(rgF 10 10 x))=z:=⟨_,rfl⟩
  have hH:Hid (Calls prog 148 #[.int .i64 10,.int .i64 10] w2 λe w'=>e=.returned (.agg #[.int .u64 Sr.a,.int .u64 Sr.b,.int .u64 Sr.c,.int .u64 Sr.d])/\AtSt g s w (onR r) w'):=by
   have:=zfw 10 10 (by decide) w2;rw[hI]at this;exact this.mono (λe w' ⟨h1,h2⟩=>⟨h1,p.low u h2⟩)
  have g6:Hid (∀W,AtSt g s w (onR r) W->Calls prog 286 #[.agg #[.int .u64 Sr.a,.int .u64 Sr.b,.int .u64 Sr.c,.int .u64 Sr.d]] W λe w'=>e=.returned (.agg #[.int .u64 z.a,.int .u64 z.b,.int .u64 z.c,.int .u64 z.d])/\AtSt g s w (onR r) w'):=λW hW=>by
   have:=zlh (rgF 10 10) W;rw[hI,ht]at this;exact this.mono (λe w' ⟨h1,h2⟩=>⟨h1,hW.low u h2⟩)
  have hi:Hid (R=(.node 3 z [],onR r)):=by unfold Hid;rw[l.out];unfold byT;rw[ht]
  have he:z.Wf:=by rw[<-ht];exact zgF _
  clear p hI ht;go_wp2_with (go_at_call 148;apply Hid.out);refine WhM hH ?_;rintro e w3 ⟨rfl,q⟩;have ge:=hIx (g6.out w3 q);clear q;go_wp2_with (go_at_call 286;apply Hid.out);refine WhM ge ?_;rintro e w4 ⟨rfl,m⟩;have Y:Hid (PutX (zah w4 w.heap.size (.int .i64 3) (.int .u64 z.a) (.int .u64 z.b) (.int .u64 z.c) (.int .u64 z.d) (.slice none 0 0)) w.heap.size [.int .i64 3,.int .u64 z.a,.int .u64 z.b,.int .u64 z.c,.int .u64 z.d,.slice none 0 0]/\NewX w (zah w4 w.heap.size (.int .i64 3) (.int .u64 z.a) (.int .u64 z.b) (.int .u64 z.c) (.int .u64 z.d) (.slice none 0 0)) (.node 3 z []) none 0/\RdEnd g s _ w (zah w4 w.heap.size (.int .i64 3) (.int .u64 z.a) (.int .u64 z.b) (.int .u64 z.c) (.int .u64 z.d) (.slice none 0 0))):=zdH (t:=(.node 3 z [])) (A:=none) (c:=0) u m.rd m.zero m.frame (LX.leaf _ _ _ _ _ _ he);have ⟨z0,z1,z2,z3,z4,z5⟩:=m.zero.cells;have y0:=m.zero.free 0;have y1:=m.zero.free 1;have y2:=m.zero.free 2;have y3:=m.zero.free 3;have y4:=m.zero.free 4;have y5:=m.zero.free 5;go_wp2_with fail;obtain⟨P,U,X⟩:=Y.out;have ⟨B,E,H,F,D,G⟩:=P.cells;unfold zah at B E H F D G
  exact Qj (v:=argX (.node 3 z []) none 0) (by simp[results,results257,go_sem,B,E,H,F,D,G,argX,Tree.kind,Tree.set,Tree.kids]) rfl (by rw[hi.out];exact⟨none,0,rfl,U,X⟩)
 rw[Qe h8]at l;have gp:=hIx (hu.out 46 w1 h8 V.out);go_wp2_with (go_at_call 175;apply Hid.out);refine WhM gp ?_;rintro e w2 ⟨rfl,p⟩
 by_cases hd:zad s.data.toList r=94
 ·rw[Qi hd]at l
  have HT:=hIx (hr.out 94 w2 hd p);clear p;go_wp2_with (go_at_call 175;apply Hid.out);refine WhM HT ?_;rintro e w3 ⟨rfl,q⟩
  have hy:Hid (Calls prog 287 #[.int .i64 7] w3 λe w'=>∃A c,e=.returned (.agg #[.int .i64 7,.int .u64 0,.int .u64 0,.int .u64 0,.int .u64 0,.slice A 0 c])/\AtSt g s w (onR r) w'):=
   (zpZ 7 w3).mono (λe w' ⟨A,c,h1,_,h2⟩=>⟨A,c,h1,q.low u h2⟩)
  clear q;go_wp2_with (go_at_call 287;apply Hid.out);refine WhM hy ?_;rintro e w8 ⟨A,c,rfl,n⟩;have Y:Hid (PutX (zah w8 w.heap.size (.int .i64 7) (.int .u64 0) (.int .u64 0) (.int .u64 0) (.int .u64 0) (.slice A 0 c)) w.heap.size [.int .i64 7,.int .u64 0,.int .u64 0,.int .u64 0,.int .u64 0,.slice A 0 c]/\NewX w (zah w8 w.heap.size (.int .i64 7) (.int .u64 0) (.int .u64 0) (.int .u64 0) (.int .u64 0) (.slice A 0 c)) (kT 7) A c/\RdEnd g s _ w (zah w8 w.heap.size (.int .i64 7) (.int .u64 0) (.int .u64 0) (.int .u64 0) (.int .u64 0) (.slice A 0 c))):=zdH (t:=(kT 7)) (A:=A) (c:=c) u n.rd n.zero n.frame (LX.leaf _ _ _ _ _ _ zbI);have ⟨z0,z1,z2,z3,z4,z5⟩:=n.zero.cells;have y0:=n.zero.free 0;have y1:=n.zero.free 1;have y2:=n.zero.free 2;have y3:=n.zero.free 3;have y4:=n.zero.free 4;have y5:=n.zero.free 5;go_wp2_with fail;obtain⟨P,U,X⟩:=Y.out;have ⟨B,E,H,F,D,G⟩:=P.cells;unfold zah at B E H F D G;exact Qj (v:=argX (kT 7) A c) (by simp[results,results257,go_sem,B,E,H,F,D,G,argX,kT,Tree.kind,Tree.set,Tree.kids,Set4.zero]) rfl (by rw[l.out];exact⟨A,c,rfl,U,X⟩)
 rw[Qe hd]at l;have g9:=hIx (hu.out 94 w2 hd p);clear p;go_wp2_with (go_at_call 175;apply Hid.out);refine WhM g9 ?_;rintro e w3 ⟨rfl,q⟩
 by_cases ha:zad s.data.toList r=36
 ·rw[Qi ha]at l
  have HT:=hIx (hr.out 36 w3 ha q);clear q;go_wp2_with (go_at_call 175;apply Hid.out);refine WhM HT ?_;rintro e w4 ⟨rfl,m⟩
  have hy:Hid (Calls prog 287 #[.int .i64 8] w4 λe w'=>∃A c,e=.returned (.agg #[.int .i64 8,.int .u64 0,.int .u64 0,.int .u64 0,.int .u64 0,.slice A 0 c])/\AtSt g s w (onR r) w'):=
   (zpZ 8 w4).mono (λe w' ⟨A,c,h1,_,h2⟩=>⟨A,c,h1,m.low u h2⟩)
  clear m;go_wp2_with (go_at_call 287;apply Hid.out);refine WhM hy ?_;rintro e w8 ⟨A,c,rfl,n⟩;have Y:Hid (PutX (zah w8 w.heap.size (.int .i64 8) (.int .u64 0) (.int .u64 0) (.int .u64 0) (.int .u64 0) (.slice A 0 c)) w.heap.size [.int .i64 8,.int .u64 0,.int .u64 0,.int .u64 0,.int .u64 0,.slice A 0 c]/\NewX w (zah w8 w.heap.size (.int .i64 8) (.int .u64 0) (.int .u64 0) (.int .u64 0) (.int .u64 0) (.slice A 0 c)) (kT 8) A c/\RdEnd g s _ w (zah w8 w.heap.size (.int .i64 8) (.int .u64 0) (.int .u64 0) (.int .u64 0) (.int .u64 0) (.slice A 0 c))):=zdH (t:=(kT 8)) (A:=A) (c:=c) u n.rd n.zero n.frame (LX.leaf _ _ _ _ _ _ zbI);have ⟨z0,z1,z2,z3,z4,z5⟩:=n.zero.cells;have y0:=n.zero.free 0;have y1:=n.zero.free 1;have y2:=n.zero.free 2;have y3:=n.zero.free 3;have y4:=n.zero.free 4;have y5:=n.zero.free 5;go_wp2_with fail;obtain⟨P,U,X⟩:=Y.out;have ⟨B,E,H,F,D,G⟩:=P.cells;unfold zah at B E H F D G;exact Qj (v:=argX (kT 8) A c) (by simp[results,results257,go_sem,B,E,H,F,D,G,argX,kT,Tree.kind,Tree.set,Tree.kids,Set4.zero]) rfl (by rw[l.out];exact⟨A,c,rfl,U,X⟩)
 rw[Qe ha]at l;have gf:=hIx (hu.out 36 w3 ha q);clear q;go_wp2_with (go_at_call 175;apply Hid.out);refine WhM gf ?_;rintro e w4 ⟨rfl,m⟩
 by_cases h7:zad s.data.toList r=91
 ·rw[Qi h7]at l
  have HT:=hIx (hr.out 91 w4 h7 m);have g5:(onR r).pos<=s.size:=by have:=(zdi h7 (by decide)).1.inn;omega
  clear m;go_wp2_with (go_at_call 175;apply Hid.out);refine WhM HT ?_;rintro e Z ⟨rfl,k⟩;obtain⟨K,hK⟩:∃K,zeZ s.data.toList (onR r)=K:=⟨_,rfl⟩
  rw[hK]at l
  have gl:Hid (Calls prog 288 #[.pointer (some ⟨g,0,none⟩)] Z (zjW g s (byT K.1,K.2) Z)):=by
   have:=zsS g s (onR r) Z k.rd g5 hs;rw[hK]at this;exact this
  have hU:=hIx k;clear k hK;go_wp2_with (go_at_call 288;apply Hid.out);refine WhM gl ?_;rintro e L ⟨A,c,rfl,hX,h6⟩;have j:=hU.out.call u h6;have gi:w.heap.size<Z.heap.size:=hU.out.zero.lt;have hq:LX L (λb=>w.heap.size<b/\b<L.heap.size) (byT K.1) (zap (byT K.1).kind (byT K.1).set A (byT K.1).kids.length c):=LX.keep (λb hb=>⟨Qv gi hb.1,hb.2⟩) (λ_ _ _=>rfl) _ _ hX;clear hX h6;obtain⟨y,hO⟩:∃y,byT K.1=y:=⟨_,rfl⟩
  rw[hO]at hq l ⊢;clear hO;unfold argX;have Y:Hid (PutX (zah L w.heap.size (.int .i64 y.kind) (.int .u64 y.set.a) (.int .u64 y.set.b) (.int .u64 y.set.c) (.int .u64 y.set.d) (.slice A y.kids.length c)) w.heap.size [.int .i64 y.kind,.int .u64 y.set.a,.int .u64 y.set.b,.int .u64 y.set.c,.int .u64 y.set.d,.slice A y.kids.length c]/\NewX w (zah L w.heap.size (.int .i64 y.kind) (.int .u64 y.set.a) (.int .u64 y.set.b) (.int .u64 y.set.c) (.int .u64 y.set.d) (.slice A y.kids.length c)) y A c/\RdEnd g s _ w (zah L w.heap.size (.int .i64 y.kind) (.int .u64 y.set.a) (.int .u64 y.set.b) (.int .u64 y.set.c) (.int .u64 y.set.d) (.slice A y.kids.length c))):=zdH (t:=y) (A:=A) (c:=c) u j.rd j.zero j.frame hq;have ⟨z0,z1,z2,z3,z4,z5⟩:=j.zero.cells;have y0:=j.zero.free 0;have y1:=j.zero.free 1;have y2:=j.zero.free 2;have y3:=j.zero.free 3;have y4:=j.zero.free 4;have y5:=j.zero.free 5;go_wp2_with fail;obtain⟨P,U,X⟩:=Y.out;have ⟨B,E,H,F,D,G⟩:=P.cells;unfold zah at B E H F D G;exact Qj (v:=argX y A c) (by simp[results,results257,go_sem,B,E,H,F,D,G,argX]) rfl (by rw[l.out];exact⟨A,c,rfl,U,X⟩)
 rw[Qe h7]at l;have h4:=hIx (hu.out 91 w4 h7 m);clear m Q h8 hd ha h7;go_wp2_with (go_at_call 175;apply Hid.out);refine WhM h4 ?_;rintro e Z ⟨rfl,k⟩;have hG:=zdw (s:=s.data.toList) (r:=r) (by omega)
 have hc:Hid (zoR s.data.toList r=match (za8 s.data.toList r).1 with
  |some f=>(byT f,(za8 s.data.toList r).2)
  |none=>(byT (rgF (zbi s.data.toList r).1.toNat (zbi s.data.toList r).1.toNat),(zbi s.data.toList r).2)):=rfl
 cases h0:(za8 s.data.toList r).1 with
 |some f=>
  rw[h0]at hc;obtain⟨i,S⟩:∃i,setF f=i:=⟨_,rfl⟩
  have HG:Hid (Calls prog 289 #[.pointer (some ⟨g,0,none⟩)] Z λe w'=>e=.returned (.tuple #[.agg #[.int .u64 i.a,.int .u64 i.b,.int .u64 i.c,.int .u64 i.d],.bool true])/\AtSt g s w (za8 s.data.toList r).2 w'):=
   (zdu g s r Z k.rd hp hs).mono (λe w' ⟨h1,h2⟩=>⟨by rw[h1,h0];dsimp only;rw[S];rfl,k.call u h2⟩)
  have hi:Hid (R=(.node 3 i [],(za8 s.data.toList r).2)):=by unfold Hid;rw[l.out,hc.out];dsimp only;unfold byT;rw[S]
  have he:i.Wf:=by rw[<-S];exact zgF _
  clear hG h0 S k;go_wp2_with (go_at_call 289;apply Hid.out);refine WhM HG ?_;rintro e L ⟨rfl,j⟩;have N:=j.low u ((Qg L.heap.size L).alloc (Qd _) (.cells #[.int .u64 i.a,.int .u64 i.b,.int .u64 i.c,.int .u64 i.d] 182));have g7:FourW (L.alloc (.cells #[.int .u64 i.a,.int .u64 i.b,.int .u64 i.c,.int .u64 i.d] 182)) L.heap.size i:=Qp L _;clear j;go_upto_region 22 with fail
  generalize L.alloc (.cells #[.int .u64 i.a,.int .u64 i.b,.int .u64 i.c,.int .u64 i.d] 182)=w7 at *;have ⟨x0,x1,x2,x3⟩:=g7.cells;have Y:Hid (PutX (zah w7 w.heap.size (.int .i64 3) (.int .u64 i.a) (.int .u64 i.b) (.int .u64 i.c) (.int .u64 i.d) (.slice none 0 0)) w.heap.size [.int .i64 3,.int .u64 i.a,.int .u64 i.b,.int .u64 i.c,.int .u64 i.d,.slice none 0 0]/\NewX w (zah w7 w.heap.size (.int .i64 3) (.int .u64 i.a) (.int .u64 i.b) (.int .u64 i.c) (.int .u64 i.d) (.slice none 0 0)) (.node 3 i []) none 0/\RdEnd g s _ w (zah w7 w.heap.size (.int .i64 3) (.int .u64 i.a) (.int .u64 i.b) (.int .u64 i.c) (.int .u64 i.d) (.slice none 0 0))):=zdH (t:=(.node 3 i [])) (A:=none) (c:=0) u N.rd N.zero N.frame (LX.leaf _ _ _ _ _ _ he);have ⟨z0,z1,z2,z3,z4,z5⟩:=N.zero.cells;have y0:=N.zero.free 0;have y1:=N.zero.free 1;have y2:=N.zero.free 2;have y3:=N.zero.free 3;have y4:=N.zero.free 4;have y5:=N.zero.free 5;go_wp2_with fail;obtain⟨P,U,X⟩:=Y.out;have ⟨B,E,H,F,D,G⟩:=P.cells;unfold zah at B E H F D G;exact Qj (v:=argX (.node 3 i []) none 0) (by simp[results,results257,go_sem,B,E,H,F,D,G,argX,Tree.kind,Tree.set,Tree.kids]) rfl (by rw[hi.out];exact⟨none,0,rfl,U,X⟩)
 |none=>
  rw[h0]at hc;have hJ:(za8 s.data.toList r).2=r:=hG.2.1 h0;have hZ:=(zcw (s:=s.data.toList) (r:=r) (by omega)).2.2;obtain⟨C,hC⟩:∃C,zbi s.data.toList r=C:=⟨_,rfl⟩
  rw[hC]at hZ hc;obtain⟨lo,hN⟩:∃lo:Nat,C.1=lo:=⟨C.1.toNat,by omega⟩
  have g0:lo<256:=by omega
  obtain⟨i,S⟩:∃i,setF (rgF lo lo)=i:=⟨_,rfl⟩
  have HG:Hid (Calls prog 289 #[.pointer (some ⟨g,0,none⟩)] Z λe w'=>e=.returned (.tuple #[.agg #[.int .u64 0,.int .u64 0,.int .u64 0,.int .u64 0],.bool false])/\AtSt g s w r w'):=
   (zdu g s r Z k.rd hp hs).mono (λe w' ⟨h1,h2⟩=>⟨by rw[h1,h0];rfl,by rw[hJ]at h2;exact k.call u h2⟩)
  have gc:Hid (∀W,AtSt g s w r W->Calls prog 290 #[.pointer (some ⟨g,0,none⟩)] W λe w'=>e=.returned (.int .i64 (lo:Int))/\AtSt g s w C.2 w'):=λW hW=>
   (zeh g s r W hW.rd hp hs).mono (λe w' ⟨h1,h2⟩=>⟨by rw[h1,hC,hN],by rw[hC]at h2;exact hW.call u h2⟩)
  have hH:Hid (∀W,AtSt g s w C.2 W->Calls prog 148 #[.int .i64 (lo:Int),.int .i64 (lo:Int)] W λe w'=>e=.returned (.agg #[.int .u64 i.a,.int .u64 i.b,.int .u64 i.c,.int .u64 i.d])/\AtSt g s w C.2 w'):=λW hW=>by
   have:=zfw lo lo g0 W;rw[S]at this;exact this.mono (λe w' ⟨h1,h2⟩=>⟨h1,hW.low u h2⟩)
  have hi:Hid (R=(.node 3 i [],C.2)):=by unfold Hid;rw[l.out,hc.out];dsimp only;unfold byT;rw[show C.1.toNat=lo by omega,S]
  have he:i.Wf:=by rw[<-S];exact zgF _
  clear hG h0 hJ hZ hC hN S k;go_wp2_with (go_at_call 289;apply Hid.out);refine WhM HG ?_;rintro e L ⟨rfl,j⟩;have gu:=hIx (j.low u ((Qg L.heap.size L).alloc (Qd _) (.cells #[.int .u64 0,.int .u64 0,.int .u64 0,.int .u64 0] 182)));clear j;go_upto_region 23 with fail
  generalize L.alloc (.cells #[.int .u64 0,.int .u64 0,.int .u64 0,.int .u64 0] 182)=w7 at *;have g3:=hIx (gc.out w7 gu.out);go_wp2_with (go_at_call 290;apply Hid.out);refine WhM g3 ?_;rintro e w8 ⟨rfl,n⟩;have gv:=hIx (hH.out w8 n);clear n;go_wp2_with (go_at_call 148;apply Hid.out);refine WhM gv ?_;rintro e w9 ⟨rfl,J⟩;have Y:Hid (PutX (zah w9 w.heap.size (.int .i64 3) (.int .u64 i.a) (.int .u64 i.b) (.int .u64 i.c) (.int .u64 i.d) (.slice none 0 0)) w.heap.size [.int .i64 3,.int .u64 i.a,.int .u64 i.b,.int .u64 i.c,.int .u64 i.d,.slice none 0 0]/\NewX w (zah w9 w.heap.size (.int .i64 3) (.int .u64 i.a) (.int .u64 i.b) (.int .u64 i.c) (.int .u64 i.d) (.slice none 0 0)) (.node 3 i []) none 0/\RdEnd g s _ w (zah w9 w.heap.size (.int .i64 3) (.int .u64 i.a) (.int .u64 i.b) (.int .u64 i.c) (.int .u64 i.d) (.slice none 0 0))):=zdH (t:=(.node 3 i [])) (A:=none) (c:=0) u J.rd J.zero J.frame (LX.leaf _ _ _ _ _ _ he);have ⟨z0,z1,z2,z3,z4,z5⟩:=J.zero.cells;have y0:=J.zero.free 0;have y1:=J.zero.free 1;have y2:=J.zero.free 2;have y3:=J.zero.free 3;have y4:=J.zero.free 4;have y5:=J.zero.free 5;go_wp2_with fail;obtain⟨P,U,X⟩:=Y.out;have ⟨B,E,H,F,D,G⟩:=P.cells;unfold zah at B E H F D G
  exact Qj (v:=argX (.node 3 i []) none 0) (by simp[results,results257,go_sem,B,E,H,F,D,G,argX,Tree.kind,Tree.set,Tree.kids]) rfl (by rw[hi.out];exact⟨none,0,rfl,U,X⟩)
theorem ztL(s:ByteArray)(a:s.size<=4096):∀d op,op+d=20->zfU 137 s op (altD s.data.toList (d+1))
 |0,op,h=>zuJ s op _ a (znp _ 0) (ztp s op _ a (zfh _ 0) (zmU s op _ a (zcS _ 0) (zoV s op _ a (by omega) (zcS _ 0) λh1=>absurd h1 (by omega))))
 |d+1,op,h=>zuJ s op _ a (znp _ (d+1)) (ztp s op _ a (zfh _ (d+1)) (zmU s op _ a (zcS _ (d+1)) (zoV s op _ a (by omega) (zcS _ (d+1)) λ_=>ztL s a d (op+1) (by omega))))
def znv:RS:=⟨0,0,0⟩
def topT(s:List UInt8):TR:=altD s 21 znv
def topR(s:List UInt8):RS:=if (topT s).2.e=0/\(topT s).2.pos<s.length then zaA (topT s).2 3 else (topT s).2
def zda(s:List UInt8):Tree × Nat × Int:=
 if 200<s.length then (kT 0,0,2)else if (topR s).e≠0 then (kT 0,(topR s).pos,(topR s).e)else if zbj (topT s).1≠0 then (kT 0,s.length,zbj (topT s).1)else ((topT s).1,0,0)
def zz1(P:Tree × Nat × Int)(w:World)(e:Ending)(w':World):Prop:=
 ∃A c,e=.returned (.tuple #[argX P.1 A c,.int .i64 P.2.1,.int .i64 P.2.2])/\NewX w w' P.1 A c/\Below w.heap.size w w'
theorem NewX.drew{w W:World}{t:Tree}{A:Option Addr}{c:Nat}(h:NewX w W t A c):NewX w W.drew t A c:=by
 have d:∀b o,ziQ w.heap.size W.heap.size b->W.drew.cell? ⟨b,o,none⟩=W.cell? ⟨b,o,none⟩:=λ_ _ _=>rfl
 have a:∀b,ziQ w.heap.size W.heap.size b->ziQ w.heap.size W.drew.heap.size b:=λ_ h=>h
 exact LX.keep a d _ _ h
structure PaSt(s:ByteArray)(w:World)(k:Nat)(x:TR)(A:Option Addr)(c:Nat)(wr:World):Prop where
 rd:RdAt (w.heap.size+1) s x.2 wr
 zero:ZeroX wr w.heap.size
 out:PutX wr k (zap x.1.kind x.1.set A x.1.kids.length c)
 tree:LX wr (λb=>w.heap.size+1<b/\b<wr.heap.size) x.1 (zap x.1.kind x.1.set A x.1.kids.length c)
 low:Below w.heap.size w wr
 far:w.heap.size+1<k
theorem zlV{a w w':World}{B g:Nat}(h:Below B a w)(f:B<=w.heap.size)(b:w.grownBy w' (some g))(c:B<=g):Below B a w':=
 ⟨b.os.trans h.os,b.tape.trans h.tape,b.output.trans h.output,Qn h.size b.size,λi d=>(b.block i (by omega) (λe=>by have:=QD e;omega)).trans (h.block i d)⟩
theorem PaSt.call{s:ByteArray}{w:World}{k:Nat}{x:TR}{q:RS}{A:Option Addr}{c:Nat}{wr w':World}(h:PaSt s w k x A c wr)(e:RdEnd (w.heap.size+1) s q wr w'):PaSt s w k (x.1,q) A c w':=
 ⟨e.1,h.zero.grown e.2 (by omega),h.out.grown e.2 (by have:=h.far;omega),
  LX.keep (λb hb=>⟨hb.1,Qv hb.2 e.2.size⟩) (λb o hb=>zgB e.2 hb.2 (by have:=hb.1;omega)) _ _ h.tree,
  zlV h.low h.low.size e.2 (Zg _),h.far⟩
theorem PaSt.more{s:ByteArray}{w:World}{k:Nat}{x:TR}{A:Option Addr}{c:Nat}{wr w':World}(h:PaSt s w k x A c wr)(hb:Below wr.heap.size wr w'):PaSt s w k x A c w':=h.call (zfy h.rd hb)
theorem znt{w wr:World}{t:Tree}{A:Option Addr}{c:Nat}(k:ZeroX wr w.heap.size)(h:Below w.heap.size w wr)(j:LX wr (λb=>w.heap.size<b/\b<wr.heap.size) t (zap t.kind t.set A t.kids.length c)):
 PutX (zah wr w.heap.size (.int .i64 t.kind) (.int .u64 t.set.a) (.int .u64 t.set.b) (.int .u64 t.set.c) (.int .u64 t.set.d) (.slice A t.kids.length c)) w.heap.size (zap t.kind t.set A t.kids.length c)/\
 NewX w (zah wr w.heap.size (.int .i64 t.kind) (.int .u64 t.set.a) (.int .u64 t.set.b) (.int .u64 t.set.c) (.int .u64 t.set.d) (.slice A t.kids.length c)) t A c/\
 Below w.heap.size w (zah wr w.heap.size (.int .i64 t.kind) (.int .u64 t.set.a) (.int .u64 t.set.b) (.int .u64 t.set.c) (.int .u64 t.set.d) (.slice A t.kids.length c)):=by
 have hb:Below w.heap.size wr (zah wr w.heap.size (.int .i64 t.kind) (.int .u64 t.set.a) (.int .u64 t.set.b) (.int .u64 t.set.c) (.int .u64 t.set.d) (.slice A t.kids.length c)):=zbr (Qg _ _) (Qd _) _ _ _ _ _ _
 have g:∀i,i≠w.heap.size->(zah wr w.heap.size (.int .i64 t.kind) (.int .u64 t.set.a) (.int .u64 t.set.b) (.int .u64 t.set.c) (.int .u64 t.set.d) (.slice A t.kids.length c)).heap[i]? = wr.heap[i]? := λi f=>by
  unfold zah;rw[Ql _ _ _ _ f,Ql _ _ _ _ f,Ql _ _ _ _ f,Ql _ _ _ _ f,Ql _ _ _ _ f,Ql _ _ _ _ f]
 refine⟨k.fill _ _ _ _ _ _,LX.keep (λb e=>⟨Q5 e.1,Qv e.2 hb.size⟩) (λb o e=>?_) _ _ j,h.trans hb⟩;simp only[World.cell?, g b (show b≠w.heap.size by have:=e.1;omega)]
theorem zl0(s:ByteArray)(w:World)(hj:s.size<=maxLen):Calls prog 103 #[.string s] w (zz1 (zda s.data.toList) w):=by
 have h3:s.data.toList.length=s.size:=by simp
 obtain⟨U,L⟩:∃U,w.alloc (.cells #[.int .i64 0,.int .u64 0,.int .u64 0,.int .u64 0,.int .u64 0,.slice none 0 0] 185)=U:=⟨_,rfl⟩
 have X:Below w.heap.size w U:=by rw[<-L];exact WaL
 have g:ZeroX U w.heap.size:=by rw[<-L];exact ZeroX.new w
 have W:U.heap.size=w.heap.size+1:=by rw[<-L];simp
 have hf:=hIx L;unfold maxLen at hj;have HP:Hid (zda s.data.toList=if 200<s.data.toList.length then (kT 0,0,2)else if (topR s.data.toList).e≠0 then (kT 0,(topR s.data.toList).pos,(topR s.data.toList).e)else if zbj (topT s.data.toList).1≠0 then (kT 0,s.data.toList.length,zbj (topT s.data.toList).1)else ((topT s.data.toList).1,0,0)):=rfl;obtain⟨P,ha⟩:∃P,zda s.data.toList=P:=⟨_,rfl⟩
 rw[ha]at HP ⊢;rw[h3]at HP;clear ha L
 by_cases h0:200<s.size
 ·have d0:decide ((200:Int)<(s.size:Int))=true:=Qu (by omega)
  have j:Hid (P=(kT 0,0,2)):=by unfold Hid;rw[HP.out,Qi h0]
  have Y:Hid (PutX (zah U w.heap.size (.int .i64 0) (.int .u64 0) (.int .u64 0) (.int .u64 0) (.int .u64 0) (.slice none 0 0)) w.heap.size [.int .i64 0,.int .u64 0,.int .u64 0,.int .u64 0,.int .u64 0,.slice none 0 0]/\
   NewX w (zah U w.heap.size (.int .i64 0) (.int .u64 0) (.int .u64 0) (.int .u64 0) (.int .u64 0) (.slice none 0 0)) (kT 0) none 0/\Below w.heap.size w (zah U w.heap.size (.int .i64 0) (.int .u64 0) (.int .u64 0) (.int .u64 0) (.int .u64 0) (.slice none 0 0))):=
   znt (t:=kT 0) g X (LX.leaf _ _ _ _ _ _ zbI)
  have ⟨z0,z1,z2,z3,z4,z5⟩:=g.cells;have y0:=g.free 0;have y1:=g.free 1;have y2:=g.free 2;have y3:=g.free 3;have y4:=g.free 4;have y5:=g.free 5;clear HP X g W h3
  go_in
  go_upto_region 1 with fail
  rw[hf.out];go_wp2_with fail;obtain⟨r,q,n⟩:=Y.out;have ⟨u,y,C,z,x,B⟩:=r.cells;unfold zah at u y C z x B;exact Qj (v:=.tuple #[argX (kT 0) none 0,.int .i64 0,.int .i64 2]) (by simp[results,results103,go_sem,u,y,C,z,x,B,argX,kT,Tree.kind,Tree.set,Tree.kids,Set4.zero]) rfl (by rw[j.out];exact⟨none,0,rfl,q,n⟩)
 ·have d0:decide ((200:Int)<(s.size:Int))=false:=Qs (by omega)
  have hs:s.size<=4096:=by omega
  have H:Hid (P=if (topR s.data.toList).e≠0 then (kT 0,(topR s.data.toList).pos,(topR s.data.toList).e)else if zbj (topT s.data.toList).1≠0 then (kT 0,s.size,zbj (topT s.data.toList).1)else ((topT s.data.toList).1,0,0)):=by unfold Hid;rw[HP.out,Qe h0]
  obtain⟨W1,D⟩:∃W1,U.alloc (.cells #[.string s,.int .i64 0,.int .i64 0,.int .i64 0] 229)=W1:=⟨_,rfl⟩
  have h7:RdAt (w.heap.size+1) s znv W1:=by rw[<-D,<-W];exact Qp U _
  have hi:Below w.heap.size w W1:=by rw[<-D];exact X.alloc (by omega) _
  have hg:ZeroX W1 w.heap.size:=by rw[<-D];exact(Qt _ _ _ (by omega)).trans g
  have Z:W1.heap.size=w.heap.size+1+1:=by rw[<-D,Qr,W]
  have J:=zcS s.data.toList 21 znv (Qm _);have hd:Hid (Calls prog 137 #[.pointer (some ⟨w.heap.size+1,0,none⟩)] W1 (zjW (w.heap.size+1) s (topT s.data.toList) W1)):=ztL s hs 20 0 rfl (w.heap.size+1) znv W1 h7 (Qm _) rfl;have N:Hid (topR s.data.toList=if (topT s.data.toList).2.e=0/\(topT s.data.toList).2.pos<s.size then zaA (topT s.data.toList).2 3 else (topT s.data.toList).2):=by unfold Hid topR;rw[h3]
  have h9:altD s.data.toList 21 znv=topT s.data.toList:=rfl;rw[h9]at J;obtain⟨T,hT⟩:∃T,topT s.data.toList=T:=⟨_,rfl⟩
  rw[hT]at J hd N H;have hn:T.2.pos<=s.size:=by have:=J.step.inn;omega
  have ho:=hIx J;have G:=hIx (And.intro hg (And.intro hi Z));have hm:=hIx D;clear HP X g h7 hi hg Z J h9 hT D;obtain⟨Q,O⟩:∃Q,topR s.data.toList=Q:=⟨_,rfl⟩
  rw[O]at N H;clear O
  go_in
  go_upto_region 1 with fail
  rw[hf.out];go_upto_region 4 with fail
  -- WAYS
  rw[hm.out];go_wp2_with (go_at_call 137;apply Hid.out);refine WhM hd ?_;rintro e w2 ⟨A,c,rfl,hh,h2⟩;have Z:=G.out.2.2
  have m:Hid (PaSt s w w2.heap.size T A c (w2.alloc (.cells #[.int .i64 T.1.kind,.int .u64 T.1.set.a,.int .u64 T.1.set.b,.int .u64 T.1.set.c,.int .u64 T.1.set.d,.slice A T.1.kids.length c] 185))):=by
   have I:Below w2.heap.size w2 (w2.alloc (.cells #[.int .i64 T.1.kind,.int .u64 T.1.set.a,.int .u64 T.1.set.b,.int .u64 T.1.set.c,.int .u64 T.1.set.d,.slice A T.1.kids.length c] 185)):=WaL;have hq:=h2.2.size;have hc:=G.out.1.grown h2.2 (by omega)
   exact⟨h2.1.below I,(I.block _ hc.lt).trans hc,PutX.new w2 _,LX.keep (λb hb=>⟨by have:=hb.1;omega,by have:=hb.2;have:=I.size;omega⟩) (λb o hb=>I.cell (p:=⟨b,o,none⟩) hb.2) _ _ hh,
    (zlV G.out.2.1 G.out.2.1.size h2.2 (Zg _)).trans (I.mono (by omega)),by omega⟩
  clear hh h2 Z G W;unfold argX;go_upto_region 5 with fail
  generalize w2.alloc (.cells #[.int .i64 T.1.kind,.int .u64 T.1.set.a,.int .u64 T.1.set.b,.int .u64 T.1.set.c,.int .u64 T.1.set.d,.slice A T.1.kids.length c] 185)=V at *;generalize w2.heap.size=k at *;have ⟨c0,c1,c2,c3⟩:=m.out.rd.cells
  by_cases F:T.2.e=0
  ·have r:(T.2.e==0)=true:=by rw[F];rfl
   by_cases hl:T.2.pos<s.size
   ·have q:decide ((T.2.pos:Int)<(s.size:Int))=true:=Qu (by omega)
    obtain⟨i,l⟩:∃i:RS,zaA T.2 3=i:=⟨_,rfl⟩
    have O:Q=i:=by rw[N.out,Qi ⟨F,hl⟩,l]
    have h5:i.e=3:=by rw[<-l];unfold zaA;rw[Qi F]
    have j:Hid (P=(kT 0,i.pos,i.e)):=by unfold Hid;rw[H.out,O,Qi (by rw[h5];decide)]
    have n:(i.e != 0)=true:=by rw[h5];rfl
    have hk:Hid (Calls prog 138 #[.pointer (some ⟨w.heap.size+1,0,none⟩),.int .i64 3] V λe w'=>e=.returned (.tuple #[])/\PaSt s w k (T.1,i) A c w'):=
     (zcn (w.heap.size+1) s T.2 3 V m.out.rd).mono (λe w' ⟨h1,h2⟩=>⟨h1,by rw[l]at h2;exact m.out.call h2⟩)
    clear O h5 l;go_wp2_with (go_at_call 138;apply Hid.out);refine WhM hk ?_;rintro e K ⟨rfl,f⟩;have ⟨c0,c1,c2,c3⟩:=f.rd.cells;have Y:Hid (PutX (zah K w.heap.size (.int .i64 0) (.int .u64 0) (.int .u64 0) (.int .u64 0) (.int .u64 0) (.slice none 0 0)) w.heap.size [.int .i64 0,.int .u64 0,.int .u64 0,.int .u64 0,.int .u64 0,.slice none 0 0]/\NewX w (zah K w.heap.size (.int .i64 0) (.int .u64 0) (.int .u64 0) (.int .u64 0) (.int .u64 0) (.slice none 0 0)) (kT 0) none 0/\Below w.heap.size w (zah K w.heap.size (.int .i64 0) (.int .u64 0) (.int .u64 0) (.int .u64 0) (.int .u64 0) (.slice none 0 0))):=znt (t:=(kT 0)) (A:=none) (c:=0) f.zero f.low (LX.leaf _ _ _ _ _ _ zbI);have ⟨z0,z1,z2,z3,z4,z5⟩:=f.zero.cells;have y0:=f.zero.free 0;have y1:=f.zero.free 1;have y2:=f.zero.free 2;have y3:=f.zero.free 3;have y4:=f.zero.free 4;have y5:=f.zero.free 5;go_upto_region 8 with fail
    go_region
    obtain⟨r,q,n⟩:=Y.out;have ⟨u,y,C,z,x,B⟩:=r.cells;unfold zah at u y C z x B;have S:=hIx (And.intro (NewX.drew q) n.drew);clear r q n z0 z1 z2 z3 z4 z5 y0 y1 y2 y3 y4 y5 c0 c1 c2 c3;go_wp2;exact Qj (v:=.tuple #[argX (kT 0) none 0,.int .i64 i.pos,.int .i64 i.e]) (by simp[results,results103,go_sem,u,y,C,z,x,B,argX,kT,Tree.kind,Tree.set,Tree.kids,Set4.zero]) rfl (by rw[j.out];exact⟨none,0,rfl,S.out.1,S.out.2⟩)
   ·have q:decide ((T.2.pos:Int)<(s.size:Int))=false:=Qs (by omega)
    have O:Q=T.2:=by rw[N.out,Qe (λh=>hl h.2)]
    have n:(T.2.e != 0)=false:=by rw[F];rfl
    have h8:Hid (P=if zbj T.1≠0 then (kT 0,s.size,zbj T.1)else (T.1,0,0)):=by unfold Hid;rw[H.out,O,Qe (λh=>h F)]
    have hp:s.size<=T.2.pos:=by omega
    clear O F hl
    have h6:Hid (Calls prog 139 #[.agg #[.int .i64 T.1.kind,.int .u64 T.1.set.a,.int .u64 T.1.set.b,.int .u64 T.1.set.c,.int .u64 T.1.set.d,.slice A T.1.kids.length c]] V λe w'=>e=.returned (.int .i64 (zbj T.1))/\PaSt s w k T A c w'):=
     (zke T.1 (zap T.1.kind T.1.set A T.1.kids.length c) V (LX.lt (λ_ hb=>hb.2) _ _ m.out.tree)).mono (λe w' ⟨h1,h2⟩=>⟨h1,m.out.more h2⟩)
    have ⟨o0,o1,o2,o3,o4,o5⟩:=(show PutX V k [_,_,_,_,_,_]from m.out.out).cells;go_wp2_with (go_at_call 139;apply Hid.out);refine WhM h6 ?_;rintro e K ⟨rfl,f⟩;clear c0 c1 c2 c3 o0 o1 o2 o3 o4 o5 h6 r q n
    by_cases E:zbj T.1=0
    ·have d4:(zbj T.1 != 0)=false:=by rw[E];rfl
     have j:Hid (P=(T.1,0,0)):=by unfold Hid;rw[h8.out,Qe (λh=>h E)]
     have Y:Hid (PutX (zah K w.heap.size (.int .i64 T.1.kind) (.int .u64 T.1.set.a) (.int .u64 T.1.set.b) (.int .u64 T.1.set.c) (.int .u64 T.1.set.d) (.slice A T.1.kids.length c)) w.heap.size [.int .i64 T.1.kind,.int .u64 T.1.set.a,.int .u64 T.1.set.b,.int .u64 T.1.set.c,.int .u64 T.1.set.d,.slice A T.1.kids.length c]/\NewX w (zah K w.heap.size (.int .i64 T.1.kind) (.int .u64 T.1.set.a) (.int .u64 T.1.set.b) (.int .u64 T.1.set.c) (.int .u64 T.1.set.d) (.slice A T.1.kids.length c)) T.1 A c/\Below w.heap.size w (zah K w.heap.size (.int .i64 T.1.kind) (.int .u64 T.1.set.a) (.int .u64 T.1.set.b) (.int .u64 T.1.set.c) (.int .u64 T.1.set.d) (.slice A T.1.kids.length c))):=znt (t:=T.1) (A:=A) (c:=c) f.zero f.low (LX.keep (λb hb=>⟨by have:=hb.1;omega,hb.2⟩) (λ_ _ _=>rfl) _ _ f.tree);have ⟨z0,z1,z2,z3,z4,z5⟩:=f.zero.cells;have y0:=f.zero.free 0;have y1:=f.zero.free 1;have y2:=f.zero.free 2;have y3:=f.zero.free 3;have y4:=f.zero.free 4;have y5:=f.zero.free 5;have ⟨o0,o1,o2,o3,o4,o5⟩:=(show PutX K k [_,_,_,_,_,_]from f.out).cells;clear f E;go_wp2_with fail;obtain⟨r,q,n⟩:=Y.out;have ⟨u,y,C,z,x,B⟩:=r.cells;unfold zah at u y C z x B;exact Qj (v:=.tuple #[argX T.1 A c,.int .i64 0,.int .i64 0]) (by simp[results,results103,go_sem,u,y,C,z,x,B,argX]) rfl (by rw[j.out];exact⟨A,c,rfl,q,n⟩)
    ·have d4:(zbj T.1 != 0)=true:=Q6.2 E
     have j:Hid (P=(kT 0,s.size,zbj T.1)):=by unfold Hid;rw[h8.out,Qi E]
     have Y:Hid (PutX (zah K w.heap.size (.int .i64 0) (.int .u64 0) (.int .u64 0) (.int .u64 0) (.int .u64 0) (.slice none 0 0)) w.heap.size [.int .i64 0,.int .u64 0,.int .u64 0,.int .u64 0,.int .u64 0,.slice none 0 0]/\NewX w (zah K w.heap.size (.int .i64 0) (.int .u64 0) (.int .u64 0) (.int .u64 0) (.int .u64 0) (.slice none 0 0)) (kT 0) none 0/\Below w.heap.size w (zah K w.heap.size (.int .i64 0) (.int .u64 0) (.int .u64 0) (.int .u64 0) (.int .u64 0) (.slice none 0 0))):=znt (t:=(kT 0)) (A:=none) (c:=0) f.zero f.low (LX.leaf _ _ _ _ _ _ zbI);have ⟨z0,z1,z2,z3,z4,z5⟩:=f.zero.cells;have y0:=f.zero.free 0;have y1:=f.zero.free 1;have y2:=f.zero.free 2;have y3:=f.zero.free 3;have y4:=f.zero.free 4;have y5:=f.zero.free 5;clear f E;generalize zbj T.1=ce at *;go_wp2_with fail;obtain⟨r,q,n⟩:=Y.out;have ⟨u,y,C,z,x,B⟩:=r.cells;unfold zah at u y C z x B;exact Qj (v:=.tuple #[argX (kT 0) none 0,.int .i64 s.size,.int .i64 ce]) (by simp[results,results103,go_sem,u,y,C,z,x,B,argX,kT,Tree.kind,Tree.set,Tree.kids,Set4.zero]) rfl (by rw[j.out];exact⟨none,0,rfl,q,n⟩)
  ·obtain⟨i,l⟩:∃i:RS,T.2=i:=⟨_,rfl⟩
   have f:PaSt s w k (T.1,i) A c V:=by rw[<-l];exact m.out
   have O:Q=T.2:=by rw[N.out,Qe (λh=>F h.1)]
   have j:Hid (P=(kT 0,i.pos,i.e)):=by unfold Hid;rw[H.out,O,Qi F,l]
   rw[l]at F;have r:(i.e==0)=false:=Qb.2 F;have n:(i.e != 0)=true:=Q6.2 F;clear O F c0 c1 c2 c3 l m;have ⟨c0,c1,c2,c3⟩:=f.rd.cells;have Y:Hid (PutX (zah V w.heap.size (.int .i64 0) (.int .u64 0) (.int .u64 0) (.int .u64 0) (.int .u64 0) (.slice none 0 0)) w.heap.size [.int .i64 0,.int .u64 0,.int .u64 0,.int .u64 0,.int .u64 0,.slice none 0 0]/\NewX w (zah V w.heap.size (.int .i64 0) (.int .u64 0) (.int .u64 0) (.int .u64 0) (.int .u64 0) (.slice none 0 0)) (kT 0) none 0/\Below w.heap.size w (zah V w.heap.size (.int .i64 0) (.int .u64 0) (.int .u64 0) (.int .u64 0) (.int .u64 0) (.slice none 0 0))):=znt (t:=(kT 0)) (A:=none) (c:=0) f.zero f.low (LX.leaf _ _ _ _ _ _ zbI);have ⟨z0,z1,z2,z3,z4,z5⟩:=f.zero.cells;have y0:=f.zero.free 0;have y1:=f.zero.free 1;have y2:=f.zero.free 2;have y3:=f.zero.free 3;have y4:=f.zero.free 4;have y5:=f.zero.free 5;go_upto_region 8 with fail
   go_region
   obtain⟨r,q,n⟩:=Y.out;have ⟨u,y,C,z,x,B⟩:=r.cells;unfold zah at u y C z x B;have S:=hIx (And.intro (NewX.drew q) n.drew);clear r q n z0 z1 z2 z3 z4 z5 y0 y1 y2 y3 y4 y5 c0 c1 c2 c3;go_wp2;exact Qj (v:=.tuple #[argX (kT 0) none 0,.int .i64 i.pos,.int .i64 i.e]) (by simp[results,results103,go_sem,u,y,C,z,x,B,argX,kT,Tree.kind,Tree.set,Tree.kids,Set4.zero]) rfl (by rw[j.out];exact⟨none,0,rfl,S.out.1,S.out.2⟩)
