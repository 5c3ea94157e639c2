/- Lemmas for the last texts. -/
import Derived.Test.YtfhaojhofiocaaaGreatDoorM07
set_option maxHeartbeats 6400000
set_option maxRecDepth 100000
namespace Go.Proofs.YtfhaojhofiocaaaGreatDoor
open Go.RowKit Go.Proofs.Tryz
theorem zdE{g:Nat}{s:ByteArray}{w wr:World}{q:RS}{t:Tree}{A:Option Addr}{c:Nat}(k:g<w.heap.size)(n:RdAt g s q wr)(l:ZeroX wr w.heap.size)(m:w.grownBy wr (some g))
 (j:LX wr (λb=>w.heap.size<b/\b<wr.heap.size) t (zap t.kind t.set A t.kids.length c)):
 PutX (zai wr w.heap.size (jA t.kind) (jB t.set.a) (jB t.set.b) (jB t.set.c) (jB t.set.d) (.slice A t.kids.length c)) w.heap.size (zap t.kind t.set A t.kids.length c)/\
 NewX w (zai wr w.heap.size (jA t.kind) (jB t.set.a) (jB t.set.b) (jB t.set.c) (jB t.set.d) (.slice A t.kids.length c)) t A c/\
 RdEnd g s q w (zai wr w.heap.size (jA t.kind) (jB t.set.a) (jB t.set.b) (jB t.set.c) (jB t.set.d) (.slice A t.kids.length c)):=by
 have hb:Below w.heap.size wr (zai wr w.heap.size (jA t.kind) (jB t.set.a) (jB t.set.b) (jB t.set.c) (jB t.set.d) (.slice A t.kids.length c)):=zbA (Qi _ _) (Qd _) _ _ _ _ _ _
 have h:∀i,i≠w.heap.size->(zai wr w.heap.size (jA t.kind) (jB t.set.a) (jB t.set.b) (jB t.set.c) (jB t.set.d) (.slice A t.kids.length c)).heap[i]? = wr.heap[i]? := λi f=>by
  unfold zai;rw[Qm _ _ _ _ f,Qm _ _ _ _ f,Qm _ _ _ _ f,Qm _ _ _ _ f,Qm _ _ _ _ f,Qm _ _ _ _ f]
 refine⟨l.fill _ _ _ _ _ _,LX.keep (λb e=>⟨QZ e.1,Qw e.2 hb.size⟩) (λb o e=>?_) _ _ j,(hb.block g k).trans n,zdu m (Qd _) hb⟩;simp only[World.cell?, h b (show b≠w.heap.size by have:=e.1;omega)]
structure AtSt(g:Nat)(s:ByteArray)(w:World)(q:RS)(wr:World):Prop where
 rd:RdAt g s q wr
 zero:ZeroX wr w.heap.size
 frame:w.grownBy wr (some g)
theorem AtSt.call{g:Nat}{s:ByteArray}{w:World}{q a:RS}{wr w':World}(b:g<w.heap.size)(h:AtSt g s w q wr)(e:RdEnd g s a wr w'):AtSt g s w a w':=
 ⟨e.1,h.zero.grown e.2 (by omega),zay h.frame e.2⟩
theorem AtSt.low{g:Nat}{s:ByteArray}{w:World}{q:RS}{wr w':World}(a:g<w.heap.size)(h:AtSt g s w q wr)(hb:wr w'):AtSt g s w q w':=h.call a (zfw h.rd hb)
theorem zob(s:ByteArray)(op:Nat)(AF:RS->TR)(hs:s.size<=4096)(gj:op<=20)(hA:ziE s.data.toList AF)(hC:op<20->zfT 61 s (op+1) AF):
 zfT 164 s op (zhn s.data.toList AF):=by
 intro g r w h hp gu;subst gu;have gD:s.data.toList.length=s.size:=by simp
 have y:=h.lt;obtain⟨W0,ht⟩:∃W0,w.alloc (.cells #[jA 0,jB 0,jB 0,jB 0,jB 0,jD 0 0] 98)=W0:=⟨_,rfl⟩
 have hI:w W0:=by rw[<-ht];exact WaL
 have hG:ZeroX W0 w.heap.size:=by rw[<-ht];exact ZeroX.new w
 have gF:w.heap.size<W0.heap.size:=hG.lt;have hq:AtSt g s w r W0:=⟨h.below hI,hG,zcn (zaZ w _) hI⟩
 have gc:=hIx hq
 have hZ:Hid (Calls prog 130 #[.pointer (some ⟨g,0,none⟩)] W0 λe w'=>e=jC (jA (zaf s.data.toList r))/\AtSt g s w r w'):=
  (zeI g s r W0 hq.rd hp).mono (λe w' ⟨h1,h2⟩=>⟨h1,hq.call y h2⟩)
 have hB:Hid (∀(b:Int) W,AtSt g s w r W->Calls prog 89 #[.pointer (some ⟨g,0,none⟩),jA b] W λe w'=>e=jC (.bool (decide (zaf s.data.toList r=b)))/\AtSt g s w (if zaf s.data.toList r=b then onR r else r) w'):=λb W hW=>
  (zdR g s r b W hW.rd hp hs).mono (λe w' ⟨h1,h2⟩=>by
   have J:=hW.call y h2;unfold zaR at h1 J
   by_cases hb:zaf s.data.toList r=b
   ·rw[Qj hb]at h1 J
    rw[Qj hb];exact⟨by rw[h1,Qx hb],J⟩
   ·rw[Qf hb]at h1 J
    rw[Qf hb];exact⟨by rw[h1,Qt hb],J⟩)
 have hv:Hid (∀(b:Int) W,zaf s.data.toList r=b->AtSt g s w r W->Calls prog 89 #[.pointer (some ⟨g,0,none⟩),jA b] W λe w'=>e=jC (.bool true)/\AtSt g s w (onR r) w'):=λb W hb hW=>
  (hB.out b W hW).mono λe w' ⟨h1,h2⟩=>⟨by rw[h1,Qx hb],by rw[Qj hb]at h2;exact h2⟩
 have hx:Hid (∀(b:Int) W,zaf s.data.toList r≠b->AtSt g s w r W->Calls prog 89 #[.pointer (some ⟨g,0,none⟩),jA b] W λe w'=>e=jC (.bool false)/\AtSt g s w r w'):=λb W hb hW=>
  (hB.out b W hW).mono λe w' ⟨h1,h2⟩=>⟨by rw[h1,Qt hb],by rw[Qf hb]at h2;exact h2⟩
 have j:Hid (zhn s.data.toList AF r=if zaf s.data.toList r=40 then (if r.op=20 then (kT 0,zaF r 11)else zgV s.data.toList (AF {r with pos:=r.pos+1,op:=r.op+1}))
  else if zaf s.data.toList r=46 then (byT (λx=>!(rgF 10 10 x)),onR r)
  else if zaf s.data.toList r=94 then (kT 7,onR r)
  else if zaf s.data.toList r=36 then (kT 8,onR r)
  else if zaf s.data.toList r=91 then (byT (zeX s.data.toList (onR r)).1,(zeX s.data.toList (onR r)).2)
  else zn7 s.data.toList r):=rfl
 obtain⟨R,hR⟩:∃R,zhn s.data.toList AF r=R:=⟨_,rfl⟩
 rw[hR]at j ⊢;have gm:=hIx hC;have gf:=hIx hA;have gv:=hIx ht;have HH:=hIx h;clear h hC hA hI ht hG hR hq hB
 go_in
 go_upto_region 1 with fail
 rw[gv.out];go_wp2_with (go_at_call 130;apply Hid.out);refine WhM hZ ?_;rintro e w1 ⟨rfl,hk⟩;have X:=hIx hk;have c0:=hk.rd.cells;have z0:=hk.zero.cells;have y0:=hk.zero.free;clear hZ gc hk
 -- WAYS
 clear z0 y0
 by_cases O:zaf s.data.toList r=40
 ·have d0:(zaf s.data.toList r==40)=true:=by rw[O];rfl
  rw[Qj O]at j;have gE:=(zaU O (by decide)).1
  by_cases ho:r.op=20
  ·have N:((r.op:Int)==20)=true:=by rw[ho];rfl
   rw[Qj ho]at j;have gh:Hid (Calls prog 62 #[.pointer (some ⟨g,0,none⟩),jA 11] w1 λe w'=>e=jC (.tuple #[])/\AtSt g s w (zaF r 11) w'):=(zda g s r 11 w1 X.out.rd).mono (λe w' ⟨h1,h2⟩=>⟨h1,X.out.call y h2⟩);clear O ho;go_wp2_with (go_at_call 62;apply Hid.out);refine WhM gh ?_;rintro e w2 ⟨rfl,q⟩;have U:Hid (PutX (zai w2 w.heap.size (jA 0) (jB 0) (jB 0) (jB 0) (jB 0) (jD 0 0)) w.heap.size [jA 0,jB 0,jB 0,jB 0,jB 0,jD 0 0]/\NewX w (zai w2 w.heap.size (jA 0) (jB 0) (jB 0) (jB 0) (jB 0) (jD 0 0)) (kT 0) none 0/\RdEnd g s _ w (zai w2 w.heap.size (jA 0) (jB 0) (jB 0) (jB 0) (jB 0) (jD 0 0))):=zdE (t:=(kT 0)) (A:=none) (c:=0) y q.rd q.zero q.frame (LX.leaf _ _ _ _ _ _ zbC);have z0:=q.zero.cells;have y0:=q.zero.free;go_wp2_with fail;obtain⟨N,Q,S⟩:=U.out;have ⟨D,F,I,G,E,H⟩:=N.cells;unfold zai at D F I G E H;exact QD (v:=argX (kT 0) none 0) (by simp[results,results164,go_sem,D,F,I,G,E,H,argX,kT,Tree.kind,Tree.set,Tree.kids,Set4.zero]) rfl (by rw[j.out];exact⟨none,0,rfl,Q,S⟩)
  ·have N:((r.op:Int)==20)=false:=Qc.2 (by omega)
   rw[Qf ho]at j;have hU:r.op<20:=by omega
   have f1:=X.out.rd.free;have i1:IntKind.i64.wrap ((r.pos:Int)+1)=(r.pos:Int)+1:=Qz _ (by omega);have i2:IntKind.i64.wrap ((r.op:Int)+1)=(r.op:Int)+1:=Qz _ (by omega)
   have q:AtSt g s w {r with pos:=r.pos+1,op:=r.op+1} ((w1.setCell ⟨g,1,none⟩ (jA ((r.pos:Int)+1))).setCell ⟨g,2,none⟩ (jA ((r.op:Int)+1))):=by
    have e1:=X.out.rd.setPos (r.pos+1);have e2:=e1.setOp (r.op+1);exact X.out.call y ⟨e2,zao (zao (zaZ w1 _) 1 _) 2 _⟩
   have hH:=hIx q;clear q O;go_upto_region 7 with fail
   generalize (w1.setCell ⟨g,1,none⟩ (jA ((r.pos:Int)+1))).setCell ⟨g,2,none⟩ (jA ((r.op:Int)+1))=w2 at *;have hr:zfW s.data.toList {r with pos:=r.pos+1,op:=r.op+1} (AF {r with pos:=r.pos+1,op:=r.op+1}):=gf.out _ (show r.pos+1<=s.data.toList.length by omega);have hX:=hIx (gm.out hU g {r with pos:=r.pos+1,op:=r.op+1} w2 hH.out.rd (show r.pos+1<=s.size by omega) (rfl));obtain⟨T,hT⟩:∃T,AF {r with pos:=r.pos+1,op:=r.op+1}=T:=⟨_,rfl⟩
   rw[hT]at hr hX j;have ge:T.2.op=r.op+1:=hr.step.op;have gB:1<=T.2.op:=by omega
   have gA:T.2.op<=21:=by omega
   have g5:T.2.pos<=s.size:=by have:=hr.step.inn;omega
   clear c0 f1 hr hT i1 i2 d0 N ge;go_wp2_with (go_at_call 61;apply Hid.out);refine WhM hX ?_;rintro e w3 ⟨A,c,rfl,hV,h3⟩;have m:=hH.out.call y h3;have g7:w.heap.size<w2.heap.size:=hH.out.zero.lt;have gC:g<w3.heap.size:=m.rd.lt;have c0:=m.rd.cells;have f2:=m.rd.free 2;have i3:IntKind.i64.wrap ((T.2.op:Int)-1)=(T.2.op:Int)-1:=Qz _ (by omega)
   have l:AtSt g s w {T.2 with op:=T.2.op-1} ((w3.setCell ⟨g,2,none⟩ (jA ((T.2.op:Int)-1))).alloc (.cells #[jA T.1.kind,jB T.1.set.a,jB T.1.set.b,jB T.1.set.c,jB T.1.set.d,.slice A T.1.kids.length c] 98)):=by
    have e1:=m.rd.setOp (T.2.op-1);rw[show ((T.2.op-1:Nat):Int)=(T.2.op:Int)-1 by omega]at e1;have l:=m.call y ⟨e1,zao (zaZ w3 _) 2 _⟩;exact l.low y WaL
   have hE:PutX ((w3.setCell ⟨g,2,none⟩ (jA ((T.2.op:Int)-1))).alloc (.cells #[jA T.1.kind,jB T.1.set.a,jB T.1.set.b,jB T.1.set.c,jB T.1.set.d,.slice A T.1.kids.length c] 98)) w3.heap.size [jA T.1.kind,jB T.1.set.a,jB T.1.set.b,jB T.1.set.c,jB T.1.set.d,.slice A T.1.kids.length c]:=by
    have:=PutX.new (w3.setCell ⟨g,2,none⟩ (jA ((T.2.op:Int)-1))) [jA T.1.kind,jB T.1.set.a,jB T.1.set.b,jB T.1.set.c,jB T.1.set.d,.slice A T.1.kids.length c];rw[show (w3.setCell ⟨g,2,none⟩ (jA ((T.2.op:Int)-1))).heap.size=w3.heap.size by simp[World.setCell]]at this;exact this
   have g1:LX ((w3.setCell ⟨g,2,none⟩ (jA ((T.2.op:Int)-1))).alloc (.cells #[jA T.1.kind,jB T.1.set.a,jB T.1.set.b,jB T.1.set.c,jB T.1.set.d,.slice A T.1.kids.length c] 98)) (λb=>w.heap.size<b/\b<w3.heap.size) T.1 (zap T.1.kind T.1.set A T.1.kids.length c):=by
    refine LX.keep (λb hb=>⟨Qw g7 hb.1,hb.2⟩) (λb o hb=>?_) _ _ hV;have g4:b≠g:=by have:=hb.1;omega
    have h5:((w3.setCell ⟨g,2,none⟩ (jA ((T.2.op:Int)-1))).alloc (.cells #[jA T.1.kind,jB T.1.set.a,jB T.1.set.b,jB T.1.set.c,jB T.1.set.d,.slice A T.1.kids.length c] 98)).heap[b]? = w3.heap[b]? :=
     (Qs _ _ _ (by have:=hb.2;simp only[World.setCell,Array.size_modify];exact this)).trans (Qm _ _ _ _ g4)
    simp only[World.cell?, h5]
   have hz:w3.heap.size<((w3.setCell ⟨g,2,none⟩ (jA ((T.2.op:Int)-1))).alloc (.cells #[jA T.1.kind,jB T.1.set.a,jB T.1.set.b,jB T.1.set.c,jB T.1.set.d,.slice A T.1.kids.length c] 98)).heap.size:=hE.lt;clear hV h3 m;unfold argX;go_upto_region 9 with fail
   generalize (w3.setCell ⟨g,2,none⟩ (jA ((T.2.op:Int)-1))).alloc (.cells #[jA T.1.kind,jB T.1.set.a,jB T.1.set.b,jB T.1.set.c,jB T.1.set.d,.slice A T.1.kids.length c] 98)=Y at *;obtain⟨Z,hn⟩:∃Z:RS,Z={T.2 with op:=T.2.op-1}:=⟨_,rfl⟩
   have hP:Z.pos<=s.size:=by rw[hn];exact g5
   rw[<-hn]at l;have h9:Hid (R=(T.1,if (zaR s.data.toList Z 41).1=true then (zaR s.data.toList Z 41).2 else zaF Z 3)):=by unfold Hid;rw[j.out,hn];rfl
   have hi:Hid (∀w',Y.grownBy w' (some g)->PutX w' w3.heap.size [jA T.1.kind,jB T.1.set.a,jB T.1.set.b,jB T.1.set.c,jB T.1.set.d,.slice A T.1.kids.length c]/\LX w' (λb=>w.heap.size<b/\b<w'.heap.size) T.1 (zap T.1.kind T.1.set A T.1.kids.length c)):=λw' hF=>
    ⟨hE.grown hF (by omega),LX.keep (λb hb=>⟨hb.1,Qw (ZA hb.2 hz) hF.size⟩) (λb o hb=>zgv hF (ZA hb.2 hz) (by have:=hb.1;omega)) _ _ g1⟩
   have h4:Hid (Calls prog 89 #[.pointer (some ⟨g,0,none⟩),jA 41] Y λe w'=>e=jC (.bool (zaR s.data.toList Z 41).1)/\AtSt g s w (zaR s.data.toList Z 41).2 w'/\Y.grownBy w' (some g)):=
    (zdR g s Z 41 Y l.rd hP hs).mono (λe w' ⟨h1,h2⟩=>⟨h1,l.call y h2,h2.2⟩)
   clear hE g1 l hn c0 f2 j;cases hh:(zaR s.data.toList Z 41).1 with
   |true=>
    rw[hh]at h4 h9;rw[Qj rfl]at h9;go_wp2_with (go_at_call 89;apply Hid.out);refine WhM h4 ?_;rintro e V ⟨rfl,k,hy⟩;obtain⟨gt,gw⟩:=hi.out V hy;have b0:=gt.cells;have U:Hid (PutX (zai V w.heap.size (jA T.1.kind) (jB T.1.set.a) (jB T.1.set.b) (jB T.1.set.c) (jB T.1.set.d) (.slice A T.1.kids.length c)) w.heap.size [jA T.1.kind,jB T.1.set.a,jB T.1.set.b,jB T.1.set.c,jB T.1.set.d,.slice A T.1.kids.length c]/\NewX w (zai V w.heap.size (jA T.1.kind) (jB T.1.set.a) (jB T.1.set.b) (jB T.1.set.c) (jB T.1.set.d) (.slice A T.1.kids.length c)) T.1 A c/\RdEnd g s _ w (zai V w.heap.size (jA T.1.kind) (jB T.1.set.a) (jB T.1.set.b) (jB T.1.set.c) (jB T.1.set.d) (.slice A T.1.kids.length c))):=zdE (t:=T.1) (A:=A) (c:=c) y k.rd k.zero k.frame gw;have z0:=k.zero.cells;have y0:=k.zero.free;go_wp2_with fail;obtain⟨N,Q,S⟩:=U.out;have ⟨D,F,I,G,E,H⟩:=N.cells;unfold zai at D F I G E H;exact QD (v:=argX T.1 A c) (by simp[results,results164,go_sem,D,F,I,G,E,H,argX]) rfl (by rw[h9.out];exact⟨A,c,rfl,Q,S⟩)
   |false=>
    have gk:(zaR s.data.toList Z 41).2=Z:=by
     unfold zaR at hh ⊢
     by_cases h:zaf s.data.toList Z=41
     ·rw[Qj h]at hh;cases hh
     ·rw[Qf h]
    rw[hh]at h4 h9;rw[Qf (by decide)]at h9;rw[gk]at h4;go_wp2_with (go_at_call 89;apply Hid.out);refine WhM h4 ?_;rintro e V ⟨rfl,k,hy⟩
    have gr:Hid (Calls prog 62 #[.pointer g,jA 3] V λe w'=>e=jC (.tuple #[])/\AtSt g s w (zaF Z 3) w'/\Y.grownBy w' (some g)):=
     (zda g s Z 3 V k.rd).mono (λe w' ⟨h1,h2⟩=>⟨h1,k.call y h2,zay hy h2.2⟩)
    clear k hy;go_wp2_with (go_at_call 62;apply Hid.out);refine WhM gr ?_;rintro e L ⟨rfl,n,gq⟩;obtain⟨gn,hu⟩:=hi.out L gq;have b0:=gn.cells;have U:Hid (PutX (zai L w.heap.size (jA T.1.kind) (jB T.1.set.a) (jB T.1.set.b) (jB T.1.set.c) (jB T.1.set.d) (.slice A T.1.kids.length c)) w.heap.size [jA T.1.kind,jB T.1.set.a,jB T.1.set.b,jB T.1.set.c,jB T.1.set.d,.slice A T.1.kids.length c]/\NewX w (zai L w.heap.size (jA T.1.kind) (jB T.1.set.a) (jB T.1.set.b) (jB T.1.set.c) (jB T.1.set.d) (.slice A T.1.kids.length c)) T.1 A c/\RdEnd g s _ w (zai L w.heap.size (jA T.1.kind) (jB T.1.set.a) (jB T.1.set.b) (jB T.1.set.c) (jB T.1.set.d) (.slice A T.1.kids.length c))):=zdE (t:=T.1) (A:=A) (c:=c) y n.rd n.zero n.frame hu;have z0:=n.zero.cells;have y0:=n.zero.free;go_wp2_with fail;obtain⟨N,Q,S⟩:=U.out;have ⟨D,F,I,G,E,H⟩:=N.cells;unfold zai at D F I G E H;exact QD (v:=argX T.1 A c) (by simp[results,results164,go_sem,D,F,I,G,E,H,argX]) rfl (by rw[h9.out];exact⟨A,c,rfl,Q,S⟩)
 have d0:(zaf s.data.toList r==40)=false:=Qc.2 O;rw[Qf O]at j;clear c0
 by_cases h8:zaf s.data.toList r=46
 ·rw[Qj h8]at j
  have HT:=hIx (hv.out 46 w1 h8 X.out);clear O h8;go_wp2_with (go_at_call 89;apply Hid.out);refine WhM HT ?_;rintro e w2 ⟨rfl,q⟩;obtain⟨Sr,hN⟩:∃Sr,setF (rgF 10 10)=Sr:=⟨_,rfl⟩
  obtain⟨B,hw⟩:∃B,setF (λx=>!(rgF 10 10 x))=B:=⟨_,rfl⟩
  have hL:Hid (Calls prog 75 #[jA 10,jA 10] w2 λe w'=>e=jC (.agg #[jB Sr.a,jB Sr.b,jB Sr.c,jB Sr.d])/\AtSt g s w (onR r) w'):=by
   have:=zhT 10 10 (by decide) w2;rw[hN]at this;exact this.mono (λe w' ⟨h1,h2⟩=>⟨h1,q.low y h2⟩)
  have g9:Hid (∀W,AtSt g s w (onR r) W->Calls prog 192 #[.agg #[jB Sr.a,jB Sr.b,jB Sr.c,jB Sr.d]] W λe w'=>e=jC (.agg #[jB B.a,jB B.b,jB B.c,jB B.d])/\AtSt g s w (onR r) w'):=λW hW=>by
   have:=zoA (rgF 10 10) W;rw[hN,hw]at this;exact this.mono (λe w' ⟨h1,h2⟩=>⟨h1,hW.low y h2⟩)
  have hm:Hid (R=(.node 3 B [],onR r)):=by unfold Hid;rw[j.out];unfold byT;rw[hw]
  have hf:B.Wf:=by rw[<-hw];exact ziF _
  clear q hN hw;go_wp2_with (go_at_call 75;apply Hid.out);refine WhM hL ?_;rintro e w3 ⟨rfl,m⟩;have gi:=hIx (g9.out w3 m);clear m;go_wp2_with (go_at_call 192;apply Hid.out);refine WhM gi ?_;rintro e Y ⟨rfl,l⟩;have U:Hid (PutX (zai Y w.heap.size (jA 3) (jB B.a) (jB B.b) (jB B.c) (jB B.d) (jD 0 0)) w.heap.size [jA 3,jB B.a,jB B.b,jB B.c,jB B.d,jD 0 0]/\NewX w (zai Y w.heap.size (jA 3) (jB B.a) (jB B.b) (jB B.c) (jB B.d) (jD 0 0)) (.node 3 B []) none 0/\RdEnd g s _ w (zai Y w.heap.size (jA 3) (jB B.a) (jB B.b) (jB B.c) (jB B.d) (jD 0 0))):=zdE (t:=(.node 3 B [])) (A:=none) (c:=0) y l.rd l.zero l.frame (LX.leaf _ _ _ _ _ _ hf);have z0:=l.zero.cells;have y0:=l.zero.free;go_wp2_with fail;obtain⟨N,Q,S⟩:=U.out;have ⟨D,F,I,G,E,H⟩:=N.cells;unfold zai at D F I G E H;exact QD (v:=argX (.node 3 B []) none 0) (by simp[results,results164,go_sem,D,F,I,G,E,H,argX,Tree.kind,Tree.set,Tree.kids]) rfl (by rw[hm.out];exact⟨none,0,rfl,Q,S⟩)
 rw[Qf h8]at j;have gs:=hIx (hx.out 46 w1 h8 X.out);go_wp2_with (go_at_call 89;apply Hid.out);refine WhM gs ?_;rintro e w2 ⟨rfl,q⟩
 by_cases he:zaf s.data.toList r=94
 ·rw[Qj he]at j
  have HT:=hIx (hv.out 94 w2 he q);clear q;go_wp2_with (go_at_call 89;apply Hid.out);refine WhM HT ?_;rintro e w3 ⟨rfl,m⟩
  have hD:Hid (Calls prog 193 #[jA 7] w3 λe w'=>∃A c,e=jC (.agg #[jA 7,jB 0,jB 0,jB 0,jB 0,.slice A 0 c])/\AtSt g s w (onR r) w'):=
   (zpe 7 w3).mono (λe w' ⟨A,c,h1,_,h2⟩=>⟨A,c,h1,m.low y h2⟩)
  clear m;go_wp2_with (go_at_call 193;apply Hid.out);refine WhM hD ?_;rintro e w8 ⟨A,c,rfl,u⟩;have U:Hid (PutX (zai w8 w.heap.size (jA 7) (jB 0) (jB 0) (jB 0) (jB 0) (.slice A 0 c)) w.heap.size [jA 7,jB 0,jB 0,jB 0,jB 0,.slice A 0 c]/\NewX w (zai w8 w.heap.size (jA 7) (jB 0) (jB 0) (jB 0) (jB 0) (.slice A 0 c)) (kT 7) A c/\RdEnd g s _ w (zai w8 w.heap.size (jA 7) (jB 0) (jB 0) (jB 0) (jB 0) (.slice A 0 c))):=zdE (t:=(kT 7)) (A:=A) (c:=c) y u.rd u.zero u.frame (LX.leaf _ _ _ _ _ _ zbC);have z0:=u.zero.cells;have y0:=u.zero.free;go_wp2_with fail;obtain⟨N,Q,S⟩:=U.out;have ⟨D,F,I,G,E,H⟩:=N.cells;unfold zai at D F I G E H;exact QD (v:=argX (kT 7) A c) (by simp[results,results164,go_sem,D,F,I,G,E,H,argX,kT,Tree.kind,Tree.set,Tree.kids,Set4.zero]) rfl (by rw[j.out];exact⟨A,c,rfl,Q,S⟩)
 rw[Qf he]at j;have gd:=hIx (hx.out 94 w2 he q);clear q;go_wp2_with (go_at_call 89;apply Hid.out);refine WhM gd ?_;rintro e w3 ⟨rfl,m⟩
 by_cases ha:zaf s.data.toList r=36
 ·rw[Qj ha]at j
  have HT:=hIx (hv.out 36 w3 ha m);clear m;go_wp2_with (go_at_call 89;apply Hid.out);refine WhM HT ?_;rintro e Y ⟨rfl,l⟩
  have hD:Hid (Calls prog 193 #[jA 8] Y λe w'=>∃A c,e=jC (.agg #[jA 8,jB 0,jB 0,jB 0,jB 0,.slice A 0 c])/\AtSt g s w (onR r) w'):=
   (zpe 8 Y).mono (λe w' ⟨A,c,h1,_,h2⟩=>⟨A,c,h1,l.low y h2⟩)
  clear l;go_wp2_with (go_at_call 193;apply Hid.out);refine WhM hD ?_;rintro e w8 ⟨A,c,rfl,u⟩;have U:Hid (PutX (zai w8 w.heap.size (jA 8) (jB 0) (jB 0) (jB 0) (jB 0) (.slice A 0 c)) w.heap.size [jA 8,jB 0,jB 0,jB 0,jB 0,.slice A 0 c]/\NewX w (zai w8 w.heap.size (jA 8) (jB 0) (jB 0) (jB 0) (jB 0) (.slice A 0 c)) (kT 8) A c/\RdEnd g s _ w (zai w8 w.heap.size (jA 8) (jB 0) (jB 0) (jB 0) (jB 0) (.slice A 0 c))):=zdE (t:=(kT 8)) (A:=A) (c:=c) y u.rd u.zero u.frame (LX.leaf _ _ _ _ _ _ zbC);have z0:=u.zero.cells;have y0:=u.zero.free;go_wp2_with fail;obtain⟨N,Q,S⟩:=U.out;have ⟨D,F,I,G,E,H⟩:=N.cells;unfold zai at D F I G E H;exact QD (v:=argX (kT 8) A c) (by simp[results,results164,go_sem,D,F,I,G,E,H,argX,kT,Tree.kind,Tree.set,Tree.kids,Set4.zero]) rfl (by rw[j.out];exact⟨A,c,rfl,Q,S⟩)
 rw[Qf ha]at j;have gy:=hIx (hx.out 36 w3 ha m);clear m;go_wp2_with (go_at_call 89;apply Hid.out);refine WhM gy ?_;rintro e Y ⟨rfl,l⟩
 by_cases h7:zaf s.data.toList r=91
 ·rw[Qj h7]at j
  have HT:=hIx (hv.out 91 Y h7 l);have g8:(onR r).pos<=s.size:=by have:=(zdf h7 (by decide)).1.inn;omega
  clear l;go_wp2_with (go_at_call 89;apply Hid.out);refine WhM HT ?_;rintro e V ⟨rfl,k⟩;obtain⟨K,hK⟩:∃K,zeX s.data.toList (onR r)=K:=⟨_,rfl⟩
  rw[hK]at j
  have gp:Hid (Calls prog 194 #[.pointer g] V (zjx g s (byT K.1,K.2) V)):=by
   have:=zr4 g s (onR r) V k.rd g8 hs;rw[hK]at this;exact this
  have hY:=hIx k;clear k hK;go_wp2_with (go_at_call 194;apply Hid.out);refine WhM gp ?_;rintro e L ⟨A,c,rfl,g0,h6⟩;have n:=hY.out.call y h6;have gl:w.heap.size<V.heap.size:=hY.out.zero.lt;have hu:LX L (λb=>w.heap.size<b/\b<L.heap.size) (byT K.1) (zap (byT K.1).kind (byT K.1).set A (byT K.1).kids.length c):=LX.keep (λb hb=>⟨Qw gl hb.1,hb.2⟩) (λ_ _ _=>rfl) _ _ g0;clear g0 h6;obtain⟨z,hS⟩:∃z,byT K.1=z:=⟨_,rfl⟩
  rw[hS]at hu j ⊢;clear hS;unfold argX;have U:Hid (PutX (zai L w.heap.size (jA z.kind) (jB z.set.a) (jB z.set.b) (jB z.set.c) (jB z.set.d) (.slice A z.kids.length c)) w.heap.size [jA z.kind,jB z.set.a,jB z.set.b,jB z.set.c,jB z.set.d,.slice A z.kids.length c]/\NewX w (zai L w.heap.size (jA z.kind) (jB z.set.a) (jB z.set.b) (jB z.set.c) (jB z.set.d) (.slice A z.kids.length c)) z A c/\RdEnd g s _ w (zai L w.heap.size (jA z.kind) (jB z.set.a) (jB z.set.b) (jB z.set.c) (jB z.set.d) (.slice A z.kids.length c))):=zdE (t:=z) (A:=A) (c:=c) y n.rd n.zero n.frame hu;have z0:=n.zero.cells;have y0:=n.zero.free;go_wp2_with fail;obtain⟨N,Q,S⟩:=U.out;have ⟨D,F,I,G,E,H⟩:=N.cells;unfold zai at D F I G E H;exact QD (v:=argX z A c) (by simp[results,results164,go_sem,D,F,I,G,E,H,argX]) rfl (by rw[j.out];exact⟨A,c,rfl,Q,S⟩)
 rw[Qf h7]at j;have h4:=hIx (hx.out 91 Y h7 l);clear l O h8 he ha h7;go_wp2_with (go_at_call 89;apply Hid.out);refine WhM h4 ?_;rintro e V ⟨rfl,k⟩;have hJ:=zeJ (s:=s.data.toList) (r:=r) (by omega)
 have hd:Hid (zn7 s.data.toList r=match (zbp s.data.toList r).1 with
  |some f=>(byT f,(zbp s.data.toList r).2)
  |none=>(byT (rgF (zbo s.data.toList r).1.toNat (zbo s.data.toList r).1.toNat),(zbo s.data.toList r).2)):=rfl
 cases h0:(zbp s.data.toList r).1 with
 |some f=>
  rw[h0]at hd;obtain⟨i,P⟩:∃i,setF f=i:=⟨_,rfl⟩
  have HG:Hid (Calls prog 195 #[.pointer g] V λe w'=>e=jC (.tuple #[.agg #[jB i.a,jB i.b,jB i.c,jB i.d],.bool true])/\AtSt g s w (zbp s.data.toList r).2 w'):=
   (zfK g s r V k.rd hp hs).mono (λe w' ⟨h1,h2⟩=>⟨by rw[h1,h0];dsimp only;rw[P];rfl,k.call y h2⟩)
  have hm:Hid (R=(.node 3 i [],(zbp s.data.toList r).2)):=by unfold Hid;rw[j.out,hd.out];dsimp only;unfold byT;rw[P]
  have hf:i.Wf:=by rw[<-P];exact ziF _
  clear hJ h0 P k;go_wp2_with (go_at_call 195;apply Hid.out);refine WhM HG ?_;rintro e L ⟨rfl,n⟩;have hj:=n.low y ((Qi L.heap.size L).alloc (Qd _) (.cells #[jB i.a,jB i.b,jB i.c,jB i.d] 95));have ga:FourW (L.alloc (.cells #[jB i.a,jB i.b,jB i.c,jB i.d] 95)) L.heap.size i:=Qv L _;clear n;go_upto_region 22 with fail
  generalize L.alloc (.cells #[jB i.a,jB i.b,jB i.c,jB i.d] 95)=w7 at *;have x0:=ga.cells;have U:Hid (PutX (zai w7 w.heap.size (jA 3) (jB i.a) (jB i.b) (jB i.c) (jB i.d) (jD 0 0)) w.heap.size [jA 3,jB i.a,jB i.b,jB i.c,jB i.d,jD 0 0]/\NewX w (zai w7 w.heap.size (jA 3) (jB i.a) (jB i.b) (jB i.c) (jB i.d) (jD 0 0)) (.node 3 i []) none 0/\RdEnd g s _ w (zai w7 w.heap.size (jA 3) (jB i.a) (jB i.b) (jB i.c) (jB i.d) (jD 0 0))):=zdE (t:=(.node 3 i [])) (A:=none) (c:=0) y hj.rd hj.zero hj.frame (LX.leaf _ _ _ _ _ _ hf);have z0:=hj.zero.cells;have y0:=hj.zero.free;go_wp2_with fail;obtain⟨N,Q,S⟩:=U.out;have ⟨D,F,I,G,E,H⟩:=N.cells;unfold zai at D F I G E H;exact QD (v:=argX (.node 3 i []) none 0) (by simp[results,results164,go_sem,D,F,I,G,E,H,argX,Tree.kind,Tree.set,Tree.kids]) rfl (by rw[hm.out];exact⟨none,0,rfl,Q,S⟩)
 |none=>
  rw[h0]at hd;have hO:(zbp s.data.toList r).2=r:=hJ.2.1 h0;have g2:=(zdw (s:=s.data.toList) (r:=r) (by omega)).2.2;obtain⟨C,hC⟩:∃C,zbo s.data.toList r=C:=⟨_,rfl⟩
  rw[hC]at g2 hd;obtain⟨lo,hQ⟩:∃lo:Nat,C.1=lo:=⟨C.1.toNat,by omega⟩
  have g3:lo<256:=by omega
  obtain⟨i,P⟩:∃i,setF (rgF lo lo)=i:=⟨_,rfl⟩
  have HG:Hid (Calls prog 195 #[.pointer g] V λe w'=>e=jC (.tuple #[.agg #[jB 0,jB 0,jB 0,jB 0],.bool false])/\AtSt g s w r w'):=
   (zfK g s r V k.rd hp hs).mono (λe w' ⟨h1,h2⟩=>⟨by rw[h1,h0];rfl,by rw[hO]at h2;exact k.call y h2⟩)
  have gg:Hid (∀W,AtSt g s w r W->Calls prog 196 #[.pointer g] W λe w'=>e=jC (jA (lo:Int))/\AtSt g s w C.2 w'):=λW hW=>
   (zhJ g s r W hW.rd hp hs).mono (λe w' ⟨h1,h2⟩=>⟨by rw[h1,hC,hQ],by rw[hC]at h2;exact hW.call y h2⟩)
  have hL:Hid (∀W,AtSt g s w C.2 W->Calls prog 75 #[jA (lo:Int),jA (lo:Int)] W λe w'=>e=jC (.agg #[jB i.a,jB i.b,jB i.c,jB i.d])/\AtSt g s w C.2 w'):=λW hW=>by
   have:=zhT lo lo g3 W;rw[P]at this;exact this.mono (λe w' ⟨h1,h2⟩=>⟨h1,hW.low y h2⟩)
  have hm:Hid (R=(.node 3 i [],C.2)):=by unfold Hid;rw[j.out,hd.out];dsimp only;unfold byT;rw[show C.1.toNat=lo by omega,P]
  have hf:i.Wf:=by rw[<-P];exact ziF _
  clear hJ h0 hO g2 hC hQ P k;go_wp2_with (go_at_call 195;apply Hid.out);refine WhM HG ?_;rintro e L ⟨rfl,n⟩;have gx:=hIx (n.low y ((Qi L.heap.size L).alloc (Qd _) (.cells #[jB 0,jB 0,jB 0,jB 0] 95)));clear n;go_upto_region 23 with fail
  generalize L.alloc (.cells #[jB 0,jB 0,jB 0,jB 0] 95)=w7 at *;have g6:=hIx (gg.out w7 gx.out);go_wp2_with (go_at_call 196;apply Hid.out);refine WhM g6 ?_;rintro e w8 ⟨rfl,u⟩;have gz:=hIx (hL.out w8 u);clear u;go_wp2_with (go_at_call 75;apply Hid.out);refine WhM gz ?_;rintro e w9 ⟨rfl,hc⟩;have U:Hid (PutX (zai w9 w.heap.size (jA 3) (jB i.a) (jB i.b) (jB i.c) (jB i.d) (jD 0 0)) w.heap.size [jA 3,jB i.a,jB i.b,jB i.c,jB i.d,jD 0 0]/\NewX w (zai w9 w.heap.size (jA 3) (jB i.a) (jB i.b) (jB i.c) (jB i.d) (jD 0 0)) (.node 3 i []) none 0/\RdEnd g s _ w (zai w9 w.heap.size (jA 3) (jB i.a) (jB i.b) (jB i.c) (jB i.d) (jD 0 0))):=zdE (t:=(.node 3 i [])) (A:=none) (c:=0) y hc.rd hc.zero hc.frame (LX.leaf _ _ _ _ _ _ hf);have z0:=hc.zero.cells;have y0:=hc.zero.free;go_wp2_with fail;obtain⟨N,Q,S⟩:=U.out;have ⟨D,F,I,G,E,H⟩:=N.cells;unfold zai at D F I G E H;exact QD (v:=argX (.node 3 i []) none 0) (by simp[results,results164,go_sem,D,F,I,G,E,H,argX,Tree.kind,Tree.set,Tree.kids]) rfl (by rw[hm.out];exact⟨none,0,rfl,Q,S⟩)
theorem zsW(s:ByteArray)(a:s.size<=4096):∀d op,op+d=20->zfT 61 s op (altD s.data.toList (d+1))
 |0,op,h=>zt2 s op _ a (zmH _ 0) (zsD s op _ a (zfe _ 0) (zmg s op _ a (zcT _ 0) (zob s op _ a (by omega) (zcT _ 0) λh1=>absurd h1 (by omega))))
 |d+1,op,h=>zt2 s op _ a (zmH _ (d+1)) (zsD s op _ a (zfe _ (d+1)) (zmg s op _ a (zcT _ (d+1)) (zob s op _ a (by omega) (zcT _ (d+1)) λ_=>zsW s a d (op+1) (by omega))))
def zmL:RS:=⟨0,0,0⟩
def topT(s:jE):TR:=altD s 21 zmL
def topR(s:jE):RS:=if (topT s).2.e=0/\(topT s).2.pos<s.length then zaF (topT s).2 3 else (topT s).2
def zc8(s:jE):Tree × Nat × Int:=
 if 200<s.length then (kT 0,0,2)else if (topR s).e≠0 then (kT 0,(topR s).pos,(topR s).e)else if zbm (topT s).1≠0 then (kT 0,s.length,zbm (topT s).1)else ((topT s).1,0,0)
def zzG(P:Tree × Nat × Int)(w:World)(e:Ending)(w':World):Prop:=
 ∃A c,e=jC (.tuple #[argX P.1 A c,jA P.2.1,jA P.2.2])/\NewX w w' P.1 A c/\w w'
theorem NewX.drew{w W:World}{t:Tree}{A:Option Addr}{c:Nat}(h:NewX w W t A c):NewX w W.drew t A c:=by
 have d:∀b o,ziC w.heap.size W.heap.size b->W.drew.cell? ⟨b,o,none⟩=W.cell? ⟨b,o,none⟩:=λ_ _ _=>rfl
 have a:∀b,ziC w.heap.size W.heap.size b->ziC w.heap.size W.drew.heap.size b:=λ_ h=>h
 exact LX.keep a d _ _ h
structure PaSt(s:ByteArray)(w:World)(k:Nat)(x:TR)(A:Option Addr)(c:Nat)(wr:World):Prop where
 rd:RdAt (w.heap.size+1) s x.2 wr
 zero:ZeroX wr w.heap.size
 out:PutX wr k (zap x.1.kind x.1.set A x.1.kids.length c)
 tree:LX wr (λb=>w.heap.size+1<b/\b<wr.heap.size) x.1 (zap x.1.kind x.1.set A x.1.kids.length c)
 low:w wr
 far:w.heap.size+1<k
theorem zli{a w w':World}{B g:Nat}(h:Below B a w)(f:B<=w.heap.size)(b:w.grownBy w' (some g))(c:B<=g):Below B a w':=
 ⟨b.os.trans h.os,b.tape.trans h.tape,b.output.trans h.output,Ql h.size b.size,λi d=>(b.block i (by omega) (λe=>by have:=QG e;omega)).trans (h.block i d)⟩
theorem PaSt.call{s:ByteArray}{w:World}{k:Nat}{x:TR}{q:RS}{A:Option Addr}{c:Nat}{wr w':World}(h:PaSt s w k x A c wr)(e:RdEnd (w.heap.size+1) s q wr w'):PaSt s w k (x.1,q) A c w':=
 ⟨e.1,h.zero.grown e.2 (by omega),h.out.grown e.2 (by have:=h.far;omega),
  LX.keep (λb hb=>⟨hb.1,Qw hb.2 e.2.size⟩) (λb o hb=>zgv e.2 hb.2 (by have:=hb.1;omega)) _ _ h.tree,
  zli h.low h.low.size e.2 (Zd _),h.far⟩
theorem PaSt.more{s:ByteArray}{w:World}{k:Nat}{x:TR}{A:Option Addr}{c:Nat}{wr w':World}(h:PaSt s w k x A c wr)(hb:wr w'):PaSt s w k x A c w':=h.call (zfw h.rd hb)
theorem zmK{w wr:World}{t:Tree}{A:Option Addr}{c:Nat}(k:ZeroX wr w.heap.size)(h:w wr)(j:LX wr (λb=>w.heap.size<b/\b<wr.heap.size) t (zap t.kind t.set A t.kids.length c)):
 PutX (zai wr w.heap.size (jA t.kind) (jB t.set.a) (jB t.set.b) (jB t.set.c) (jB t.set.d) (.slice A t.kids.length c)) w.heap.size (zap t.kind t.set A t.kids.length c)/\
 NewX w (zai wr w.heap.size (jA t.kind) (jB t.set.a) (jB t.set.b) (jB t.set.c) (jB t.set.d) (.slice A t.kids.length c)) t A c/\
 w (zai wr w.heap.size (jA t.kind) (jB t.set.a) (jB t.set.b) (jB t.set.c) (jB t.set.d) (.slice A t.kids.length c)):=by
 have hb:Below w.heap.size wr (zai wr w.heap.size (jA t.kind) (jB t.set.a) (jB t.set.b) (jB t.set.c) (jB t.set.d) (.slice A t.kids.length c)):=zbA (Qi _ _) (Qd _) _ _ _ _ _ _
 have g:∀i,i≠w.heap.size->(zai wr w.heap.size (jA t.kind) (jB t.set.a) (jB t.set.b) (jB t.set.c) (jB t.set.d) (.slice A t.kids.length c)).heap[i]? = wr.heap[i]? := λi f=>by
  unfold zai;rw[Qm _ _ _ _ f,Qm _ _ _ _ f,Qm _ _ _ _ f,Qm _ _ _ _ f,Qm _ _ _ _ f,Qm _ _ _ _ f]
 refine⟨k.fill _ _ _ _ _ _,LX.keep (λb e=>⟨QZ e.1,Qw e.2 hb.size⟩) (λb o e=>?_) _ _ j,h.trans hb⟩;simp only[World.cell?, g b (show b≠w.heap.size by have:=e.1;omega)]
theorem zlm(s:ByteArray)(w:World)(hj:s.size<=maxLen):Calls prog 45 #[.string s] w (zzG (zc8 s.data.toList) w):=by
 have h3:s.data.toList.length=s.size:=by simp
 obtain⟨U,L⟩:∃U,w.alloc (.cells #[jA 0,jB 0,jB 0,jB 0,jB 0,jD 0 0] 98)=U:=⟨_,rfl⟩
 have X:w U:=by rw[<-L];exact WaL
 have C:ZeroX U w.heap.size:=by rw[<-L];exact ZeroX.new w
 have W:U.heap.size=w.heap.size+1:=by rw[<-L];simp
 have hf:=hIx L;unfold maxLen at hj;have HP:Hid (zc8 s.data.toList=if 200<s.data.toList.length then (kT 0,0,2)else if (topR s.data.toList).e≠0 then (kT 0,(topR s.data.toList).pos,(topR s.data.toList).e)else if zbm (topT s.data.toList).1≠0 then (kT 0,s.data.toList.length,zbm (topT s.data.toList).1)else ((topT s.data.toList).1,0,0)):=rfl;obtain⟨P,ha⟩:∃P,zc8 s.data.toList=P:=⟨_,rfl⟩
 rw[ha]at HP ⊢;rw[h3]at HP;clear ha L
 by_cases h0:200<s.size
 ·have d0:decide ((200:Int)<(s.size:Int))=true:=Qx (by omega)
  have i:Hid (P=(kT 0,0,2)):=by unfold Hid;rw[HP.out,Qj h0]
  have Y:Hid (PutX (zai U w.heap.size (jA 0) (jB 0) (jB 0) (jB 0) (jB 0) (jD 0 0)) w.heap.size [jA 0,jB 0,jB 0,jB 0,jB 0,jD 0 0]/\
   NewX w (zai U w.heap.size (jA 0) (jB 0) (jB 0) (jB 0) (jB 0) (jD 0 0)) (kT 0) none 0/\w (zai U w.heap.size (jA 0) (jB 0) (jB 0) (jB 0) (jB 0) (jD 0 0))):=
   zmK (t:=kT 0) C X (LX.leaf _ _ _ _ _ _ zbC)
  have z0:=C.cells;have y0:=C.free;clear HP X C W h3
  go_in
  go_upto_region 1 with fail
  rw[hf.out];go_wp2_with fail;obtain⟨q,n,m⟩:=Y.out;have ⟨r,x,B,y,u,z⟩:=q.cells;unfold zai at r x B y u z;exact QD (v:=.tuple #[argX (kT 0) none 0,jA 0,jA 2]) (by simp[results,results45,go_sem,r,x,B,y,u,z,argX,kT,Tree.kind,Tree.set,Tree.kids,Set4.zero]) rfl (by rw[i.out];exact⟨none,0,rfl,n,m⟩)
 ·have d0:decide ((200:Int)<(s.size:Int))=false:=Qt (by omega)
  have hs:s.size<=4096:=by omega
  have H:Hid (P=if (topR s.data.toList).e≠0 then (kT 0,(topR s.data.toList).pos,(topR s.data.toList).e)else if zbm (topT s.data.toList).1≠0 then (kT 0,s.size,zbm (topT s.data.toList).1)else ((topT s.data.toList).1,0,0)):=by unfold Hid;rw[HP.out,Qf h0]
  obtain⟨W1,D⟩:∃W1,U.alloc (.cells #[.string s,jA 0,jA 0,jA 0] 130)=W1:=⟨_,rfl⟩
  have h7:RdAt (w.heap.size+1) s zmL W1:=by rw[<-D,<-W];exact Qv U _
  have hi:w W1:=by rw[<-D];exact X.alloc (by omega) _
  have hg:ZeroX W1 w.heap.size:=by rw[<-D];exact(Qs _ _ _ (by omega)).trans C
  have Z:W1.heap.size=w.heap.size+1+1:=by rw[<-D,Qp,W]
  have J:=zcT s.data.toList 21 zmL (Qn _);have hd:Hid (Calls prog 61 #[.pointer (w.heap.size+1:)] W1 (zjx (w.heap.size+1) s (topT s.data.toList) W1)):=zsW s hs 20 0 rfl (w.heap.size+1) zmL W1 h7 (Qn _) rfl;have N:Hid (topR s.data.toList=if (topT s.data.toList).2.e=0/\(topT s.data.toList).2.pos<s.size then zaF (topT s.data.toList).2 3 else (topT s.data.toList).2):=by unfold Hid topR;rw[h3]
  have h9:altD s.data.toList 21 zmL=topT s.data.toList:=rfl;rw[h9]at J;obtain⟨T,hT⟩:∃T,topT s.data.toList=T:=⟨_,rfl⟩
  rw[hT]at J hd N H;have hn:T.2.pos<=s.size:=by have:=J.step.inn;omega
  have ho:=hIx J;have G:=hIx (And.intro hg (And.intro hi Z));have hm:=hIx D;clear HP X C h7 hi hg Z J h9 hT D;obtain⟨Q,O⟩:∃Q,topR s.data.toList=Q:=⟨_,rfl⟩
  rw[O]at N H;clear O
  go_in
  go_upto_region 1 with fail
  rw[hf.out];go_upto_region 4 with fail
  -- WAYS
  rw[hm.out];go_wp2_with (go_at_call 61;apply Hid.out);refine WhM hd ?_;rintro e w2 ⟨A,c,rfl,hh,h2⟩;have Z:=G.out.2.2
  have l:Hid (PaSt s w w2.heap.size T A c (w2.alloc (.cells #[jA T.1.kind,jB T.1.set.a,jB T.1.set.b,jB T.1.set.c,jB T.1.set.d,.slice A T.1.kids.length c] 98))):=by
   have I:w2 (w2.alloc (.cells #[jA T.1.kind,jB T.1.set.a,jB T.1.set.b,jB T.1.set.c,jB T.1.set.d,.slice A T.1.kids.length c] 98)):=WaL;have hq:=h2.2.size;have hc:=G.out.1.grown h2.2 (by omega)
   exact⟨h2.1.below I,(I.block _ hc.lt).trans hc,PutX.new w2 _,LX.keep (λb hb=>⟨by have:=hb.1;omega,by have:=hb.2;have:=I.size;omega⟩) (λb o hb=>I.cell (p:=⟨b,o,none⟩) hb.2) _ _ hh,
    (zli G.out.2.1 G.out.2.1.size h2.2 (Zd _)).trans (I.mono (by omega)),by omega⟩
  clear hh h2 Z G W;unfold argX;go_upto_region 5 with fail
  generalize w2.alloc (.cells #[jA T.1.kind,jB T.1.set.a,jB T.1.set.b,jB T.1.set.c,jB T.1.set.d,.slice A T.1.kids.length c] 98)=V at *;generalize w2.heap.size=k at *;have c0:=l.out.rd.cells
  by_cases F:T.2.e=0
  ·have q:(T.2.e==0)=true:=by rw[F];rfl
   by_cases hl:T.2.pos<s.size
   ·have n:decide ((T.2.pos:Int)<(s.size:Int))=true:=Qx (by omega)
    obtain⟨g,j⟩:∃g:RS,zaF T.2 3=g:=⟨_,rfl⟩
    have O:Q=g:=by rw[N.out,Qj ⟨F,hl⟩,j]
    have h5:g.e=3:=by rw[<-j];unfold zaF;rw[Qj F]
    have i:Hid (P=(kT 0,g.pos,g.e)):=by unfold Hid;rw[H.out,O,Qj (by rw[h5];decide)]
    have m:(g.e != 0)=true:=by rw[h5];rfl
    have hk:Hid (Calls prog 62 #[.pointer (w.heap.size+1:),jA 3] V λe w'=>e=jC (.tuple #[])/\PaSt s w k (T.1,g) A c w'):=
     (zda (w.heap.size+1) s T.2 3 V l.out.rd).mono (λe w' ⟨h1,h2⟩=>⟨h1,by rw[j]at h2;exact l.out.call h2⟩)
    clear O h5 j;go_wp2_with (go_at_call 62;apply Hid.out);refine WhM hk ?_;rintro e K ⟨rfl,f⟩;have c0:=f.rd.cells;have Y:Hid (PutX (zai K w.heap.size (jA 0) (jB 0) (jB 0) (jB 0) (jB 0) (jD 0 0)) w.heap.size [jA 0,jB 0,jB 0,jB 0,jB 0,jD 0 0]/\NewX w (zai K w.heap.size (jA 0) (jB 0) (jB 0) (jB 0) (jB 0) (jD 0 0)) (kT 0) none 0/\w (zai K w.heap.size (jA 0) (jB 0) (jB 0) (jB 0) (jB 0) (jD 0 0))):=zmK (t:=(kT 0)) (A:=none) (c:=0) f.zero f.low (LX.leaf _ _ _ _ _ _ zbC);have z0:=f.zero.cells;have y0:=f.zero.free;go_upto_region 8 with fail
    go_region
    obtain⟨q,n,m⟩:=Y.out;have ⟨r,x,B,y,u,z⟩:=q.cells;unfold zai at r x B y u z;have S:=hIx (And.intro (NewX.drew n) m.drew);clear q n m z0 y0 c0;go_wp2;exact QD (v:=.tuple #[argX (kT 0) none 0,jA g.pos,jA g.e]) (by simp[results,results45,go_sem,r,x,B,y,u,z,argX,kT,Tree.kind,Tree.set,Tree.kids,Set4.zero]) rfl (by rw[i.out];exact⟨none,0,rfl,S.out.1,S.out.2⟩)
   ·have n:decide ((T.2.pos:Int)<(s.size:Int))=false:=Qt (by omega)
    have O:Q=T.2:=by rw[N.out,Qf (λh=>hl h.2)]
    have m:(T.2.e != 0)=false:=by rw[F];rfl
    have h8:Hid (P=if zbm T.1≠0 then (kT 0,s.size,zbm T.1)else (T.1,0,0)):=by unfold Hid;rw[H.out,O,Qf (λh=>h F)]
    have hp:s.size<=T.2.pos:=by omega
    clear O F hl
    have h6:Hid (Calls prog 63 #[.agg #[jA T.1.kind,jB T.1.set.a,jB T.1.set.b,jB T.1.set.c,jB T.1.set.d,.slice A T.1.kids.length c]] V λe w'=>e=jC (jA (zbm T.1))/\PaSt s w k T A c w'):=
     (zjJ T.1 (zap T.1.kind T.1.set A T.1.kids.length c) V (LX.lt (λ_ hb=>hb.2) _ _ l.out.tree)).mono (λe w' ⟨h1,h2⟩=>⟨h1,l.out.more h2⟩)
    have o0:=(show PutX V k [_,_,_,_,_,_]from l.out.out).cells;go_wp2_with (go_at_call 63;apply Hid.out);refine WhM h6 ?_;rintro e K ⟨rfl,f⟩;clear c0 o0 h6 q n m
    by_cases E:zbm T.1=0
    ·have d4:(zbm T.1 != 0)=false:=by rw[E];rfl
     have i:Hid (P=(T.1,0,0)):=by unfold Hid;rw[h8.out,Qf (λh=>h E)]
     have Y:Hid (PutX (zai K w.heap.size (jA T.1.kind) (jB T.1.set.a) (jB T.1.set.b) (jB T.1.set.c) (jB T.1.set.d) (.slice A T.1.kids.length c)) w.heap.size [jA T.1.kind,jB T.1.set.a,jB T.1.set.b,jB T.1.set.c,jB T.1.set.d,.slice A T.1.kids.length c]/\NewX w (zai K w.heap.size (jA T.1.kind) (jB T.1.set.a) (jB T.1.set.b) (jB T.1.set.c) (jB T.1.set.d) (.slice A T.1.kids.length c)) T.1 A c/\w (zai K w.heap.size (jA T.1.kind) (jB T.1.set.a) (jB T.1.set.b) (jB T.1.set.c) (jB T.1.set.d) (.slice A T.1.kids.length c))):=zmK (t:=T.1) (A:=A) (c:=c) f.zero f.low (LX.keep (λb hb=>⟨by have:=hb.1;omega,hb.2⟩) (λ_ _ _=>rfl) _ _ f.tree);have z0:=f.zero.cells;have y0:=f.zero.free;have o0:=(show PutX K k [_,_,_,_,_,_]from f.out).cells;clear f E;go_wp2_with fail;obtain⟨q,n,m⟩:=Y.out;have ⟨r,x,B,y,u,z⟩:=q.cells;unfold zai at r x B y u z;exact QD (v:=.tuple #[argX T.1 A c,jA 0,jA 0]) (by simp[results,results45,go_sem,r,x,B,y,u,z,argX]) rfl (by rw[i.out];exact⟨A,c,rfl,n,m⟩)
    ·have d4:(zbm T.1 != 0)=true:=Q6.2 E
     have i:Hid (P=(kT 0,s.size,zbm T.1)):=by unfold Hid;rw[h8.out,Qj E]
     have Y:Hid (PutX (zai K w.heap.size (jA 0) (jB 0) (jB 0) (jB 0) (jB 0) (jD 0 0)) w.heap.size [jA 0,jB 0,jB 0,jB 0,jB 0,jD 0 0]/\NewX w (zai K w.heap.size (jA 0) (jB 0) (jB 0) (jB 0) (jB 0) (jD 0 0)) (kT 0) none 0/\w (zai K w.heap.size (jA 0) (jB 0) (jB 0) (jB 0) (jB 0) (jD 0 0))):=zmK (t:=(kT 0)) (A:=none) (c:=0) f.zero f.low (LX.leaf _ _ _ _ _ _ zbC);have z0:=f.zero.cells;have y0:=f.zero.free;clear f E;generalize zbm T.1=ce at *;go_wp2_with fail;obtain⟨q,n,m⟩:=Y.out;have ⟨r,x,B,y,u,z⟩:=q.cells;unfold zai at r x B y u z;exact QD (v:=.tuple #[argX (kT 0) none 0,jA s.size,jA ce]) (by simp[results,results45,go_sem,r,x,B,y,u,z,argX,kT,Tree.kind,Tree.set,Tree.kids,Set4.zero]) rfl (by rw[i.out];exact⟨none,0,rfl,n,m⟩)
  ·obtain⟨g,j⟩:∃g:RS,T.2=g:=⟨_,rfl⟩
   have f:PaSt s w k (T.1,g) A c V:=by rw[<-j];exact l.out
   have O:Q=T.2:=by rw[N.out,Qf (λh=>F h.1)]
   have i:Hid (P=(kT 0,g.pos,g.e)):=by unfold Hid;rw[H.out,O,Qj F,j]
   rw[j]at F;have q:(g.e==0)=false:=Qc.2 F;have m:(g.e != 0)=true:=Q6.2 F;clear O F c0 j l;have c0:=f.rd.cells;have Y:Hid (PutX (zai V w.heap.size (jA 0) (jB 0) (jB 0) (jB 0) (jB 0) (jD 0 0)) w.heap.size [jA 0,jB 0,jB 0,jB 0,jB 0,jD 0 0]/\NewX w (zai V w.heap.size (jA 0) (jB 0) (jB 0) (jB 0) (jB 0) (jD 0 0)) (kT 0) none 0/\w (zai V w.heap.size (jA 0) (jB 0) (jB 0) (jB 0) (jB 0) (jD 0 0))):=zmK (t:=(kT 0)) (A:=none) (c:=0) f.zero f.low (LX.leaf _ _ _ _ _ _ zbC);have z0:=f.zero.cells;have y0:=f.zero.free;go_upto_region 8 with fail
   go_region
   obtain⟨q,n,m⟩:=Y.out;have ⟨r,x,B,y,u,z⟩:=q.cells;unfold zai at r x B y u z;have S:=hIx (And.intro (NewX.drew n) m.drew);clear q n m z0 y0 c0;go_wp2;exact QD (v:=.tuple #[argX (kT 0) none 0,jA g.pos,jA g.e]) (by simp[results,results45,go_sem,r,x,B,y,u,z,argX,kT,Tree.kind,Tree.set,Tree.kids,Set4.zero]) rfl (by rw[i.out];exact⟨none,0,rfl,S.out.1,S.out.2⟩)
theorem zwj(p a d:List Ins)(x y b c:Ins):((p++[x]++a++[y]).set p.length b++d).set (p++[x]++a).length c=p++(b::(a++c::d)):=by
 have h1:(p++[x]++a++[y]).set p.length b=p++(b::a)++[y]:=by
  rw[Q4,Q4,ZO _ _ (Qd _),Z8];simp
 have h2:(p++[x]++a).length=(p++(b::a)).length:=by simp
 rw[h1,h2,Q4,ZO _ _ (Qd _),Z8];simp
theorem zzv(p a c:List Ins)(x y b:Ins)(h:(p++[x]++a).length<((p++[x]++a++[y]).set p.length b++c).length):((p++[x]++a++[y]).set p.length b++c)[(p++[x]++a).length]=y:=by
 rw[Zy (by simp),List.getElem_set_ne (by simp)];simp
theorem zvc(S:Set4)(K tb:Tree)(hf:CodeC K)(h5:CodeC tb):CodeC (.node 5 S [K,tb]):=by
 intro A c w B v p hB Z hO hn;obtain⟨z,f,ca,cb,rfl,h0,O,U,hi,I⟩:=LK.two Z;obtain⟨A1,c1,rfl,_,_⟩:=U.parts;obtain⟨A2,c2,rfl,_,_⟩:=I.parts;have HA:=hIx (hf.call U);have HB:=hIx (h5.call I);have HY:=hIx λW hb=>zem hi (W:=W) hb h0
 have HX:=hIx λW hb=>(zem O (W:=W) hb h0).six
 simp only[nodes,zcE]at hn;obtain⟨A0,c0,rfl,_⟩:=hO.form;have h4:∀o,OwnP (w.alloc o) B (.slice A0 p.length c0) p:=λo=>hO.below ((Qi _ _).alloc (Qd _) o)
 have y:Hid (∀k a b c d A n q W,Keeps (w.alloc (boxX k a b c d A n q)) W->_):=λk a b c d A n q W h=>(zi7 h).1
 unfold boxX at y;unfold argX at HA HB ⊢;obtain⟨a,b,c',d⟩:=S;dsimp only[Tree.kind,Tree.set,Tree.kids,List.length_nil,List.length_cons]at y ⊢;clear Z hf h5 U I hi;have hF:=hIx hO;have i1:IntKind.i64.wrap ((p.length:Int)+1)=(p.length:Int)+1:=Qz _ (by omega)
 go_in
 have x0:=O.six;clear O;have hQ:z<w.heap.size:=by omega
 go_wp2_with fail;have h9:∀o,B<=(w.alloc o).heap.size:=λo=>by simp;omega
 have HS:=hIx λW Z hb=>And.intro (y.out 5 a b c' d (some ⟨z,f,none⟩) 2 c W Z) (HX.out W hb)
 go_region_held3 (λw'=>w'.cell? ⟨w.heap.size,5,none⟩=some (.slice (some ⟨z,f,none⟩) 2 c)/\w'.cell? ⟨z,f,none⟩=some (jA K.kind)/\w'.cell? ⟨z,f+1,none⟩=some (jB K.set.a)/\w'.cell? ⟨z,f+2,none⟩=some (jB K.set.b)/\
  w'.cell? ⟨z,f+3,none⟩=some (jB K.set.c)/\w'.cell? ⟨z,f+4,none⟩=some (jB K.set.d)/\w'.cell? ⟨z,f+5,none⟩=some (.slice A1 K.kids.length c1))
  (first|exact HS.out _ (x.trans V) (g.trans X)|exact HS.out _ x g|go_keep)
  (first
   |(refine zfl rfl (.tmp 48) (.tmp 52) rfl B (.slice A0 p.length c0) p rfl (h4 _).drew (h9 _) _ ⟨2,(p.length:Int)+1,0,.zero⟩ rfl (w.heap.size+1) (by simp) 1 rfl (by omega) ?_;intro v8 w8 hh h7 hg hA;have x:=Keeps.undrew (Keeps.own (h4 _).drew hg);have g:Below B w w8:=((Qi B w).alloc hB _).drew.trans h7)
   |(go_at_call 64;(with_reducible refine(HA.out w8 v8 (p++[⟨2,(p.length:Int)+1,0,.zero⟩]) (Ql hB g.size) g hh (by rw[Qb,QH];omega)).mono ?_);rintro e w1 ⟨v1,H,rfl,Y,C,X,V,hT⟩))
 rw[Qb,QH]at Y;have hR:=zfS Y;have r:=g.trans X;have J:=x.trans V;have hr:=λW Z hb=>And.intro (y.out 5 a b c' d (some ⟨z,f,none⟩) 2 c W Z) ((HY.out W hb).six)
 clear HA HS HX y HY X V h7 hg x0 hh h9;have hP:=r.size;have hq:B<=w1.heap.size:=Ql hB r.size;have hx:z<w1.heap.size:=by omega
 obtain⟨hE,hS,rfl,_⟩:=C.form;have hd:=hIx (zwj p H);have he:=hIx (zzv p H);have F:=hIx (zq2 p H ⟨2,(p.length:Int)+1,0,.zero⟩ ⟨3,0,0,.zero⟩);have D:Hid ((p++[(⟨2,(p.length:Int)+1,0,.zero⟩:Ins)]++H).length=p.length+1+H.length):=hIx (by simp;omega);have m:=hIx λE x' y'=>hd.out E ⟨2,(p.length:Int)+1,0,.zero⟩ ⟨3,0,0,.zero⟩ x' y'
 have l:=hIx λE x'=>he.out E ⟨2,(p.length:Int)+1,0,.zero⟩ ⟨3,0,0,.zero⟩ x'
 clear hd he;generalize hM:p++[(⟨2,(p.length:Int)+1,0,.zero⟩:Ins)]++H=M at m l F D C;have G:Hid ((M++[(⟨3,0,0,.zero⟩:Ins)]).length=p.length+1+H.length+1):=hIx (by rw[Qb,QH,D.out]);generalize hL:M++[(⟨3,0,0,.zero⟩:Ins)]=L at m l F G;have hm:=hIx hr;go_wp2_with (at_builtin;refine zb4 rfl _ _ rfl B _ M rfl C hq _ ⟨3,0,0,.zero⟩ rfl w1.heap.size rfl 1 rfl (by rw[D.out];omega) ?_;intro v2 w2 s hu ht hv;rw[hL]at s;have ha:p.length<L.length:=(by rw[G.out];omega);have hK:(p.length:Int)<(L.length:Int):=(by omega);obtain⟨gq,cq,rfl,hw,hD⟩:=s.head (by omega);have ⟨⟨_,hN⟩,_,hI⟩:=s.ab p.length ha;have j:=s.setAB p.length ha 2 (by decide) (jA (L.length:Int)) ⟨2,(p.length:Int)+1,(L.length:Int),.zero⟩ (by rw[F.out];rfl);have t:=(J.trans (Keeps.own C ht)).trans (Keeps.only s j.2);have i:=(r.trans hu).setCell hw (jA (L.length:Int)) (p:=⟨gq,p.length*7+2,none⟩);have ⟨f5,y0,y1,y2,y3,y4,y5⟩:=hm.out _ t i);have hs:B<=(w2.setCell ⟨gq,p.length*7+2,none⟩ (jA (L.length:Int))).heap.size:=Ql hB i.size;have hz:w1.heap.size<(w2.setCell ⟨gq,p.length*7+2,none⟩ (jA (L.length:Int))).heap.size:=by simpa using hv
 have Q:Hid ((L.set p.length ⟨2,(p.length:Int)+1,(L.length:Int),.zero⟩).length=p.length+1+H.length+1):=hIx (List.length_set.trans G.out);refine(HB.out _ _ (L.set p.length ⟨2,(p.length:Int)+1,(L.length:Int),.zero⟩) hs i j.1 (by rw[Q.out];omega)).mono ?_;rintro e w4 ⟨v4,E,rfl,T,u,hp,hj,hU⟩;have I:=zfS T;have h6:=i.trans hp;have ho:=t.trans hj;have hc:=hIx λy'=>m.out E ⟨2,(p.length:Int)+1,(L.length:Int),.zero⟩ y'
 have h8:=hIx (l.out E ⟨2,(p.length:Int)+1,(L.length:Int),.zero⟩);have P:Hid ((L.set p.length ⟨2,(p.length:Int)+1,(L.length:Int),.zero⟩++E).length=p.length+1+H.length+1+E.length):=hIx (by rw[Qb,Q.out]);rw[Q.out]at T;clear HB m l F hm f5 y0 y1 y2 y3 y4 y5 j hp hj t i s J r;generalize L.set p.length ⟨2,(p.length:Int)+1,(L.length:Int),.zero⟩++E=N at hc h8 P u;have hJ:M.length<N.length:=by rw[P.out,D.out];omega
 have hH:(M.length:Int)<(N.length:Int):=by omega
 obtain⟨gn,cn,rfl,h3,hy⟩:=u.head (by omega);have ⟨⟨hC,_⟩,hG,_⟩:=u.ab M.length hJ;have j:=u.setAB M.length hJ 1 (by decide) (jA (N.length:Int)) ⟨3,(N.length:Int),0,.zero⟩ (by rw[h8.out];rfl);go_wp2;go_ret;rw[hc.out]at j;refine⟨_,_,rfl,.alt _ _ _ _ _ _ Y T,?_,h6.setCell h3 _,((Keeps.alloc _ _).trans ho).trans (Keeps.only u j.2),by simp;omega⟩;have h:=j.1;rw[P.out,G.out]at h ⊢;exact h
attribute [go_sem] results46
theorem zev(t:Tree)(h:Fine t):CodeC t:=by
 match t,h with
 |.node k S e,h=>
  have d:=zqU h
  match k,e,d with
  |_,_,.none=>exact zhe 1 S _ (.inl ⟨.inl rfl,rfl⟩) λ_=>.none _ _
  |_,_,.empty=>exact zqu S
  |_,_,.byte=>exact zhe 3 S _ (.inl ⟨.inr rfl,rfl⟩) λ_=>.byte _ _
  |_,_,.cat a b c hb=>exact zuS S a b (zev a c) (zev b hb)
  |_,_,.alt a b c hb=>exact zvc S a b (zev a c) (zev b hb)
  |_,_,.star a c=>exact zsU S a (zev a c)
  |_,_,.begin=>exact zhe 7 S _ (.inr (.inl ⟨rfl,rfl⟩)) λ_=>.begin _ _
  |_,_,.finish=>exact zhe 8 S _ (.inr (.inr ⟨rfl,rfl⟩)) λ_=>.finish _ _
termination_by SizeOf.sizeOf t
mutual
theorem zil:∀(t:Tree) (a n:Int),(chk t a n).2=0->(chk t a n).1=n+nodes t/\n+nodes t<=80
 |.node k s b,a,n,h=>by
  rw[chk]at h ⊢
  by_cases c1:80<n+1
  ·rw[Qj c1]at h;exact absurd (show (2:Int)=0 from h) (by decide)
  ·rw[Qf c1]at h ⊢
   by_cases c2:20<a
   ·rw[Qj c2]at h;exact absurd (show (11:Int)=0 from h) (by decide)
   ·rw[Qf c2]at h ⊢
    cases c3:badT k s b.length with
    |true=>rw[c3,Qj rfl]at h;exact absurd (show (1:Int)=0 from h) (by decide)
    |false=>
     rw[c3,Qf (by decide)]at h;rw[Qf (by decide)];have:=zjq b _ _ h;rw[nodes];exact⟨by rw[this.1];omega,by have:=this.2 (by omega);omega⟩
theorem zjq:∀(b:List Tree) (a n:Int),(chkL b a n).2=0->(chkL b a n).1=n+zcE b/\(n<=80->n+zcE b<=80)
 | [],_,_,_=>by rw[chkL,zcE];exact⟨by simp,λh=>by simpa using h⟩
 |t::b,a,n,h=>by
  rw[chkL]at h ⊢
  by_cases c:(chk t a n).2≠0
  ·rw[Qj c]at h;exact absurd h c
  ·rw[Qf c]at h ⊢
   have h1:=zil t a n (ZZ.1 c);have h2:=zjq b _ _ h;rw[zcE];rw[h1.1]at h2 ⊢;exact⟨by rw[h2.1];omega,λ_=>by have:=h2.2 h1.2;omega⟩
end
def zi5(t:Tree)(w:World)(e:Ending)(w':World):Prop:=
 ∃v,e=jC (.tuple #[v,jA (zbm t)])/\(zbm t≠0->v=jD 0 0)/\(zbm t=0->∃l,Code t 0 l/\l.length<=160/\OwnP w' w.heap.size v (l++[⟨6,0,0,.zero⟩]))/\w w'
theorem zoa(t:Tree)(A:Option Addr)(c:Nat)(w:World)(h:LT w w.heap.size t (zap t.kind t.set A t.kids.length c)):
 Calls prog 46 #[argX t A c] w (zi5 t w):=by
 have f:Hid (∀W,w W->Calls prog 63 #[argX t A c] W λe w'=>e=jC (jA (zbm t))/\W w'):=λW hb=>zjJ t _ W ((h.below hb).more hb.size)
 have k:Hid (zbm t=0->∀W,w W->Calls prog 64 #[jD 0 0,argX t A c] W (zhF t [] w.heap.size W)):=λa W hb=>by
  have D:=(zil t 1 0 a).2;obtain⟨L,J,e,_,K⟩:=h.parts;exact(zev t (zkE t 1 0 a)).call h W _ [] hb.size hb (OwnP.nil _ _) (by simp;omega)
 have n:Hid (∀l,zbm t=0->Code t 0 l->l.length<=160):=λl a hl=>by
  have D:=(zil t 1 0 a).2;have:=zfS hl;omega
 clear h;unfold argX at f k ⊢
 go_in
 go_wp2_with fail;refine(f.out _ WaL).mono ?_;rintro e u ⟨rfl,i⟩;have d:w u:=WaL.trans (i.mono (by simp))
 by_cases a:zbm t=0
 ·have z:(zbm t != 0)=false:=by rw[a];rfl
  obtain⟨⟨x,y,F,I,G,B⟩,_⟩:=zx4 i;go_wp2_with fail;refine(k.out a _ d).mono ?_;rintro e w2 ⟨N,l,rfl,j,g,r,_,_⟩;have m:=n.out l a j;have b:=d.trans r;have q:=b.size;obtain⟨H,c2,rfl,_⟩:=g.form;clear x y F I G B;go_wp2_with (at_builtin;refine zb4 rfl (.tmp 11) (.tmp 13) rfl w.heap.size (.slice H ([]++l).length c2) ([]++l) rfl g q _ ⟨6,0,0,.zero⟩ rfl w2.heap.size rfl 1 rfl (by simp;omega) ?_;intro v w3 o s C E);exact zad ⟨v,by rw[a],λh=>absurd a h,λ_=>⟨l,j,m,o⟩,b.trans s⟩
 ·have z:(zbm t != 0)=true:=by simpa using a
  go_wp2;exact zad ⟨_,rfl,λ_=>rfl,λh=>absurd h a,d⟩
