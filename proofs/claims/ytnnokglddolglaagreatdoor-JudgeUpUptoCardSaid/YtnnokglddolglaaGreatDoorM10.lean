/- Lemmas for the last texts. -/
import Derived.Test.YtnnokglddolglaaGreatDoorM09
import Derived.Laws.Concat
import Derived.Laws.IdiomStrings
set_option maxHeartbeats 6400000
set_option maxRecDepth 100000
namespace Go.Proofs.YtnnokglddolglaaGreatDoor
open Go.RowKit Go.Proofs.Tryz
theorem LX.star{w:World}{p:Nat->Prop}{t:Tree}{A:Option Addr}{c b c1:Nat}(h:LX w p t (zap t.kind t.set A t.kids.length c))(hb:p b)(a:PutX w b (zap t.kind t.set A t.kids.length c)):
 LX w p (stT t) (zap 6 .zero (some ⟨b,0,none⟩) 1 c1):=by
 unfold stT;rw[LX];refine⟨_,_,rfl,zbI,?_⟩;rw[LXK];refine⟨b,0,_,rfl,hb,rfl,λj d=>?_,h,LXK.nil _ _ _⟩;rw[Zc,Qf w b j _ _ _ a];simp[Qc d]
theorem zob{W:World}{k:Nat}(o:Obj)(a b c d e f:Value)(h:k<W.heap.size):zah (W.alloc o) k a b c d e f=(zah W k a b c d e f).alloc o:=by
 have g:∀(V:World) (p:Addr) (u:Value),(V.setCell p u).heap.size=V.heap.size:=λV p u=>by simp[World.setCell]
 unfold zah;rw[Z9 _ _ _ _ h];rw[Z9 _ _ _ _ (by rw[g];exact h)];rw[Z9 _ _ _ _ (by rw[g,g];exact h)];rw[Z9 _ _ _ _ (by rw[g,g,g];exact h)];rw[Z9 _ _ _ _ (by rw[g,g,g,g];exact h)];rw[Z9 _ _ _ _ (by rw[g,g,g,g,g];exact h)]
def zyB(g:Nat)(s:ByteArray)(w:World)(k op:Nat)(R:TR)(wr:World):Prop:=
 ∃(x:TR) (A:Option Addr) (c:Nat),FewT x.1/\fixI (zcR s.data.toList) (ze8 s.data.toList) x=R/\x.2.pos<=s.size/\x.2.op=op/\OutSt g s w k x A c wr
theorem zmU(s:ByteArray)(op:Nat)(AF:RS->TR)(hs:s.size<=4096)(hA:ziS s.data.toList AF)(hC:zfU 257 s op (zhy s.data.toList AF)):
 zfU 217 s op (zfQ s.data.toList AF):=by
 intro g r w h hp hQ;have gl:s.data.toList.length=s.size:=by simp
 have O:=h.lt;obtain⟨W0,h0⟩:∃W0,w.alloc (.cells #[.int .i64 0,.int .u64 0,.int .u64 0,.int .u64 0,.int .u64 0,.slice none 0 0] 185)=W0:=⟨_,rfl⟩
 have hu:Below w.heap.size w W0:=by rw[<-h0];exact WaL
 have hr:ZeroX W0 w.heap.size:=by rw[<-h0];exact ZeroX.new w
 have gb:w.heap.size<W0.heap.size:=hr.lt;have hH:=hIx (hC g r W0 (h.below hu) hp hQ);have hm:Hid (ZeroX W0 w.heap.size/\w.grownBy W0 (some g)):=⟨hr,zci (zaU w _) hu⟩
 have hX:Hid (fixI (zcR s.data.toList) (ze8 s.data.toList) (zhy s.data.toList AF r)=zfQ s.data.toList AF r):=rfl;have hv:=(zmX hA (r:=r) (by omega)).1;have hj:=hIx hv.few;have he:=hIx hv.step;generalize hR:zfQ s.data.toList AF r=R at *;generalize g2:zhy s.data.toList AF r=G at *;have ge:=hIx h0;clear h hC hu h0 hr hR g2 hv hA
 go_in
 go_upto_region 1 with fail
 rw[ge.out];go_wp2_with (go_at_call 257;apply Hid.out);refine WhM hH ?_;rintro e w2 ⟨A,c,rfl,hV,h2⟩
 have HO:Hid (OutSt g s w w2.heap.size G A c (w2.alloc (.cells #[.int .i64 G.1.kind,.int .u64 G.1.set.a,.int .u64 G.1.set.b,.int .u64 G.1.set.c,.int .u64 G.1.set.d,.slice A G.1.kids.length c] 185))):=
  OutSt.start O (hm.out.1.grown h2.2 (by omega)) (zay hm.out.2 h2.2) gb hV h2.1 h2.2.size
 have V:G.2.pos<=s.size:=by have:=he.out.inn;omega
 have Y:G.2.op=op:=he.out.op.trans hQ;clear hV h2 he hH hm;unfold argX;go_upto_region 3 with fail
 generalize w2.alloc (.cells #[.int .i64 G.1.kind,.int .u64 G.1.set.a,.int .u64 G.1.set.b,.int .u64 G.1.set.c,.int .u64 G.1.set.d,.slice A G.1.kids.length c] 185)=W3 at *;generalize w2.heap.size=k at *;have HS:Hid (zyB g s w k op R W3):=⟨G,A,c,hj.out,hX.out,V,Y,HO.out⟩
 clear HO V Y hX hj
 go_loopw [7] (λ_ wr=>zyB g s w k op R wr) (λ_ wr=>zio g s.size wr)
 case atStart=>exact HS.out
 case round=>
  obtain⟨x,A,c,U,hx,V,Y,hO⟩:=hrel;have HM:=hIx (zeP hO.rd);have HO:=hIx hO;have gk:=hO.far;have h3:InR s.data.toList x:=by unfold InR;omega
  have hj:=hIx U
  have hn:Hid (∀(b:Int) W,OutSt g s w k x A c W->Calls prog 175 #[.pointer (some ⟨g,0,none⟩),.int .i64 b] W λe w'=>e=.returned (.bool (decide (zad s.data.toList x.2=b)))/\OutSt g s w k (x.1,if zad s.data.toList x.2=b then onR x.2 else x.2) A c w'):=λb W hW=>
   (zcM g s x.2 b W hW.rd V hs).mono (λe w' ⟨h1,h2⟩=>by
    have n:=hW.call O h2;unfold zaH at h1 n
    by_cases hb:zad s.data.toList x.2=b
    ·rw[Qi hb]at h1 n
     rw[Qi hb];exact⟨by rw[h1,Qu hb],n⟩
    ·rw[Qe hb]at h1 n
     rw[Qe hb];exact⟨by rw[h1,Qs hb],n⟩)
  have Q:Hid (∀(y:Tree) A7 c7 F,zcR s.data.toList x=some (y,onR x.2)->OutSt g s w k (x.1,onR x.2) A c F->LX F (λb=>w.heap.size<b/\b≠k/\b<F.heap.size) y (zap y.kind y.set A7 y.kids.length c7)->
   zyB g s w k op R (zah F k (.int .i64 y.kind) (.int .u64 y.set.a) (.int .u64 y.set.b) (.int .u64 y.set.c) (.int .u64 y.set.d) (.slice A7 y.kids.length c7))/\zio g s.size (zah F k (.int .i64 y.kind) (.int .u64 y.set.a) (.int .u64 y.set.b) (.int .u64 y.set.c) (.int .u64 y.set.d) (.slice A7 y.kids.length c7))<zio g s.size wr):=λy A7 c7 F X h7 gd=>by
   have hp:=h7.put O y A7 c7 gd;have hf:=zgW s.data.toList;have hZ:=zc8 X;obtain⟨_,_,_,_,hY,_⟩:=hZ;have hk:=hf.keep x _ h3 X;refine⟨⟨_,A7,c7,hY U,by rw[<-hx];exact(zir hf h3 X).symm,?_,Y,hp⟩,?_⟩
   ·have:(onR x.2).pos<=s.data.toList.length:=hk
    show (onR x.2).pos<=s.size
    omega
   ·rw[HM.out,zeP hp.rd];exact hf.less x _ h3 X
  have HX:=hIx hx
  have hB:Hid (∀(b:Int) W,zad s.data.toList x.2=b->OutSt g s w k x A c W->Calls prog 175 #[.pointer (some ⟨g,0,none⟩),.int .i64 b] W λe w'=>e=.returned (.bool true)/\OutSt g s w k (x.1,onR x.2) A c w'):=λb W hb hW=>
   (hn.out b W hW).mono λe w' ⟨h1,h2⟩=>⟨by rw[h1,Qu hb],by rw[Qi hb]at h2;exact h2⟩
  have hD:Hid (∀(b:Int) W,zad s.data.toList x.2≠b->OutSt g s w k x A c W->Calls prog 175 #[.pointer (some ⟨g,0,none⟩),.int .i64 b] W λe w'=>e=.returned (.bool false)/\OutSt g s w k x A c w'):=λb W hb hW=>
   (hn.out b W hW).mono λe w' ⟨h1,h2⟩=>⟨by rw[h1,Qs hb],by rw[Qe hb]at h2;exact h2⟩
  clear hx hO h3 hn
  by_cases t:zad s.data.toList x.2=42
  ·have HT:=hIx (hB.out 42 wr t HO.out)
   have N:Hid (zcR s.data.toList x=some (stT x.1,onR x.2)):=by unfold Hid zcR;rw[Qi t]
   clear t;go_wp2_with (go_at_call 175;apply Hid.out);refine WhM HT ?_;rintro e Z ⟨rfl,H⟩;have ⟨o0,o1,o2,o3,o4,o5⟩:=(show PutX Z k [.int .i64 x.1.kind,.int .u64 x.1.set.a,.int .u64 x.1.set.b,.int .u64 x.1.set.c,.int .u64 x.1.set.d,.slice A x.1.kids.length c]from H.out).cells;have f0:=H.out.free 0;have f1:=H.out.free 1;have f2:=H.out.free 2;have f3:=H.out.free 3;have f4:=H.out.free 4;have f5:=H.out.free 5;have gg:k<Z.heap.size:=H.out.lt;have u:=H.low O ((Qg Z.heap.size Z).alloc (Qd _) (.cells #[.int .i64 x.1.kind,.int .u64 x.1.set.a,.int .u64 x.1.set.b,.int .u64 x.1.set.c,.int .u64 x.1.set.d,.slice A x.1.kids.length c] 185));have hS:=LX.star (c1:=1) u.tree (b:=Z.heap.size) ⟨by omega,by omega,by rw[Qr];omega⟩ (PutX.new Z _);have hw:=Q.out (stT x.1) _ 1 _ N.out u hS;rw[zob _ _ _ _ _ _ _ gg]at hw;have E:=hIx hw;clear hw;clear H u hS;go_wp2_with fail
   go_roundw
   case measure=>exact E.out.2
   case rel=>exact E.out.1
  have g4:=hIx (hD.out 42 wr t HO.out);go_wp2_with (go_at_call 175;apply Hid.out);refine WhM g4 ?_;rintro e Z ⟨rfl,H⟩
  by_cases D:zad s.data.toList x.2=63
  ·have HT:=hIx (hB.out 63 Z D H)
   have N:Hid (zcR s.data.toList x=some (orT x.1 emT,onR x.2)):=by unfold Hid zcR;rw[Qe t,Qi D]
   clear t D H;go_wp2_with (go_at_call 175;apply Hid.out);refine WhM HT ?_;rintro e w5 ⟨rfl,u⟩;have ⟨o0,o1,o2,o3,o4,o5⟩:=(show PutX w5 k [.int .i64 x.1.kind,.int .u64 x.1.set.a,.int .u64 x.1.set.b,.int .u64 x.1.set.c,.int .u64 x.1.set.d,.slice A x.1.kids.length c]from u.out).cells;have f0:=u.out.free 0;have f1:=u.out.free 1;have f2:=u.out.free 2;have f3:=u.out.free 3;have f4:=u.out.free 4;have f5:=u.out.free 5
   have hq:Hid (Calls prog 176 #[.int .i64 5,.agg #[.int .i64 x.1.kind,.int .u64 x.1.set.a,.int .u64 x.1.set.b,.int .u64 x.1.set.c,.int .u64 x.1.set.d,.slice A x.1.kids.length c],.agg #[.int .i64 2,.int .u64 0,.int .u64 0,.int .u64 0,.int .u64 0,.slice none 0 0]] w5 (zok 5 x.1 emT (λb=>w.heap.size<b/\b≠k/\b<w5.heap.size) w5)):=
    zhm 5 x.1 emT A none c 0 _ w5 (λb hb=>hb.2.2) u.tree (LX.leaf _ _ _ _ _ _ zbI)
   have H5:=hIx u;have gn:k<w5.heap.size:=u.out.lt;clear u;go_wp2_with (go_at_call 176;apply Hid.out);refine WhM hq ?_;rintro e j ⟨A6,c6,rfl,hL,hy⟩;have m:=H5.out.low O hy;have gi:=hy.size;have E:=hIx (Q.out (orT x.1 emT) A6 c6 j N.out m (LX.keep (λb hb=>by rcases hb with hb|hb;exact⟨hb.1,hb.2.1,by have:=hb.2.2;omega⟩;exact⟨by have:=hb.1;omega,by have:=hb.1;omega,hb.2⟩) (λ_ _ _=>rfl) _ _ hL));have ⟨o0,o1,o2,o3,o4,o5⟩:=(show PutX j k [.int .i64 x.1.kind,.int .u64 x.1.set.a,.int .u64 x.1.set.b,.int .u64 x.1.set.c,.int .u64 x.1.set.d,.slice A x.1.kids.length c]from m.out).cells;have f0:=m.out.free 0;have f1:=m.out.free 1;have f2:=m.out.free 2;have f3:=m.out.free 3;have f4:=m.out.free 4;have f5:=m.out.free 5;clear hL hy m;unfold argX;go_wp2_with fail
   go_roundw
   case measure=>exact E.out.2
   case rel=>exact E.out.1
  have g3:=hIx (hD.out 63 Z D H);clear H;go_wp2_with (go_at_call 175;apply Hid.out);refine WhM g3 ?_;rintro e w5 ⟨rfl,u⟩
  by_cases K:zad s.data.toList x.2=43
  ·have HT:=hIx (hB.out 43 w5 K u)
   have N:Hid (zcR s.data.toList x=some (jnT x.1 (stT (zbO x.1)),onR x.2)):=by unfold Hid zcR;rw[Qe t,Qe D,Qi K]
   clear t D K u;go_wp2_with (go_at_call 175;apply Hid.out);refine WhM HT ?_;rintro e j ⟨rfl,m⟩;have hG:=hIx (λ(W:World) (hW:Below j.heap.size j W)=>(m.low O hW).lt);have H6:=hIx m;have g7:k<j.heap.size:=m.out.lt;have ⟨o0,o1,o2,o3,o4,o5⟩:=(show PutX j k [.int .i64 x.1.kind,.int .u64 x.1.set.a,.int .u64 x.1.set.b,.int .u64 x.1.set.c,.int .u64 x.1.set.d,.slice A x.1.kids.length c]from m.out).cells;have I:Below j.heap.size j (j.alloc (.cells #[.int .i64 2,.int .u64 0,.int .u64 0,.int .u64 0,.int .u64 0,.slice none 0 0] 185)):=WaL
   have hN:Hid (Calls prog 258 #[.agg #[.int .i64 x.1.kind,.int .u64 x.1.set.a,.int .u64 x.1.set.b,.int .u64 x.1.set.c,.int .u64 x.1.set.d,.slice A x.1.kids.length c],.int .i64 0] (j.alloc (.cells #[.int .i64 2,.int .u64 0,.int .u64 0,.int .u64 0,.int .u64 0,.slice none 0 0] 185)) λe w'=>e=.returned (.int .i64 (zeT x.1 0))/\Below j.heap.size j w'/\PutX w' j.heap.size [.int .i64 2,.int .u64 0,.int .u64 0,.int .u64 0,.int .u64 0,.slice none 0 0]):=
    (zo8 x.1 U A c (j.alloc (.cells #[.int .i64 2,.int .u64 0,.int .u64 0,.int .u64 0,.int .u64 0,.slice none 0 0] 185)) 0 (hG.out _ I) (by decide) (by decide)).mono (λe w' ⟨h1,h2⟩=>⟨h1,I.trans (h2.mono I.size),(h2.block _ (PutX.new j [.int .i64 2,.int .u64 0,.int .u64 0,.int .u64 0,.int .u64 0,.slice none 0 0]).lt).trans (PutX.new j [.int .i64 2,.int .u64 0,.int .u64 0,.int .u64 0,.int .u64 0,.slice none 0 0])⟩)
   have gm:=zlG x.1 0 (by decide);clear m I;go_upto_region 9 with fail
   go_wp2_with (go_at_call 258;apply Hid.out);refine WhM hN ?_;rintro e F ⟨rfl,h8,q⟩;have H7:=hIx (And.intro h8 q);have gj:k<F.heap.size:=Qv g7 h8.size;have hE:j.heap.size<F.heap.size:=q.lt;have hI:=H6.out.low O h8;have ⟨o0,o1,o2,o3,o4,o5⟩:=(show PutX F k [.int .i64 x.1.kind,.int .u64 x.1.set.a,.int .u64 x.1.set.b,.int .u64 x.1.set.c,.int .u64 x.1.set.d,.slice A x.1.kids.length c]from hI.out).cells;have ⟨b0,b1,b2,b3,b4,b5⟩:=q.cells;have e0:=q.free 0;have e1:=q.free 1;have e2:=q.free 2;have e3:=q.free 3;have e4:=q.free 4;have e5:=q.free 5;clear hI h8 q hN
   go_upto_if 26 with fail
   obtain⟨cz,ho⟩:∃cz,decide (zeT x.1 0<=80)=cz:=⟨_,rfl⟩
   rw[ho];have hF:=hIx ho;clear ho
   go_cut [3]from 7 to 33 (λv3 wx=>v3=.pointer (some ⟨k,0,none⟩)/\∃(C:Option Addr) (z:Nat),Below j.heap.size j wx/\PutX wx j.heap.size [.int .i64 (zbO x.1).kind,.int .u64 (zbO x.1).set.a,.int .u64 (zbO x.1).set.b,.int .u64 (zbO x.1).set.c,.int .u64 (zbO x.1).set.d,.slice C (zbO x.1).kids.length z]/\LX wx (λb=>w.heap.size<b/\b≠k/\b<wx.heap.size) (zbO x.1) (zap (zbO x.1).kind (zbO x.1).set C (zbO x.1).kids.length z))
   case first=>
    cases cz with
    |true=>
     have hz:zeT x.1 0<=80:=Zq hF.out;have P:Hid (zbO x.1=x.1):=by unfold Hid zbO;rw[Qi hz]
     have g6:Hid (Calls prog 259 #[.agg #[.int .i64 x.1.kind,.int .u64 x.1.set.a,.int .u64 x.1.set.b,.int .u64 x.1.set.c,.int .u64 x.1.set.d,.slice A x.1.kids.length c]] F λe w'=>∃A' c',e=.returned (.agg #[.int .i64 x.1.kind,.int .u64 x.1.set.a,.int .u64 x.1.set.b,.int .u64 x.1.set.c,.int .u64 x.1.set.d,.slice A' x.1.kids.length c'])/\NewX F w' x.1 A' c'/\Below F.heap.size F w'):=zp5 x.1 U A c F (hG.out F H7.out.1);clear hz;go_wp2_with (go_at_call 259;apply Hid.out);refine WhM g6 ?_;rintro e w8 ⟨C,z,rfl,hK,L⟩;have l:PutX w8 j.heap.size [.int .i64 2,.int .u64 0,.int .u64 0,.int .u64 0,.int .u64 0,.slice none 0 0]:=(L.block _ hE).trans H7.out.2;have g8:=hIx (l.fill rfl (.int .i64 x.1.kind) (.int .u64 x.1.set.a) (.int .u64 x.1.set.b) (.int .u64 x.1.set.c) (.int .u64 x.1.set.d) (.slice C x.1.kids.length z));have ht:Below j.heap.size w8 (zah w8 j.heap.size (.int .i64 x.1.kind) (.int .u64 x.1.set.a) (.int .u64 x.1.set.b) (.int .u64 x.1.set.c) (.int .u64 x.1.set.d) (.slice C x.1.kids.length z)):=zbr (Qg _ _) (Qd _) _ _ _ _ _ _;have ga:Hid (Below j.heap.size j (zah w8 j.heap.size (.int .i64 x.1.kind) (.int .u64 x.1.set.a) (.int .u64 x.1.set.b) (.int .u64 x.1.set.c) (.int .u64 x.1.set.d) (.slice C x.1.kids.length z))):=(H7.out.1.trans (L.mono (Q5 hE))).trans ht
     have hT:∀i,i≠j.heap.size->(zah w8 j.heap.size (.int .i64 x.1.kind) (.int .u64 x.1.set.a) (.int .u64 x.1.set.b) (.int .u64 x.1.set.c) (.int .u64 x.1.set.d) (.slice C x.1.kids.length z)).heap[i]? = w8.heap[i]? := λi hi=>by
      unfold zah;rw[Ql _ _ _ _ hi,Ql _ _ _ _ hi,Ql _ _ _ _ hi,Ql _ _ _ _ hi,Ql _ _ _ _ hi,Ql _ _ _ _ hi]
     have gc:Hid (LX (zah w8 j.heap.size (.int .i64 x.1.kind) (.int .u64 x.1.set.a) (.int .u64 x.1.set.b) (.int .u64 x.1.set.c) (.int .u64 x.1.set.d) (.slice C x.1.kids.length z)) (λb=>w.heap.size<b/\b≠k/\b<(zah w8 j.heap.size (.int .i64 x.1.kind) (.int .u64 x.1.set.a) (.int .u64 x.1.set.b) (.int .u64 x.1.set.c) (.int .u64 x.1.set.d) (.slice C x.1.kids.length z)).heap.size) x.1 (zap x.1.kind x.1.set C x.1.kids.length z)):=
      LX.keep (λb hb=>⟨by have:=hb.1;omega,by have:=hb.1;omega,Qv hb.2 ht.size⟩) (λb o hb=>by simp only[World.cell?, hT b (show b≠j.heap.size by have:=hb.1;omega)]) _ _ hK
     have ⟨b0,b1,b2,b3,b4,b5⟩:=l.cells;have e0:=l.free 0;have e1:=l.free 1;have e2:=l.free 2;have e3:=l.free 3;have e4:=l.free 4;have e5:=l.free 5;clear l ht hT hK L;go_wp2;go_meet;exact⟨rfl,C,z,ga.out,by rw[P.out];exact g8.out,by rw[P.out];exact gc.out⟩
    |false=>
     have hz:¬zeT x.1 0<=80:=XU hF.out;have P:Hid (zbO x.1=emT):=by unfold Hid zbO;rw[Qe hz]
     clear hz;go_wp2;go_meet;exact⟨rfl,none,0,H7.out.1,by rw[P.out];exact H7.out.2,by rw[P.out];exact LX.leaf _ _ _ _ _ _ zbI⟩
   case rest=>
    obtain⟨rfl,C,z,L,l,hh⟩:=hcut;obtain⟨f,hJ⟩:∃f,zbO x.1=f:=⟨_,rfl⟩
    rw[hJ]at l hh N;have T:=H6.out.low O L;have gp:k<wc.heap.size:=T.out.lt;have gh:j.heap.size<wc.heap.size:=l.lt;have ⟨o0,o1,o2,o3,o4,o5⟩:=(show PutX wc k [.int .i64 x.1.kind,.int .u64 x.1.set.a,.int .u64 x.1.set.b,.int .u64 x.1.set.c,.int .u64 x.1.set.d,.slice A x.1.kids.length c]from T.out).cells;have ⟨b0,b1,b2,b3,b4,b5⟩:=l.cells;have J:Below wc.heap.size wc (wc.alloc (.cells #[.int .i64 f.kind,.int .u64 f.set.a,.int .u64 f.set.b,.int .u64 f.set.c,.int .u64 f.set.d,.slice C f.kids.length z] 185)):=WaL;have h9:=T.low O J
    have hU:LX (wc.alloc (.cells #[.int .i64 f.kind,.int .u64 f.set.a,.int .u64 f.set.b,.int .u64 f.set.c,.int .u64 f.set.d,.slice C f.kids.length z] 185)) (λb=>w.heap.size<b/\b≠k/\b<(wc.alloc (.cells #[.int .i64 f.kind,.int .u64 f.set.a,.int .u64 f.set.b,.int .u64 f.set.c,.int .u64 f.set.d,.slice C f.kids.length z] 185)).heap.size) f (zap f.kind f.set C f.kids.length z):=
     LX.keep (λb hb=>⟨hb.1,hb.2.1,Qv hb.2.2 J.size⟩) (λb o hb=>J.cell (p:=⟨b,o,none⟩) hb.2.2) _ _ hh
    have hc:=LX.star (c1:=1) hU (b:=wc.heap.size) ⟨by omega,by omega,by rw[Qr];omega⟩ (PutX.new wc _)
    have hq:Hid (Calls prog 176 #[.int .i64 4,.agg #[.int .i64 x.1.kind,.int .u64 x.1.set.a,.int .u64 x.1.set.b,.int .u64 x.1.set.c,.int .u64 x.1.set.d,.slice A x.1.kids.length c],.agg #[.int .i64 6,.int .u64 0,.int .u64 0,.int .u64 0,.int .u64 0,.slice (some ⟨wc.heap.size,0,none⟩) 1 1]] (wc.alloc (.cells #[.int .i64 f.kind,.int .u64 f.set.a,.int .u64 f.set.b,.int .u64 f.set.c,.int .u64 f.set.d,.slice C f.kids.length z] 185)) (zok 4 x.1 (stT f) (λb=>w.heap.size<b/\b≠k/\b<(wc.alloc (.cells #[.int .i64 f.kind,.int .u64 f.set.a,.int .u64 f.set.b,.int .u64 f.set.c,.int .u64 f.set.d,.slice C f.kids.length z] 185)).heap.size) (wc.alloc (.cells #[.int .i64 f.kind,.int .u64 f.set.a,.int .u64 f.set.b,.int .u64 f.set.c,.int .u64 f.set.d,.slice C f.kids.length z] 185)))):=
     zhm 4 x.1 (stT f) A (some ⟨wc.heap.size,0,none⟩) c 1 _ _ (λb hb=>hb.2.2) h9.tree hc
    have H9:=hIx h9;clear L l hh T J h9 hU hc hJ;go_wp2_with (go_at_call 176;apply Hid.out);refine WhM hq ?_;rintro e hP ⟨g9,g1,rfl,ha,S⟩;have B:=H9.out.low O S;have hd:=S.size;have gf:=H9.out.out.lt;have E:=hIx (Q.out (jnT x.1 (stT f)) g9 g1 hP N.out B (LX.keep (λb hb=>by rcases hb with hb|hb;exact⟨hb.1,hb.2.1,by have:=hb.2.2;omega⟩;exact⟨by have:=hb.1;omega,by have:=hb.1;omega,hb.2⟩) (λ_ _ _=>rfl) _ _ ha));have ⟨o0,o1,o2,o3,o4,o5⟩:=(show PutX hP k [.int .i64 x.1.kind,.int .u64 x.1.set.a,.int .u64 x.1.set.b,.int .u64 x.1.set.c,.int .u64 x.1.set.d,.slice A x.1.kids.length c]from B.out).cells;have f0:=B.out.free 0;have f1:=B.out.free 1;have f2:=B.out.free 2;have f3:=B.out.free 3;have f4:=B.out.free 4;have f5:=B.out.free 5;clear ha S B hd gf;unfold argX;go_wp2_with fail
    go_roundw
    case measure=>exact E.out.2
    case rel=>exact E.out.1
  ·have g5:=hIx (hD.out 43 w5 K u)
   have g0:Hid (R=x):=by
    unfold Hid;rw[<-HX.out];exact zhw (zgW s.data.toList) (show InR s.data.toList x by unfold InR;omega) (by unfold zcR;rw[Qe t,Qe D,Qe K])
   clear t D K u;go_wp2_with (go_at_call 175;apply Hid.out);refine WhM g5 ?_;rintro e j ⟨rfl,m⟩;have HD:=hIx (OutSt.done O m);have ⟨o0,o1,o2,o3,o4,o5⟩:=(show PutX j k [.int .i64 x.1.kind,.int .u64 x.1.set.a,.int .u64 x.1.set.b,.int .u64 x.1.set.c,.int .u64 x.1.set.d,.slice A x.1.kids.length c]from m.out).cells;have ⟨z0,z1,z2,z3,z4,z5⟩:=m.zero.cells;have y0:=m.zero.free 0;have y1:=m.zero.free 1;have y2:=m.zero.free 2;have y3:=m.zero.free 3;have y4:=m.zero.free 4;have y5:=m.zero.free 5;clear m;go_wp2_with fail;obtain⟨d1,d2,d3⟩:=HD.out;have ⟨s0,s1,s2,s3,s4,s5⟩:=(show PutX _ w.heap.size [_,_,_,_,_,_]from d1).cells;unfold zah at s0 s1 s2 s3 s4 s5;exact Qj (v:=argX x.1 A c) (by simp[results,results217,go_sem,s0,s1,s2,s3,s4,s5,argX]) rfl (by rw[g0.out];exact⟨A,c,rfl,d2,d3⟩)
theorem zgF(f:Nat->Bool):(setF f).Wf:=by
 have h:∀j,ziN ((wdF f j:Nat):Int):=λj=>by have:=zi5 f j;unfold ziN;omega
 exact⟨h 0,h 1,h 2,h 3⟩
structure ClSt(g:Nat)(s:ByteArray)(w:World)(k:Nat)(q:RS)(F:Nat->Bool)(wr:World):Prop where
 rd:RdAt g s q wr
 four:FourW wr k (setF F)
 zero:ZeroX wr w.heap.size
 frame:w.grownBy wr (some g)
 far:w.heap.size<k
theorem ClSt.call{g:Nat}{s:ByteArray}{w:World}{k:Nat}{q a:RS}{F:Nat->Bool}{wr w':World}(b:g<w.heap.size)(h:ClSt g s w k q F wr)(e:RdEnd g s a wr w'):ClSt g s w k a F w':=
 ⟨e.1,h.four.grown e.2 (by have:=h.far;omega),h.zero.grown e.2 (by omega),zay h.frame e.2,h.far⟩
theorem ClSt.low{g:Nat}{s:ByteArray}{w:World}{k:Nat}{q:RS}{F:Nat->Bool}{wr w':World}(h:ClSt g s w k q F wr)(hb:Below wr.heap.size wr w'):ClSt g s w k q F w':=
 ⟨h.rd.below hb,h.four.below hb h.four.lt,(hb.block _ h.zero.lt).trans h.zero,zay h.frame (zci (zaU wr _) hb),h.far⟩
theorem ClSt.put{g:Nat}{s:ByteArray}{w:World}{k:Nat}{q:RS}{F:Nat->Bool}{wr:World}(c:g<w.heap.size)(h:ClSt g s w k q F wr)(a:Nat->Bool):ClSt g s w k q a (zcz wr k (setF a)):=by
 have h1:=h.far;have hb:Below k wr (zcz wr k (setF a)):=zbd (Qg _ _) (Qd _) _;have b:=zbv h.four (setF a);exact⟨(hb.block g (by omega)).trans h.rd,b,(hb.block _ (by omega)).trans h.zero,zcX h.frame (by omega) hb,h1⟩
def zvY(g:Nat)(s:ByteArray)(R:(Nat->Bool) × RS)(w:World)(k:Nat)(a:Value)(wr:World):Prop:=
 ∃(n:Nat) (q:RS) (F:Nat->Bool),a=.int .i64 n/\zeU s.data.toList q (decide (n=0)) F=R/\q.pos<=s.size/\n+zbP s.data.toList q<=s.size+1/\ClSt g s w k q F wr
theorem zsS(g:Nat)(s:ByteArray)(r:RS)(w:World)(h:RdAt g s r w)(hp:r.pos<=s.size)(hs:s.size<=4096):
 Calls prog 288 #[.pointer (some ⟨g,0,none⟩)] w (zjW g s (byT (zeZ s.data.toList r).1,(zeZ s.data.toList r).2) w):=by
 have gS:s.data.toList.length=s.size:=by simp
 have Z:=h.lt;obtain⟨W0,gd⟩:∃W0,w.alloc (.cells #[.int .i64 0,.int .u64 0,.int .u64 0,.int .u64 0,.int .u64 0,.slice none 0 0] 185)=W0:=⟨_,rfl⟩
 have gs:Below w.heap.size w W0:=by rw[<-gd];exact WaL
 have gB:ZeroX W0 w.heap.size:=by rw[<-gd];exact ZeroX.new w
 have gE:W0.heap.size=w.heap.size+1:=by rw[<-gd];simp
 have gF:=h.below gs;have gN:=hIx (zcM g s r 94 W0 gF hp hs);have ht:=zcV (s:=s.data.toList) (r:=r) (by omega) (b:=94) (by decide)
 have gA:Hid (∀w1,RdEnd g s (zaH s.data.toList r 94).2 W0 w1->ClSt g s w w1.heap.size (zaH s.data.toList r 94).2 (λ_=>false) (w1.alloc (.cells #[.int .u64 0,.int .u64 0,.int .u64 0,.int .u64 0] 182))):=by
  intro w1 h1;have gK:=h1.2.size;have gq:Below w1.heap.size w1 (w1.alloc (.cells #[.int .u64 0,.int .u64 0,.int .u64 0,.int .u64 0] 182)):=WaL;exact⟨h1.1.below gq,FourW.new w1,(gq.block _ (by omega)).trans (gB.grown h1.2 (by omega)),zay (zci (zaU w _) gs) (zci h1.2 (gq.mono gK)),by omega⟩
 have gl:Hid (zeZ s.data.toList r=(zhu s.data.toList r,(zaH s.data.toList (zkw s.data.toList r) 93).2)):=rfl;have hj:Hid (zkw s.data.toList r=if setF (zhu s.data.toList r)=.zero then zaA (zeU s.data.toList (zaH s.data.toList r 94).2 true λ_=>false).2 3 else (zeU s.data.toList (zaH s.data.toList r 94).2 true λ_=>false).2):=rfl;have g1:Hid (zhu s.data.toList r=λx=>if (zaH s.data.toList r 94).1=true then !(zeU s.data.toList (zaH s.data.toList r 94).2 true λ_=>false).1 x else (zeU s.data.toList (zaH s.data.toList r 94).2 true λ_=>false).1 x):=rfl;have gL:(zaH s.data.toList r 94).2.pos<=s.size:=by have:=ht.1.inn;omega
 have gD:=hIx (ziC (s:=s.data.toList) _ (zaH s.data.toList r 94).2 true (λ_=>false) (Qd _) (by omega)).inn;generalize gH:zeZ s.data.toList r=CL at *;generalize gM:zkw s.data.toList r=LE at *;generalize gP:zhu s.data.toList r=LF at *;generalize hL:zeU s.data.toList (zaH s.data.toList r 94).2 true (λ_=>false)=L at *;have HL:=hIx hL;generalize zaH s.data.toList r 94=T at *;have gR:=hIx gd;clear h gs gB gE gF ht gd gH gM gP hL
 go_in
 go_upto_region 1 with fail
 rw[gR.out];go_wp2_with (go_at_call 175;apply Hid.out);refine WhM gN ?_;rintro e w1 ⟨rfl,h1⟩;have HC:=hIx (gA.out w1 h1);clear h1 gA;go_upto_region 3 with fail
 generalize gO:w1.alloc (.cells #[.int .u64 0,.int .u64 0,.int .u64 0,.int .u64 0] 182)=W1 at *;clear gO;generalize w1.heap.size=k at *;have HS:Hid (zvY g s L w k (.int .i64 (0:Nat)) W1):=⟨0,T.2,λ_=>false,rfl,HL.out,gL,by unfold zbP;split <;> omega,HC.out⟩
 clear HC;go_wp2
 go_loopw [5] (λv5 wr=>zvY g s L w k v5 wr) (λv5 _=>s.size+2-(intOf v5).toNat)
 case atStart=>exact HS.out
 case round=>
  obtain⟨n,q,F,rfl,gG,hq,hn,hC⟩:=hrel;have g6:=zt7 (s:=s.data.toList) (r:=q) (first:=decide (n=0)) (F:=F) (by omega);rw[gG]at g6;have hB:=hIx g6;have hJ:=hIx hC;have ⟨c0,c1,c2,c3⟩:=hC.rd.cells;have hI:=hIx (zgc g s q wr hC.rd hq);have gC:=zcP (s:=s.data.toList) (r:=q) (by omega);have gh:=λhe=>zfD (s:=s.data.toList) (r:=q) (by omega) he
  have hi:=hIx (And.intro gC gh)
  -- ROUND
  clear g6 gG hC gC gh
  by_cases he:q.e=0
  ·have d1:(q.e==0)=true:=by rw[he];rfl
   by_cases h0:n=0
   ·have d2:((n:Int)==0)=true:=by rw[h0];rfl
    have ha:q.e=0/\(decide (n=0)=true\/zad s.data.toList q≠93):=⟨he,.inl (Qu h0)⟩
    clear he h0;go_upto_region 6 with fail
    have A:=hJ.out;obtain⟨w2,rfl⟩:∃w2:World,w2=wr:=⟨_,rfl⟩
    clear c0 c1 c2 c3 hJ d1 d2;have hT:zeU s.data.toList (za0 s.data.toList q).2 false (λx=>F x||(za0 s.data.toList q).1 x)=L:=by rw[hB.out,Qi ha]
    have gI:n<=s.size:=by unfold zbP at hn;rw[Qi ha.1]at hn;omega
    have z:Hid (∀W,ClSt g s w k (za0 s.data.toList q).2 (λx=>F x||(za0 s.data.toList q).1 x) W->zvY g s L w k (.int .i64 ((n:Int)+1)) W):=λW y=>
     ⟨n+1,_,_,by rw[Int.natCast_succ],by rw[Qs (by omega)];exact hT,by have:=hi.out.1.1.inn;omega,by have:=hi.out.2 ha.1;omega,y⟩
    have i7:IntKind.i64.wrap ((n:Int)+1)=(n:Int)+1:=Qx _ (by omega);have gJ:=A.four.lt;obtain⟨u,p⟩:∃u,setF F=u:=⟨_,rfl⟩
    have hk:Hid (∀(f:Nat->Bool) (j:Set4) (S:RS) W,setF f=j->ClSt g s w k S F W->Calls prog 306 #[.agg #[.int .u64 u.a,.int .u64 u.b,.int .u64 u.c,.int .u64 u.d],.agg #[.int .u64 j.a,.int .u64 j.b,.int .u64 j.c,.int .u64 j.d]] W λe w'=>∃Su,e=.returned (.agg #[.int .u64 Su.a,.int .u64 Su.b,.int .u64 Su.c,.int .u64 Su.d])/\setF (λx=>F x||f x)=Su/\ClSt g s w k S F w'):=λf j S W hf y=>by
     have:=zdx F f W;rw[hf,p]at this;exact this.mono (λe w' ⟨h1,h2⟩=>⟨_,h1,rfl,y.low h2⟩)
    have hS:=zdw (s:=s.data.toList) (r:=q) (by omega);cases O:(za8 s.data.toList q).1 with
    |some f=>
     have gb:za0 s.data.toList q=(f,(za8 s.data.toList q).2):=by unfold za0;rw[O]
     obtain⟨j,hZ⟩:∃j,setF f=j:=⟨_,rfl⟩
     have HG:Hid (Calls prog 289 #[.pointer (some ⟨g,0,none⟩)] w2 λe w'=>e=.returned (.tuple #[.agg #[.int .u64 j.a,.int .u64 j.b,.int .u64 j.c,.int .u64 j.d],.bool true])/\ClSt g s w k (za8 s.data.toList q).2 F w'):=
      (zdu g s q w2 A.rd hq hs).mono (λe w' ⟨h1,h2⟩=>⟨by rw[h1,O];dsimp only;rw[hZ];rfl,A.call Z h2⟩)
     rw[gb]at z;clear hT hS O gb hB hi hI;go_wp2_with (go_at_call 289;apply Hid.out);refine WhM HG ?_;rintro e w3 ⟨rfl,B⟩;have P:=B.low ((Qg w3.heap.size w3).alloc (Qd _) (.cells #[.int .u64 j.a,.int .u64 j.b,.int .u64 j.c,.int .u64 j.d] 182));have g4:FourW (w3.alloc (.cells #[.int .u64 j.a,.int .u64 j.b,.int .u64 j.c,.int .u64 j.d] 182)) w3.heap.size j:=Qp w3 _;go_upto_region 8 with fail
     generalize w3.alloc (.cells #[.int .u64 j.a,.int .u64 j.b,.int .u64 j.c,.int .u64 j.d] 182)=W4 at *;have ⟨c0,c1,c2,c3⟩:=(show FourW W4 k u from by rw[<-p];exact P.four).cells;have ⟨d0,d1,d2,d3⟩:=g4.cells;have HU:=hIx (hk.out f j _ W4 hZ P);clear P g4 B;go_wp2_with (go_at_call 306;apply Hid.out);refine WhM HU ?_;rintro e w5 ⟨Su,rfl,h8,t⟩;have H:=hIx (z.out _ (t.put Z (λx=>F x||f x)));rw[h8]at H;have ⟨c0,c1,c2,c3⟩:=(show FourW w5 k u from by rw[<-p];exact t.four).cells;have f0:=t.four.free 0;have f1:=t.four.free 1;have f2:=t.four.free 2;have f3:=t.four.free 3;clear t h8 z hk hZ;go_wp2;exact⟨H.out,by dsimp only[intOf];omega⟩
    |none=>
     have g2:(za8 s.data.toList q).2=q:=hS.2.1 O;have hx:=zcw (s:=s.data.toList) (r:=q) (by omega);obtain⟨C,hC⟩:∃C,zbi s.data.toList q=C:=⟨_,rfl⟩
     rw[hC]at hx;have hd:0<=C.1/\C.1<256:=⟨by omega,by omega⟩
     have hy:=zcV (s:=s.data.toList) (r:=C.2) hx.1.inn (b:=45) (by decide);obtain⟨N,h6⟩:∃N,zaH s.data.toList C.2 45=N:=⟨_,rfl⟩
     rw[h6]at hy;have gc:=zcw (s:=s.data.toList) (r:=N.2) hy.1.inn;obtain⟨D,hD⟩:∃D,zbi s.data.toList N.2=D:=⟨_,rfl⟩
     rw[hD]at gc;have hc:0<=D.1/\D.1<256:=⟨by omega,by omega⟩
     have gy:C.2.pos<=s.size:=by have:=hx.1.inn;omega
     have gw:N.2.pos<=s.size:=by have:=hy.1.inn;omega
     have l:Hid (za0 s.data.toList q=if N.1=true then (rgF C.1.toNat D.1.toNat,if D.1<C.1/\D.2.e=0 then zaA {D.2 with pos:=N.2.pos} 3 else D.2)else (rgF C.1.toNat C.1.toNat,N.2)):=by
      unfold Hid za0;rw[O];dsimp only;rw[hC,h6,hD]
     have HG:Hid (Calls prog 289 #[.pointer (some ⟨g,0,none⟩)] w2 λe w'=>e=.returned (.tuple #[.agg #[.int .u64 0,.int .u64 0,.int .u64 0,.int .u64 0],.bool false])/\ClSt g s w k q F w'):=
      (zdu g s q w2 A.rd hq hs).mono (λe w' ⟨h1,h2⟩=>⟨by rw[h1,O];rfl,by rw[<-g2];exact A.call Z h2⟩)
     have g9:Hid (∀W,ClSt g s w k q F W->Calls prog 290 #[.pointer (some ⟨g,0,none⟩)] W λe w'=>e=.returned (.int .i64 C.1)/\ClSt g s w k C.2 F w'):=λW y=>
      (zeh g s q W y.rd hq hs).mono (λe w' ⟨h1,h2⟩=>⟨by rw[h1,hC],by rw[hC]at h2;exact y.call Z h2⟩)
     have g3:Hid (∀W,ClSt g s w k C.2 F W->Calls prog 175 #[.pointer (some ⟨g,0,none⟩),.int .i64 45] W λe w'=>e=.returned (.bool N.1)/\ClSt g s w k N.2 F w'):=λW y=>
      (zcM g s C.2 45 W y.rd gy hs).mono (λe w' ⟨h1,h2⟩=>⟨by rw[h1,h6],by rw[h6]at h2;exact y.call Z h2⟩)
     have hV:Hid (∀W,ClSt g s w k N.2 F W->Calls prog 290 #[.pointer (some ⟨g,0,none⟩)] W λe w'=>e=.returned (.int .i64 D.1)/\ClSt g s w k D.2 F w'):=λW y=>
      (zeh g s N.2 W y.rd gw hs).mono (λe w' ⟨h1,h2⟩=>⟨by rw[h1,hD],by rw[hD]at h2;exact y.call Z h2⟩)
     have hr:Hid (∀(S:RS) W,ClSt g s w k S F W->Calls prog 138 #[.pointer (some ⟨g,0,none⟩),.int .i64 3] W λe w'=>e=.returned (.tuple #[])/\ClSt g s w k (zaA S 3) F w'):=λS W y=>
      (zcn g s S 3 W y.rd).mono (λe w' ⟨h1,h2⟩=>⟨h1,y.call Z h2⟩)
     clear hT hS O g2 hx hC hy h6 gc hD hB hi hI;go_wp2_with (go_at_call 289;apply Hid.out);refine WhM HG ?_;rintro e w3 ⟨rfl,B⟩;have g7:=hIx (B.low ((Qg w3.heap.size w3).alloc (Qd _) (.cells #[.int .u64 0,.int .u64 0,.int .u64 0,.int .u64 0] 182)));clear B;go_upto_region 9 with fail
     generalize w3.alloc (.cells #[.int .u64 0,.int .u64 0,.int .u64 0,.int .u64 0] 182)=W4 at *;have hG:=hIx (g9.out W4 g7.out);go_wp2_with (go_at_call 290;apply Hid.out);refine WhM hG ?_;rintro e w5 ⟨rfl,t⟩;have hE:=hIx (g3.out w5 t);clear t g9 hG g3 g7;go_wp2_with (go_at_call 175;apply Hid.out);refine WhM hE ?_;rintro e w6 ⟨rfl,hU⟩;have hN:=hIx hU;have ⟨c0,c1,c2,c3⟩:=hU.rd.cells;clear hU hE
     go_upto_if 42 with fail
     obtain⟨J,I⟩:∃J,N.1=J:=⟨_,rfl⟩
     rw[I];rw[I]at l;have gz:=hIx I;clear I
     go_cut [8,9]from 13 to 69 (λv8 v9 wx=>v8=.int .i64 C.1/\v9=.int .i64 (if J=true then D.1 else C.1)/\ClSt g s w k (za0 s.data.toList q).2 F wx)
     case first=>
      cases J with
      |true=>
       rw[Qi rfl]at l;have hF:=hIx (hV.out w6 hN.out);go_wp2_with (go_at_call 290;apply Hid.out);refine WhM hF ?_;rintro e w7 ⟨rfl,hw⟩;have hm:=hIx hw;have ⟨c0,c1,c2,c3⟩:=hw.rd.cells;have f1:=hw.rd.free 1;clear hw hF hV
       by_cases K:D.1<C.1
       ·have d1:decide (D.1<C.1)=true:=Qu K
        by_cases V:D.2.e=0
        ·have d2:(D.2.e==0)=true:=by rw[V];rfl
         rw[Qi ⟨K,V⟩]at l;have hA:RdEnd g s {D.2 with pos:=N.2.pos} w7 (w7.setCell ⟨g,1,none⟩ (.int .i64 (N.2.pos:Nat))):=⟨hm.out.rd.setPos _,zan (zaU w7 _) 1 _⟩
         have gx:=hIx (hr.out _ _ (hm.out.call Z hA));clear hA K V;go_wp2_with (go_at_call 138;apply Hid.out);refine WhM gx ?_;rintro e w8 ⟨rfl,U⟩;go_wp2;go_meet;exact⟨rfl,rfl,by rw[l.out];exact U⟩
        ·have d2:(D.2.e==0)=false:=Qb.2 V
         rw[Qe (λh=>V h.2)]at l;clear K V;go_wp2;go_meet;exact⟨rfl,rfl,by rw[l.out];exact hm.out⟩
       ·have d1:decide (D.1<C.1)=false:=Qs K
        rw[Qe (λh=>K h.1)]at l;clear K;go_wp2;go_meet;exact⟨rfl,rfl,by rw[l.out];exact hm.out⟩
      |false=>
       rw[Qe (by decide)]at l;go_wp2;go_meet;exact⟨rfl,rfl,by rw[l.out];exact hN.out⟩
     case rest=>
      obtain⟨rfl,rfl,U⟩:=hcut;obtain⟨lo,g5⟩:∃lo:Nat,C.1=lo:=⟨C.1.toNat,by omega⟩
      obtain⟨X,g0⟩:∃X:Nat,(if J=true then D.1 else C.1)=X:=⟨(if J=true then D.1 else C.1).toNat,by cases J;exact(Z5 hd.1).symm;exact(Z5 hc.1).symm⟩
      have gv:X<256:=by
       have:((X:Nat):Int)<256:=by (rw[<-g0];cases J;exact hd.2;exact hc.2)
       omega
      have ge:(za0 s.data.toList q).1=rgF lo X:=by
       rw[l.out];have e1:C.1.toNat=lo:=by omega
       have e2:(if J=true then D.1 else C.1).toNat=X:=by omega
       cases J
       ·have e3:C.1.toNat=X:=e2
        rw[Qe (by decide)];show rgF C.1.toNat C.1.toNat=_;rw[<-e1,<-e3]
       ·have e3:D.1.toNat=X:=e2
        rw[Qi rfl];show rgF C.1.toNat D.1.toNat=_;rw[<-e1,<-e3]
      rw[g0,g5];rw[ge]at z;obtain⟨Q,hQ⟩:∃Q,(za0 s.data.toList q).2=Q:=⟨_,rfl⟩
      rw[hQ]at U z;obtain⟨Sr,gi⟩:∃Sr,setF (rgF lo X)=Sr:=⟨_,rfl⟩
      have gg:Hid (∀W,Below wc.heap.size wc W->Calls prog 148 #[.int .i64 (lo:Int),.int .i64 (X:Int)] W λe w'=>e=.returned (.agg #[.int .u64 Sr.a,.int .u64 Sr.b,.int .u64 Sr.c,.int .u64 Sr.d])/\ClSt g s w k Q F w'):=λW y=>by
       have:=zfw lo X gv W;rw[gi]at this;exact this.mono (λe w' ⟨h1,h2⟩=>⟨h1,(U.low y).low h2⟩)
      have ⟨c0,c1,c2,c3⟩:=(show FourW wc k u from by rw[<-p];exact U.four).cells;clear hV hr gz l g0 ge hQ hN g5 hd hc;go_upto_region 17 with fail
      go_region_with (first
       |(go_at_call 148;(with_reducible refine(gg.out _ ?_).mono ?_);(first|exact Qg _ _|exact(Qg _ _).drew);rintro e w8 ⟨rfl,hR⟩;have gn:=hIx hR;have ⟨c0,c1,c2,c3⟩:=(show FourW w8 k u from by rw[<-p];exact hR.four).cells;clear hR)
       |(go_at_call 306;(refine(hk.out (rgF lo X) Sr Q w8 gi gn.out).mono ?_);rintro e w9 ⟨Su,rfl,h8,o⟩;have H:=hIx (z.out _ (o.put Z (λx=>F x||rgF lo X x)));rw[h8]at H;have ⟨c0,c1,c2,c3⟩:=(show FourW w9 k u from by rw[<-p];exact o.four).cells;have f0:=o.four.free 0;have f1:=o.four.free 1;have f2:=o.four.free 2;have f3:=o.four.free 3;clear o h8))
      all_goals
       clear gg hk U;go_wp2_with fail
       go_roundw
       case measure=>dsimp only[intOf];omega
       case rel=>exact H.out
   ·have d2:((n:Int)==0)=false:=Qb.2 (by omega)
    by_cases h9:zad s.data.toList q=93
    ·have d3:(zad s.data.toList q != 93)=false:=by rw[h9];rfl
     have ha:¬(q.e=0/\(decide (n=0)=true\/zad s.data.toList q≠93)):=λh=>by rcases h.2 with h|h;exact h0 (Zq h);exact h h9
     clear he h0 h9;go_wp2_with (go_at_call 218;apply Hid.out);refine WhM hI ?_;rintro e w9 ⟨rfl,m,rfl⟩;have A:=hJ.out.low (below_drewN (Qg _ _) m);go_upto_region 18 with fail
     generalize wr.drewN m=w2 at *;clear c0 c1 c2 c3 hJ d1 d2 d3;have gt:L=(F,q):=by rw[hB.out,Qe ha]
     have hr:Hid (∀(S:RS) (G:Nat->Bool) W,ClSt g s w k S G W->Calls prog 138 #[.pointer (some ⟨g,0,none⟩),.int .i64 3] W λe w'=>e=.returned (.tuple #[])/\ClSt g s w k (zaA S 3) G w'):=λS G W y=>
      (zcn g s S 3 W y.rd).mono (λe w' ⟨h1,h2⟩=>⟨h1,y.call Z h2⟩)
     clear hi hI hn;rw[gt]at hj g1 gD;obtain⟨J,I⟩:∃J,T.1=J:=⟨_,rfl⟩
     rw[I]at g1;obtain⟨u,p⟩:∃u,setF F=u:=⟨_,rfl⟩
     have ho:=hIx p;obtain⟨i,hu⟩:∃i,setF LF=i:=⟨_,rfl⟩
     have Y:=hIx hu;rw[hu]at hj
     have hH:i=if J=true then setF (λx=>!F x)else u:=by
      rw[<-hu,g1.out];cases J
      ·rw[Qe (by decide)];rw[<-p];rfl
      ·rw[Qi rfl];rfl
     have hh:=hIx hH;have E:=hIx A;have gQ:=A.far;clear p hu hH A
     go_upto_if 70 with fail
     rw[I];clear I
     go_cut [4]from 70 to 81 (λv4 wx=>v4=.pointer (some ⟨k,0,none⟩)/\ClSt g s w k q LF wx)
     case first=>
      have ⟨c0,c1,c2,c3⟩:=(show FourW w2 k u from by rw[<-ho.out];exact E.out.four).cells;cases J with
      |true=>
       have gp:Hid (Calls prog 286 #[.agg #[.int .u64 u.a,.int .u64 u.b,.int .u64 u.c,.int .u64 u.d]] w2 λe w'=>e=.returned (.agg #[.int .u64 i.a,.int .u64 i.b,.int .u64 i.c,.int .u64 i.d])/\Below w2.heap.size w2 w'):=by
        have:=zlh F w2;rw[ho.out]at this;have e2:=hh.out;rw[Qi rfl]at e2;rw[<-e2]at this;exact this
       go_wp2_with (go_at_call 286;apply Hid.out);refine WhM gp ?_;rintro e w3 ⟨rfl,ga⟩;have h3:=E.out.low ga;have ⟨c0,c1,c2,c3⟩:=(show FourW w3 k u from by rw[<-ho.out];exact h3.four).cells;have f0:=h3.four.free 0;have f1:=h3.four.free 1;have f2:=h3.four.free 2;have f3:=h3.four.free 3;have HP:=hIx (h3.put Z LF);rw[Y.out]at HP;clear ga h3;go_wp2;go_meet;exact⟨rfl,HP.out⟩
      |false=>
       have gf:Hid (ClSt g s w k q LF w2):=by
        have e2:=hh.out;rw[Qe (by decide)]at e2;exact⟨E.out.rd,by rw[Y.out,e2,<-ho.out];exact E.out.four,E.out.zero,E.out.frame,E.out.far⟩
       clear c0 c1 c2 c3;go_wp2;go_meet;exact⟨rfl,gf.out⟩
     case rest=>
      obtain⟨rfl,B⟩:=hcut;have hO:=hIx B;have ⟨c0,c1,c2,c3⟩:=(show FourW wc k i from by rw[<-Y.out];exact B.four).cells;have hY:∀W,_:=λW=>zfe i Set4.zero W
      unfold setV Set4.zero at hY;dsimp only at hY;clear B E hh
      go_upto_if 75 with fail
      obtain⟨cz,hK⟩:∃cz,zvO i ⟨0,0,0,0⟩=cz:=⟨_,rfl⟩
      rw[hK];have g8:Hid (decide (i=Set4.zero)=cz):=hK;clear hK hY
      go_cut [4]from 73 to 81 (λv4 wx=>v4=.pointer (some ⟨k,0,none⟩)/\ClSt g s w k LE LF wx)
      case first=>
       cases cz with
       |true=>
        have hz:i=Set4.zero:=Zq g8.out;have h7:Hid (LE=zaA q 3):=by unfold Hid;rw[hj.out,Qi hz]
        have gr:=hIx (hr.out q LF wc hO.out);clear hz;go_wp2_with (go_at_call 138;apply Hid.out);refine WhM gr ?_;rintro e w4 ⟨rfl,h4⟩;go_wp2;go_meet;exact⟨rfl,by rw[h7.out];exact h4⟩
       |false=>
        have hz:¬i=Set4.zero:=XU g8.out;have h7:Hid (LE=q):=by unfold Hid;rw[hj.out,Qe hz]
        clear hz;go_wp2;go_meet;exact⟨rfl,by rw[h7.out];exact hO.out⟩
      case rest=>
       obtain⟨rfl,P⟩:=hcut
       have gk:LE.pos<=s.size:=by
        have h1:(zaA q 3).pos=q.pos:=(zbU q 3 (by decide)).1;have h2:LE.pos=q.pos:=by rw[hj.out];split;exact h1;rfl
        omega
       have gj:Hid (Calls prog 175 #[.pointer (some ⟨g,0,none⟩),.int .i64 93] wc λe w'=>e=.returned (.bool (zaH s.data.toList LE 93).1)/\ClSt g s w k (zaH s.data.toList LE 93).2 LF w'):=
        (zcM g s LE 93 wc P.rd gk hs).mono (λe w' ⟨h1,h2⟩=>⟨h1,P.call Z h2⟩)
       clear P hO gk;go_wp2_with (go_at_call 175;apply Hid.out);refine WhM gj ?_;rintro e w5 ⟨rfl,h5⟩;have ⟨c0,c1,c2,c3⟩:=(show FourW w5 k i from by rw[<-Y.out];exact h5.four).cells;have ⟨z0,z1,z2,z3,z4,z5⟩:=h5.zero.cells;have y0:=h5.zero.free 0;have y1:=h5.zero.free 1;have y2:=h5.zero.free 2;have y3:=h5.zero.free 3;have y4:=h5.zero.free 4;have y5:=h5.zero.free 5;have HX:=hIx (h5.zero.fill (.int .i64 3) (.int .u64 i.a) (.int .u64 i.b) (.int .u64 i.c) (.int .u64 i.d) (.slice none 0 0));have hX:Below w.heap.size w5 (zah w5 w.heap.size (.int .i64 3) (.int .u64 i.a) (.int .u64 i.b) (.int .u64 i.c) (.int .u64 i.d) (.slice none 0 0)):=zbr (Qg _ _) (Qd _) _ _ _ _ _ _
       have hP:Hid (RdEnd g s CL.2 w (zah w5 w.heap.size (.int .i64 3) (.int .u64 i.a) (.int .u64 i.b) (.int .u64 i.c) (.int .u64 i.d) (.slice none 0 0))):=by
        unfold Hid;rw[gl.out];exact⟨(hX.block g Z).trans h5.rd,zcX h5.frame (Qd _) hX⟩
       have gm:Hid (byT CL.1=.node 3 i []):=by unfold Hid;rw[gl.out];unfold byT;rw[Y.out]
       have gu:i.Wf:=by rw[<-Y.out];exact zgF LF
       clear h5 hX gj;go_wp2_with fail;have ⟨s0,s1,s2,s3,s4,s5⟩:=HX.out.cells;unfold zah at s0 s1 s2 s3 s4 s5;exact Qj (v:=argX (.node 3 i []) none 0) (by simp[results,results288,go_sem,s0,s1,s2,s3,s4,s5,argX,Tree.kind,Tree.set,Tree.kids]) rfl (by rw[gm.out];exact⟨none,0,rfl,LX.leaf _ _ _ _ _ _ gu,hP.out⟩)
    ·have d3:(zad s.data.toList q != 93)=true:=Q6.2 h9
     have ha:q.e=0/\(decide (n=0)=true\/zad s.data.toList q≠93):=⟨he,.inr h9⟩
     clear he h0 h9;go_wp2_with (go_at_call 218;apply Hid.out);refine WhM hI ?_;rintro e w9 ⟨rfl,m,rfl⟩;have A:=hJ.out.low (below_drewN (Qg _ _) m);go_upto_region 6 with fail
     generalize wr.drewN m=w2 at *;clear c0 c1 c2 c3 hJ d1 d2 d3;have hT:zeU s.data.toList (za0 s.data.toList q).2 false (λx=>F x||(za0 s.data.toList q).1 x)=L:=by rw[hB.out,Qi ha]
     have gI:n<=s.size:=by unfold zbP at hn;rw[Qi ha.1]at hn;omega
     have z:Hid (∀W,ClSt g s w k (za0 s.data.toList q).2 (λx=>F x||(za0 s.data.toList q).1 x) W->zvY g s L w k (.int .i64 ((n:Int)+1)) W):=λW y=>
      ⟨n+1,_,_,by rw[Int.natCast_succ],by rw[Qs (by omega)];exact hT,by have:=hi.out.1.1.inn;omega,by have:=hi.out.2 ha.1;omega,y⟩
     have i7:IntKind.i64.wrap ((n:Int)+1)=(n:Int)+1:=Qx _ (by omega);have gJ:=A.four.lt;obtain⟨u,p⟩:∃u,setF F=u:=⟨_,rfl⟩
     have hk:Hid (∀(f:Nat->Bool) (j:Set4) (S:RS) W,setF f=j->ClSt g s w k S F W->Calls prog 306 #[.agg #[.int .u64 u.a,.int .u64 u.b,.int .u64 u.c,.int .u64 u.d],.agg #[.int .u64 j.a,.int .u64 j.b,.int .u64 j.c,.int .u64 j.d]] W λe w'=>∃Su,e=.returned (.agg #[.int .u64 Su.a,.int .u64 Su.b,.int .u64 Su.c,.int .u64 Su.d])/\setF (λx=>F x||f x)=Su/\ClSt g s w k S F w'):=λf j S W hf y=>by
      have:=zdx F f W;rw[hf,p]at this;exact this.mono (λe w' ⟨h1,h2⟩=>⟨_,h1,rfl,y.low h2⟩)
     have hS:=zdw (s:=s.data.toList) (r:=q) (by omega);cases O:(za8 s.data.toList q).1 with
     |some f=>
      have gb:za0 s.data.toList q=(f,(za8 s.data.toList q).2):=by unfold za0;rw[O]
      obtain⟨j,hZ⟩:∃j,setF f=j:=⟨_,rfl⟩
      have HG:Hid (Calls prog 289 #[.pointer (some ⟨g,0,none⟩)] w2 λe w'=>e=.returned (.tuple #[.agg #[.int .u64 j.a,.int .u64 j.b,.int .u64 j.c,.int .u64 j.d],.bool true])/\ClSt g s w k (za8 s.data.toList q).2 F w'):=
       (zdu g s q w2 A.rd hq hs).mono (λe w' ⟨h1,h2⟩=>⟨by rw[h1,O];dsimp only;rw[hZ];rfl,A.call Z h2⟩)
      rw[gb]at z;clear hT hS O gb hB hi hI;go_wp2_with (go_at_call 289;apply Hid.out);refine WhM HG ?_;rintro e w3 ⟨rfl,B⟩;have P:=B.low ((Qg w3.heap.size w3).alloc (Qd _) (.cells #[.int .u64 j.a,.int .u64 j.b,.int .u64 j.c,.int .u64 j.d] 182));have g4:FourW (w3.alloc (.cells #[.int .u64 j.a,.int .u64 j.b,.int .u64 j.c,.int .u64 j.d] 182)) w3.heap.size j:=Qp w3 _;go_upto_region 8 with fail
      generalize w3.alloc (.cells #[.int .u64 j.a,.int .u64 j.b,.int .u64 j.c,.int .u64 j.d] 182)=W4 at *;have ⟨c0,c1,c2,c3⟩:=(show FourW W4 k u from by rw[<-p];exact P.four).cells;have ⟨d0,d1,d2,d3⟩:=g4.cells;have HU:=hIx (hk.out f j _ W4 hZ P);clear P g4 B;go_wp2_with (go_at_call 306;apply Hid.out);refine WhM HU ?_;rintro e w5 ⟨Su,rfl,h8,t⟩;have H:=hIx (z.out _ (t.put Z (λx=>F x||f x)));rw[h8]at H;have ⟨c0,c1,c2,c3⟩:=(show FourW w5 k u from by rw[<-p];exact t.four).cells;have f0:=t.four.free 0;have f1:=t.four.free 1;have f2:=t.four.free 2;have f3:=t.four.free 3;clear t h8 z hk hZ;go_wp2;exact⟨H.out,by dsimp only[intOf];omega⟩
     |none=>
      have g2:(za8 s.data.toList q).2=q:=hS.2.1 O;have hx:=zcw (s:=s.data.toList) (r:=q) (by omega);obtain⟨C,hC⟩:∃C,zbi s.data.toList q=C:=⟨_,rfl⟩
      rw[hC]at hx;have hd:0<=C.1/\C.1<256:=⟨by omega,by omega⟩
      have hy:=zcV (s:=s.data.toList) (r:=C.2) hx.1.inn (b:=45) (by decide);obtain⟨N,h6⟩:∃N,zaH s.data.toList C.2 45=N:=⟨_,rfl⟩
      rw[h6]at hy;have gc:=zcw (s:=s.data.toList) (r:=N.2) hy.1.inn;obtain⟨D,hD⟩:∃D,zbi s.data.toList N.2=D:=⟨_,rfl⟩
      rw[hD]at gc;have hc:0<=D.1/\D.1<256:=⟨by omega,by omega⟩
      have gy:C.2.pos<=s.size:=by have:=hx.1.inn;omega
      have gw:N.2.pos<=s.size:=by have:=hy.1.inn;omega
      have l:Hid (za0 s.data.toList q=if N.1=true then (rgF C.1.toNat D.1.toNat,if D.1<C.1/\D.2.e=0 then zaA {D.2 with pos:=N.2.pos} 3 else D.2)else (rgF C.1.toNat C.1.toNat,N.2)):=by
       unfold Hid za0;rw[O];dsimp only;rw[hC,h6,hD]
      have HG:Hid (Calls prog 289 #[.pointer (some ⟨g,0,none⟩)] w2 λe w'=>e=.returned (.tuple #[.agg #[.int .u64 0,.int .u64 0,.int .u64 0,.int .u64 0],.bool false])/\ClSt g s w k q F w'):=
       (zdu g s q w2 A.rd hq hs).mono (λe w' ⟨h1,h2⟩=>⟨by rw[h1,O];rfl,by rw[<-g2];exact A.call Z h2⟩)
      have g9:Hid (∀W,ClSt g s w k q F W->Calls prog 290 #[.pointer (some ⟨g,0,none⟩)] W λe w'=>e=.returned (.int .i64 C.1)/\ClSt g s w k C.2 F w'):=λW y=>
       (zeh g s q W y.rd hq hs).mono (λe w' ⟨h1,h2⟩=>⟨by rw[h1,hC],by rw[hC]at h2;exact y.call Z h2⟩)
      have g3:Hid (∀W,ClSt g s w k C.2 F W->Calls prog 175 #[.pointer (some ⟨g,0,none⟩),.int .i64 45] W λe w'=>e=.returned (.bool N.1)/\ClSt g s w k N.2 F w'):=λW y=>
       (zcM g s C.2 45 W y.rd gy hs).mono (λe w' ⟨h1,h2⟩=>⟨by rw[h1,h6],by rw[h6]at h2;exact y.call Z h2⟩)
      have hV:Hid (∀W,ClSt g s w k N.2 F W->Calls prog 290 #[.pointer (some ⟨g,0,none⟩)] W λe w'=>e=.returned (.int .i64 D.1)/\ClSt g s w k D.2 F w'):=λW y=>
       (zeh g s N.2 W y.rd gw hs).mono (λe w' ⟨h1,h2⟩=>⟨by rw[h1,hD],by rw[hD]at h2;exact y.call Z h2⟩)
      have hr:Hid (∀(S:RS) W,ClSt g s w k S F W->Calls prog 138 #[.pointer (some ⟨g,0,none⟩),.int .i64 3] W λe w'=>e=.returned (.tuple #[])/\ClSt g s w k (zaA S 3) F w'):=λS W y=>
       (zcn g s S 3 W y.rd).mono (λe w' ⟨h1,h2⟩=>⟨h1,y.call Z h2⟩)
      clear hT hS O g2 hx hC hy h6 gc hD hB hi hI;go_wp2_with (go_at_call 289;apply Hid.out);refine WhM HG ?_;rintro e w3 ⟨rfl,B⟩;have g7:=hIx (B.low ((Qg w3.heap.size w3).alloc (Qd _) (.cells #[.int .u64 0,.int .u64 0,.int .u64 0,.int .u64 0] 182)));clear B;go_upto_region 9 with fail
      generalize w3.alloc (.cells #[.int .u64 0,.int .u64 0,.int .u64 0,.int .u64 0] 182)=W4 at *;have hG:=hIx (g9.out W4 g7.out);go_wp2_with (go_at_call 290;apply Hid.out);refine WhM hG ?_;rintro e w5 ⟨rfl,t⟩;have hE:=hIx (g3.out w5 t);clear t g9 hG g3 g7;go_wp2_with (go_at_call 175;apply Hid.out);refine WhM hE ?_;rintro e w6 ⟨rfl,hU⟩;have hN:=hIx hU;have ⟨c0,c1,c2,c3⟩:=hU.rd.cells;clear hU hE
      go_upto_if 42 with fail
      obtain⟨J,I⟩:∃J,N.1=J:=⟨_,rfl⟩
      rw[I];rw[I]at l;have gz:=hIx I;clear I
      go_cut [8,9]from 13 to 69 (λv8 v9 wx=>v8=.int .i64 C.1/\v9=.int .i64 (if J=true then D.1 else C.1)/\ClSt g s w k (za0 s.data.toList q).2 F wx)
      case first=>
       cases J with
       |true=>
        rw[Qi rfl]at l;have hF:=hIx (hV.out w6 hN.out);go_wp2_with (go_at_call 290;apply Hid.out);refine WhM hF ?_;rintro e w7 ⟨rfl,hw⟩;have hm:=hIx hw;have ⟨c0,c1,c2,c3⟩:=hw.rd.cells;have f1:=hw.rd.free 1;clear hw hF hV
        by_cases K:D.1<C.1
        ·have d1:decide (D.1<C.1)=true:=Qu K
         by_cases V:D.2.e=0
         ·have d2:(D.2.e==0)=true:=by rw[V];rfl
          rw[Qi ⟨K,V⟩]at l;have hA:RdEnd g s {D.2 with pos:=N.2.pos} w7 (w7.setCell ⟨g,1,none⟩ (.int .i64 (N.2.pos:Nat))):=⟨hm.out.rd.setPos _,zan (zaU w7 _) 1 _⟩
          have gx:=hIx (hr.out _ _ (hm.out.call Z hA));clear hA K V;go_wp2_with (go_at_call 138;apply Hid.out);refine WhM gx ?_;rintro e w8 ⟨rfl,U⟩;go_wp2;go_meet;exact⟨rfl,rfl,by rw[l.out];exact U⟩
         ·have d2:(D.2.e==0)=false:=Qb.2 V
          rw[Qe (λh=>V h.2)]at l;clear K V;go_wp2;go_meet;exact⟨rfl,rfl,by rw[l.out];exact hm.out⟩
        ·have d1:decide (D.1<C.1)=false:=Qs K
         rw[Qe (λh=>K h.1)]at l;clear K;go_wp2;go_meet;exact⟨rfl,rfl,by rw[l.out];exact hm.out⟩
       |false=>
        rw[Qe (by decide)]at l;go_wp2;go_meet;exact⟨rfl,rfl,by rw[l.out];exact hN.out⟩
      case rest=>
       obtain⟨rfl,rfl,U⟩:=hcut;obtain⟨lo,g5⟩:∃lo:Nat,C.1=lo:=⟨C.1.toNat,by omega⟩
       obtain⟨X,g0⟩:∃X:Nat,(if J=true then D.1 else C.1)=X:=⟨(if J=true then D.1 else C.1).toNat,by cases J;exact(Z5 hd.1).symm;exact(Z5 hc.1).symm⟩
       have gv:X<256:=by
        have:((X:Nat):Int)<256:=by (rw[<-g0];cases J;exact hd.2;exact hc.2)
        omega
       have ge:(za0 s.data.toList q).1=rgF lo X:=by
        rw[l.out];have e1:C.1.toNat=lo:=by omega
        have e2:(if J=true then D.1 else C.1).toNat=X:=by omega
        cases J
        ·have e3:C.1.toNat=X:=e2
         rw[Qe (by decide)];show rgF C.1.toNat C.1.toNat=_;rw[<-e1,<-e3]
        ·have e3:D.1.toNat=X:=e2
         rw[Qi rfl];show rgF C.1.toNat D.1.toNat=_;rw[<-e1,<-e3]
       rw[g0,g5];rw[ge]at z;obtain⟨Q,hQ⟩:∃Q,(za0 s.data.toList q).2=Q:=⟨_,rfl⟩
       rw[hQ]at U z;obtain⟨Sr,gi⟩:∃Sr,setF (rgF lo X)=Sr:=⟨_,rfl⟩
       have gg:Hid (∀W,Below wc.heap.size wc W->Calls prog 148 #[.int .i64 (lo:Int),.int .i64 (X:Int)] W λe w'=>e=.returned (.agg #[.int .u64 Sr.a,.int .u64 Sr.b,.int .u64 Sr.c,.int .u64 Sr.d])/\ClSt g s w k Q F w'):=λW y=>by
        have:=zfw lo X gv W;rw[gi]at this;exact this.mono (λe w' ⟨h1,h2⟩=>⟨h1,(U.low y).low h2⟩)
       have ⟨c0,c1,c2,c3⟩:=(show FourW wc k u from by rw[<-p];exact U.four).cells;clear hV hr gz l g0 ge hQ hN g5 hd hc;go_upto_region 17 with fail
       go_region_with (first
        |(go_at_call 148;(with_reducible refine(gg.out _ ?_).mono ?_);(first|exact Qg _ _|exact(Qg _ _).drew);rintro e w8 ⟨rfl,hR⟩;have gn:=hIx hR;have ⟨c0,c1,c2,c3⟩:=(show FourW w8 k u from by rw[<-p];exact hR.four).cells;clear hR)
        |(go_at_call 306;(refine(hk.out (rgF lo X) Sr Q w8 gi gn.out).mono ?_);rintro e w9 ⟨Su,rfl,h8,o⟩;have H:=hIx (z.out _ (o.put Z (λx=>F x||rgF lo X x)));rw[h8]at H;have ⟨c0,c1,c2,c3⟩:=(show FourW w9 k u from by rw[<-p];exact o.four).cells;have f0:=o.four.free 0;have f1:=o.four.free 1;have f2:=o.four.free 2;have f3:=o.four.free 3;clear o h8))
       all_goals
        clear gg hk U;go_wp2_with fail
        go_roundw
        case measure=>dsimp only[intOf];omega
        case rel=>exact H.out
  ·have d1:(q.e==0)=false:=Qb.2 he
   have ha:¬(q.e=0/\(decide (n=0)=true\/zad s.data.toList q≠93)):=λh=>he h.1
   clear he;go_upto_region 18 with fail
   have A:=hJ.out;obtain⟨w2,rfl⟩:∃w2:World,w2=wr:=⟨_,rfl⟩
   clear c0 c1 c2 c3 hJ d1;have gt:L=(F,q):=by rw[hB.out,Qe ha]
   have hr:Hid (∀(S:RS) (G:Nat->Bool) W,ClSt g s w k S G W->Calls prog 138 #[.pointer (some ⟨g,0,none⟩),.int .i64 3] W λe w'=>e=.returned (.tuple #[])/\ClSt g s w k (zaA S 3) G w'):=λS G W y=>
    (zcn g s S 3 W y.rd).mono (λe w' ⟨h1,h2⟩=>⟨h1,y.call Z h2⟩)
   clear hi hI hn;rw[gt]at hj g1 gD;obtain⟨J,I⟩:∃J,T.1=J:=⟨_,rfl⟩
   rw[I]at g1;obtain⟨u,p⟩:∃u,setF F=u:=⟨_,rfl⟩
   have ho:=hIx p;obtain⟨i,hu⟩:∃i,setF LF=i:=⟨_,rfl⟩
   have Y:=hIx hu;rw[hu]at hj
   have hH:i=if J=true then setF (λx=>!F x)else u:=by
    rw[<-hu,g1.out];cases J
    ·rw[Qe (by decide)];rw[<-p];rfl
    ·rw[Qi rfl];rfl
   have hh:=hIx hH;have E:=hIx A;have gQ:=A.far;clear p hu hH A
   go_upto_if 70 with fail
   rw[I];clear I
   go_cut [4]from 70 to 81 (λv4 wx=>v4=.pointer (some ⟨k,0,none⟩)/\ClSt g s w k q LF wx)
   case first=>
    have ⟨c0,c1,c2,c3⟩:=(show FourW w2 k u from by rw[<-ho.out];exact E.out.four).cells;cases J with
    |true=>
     have gp:Hid (Calls prog 286 #[.agg #[.int .u64 u.a,.int .u64 u.b,.int .u64 u.c,.int .u64 u.d]] w2 λe w'=>e=.returned (.agg #[.int .u64 i.a,.int .u64 i.b,.int .u64 i.c,.int .u64 i.d])/\Below w2.heap.size w2 w'):=by
      have:=zlh F w2;rw[ho.out]at this;have e2:=hh.out;rw[Qi rfl]at e2;rw[<-e2]at this;exact this
     go_wp2_with (go_at_call 286;apply Hid.out);refine WhM gp ?_;rintro e w3 ⟨rfl,ga⟩;have h3:=E.out.low ga;have ⟨c0,c1,c2,c3⟩:=(show FourW w3 k u from by rw[<-ho.out];exact h3.four).cells;have f0:=h3.four.free 0;have f1:=h3.four.free 1;have f2:=h3.four.free 2;have f3:=h3.four.free 3;have HP:=hIx (h3.put Z LF);rw[Y.out]at HP;clear ga h3;go_wp2;go_meet;exact⟨rfl,HP.out⟩
    |false=>
     have gf:Hid (ClSt g s w k q LF w2):=by
      have e2:=hh.out;rw[Qe (by decide)]at e2;exact⟨E.out.rd,by rw[Y.out,e2,<-ho.out];exact E.out.four,E.out.zero,E.out.frame,E.out.far⟩
     clear c0 c1 c2 c3;go_wp2;go_meet;exact⟨rfl,gf.out⟩
   case rest=>
    obtain⟨rfl,B⟩:=hcut;have hO:=hIx B;have ⟨c0,c1,c2,c3⟩:=(show FourW wc k i from by rw[<-Y.out];exact B.four).cells;have hY:∀W,_:=λW=>zfe i Set4.zero W
    unfold setV Set4.zero at hY;dsimp only at hY;clear B E hh
    go_upto_if 75 with fail
    obtain⟨cz,hK⟩:∃cz,zvO i ⟨0,0,0,0⟩=cz:=⟨_,rfl⟩
    rw[hK];have g8:Hid (decide (i=Set4.zero)=cz):=hK;clear hK hY
    go_cut [4]from 73 to 81 (λv4 wx=>v4=.pointer (some ⟨k,0,none⟩)/\ClSt g s w k LE LF wx)
    case first=>
     cases cz with
     |true=>
      have hz:i=Set4.zero:=Zq g8.out;have h7:Hid (LE=zaA q 3):=by unfold Hid;rw[hj.out,Qi hz]
      have gr:=hIx (hr.out q LF wc hO.out);clear hz;go_wp2_with (go_at_call 138;apply Hid.out);refine WhM gr ?_;rintro e w4 ⟨rfl,h4⟩;go_wp2;go_meet;exact⟨rfl,by rw[h7.out];exact h4⟩
     |false=>
      have hz:¬i=Set4.zero:=XU g8.out;have h7:Hid (LE=q):=by unfold Hid;rw[hj.out,Qe hz]
      clear hz;go_wp2;go_meet;exact⟨rfl,by rw[h7.out];exact hO.out⟩
    case rest=>
     obtain⟨rfl,P⟩:=hcut
     have gk:LE.pos<=s.size:=by
      have h1:(zaA q 3).pos=q.pos:=(zbU q 3 (by decide)).1;have h2:LE.pos=q.pos:=by rw[hj.out];split;exact h1;rfl
      omega
     have gj:Hid (Calls prog 175 #[.pointer (some ⟨g,0,none⟩),.int .i64 93] wc λe w'=>e=.returned (.bool (zaH s.data.toList LE 93).1)/\ClSt g s w k (zaH s.data.toList LE 93).2 LF w'):=
      (zcM g s LE 93 wc P.rd gk hs).mono (λe w' ⟨h1,h2⟩=>⟨h1,P.call Z h2⟩)
     clear P hO gk;go_wp2_with (go_at_call 175;apply Hid.out);refine WhM gj ?_;rintro e w5 ⟨rfl,h5⟩;have ⟨c0,c1,c2,c3⟩:=(show FourW w5 k i from by rw[<-Y.out];exact h5.four).cells;have ⟨z0,z1,z2,z3,z4,z5⟩:=h5.zero.cells;have y0:=h5.zero.free 0;have y1:=h5.zero.free 1;have y2:=h5.zero.free 2;have y3:=h5.zero.free 3;have y4:=h5.zero.free 4;have y5:=h5.zero.free 5;have HX:=hIx (h5.zero.fill (.int .i64 3) (.int .u64 i.a) (.int .u64 i.b) (.int .u64 i.c) (.int .u64 i.d) (.slice none 0 0));have hX:Below w.heap.size w5 (zah w5 w.heap.size (.int .i64 3) (.int .u64 i.a) (.int .u64 i.b) (.int .u64 i.c) (.int .u64 i.d) (.slice none 0 0)):=zbr (Qg _ _) (Qd _) _ _ _ _ _ _
     have hP:Hid (RdEnd g s CL.2 w (zah w5 w.heap.size (.int .i64 3) (.int .u64 i.a) (.int .u64 i.b) (.int .u64 i.c) (.int .u64 i.d) (.slice none 0 0))):=by
      unfold Hid;rw[gl.out];exact⟨(hX.block g Z).trans h5.rd,zcX h5.frame (Qd _) hX⟩
     have gm:Hid (byT CL.1=.node 3 i []):=by unfold Hid;rw[gl.out];unfold byT;rw[Y.out]
     have gu:i.Wf:=by rw[<-Y.out];exact zgF LF
     clear h5 hX gj;go_wp2_with fail;have ⟨s0,s1,s2,s3,s4,s5⟩:=HX.out.cells;unfold zah at s0 s1 s2 s3 s4 s5;exact Qj (v:=argX (.node 3 i []) none 0) (by simp[results,results288,go_sem,s0,s1,s2,s3,s4,s5,argX,Tree.kind,Tree.set,Tree.kids]) rfl (by rw[gm.out];exact⟨none,0,rfl,LX.leaf _ _ _ _ _ _ gu,hP.out⟩)
