/- Lemmas for the last texts. -/
import Derived.Test.YtnnokglddolglaaGreatDoorM38
set_option maxHeartbeats 6400000
set_option maxRecDepth 100000
namespace Go.Proofs.YtnnokglddolglaaGreatDoor
open Go.RowKit Go.Proofs.Tryz
def R3'(w:World)(g:Nat)(a b:Int)(v:Value):Prop:=w.heap[g]? = some (.cells #[jA a,jA b,v] 24 (0,0))
def V4(w:World)(g:Nat)(a b c:Int)(v:Value):Prop:=w.heap[g]? = some (.cells #[jA a,jA b,jA c,v] 33 (0,0))
def putV(w:World)(g:Nat)(a b c:Int)(v:Value):World:=(((w.setCell g (jA a)).setCell ⟨g,1,none⟩ (jA b)).setCell ⟨g,2,none⟩ (jA c)).setCell ⟨g,3,none⟩ v
theorem zfC(w:World)(g:Nat)(a b c:Int)(v:Value):(((w.setCell g (jA a)).setCell ⟨g,1,none⟩ (jA b)).setCell ⟨g,2,none⟩ (jA c)).setCell ⟨g,3,none⟩ v=putV w g a b c v:=rfl
theorem V4.set{w:World}{g:Nat}{a b c:Int}{v:Value}(h:V4 w g a b c v)(x y z:Int)(u:Value):V4 (putV w g x y z u) g x y z u:=by
 have d:V4 (w.setCell g (jA x)) g x b c v:=Q3 w g 0 _ _ _ h;have h1:V4 ((w.setCell g (jA x)).setCell ⟨g,1,none⟩ (jA y)) g x y c v:=Q3 _ g 1 _ _ _ d;have h2:V4 (((w.setCell g (jA x)).setCell ⟨g,1,none⟩ (jA y)).setCell ⟨g,2,none⟩ (jA z)) g x y z v:=Q3 _ g 2 _ _ _ h1;exact Q3 _ g 3 _ _ _ h2
theorem V4.four{w:World}{g:Nat}{a b c:Int}{v:Value}(h:V4 w g a b c v):w.cell? g=some (jA a)/\w.cell? ⟨g,1,none⟩=some (jA b)/\w.cell? ⟨g,2,none⟩=some (jA c)/\w.cell? ⟨g,3,none⟩=some v:=
 ⟨Qf _ _ 0 _ _ _ h,Qf _ _ 1 _ _ _ h,Qf _ _ 2 _ _ _ h,Qf _ _ 3 _ _ _ h⟩
theorem V4.free{w:World}{g:Nat}{a b c:Int}{v:Value}(h:V4 w g a b c v)(j:Nat):w.frozen? ⟨g,j,none⟩=false:=Z4 _ _ j _ _ h
theorem zsm(w:World)(g:Nat)(a b c:Int)(v:Value)(k:Nat)(h:k≠g):(putV w g a b c v).heap[k]? = w.heap[k]? := by
 unfold putV;rw[Qk _ _ _ _ h,Qk _ _ _ _ h,Qk _ _ _ _ h,Qk _ _ _ _ h]
theorem zf5{B:Nat}{e w:World}(h:Below B e w){g:Nat}(d:B<=g)(a b c:Int)(v:Value):Below B e (putV w g a b c v):=
 (((h.setCell (p:=⟨g,0,none⟩) d _).setCell (p:=⟨g,1,none⟩) d _).setCell (p:=⟨g,2,none⟩) d _).setCell (p:=⟨g,3,none⟩) d _
def zpc(c:Nat)(l:List RuM)(b:World)(v i:Value)(wr:World):Prop:=
 ∃a:List Nat,i=jA (a.length:Int)/\Built c l b a v wr
structure RunIn(a:RuArg)(m t b:ByteArray)(fs:List zal)(A:Option Addr)(cl most:Nat)(w:World):Prop where
 lies:RuLies w w.heap.size a
 bulk:zdb a
 f:Sl w w.heap.size 2 A fs.length (fs.flatMap zaA)
 fz:∀f∈fs,f.1.size<=maxLen/\f.2.size<=4194304
 fl:fs.length<=4194304
 tz:t.size<=4194304
 bz:b.size<=4194304
 mz:most<=1048576
 cz:cl<4294967296
 lib:LibOk w
 tab:TabOk w
theorem zye(t:ByteArray)(a:List zal)(b:ByteArray)(most:Nat):(ofP t a b most).2.1.length<=most+20/\(ofP t a b most).2.2.length<=most:=by
 have h1:=zly a b (most-(zcP (Lib.cut t.data.toList [63]).2.1).length);unfold ofP;dsimp only
 split
 ·exact⟨Qm _,Qm _⟩
 split
 ·exact⟨Qm _,Qm _⟩
 split
 ·exact⟨Qm _,Qm _⟩
 ·refine⟨?_,by dsimp only;omega⟩
  dsimp only;rw[Qa];omega
theorem zyo(a:RuArg)(m t b:ByteArray)(u:List zal)(A:Option Addr)(c cl most:Nat)(w:World)(h:RunIn a m t b u A cl most w):
 Calls prog 7 #[a.value,.agg #[.string m,.string t,.slice A u.length c,.string b],.int .u32 (cl:Int),jA (most:Int)] w (zg7 (runG a.set m t b u cl most) w):=by
 obtain⟨L,hx⟩:∃L,(((w.alloc (.cells #[jA a.most,jA a.status,.slice a.A a.l.length a.c] 24)).alloc (.cells #[.string m,.string t,.slice A u.length c,.string b] 29)).alloc (.cells #[jA 0,jA 0,jA 0,jD 0 0] 33))=L:=⟨_,rfl⟩
 have kB:L.heap.size=w.heap.size+3:=by rw[<-hx];simp
 have h8:w L:=by rw[<-hx];exact(WaL.alloc (by simp) _).alloc (by simp;omega) _
 have hR:R3' L w.heap.size a.most a.status (.slice a.A a.l.length a.c):=by
  rw[<-hx];exact(Qr _ _ _ (by simp only[Qp];omega)).trans ((Qr _ _ _ (by simp only[Qp];omega)).trans (Qt w _))
 have hQ:L.heap[w.heap.size+1]? = some (.cells #[.string m,.string t,.slice A u.length c,.string b] 29 (0,0)):=by
  rw[<-hx];exact(Qr _ _ _ (by simp only[Qp];omega)).trans (zbu _ _ _ (by simp only[Qp]))
 have hV:V4 L (w.heap.size+1+1) 0 0 0 (jD 0 0):=by
  rw[<-hx];exact zbu _ _ _ (by simp only[Qp])
 have gv:∀W,L W->R3' W w.heap.size a.most a.status (.slice a.A a.l.length a.c)/\W.heap[w.heap.size+1]? = some (.cells #[.string m,.string t,.slice A u.length c,.string b] 29 (0,0))/\V4 W (w.heap.size+1+1) 0 0 0 (jD 0 0)/\w W:=λW hb=>
  ⟨(hb.block _ (by omega)).trans hR,(hb.block _ (by omega)).trans hQ,(hb.block _ (by omega)).trans hV,h8.trans (hb.mono h8.size)⟩
 have g0:=hIx gv;have gA:Hid (Calls prog 27 #[.agg #[jA a.most,jA a.status,.slice a.A a.l.length a.c]] L (zbl (zbf argC a.set) L)):=zmN a L (h.lies.keep h8 h8.size) h.bulk (h.lib.below h8)
 have hU:Hid (∀W,L W->Calls prog 28 #[.agg #[.string m,.string t,.slice A u.length c,.string b],.int .u32 (cl:Int),jA (most:Int)] W (zlk t u b most W)):=λW hb=>by
  have hN:=h8.trans (hb.mono h8.size);exact zyr m t b u A c cl most W ((h.f.below hN).more hN.size) h.fz h.fl h.tz h.bz (by have:=h.mz;omega) (h.lib.below hN)
 have HG:Hid (runG a.set m t b u cl most=if zbf argC a.set≠0 then (zbf argC a.set,run0)else if (ofP t u b most).1≠0 then ((ofP t u b most).1,run0)else (0,runS (λsc x=>isR x m t b u cl sc (ofP t u b most).2.1 (ofP t u b most).2.2) a.set)):=rfl;have gk:=zye t u b most;generalize runG a.set m t b u cl most=G at *;unfold zlk at hU;obtain⟨O,hO⟩:∃O,ofP t u b most=O:=⟨_,rfl⟩
 rw[hO]at hU HG gk;obtain⟨C,hC⟩:∃C,zbf argC a.set=C:=⟨_,rfl⟩
 rw[hC]at gA HG;have HH:=hIx h;have HC:=hIx hC;have kE:=hIx hx
 have gq:Hid (∀(E:Int) W,G=(E,run0)->w W->zg7 G w (jC (.tuple #[.agg #[jA 0,jA 0,jA 0,jD 0 0],jA E])) W):=λE W h1 h2=>by
  rw[h1];exact⟨jD 0 0,rfl,OwnG.nil _ _ _,h2⟩
 have kL:w.heap.size<L.heap.size:=by omega
 have kJ:w.heap.size+1<L.heap.size:=by omega
 have kI:w.heap.size+1+1<L.heap.size:=by omega
 have r0:L.cell? w.heap.size=some (jA a.most):=Qf _ _ 0 _ _ _ hR;have r1:L.cell? ⟨w.heap.size,1,none⟩=some (jA a.status):=Qf _ _ 1 _ _ _ hR;have r2:L.cell? ⟨w.heap.size,2,none⟩=some (.slice a.A a.l.length a.c):=Qf _ _ 2 _ _ _ hR;unfold RuArg.value;clear hx hR hQ hV gv hO hC h kB h8
 go_in
 go_upto_region 1 with fail
 rw[kE.out];go_wp2_with (go_at_call 27;apply Hid.out);refine WhM gA ?_;rintro e w1 ⟨rfl,ht⟩;have ⟨kj,hK,hv,g6⟩:=g0.out w1 ht;have v0:w1.cell? (w.heap.size+1+1:)=some (jA 0):=Qf _ _ 0 _ _ _ hv;have Q:w1.cell? ⟨w.heap.size+1+1,1,none⟩=some (jA 0):=Qf _ _ 1 _ _ _ hv;have v2:w1.cell? ⟨w.heap.size+1+1,2,none⟩=some (jA 0):=Qf _ _ 2 _ _ _ hv;have v3:w1.cell? ⟨w.heap.size+1+1,3,none⟩=some (jD 0 0):=Qf _ _ 3 _ _ _ hv;have f0:∀j,w1.frozen? ⟨w.heap.size+1+1,j,none⟩=false:=λj=>Z4 _ _ j _ _ hv
 have Y:=f0 0;have T:=f0 1;have V:=f0 2;have P:=f0 3;clear r0 r1 r2 f0
 by_cases hc:C=0
 rotate_left
 ·have n0:(C != 0)=true:=Q7.2 hc
  have HP:=hIx (gq.out C);have k9:G=(C,run0):=by rw[HG.out,Qg hc]
  have gm:=hIx k9;clear hc k9 kj hK HG hU;go_wp2_with fail;rw[zfC];have ⟨t0,t1,t2,t3⟩:=(hv.set 0 0 0 (jD 0 0)).four;have HF:=hIx (HP.out _ gm.out (zf5 g6 (show w.heap.size<=w.heap.size+1+1 by omega) 0 0 0 (jD 0 0)));exact Qi (v:=.tuple #[.agg #[jA 0,jA 0,jA 0,jD 0 0],jA C]) (by simp[results,results7,go_sem,t0,t1,t2,t3]) rfl HF.out
 ·subst hc
  have gn:Hid (G=if O.1≠0 then (O.1,run0)else (0,runS (λsc x=>isR x m t b u cl sc O.2.1 O.2.2) a.set)):=by unfold Hid;rw[HG.out,Qe (by decide)]
  have HO:=hIx (hU.out w1 ht);have q0:w1.cell? (w.heap.size+1:)=some (.string m):=Qf _ _ 0 _ _ _ hK;have q1:w1.cell? ⟨w.heap.size+1,1,none⟩=some (.string t):=Qf _ _ 1 _ _ _ hK;have q2:w1.cell? ⟨w.heap.size+1,2,none⟩=some (.slice A u.length c):=Qf _ _ 2 _ _ _ hK;have q3:w1.cell? ⟨w.heap.size+1,3,none⟩=some (.string b):=Qf _ _ 3 _ _ _ hK;have gT:=ht.size;clear HG gA hU kj hK hv v0 Q v2 v3 Y T V P;go_wp2_with (go_at_call 28;apply Hid.out);refine WhM HO ?_;rintro e w2 ⟨vl,vc,rfl,hY,g9,g3⟩;have hL:=ht.trans (g3.mono gT);have ⟨gO,hI,h6,gf⟩:=g0.out w2 hL;obtain⟨Al,kg,rfl,_⟩:=hY.form;obtain⟨Ac,ke,rfl,_⟩:=g9.form
  by_cases h0:O.1=0
  rotate_left
  ·have n0:(O.1 != 0)=true:=Q7.2 h0
   have HP:=hIx (gq.out O.1);have gm:Hid (G=(O.1,run0)):=by unfold Hid;rw[gn.out,Qg h0]
   have ⟨v0,Q,v2,v3⟩:=h6.four;have Y:=h6.free 0;have T:=h6.free 1;have V:=h6.free 2;have P:=h6.free 3;have ⟨t0,t1,t2,t3⟩:=(h6.set 0 0 0 (jD 0 0)).four;have HF:=hIx (HP.out _ gm.out (zf5 gf (show w.heap.size<=w.heap.size+1+1 by omega) 0 0 0 (jD 0 0)));obtain⟨E,hE⟩:∃E,O.1=E:=⟨_,rfl⟩
   rw[hE]at n0 HF ⊢;clear h0 gm HP gO hI gn hY g9 h6 q0 q1 q2 q3 hE;generalize O.2.1.length=n1;generalize O.2.2.length=n2;have Z:=hIx (And.intro t0 (And.intro t1 (And.intro t2 t3)));clear t0 t1 t2 t3;go_wp2_with fail;rw[zfC];exact Qi (v:=.tuple #[.agg #[jA 0,jA 0,jA 0,jD 0 0],jA E]) (by simp[results,results7,go_sem,Z.out.1,Z.out.2.1,Z.out.2.2.1,Z.out.2.2.2]) rfl HF.out
  ·have gL:Hid (G=(0,runS (λsc x=>isR x m t b u cl sc O.2.1 O.2.2) a.set)):=by unfold Hid;rw[gn.out,Qe (λh=>h h0)]
   rw[h0];obtain⟨O1,L1,L2⟩:=O;dsimp only at gL gk hY g9 ⊢;have q0:w2.cell? (w.heap.size+1:)=some (.string m):=Qf _ _ 0 _ _ _ hI;have q1:w2.cell? ⟨w.heap.size+1,1,none⟩=some (.string t):=Qf _ _ 1 _ _ _ hI;have q2:w2.cell? ⟨w.heap.size+1,2,none⟩=some (.slice A u.length c):=Qf _ _ 2 _ _ _ hI;have q3:w2.cell? ⟨w.heap.size+1,3,none⟩=some (.string b):=Qf _ _ 3 _ _ _ hI;have r2:w2.cell? ⟨w.heap.size,2,none⟩=some (.slice a.A a.l.length a.c):=Qf _ _ 2 _ _ _ gO;obtain⟨q,hq⟩:∃q:RunQ,q=⟨m,t,b,u,A,c,cl,L1,Al,kg,L2,Ac,ke⟩:=⟨_,rfl⟩
   obtain⟨w3,hZ⟩:∃w3,w2.alloc (.cells #[.string m,.string t,.slice A u.length c,.string b,.int .u32 (cl:Int),.slice Al L1.length kg,.slice Ac L2.length ke,jA 0,jA 0,jA 0,jD 0 0,jA 0,.bool false] 81)=w3:=⟨_,rfl⟩
   have kc:UBox w2.heap.size q.uc run0 (jD 0 0) w3:=by rw[<-hZ,hq];exact Qt w2 _
   have hD:w2 w3:=by rw[<-hZ];exact WaL
   have kO:w3.heap.size=w2.heap.size+1:=by rw[<-hZ];simp
   have gS:=hL.trans (hD.mono hL.size);have kH:=hL.size;have r3:=zaa hD r2;have kp:=hIx hZ;have gR:=hIx kc;have kY:=hIx gS;have he:=hIx hD;have kx:=hIx hL;have gH:=hIx hY;have gB:=hIx g9;have ha:=hIx gf;have kK:w.heap.size<=w1.heap.size:=g6.size;have kG:=g3.size;have kX:a.l.length<=1048576:=HH.out.bulk.len;have gD:=hIx hq;clear hZ kc gS hD hY g9 gO hI h6 gn h0 gf g3 hL ht g6 hq;go_upto_region 8 with fail
   rw[kp.out];clear q0 q1 q2 q3 r2
   have gx:Hid (∀W,w3 W->∀k (hk:k<a.l.length),∃b off,a.A=some ⟨b,off,none⟩/\b<W.heap.size/\∀j,j<9->∀v,(za4 a.l[k])[j]? = some v->W.cell? ⟨b,off+k*9+j,none⟩=some v):=λW hb k hk=>by
    have hN:=ha.out.trans ((he.out.trans (hb.mono he.out.size)).mono ha.out.size);obtain⟨b,off,e,h1,h2⟩:=zwL (HH.out.lies.sl.below hN) k hk;exact⟨b,off,e,Qv h1 hN.size,h2⟩
   obtain⟨AA,gM⟩:∃AA,a.A=AA:=⟨_,rfl⟩
   rw[gM]at r3 gx;rw[gM];clear gM;go_wp2
   go_loopw [15,45] (λv i wr=>zpc w3.heap.size a.l w3 v i wr) (λ_ i _=>a.l.length-(intOf i).toNat)
   case atStart=>exact⟨[],rfl,Built.nil⟩
   case round=>
    obtain⟨F,rfl,hB⟩:=hrel;have gX:=hB.below.size;obtain⟨Av,cv,rfl,_⟩:=hB.own.form
    by_cases gU:F.length<a.l.length
    ·have d1:decide ((F.length:Int)<(a.l.length:Int))=true:=by simp;omega
     have i7:IntKind.i64.wrap ((F.length:Int)+1)=(F.length:Int)+1:=Qx _ (by omega);obtain⟨b',off,rfl,kM,H⟩:=gx.out wr hB.below F.length gU;have gc:=hIx (λ(v':Value) (ko kz:World) (g:Nat)=>hB.push (v':=v') (w2:=ko) (w3:=kz) (g:=g) gU gX);generalize a.l[F.length]=X at *;have c0:=H 0 (by decide) _ rfl;have c1:=H 1 (by decide) _ rfl;have c2:=H 2 (by decide) _ rfl;have c3:=H 3 (by decide) _ rfl;have c4:=H 4 (by decide) _ rfl;have c5:=H 5 (by decide) _ rfl;have c6:=H 6 (by decide) _ rfl;have c7:=H 7 (by decide) _ rfl;have c8:=H 8 (by decide) _ rfl;rw[XI]at c0;obtain⟨B,gj⟩:∃B,wr.alloc (.cells #[jA X.r.id,jA X.r.phase,.slice X.vA X.r.vars.length X.vc,.slice X.pA X.r.pipe.length X.pc,.bool X.r.no,jA X.r.op,.string X.r.arg,.slice X.aA X.r.acts.length X.ac,.bool X.r.chain] 42)=B:=⟨_,rfl⟩
     have g8:wr B:=by rw[<-gj];exact WaL
     have gC:R9 B wr.heap.size (jA X.r.id) (jA X.r.phase) (.slice X.vA X.r.vars.length X.vc) (.slice X.pA X.r.pipe.length X.pc) (.bool X.r.no) (jA X.r.op) (.string X.r.arg) (.slice X.aA X.r.acts.length X.ac) (.bool X.r.chain):=by rw[<-gj];exact Qt wr _
     have ⟨k0,k1,k2,k3,k4,k5,k6,k7,k8⟩:=gC.cells9;have kq:wr.heap.size<B.heap.size:=gC.lt;have HB:=hIx hB;have kt:=hIx gj;have kU:=hIx g8;have kV:=hB.len;have ki:Hid (OwnG rowP B w3.heap.size (.slice Av F.length cv) F):=hB.own.below g8;have gI:B (B.alloc (.cells #[jA X.r.id,jA X.r.phase,.slice X.vA X.r.vars.length X.vc,.slice X.pA X.r.pipe.length X.pc,.bool X.r.no,jA X.r.op,.string X.r.arg,.slice X.aA X.r.acts.length X.ac,.bool X.r.chain,.int .u32 0,.int .i32 0,.int .u32 0,.nilFunc] 97)):=by exact WaL
     have kb:RBox B.heap.size (zhW X) 0 0 .nilFunc (B.alloc (.cells #[jA X.r.id,jA X.r.phase,.slice X.vA X.r.vars.length X.vc,.slice X.pA X.r.pipe.length X.pc,.bool X.r.no,jA X.r.op,.string X.r.arg,.slice X.aA X.r.acts.length X.ac,.bool X.r.chain,.int .u32 0,.int .i32 0,.int .u32 0,.nilFunc] 97)):=by exact Qt B _
     have hT:wr (B.alloc (.cells #[jA X.r.id,jA X.r.phase,.slice X.vA X.r.vars.length X.vc,.slice X.pA X.r.pipe.length X.pc,.bool X.r.no,jA X.r.op,.string X.r.arg,.slice X.aA X.r.acts.length X.ac,.bool X.r.chain,.int .u32 0,.int .i32 0,.int .u32 0,.nilFunc] 97)):=g8.trans (gI.mono g8.size);have km:Hid (OwnG rowP (B.alloc (.cells #[jA X.r.id,jA X.r.phase,.slice X.vA X.r.vars.length X.vc,.slice X.pA X.r.pipe.length X.pc,.bool X.r.no,jA X.r.op,.string X.r.arg,.slice X.aA X.r.acts.length X.ac,.bool X.r.chain,.int .u32 0,.int .i32 0,.int .u32 0,.nilFunc] 97)) w3.heap.size (.slice Av F.length cv) F):=ki.out.below gI;have kD:=hIx kb;have kf:=hIx hT;have kd:w3.heap.size<=(B.alloc (.cells #[jA X.r.id,jA X.r.phase,.slice X.vA X.r.vars.length X.vc,.slice X.pA X.r.pipe.length X.pc,.bool X.r.no,jA X.r.op,.string X.r.arg,.slice X.aA X.r.acts.length X.ac,.bool X.r.chain,.int .u32 0,.int .i32 0,.int .u32 0,.nilFunc] 97)).heap.size:=Ql gX hT.size;have kl:wr.heap.size<=B.heap.size:=QX kq
     have z:Hid (∀Q hd,OwnG rowP hd w3.heap.size Q (F++[B.heap.size])->Below w3.heap.size (B.alloc (.cells #[jA X.r.id,jA X.r.phase,.slice X.vA X.r.vars.length X.vc,.slice X.pA X.r.pipe.length X.pc,.bool X.r.no,jA X.r.op,.string X.r.arg,.slice X.aA X.r.acts.length X.ac,.bool X.r.chain,.int .u32 0,.int .i32 0,.int .u32 0,.nilFunc] 97)) hd->(∀k,k<(B.alloc (.cells #[jA X.r.id,jA X.r.phase,.slice X.vA X.r.vars.length X.vc,.slice X.pA X.r.pipe.length X.pc,.bool X.r.no,jA X.r.op,.string X.r.arg,.slice X.aA X.r.acts.length X.ac,.bool X.r.chain,.int .u32 0,.int .i32 0,.int .u32 0,.nilFunc] 97)).heap.size->(Value.slice Av F.length cv).ownBlock≠some k->hd.heap[k]? = (B.alloc (.cells #[jA X.r.id,jA X.r.phase,.slice X.vA X.r.vars.length X.vc,.slice X.pA X.r.pipe.length X.pc,.bool X.r.no,jA X.r.op,.string X.r.arg,.slice X.aA X.r.acts.length X.ac,.bool X.r.chain,.int .u32 0,.int .i32 0,.int .u32 0,.nilFunc] 97)).heap[k]?)->zpc w3.heap.size a.l w3 Q (jA ((F.length:Int)+1)) hd):=λQ hd h1 h2 h3=>
      ⟨F++[B.heap.size],by rw[Qa];rfl,gc.out Q (B.alloc (.cells #[jA X.r.id,jA X.r.phase,.slice X.vA X.r.vars.length X.vc,.slice X.pA X.r.pipe.length X.pc,.bool X.r.no,jA X.r.op,.string X.r.arg,.slice X.aA X.r.acts.length X.ac,.bool X.r.chain,.int .u32 0,.int .i32 0,.int .u32 0,.nilFunc] 97)) hd B.heap.size kl kf.out kD.out h1 h2 h3⟩
     clear gj g8 gI kb hT gC hB H HB gc ki;go_upto_region 12 with fail
     rw[kt.out];go_wp2_with (at_builtin;refine zaw rowP rfl (.tmp 49) (.tmp 53) rfl w3.heap.size (.slice Av F.length cv) F rfl (by exact km.out) (by exact kd) _ B.heap.size rfl (B.heap.size+1) (by simp) 1 rfl (by omega) ?_;intro Q hd h0 ht g5 ks;have HR:=hIx (z.out Q hd h0 ht g5);clear h0 ht g5 ks);exact⟨HR.out,by dsimp only[intOf];omega⟩
    ·have hn:F.length=a.l.length:=by have:=hB.len;omega
     have d1:decide ((F.length:Int)<(a.l.length:Int))=false:=by simp;omega
     have gF:w2.heap.size<w3.heap.size:=gR.out.lt;have hH:w wr:=ha.out.trans ((he.out.trans (hB.below.mono he.out.size)).mono ha.out.size);have gp:w.heap.size<=w2.heap.size:=ha.out.size;obtain⟨n,y⟩:∃n,F.zip a.l=n:=⟨_,rfl⟩
     have hG:∀p∈n,w3.heap.size<=p.1:=λp hp=>by
      rw[<-y]at hp;obtain⟨j,h1,h2,e1,e2⟩:=zln hp;rw[e1];exact(hB.at1 _ (Qz h1)).1
     have h7:∀W,Apart (GU w2.heap.size n) w.heap.size wr W->∀k,k<w2.heap.size->W.heap[k]? = w2.heap[k]? := λW hW k hk=>by
      refine(hW.keep k (by omega) λhh=>?_).trans ((hB.below.block k (by omega)).trans (he.out.block k hk))
      rcases hh with e|⟨p,hp,e⟩
      ·omega
      ·have:=hG p hp;omega
     have gu:∀W,Apart (GU w2.heap.size n) w.heap.size wr W->ValIn m t b u A L1 Al L2 Ac W:=λW hW=>by
      have gl:=hH.trans hW.below;have hl:=gH.out.keep λg hg=>h7 W hW g (QK gH.out g hg).2
      have hc:=gB.out.keep λg hg=>h7 W hW g (QK gB.out g hg).2
      obtain⟨A',c',e',kn⟩:=hl.form;obtain⟨kQ,kP,kv,gW⟩:=hc.form;injection e' with e1 _ _
      injection kv with e2 _ _
      subst e1;subst e2
      exact⟨(HH.out.f.below gl).more gl.size,kn,gW,HH.out.lib.below gl,HH.out.tab.below gl⟩
     have gP:∀sc:Int,0<=sc->sc<=1000000->znw t u L1 L2 cl sc:=λsc h1 h2=>⟨HH.out.tz,HH.out.fl,λf hf=>(HH.out.fz f hf).1,by have:=gk.1;have:=HH.out.mz;omega,by have:=gk.2;have:=HH.out.mz;omega,HH.out.cz,by omega,by omega⟩
     have g1:zgN w.heap.size w2.heap.size n q wr:=by
      rw[<-y];refine zyu HH.out.lies HH.out.bulk HC.out hB hn ⟨gp,gF⟩ hB.below.size hH ?_ ?_
      ·rw[y,gD.out];exact gu
      ·rw[gD.out];exact gP
     have kC:a.l.length<=40:=by
      have:=(zhu HC.out).len;rw[show a.set.list.length=a.l.length from Qh _]at this;exact this
     have gE:n.length=a.l.length:=by rw[<-y,List.length_zip];omega
     have hF:Hid (n.map (λp=>p.2.r)=a.set.list):=by unfold Hid;rw[<-y];exact zsz a F hn
     have gz:Hid (q.hit=λsc x=>isR x m t b u cl sc L1 L2):=by unfold Hid;rw[gD.out];rfl
     have gt:Hid (RunAt w.heap.size w2.heap.size n q wr run0 (jD 0 0) wr):=by unfold Hid;rw[<-y];exact zys hB hn (gR.out.keep (hB.below.block _ gF))
     have gd:Hid (∀W,Apart (GU w2.heap.size n) w.heap.size wr W->Sl W W.heap.size 1 Av n.length (n.map λp=>ptrV p.1)):=by unfold Hid;rw[<-y];exact λW hW=>zyy hB hn gF W hW
     have gK:F.length=n.length:=by omega
     have U:Hid (∀W,Apart (GU w2.heap.size n) w.heap.size wr W->R3' W w.heap.size a.most a.status (.slice a.A a.l.length a.c)/\V4 W (w.heap.size+1+1) 0 0 0 (jD 0 0)):=λW hW=>by
      have kr:w.heap.size+1+1<w2.heap.size:=by omega
      have hq:=g0.out w2 kx.out;exact⟨(h7 W hW _ (by omega)).trans hq.1,(h7 W hW _ kr).trans hq.2.2.1⟩
     have gb:ActsOk (n.map λp=>p.2.r):=λr hr=>by
      obtain⟨p,hp,rfl⟩:=QR.1 hr;exact g1.acts p hp
     have gV:(n.map λp=>p.2.r).take n.length=n.map λp=>p.2.r:=QF (by rw[Qh];exact Qc _)
     have gg:=zhs q.hit 1 run0 (n.map λp=>p.2.r) gb ⟨ZD _,by decide⟩ n.length;rw[gV]at gg;obtain⟨s1,gi⟩:∃s1,zaY q.hit 1 (n.map λp=>p.2.r) run0=s1:=⟨_,rfl⟩
     have g5:(zfO q.hit 1 run0 (n.map λp=>p.2.r)).1=s1:=gi;have gw:=gg.lo;have gy:=gg.hi;have hw:=gg.len;rw[g5]at gw gy hw;rw[Qh]at hw
     have gZ:s1.mt.length<=1000:=by
      have:run0.mt.length=0:=rfl;omega
     obtain⟨s,gN⟩:∃s,zaY q.hit 2 (n.map λp=>p.2.r) s1=s:=⟨_,rfl⟩
     have g4:=hIx (zl8 g1 1 run0 (jD 0 0) (by omega) (Qm _) ⟨ZD _,by decide⟩ Av cv wr gt.out gd.out)
     have gr:Hid (∀g2 W,RunAt w.heap.size w2.heap.size n q wr s1 g2 W->Calls prog 29 #[.pointer w2.heap.size,.slice Av F.length cv,jA 2] W (ziM w.heap.size w2.heap.size n q wr s)):=λg2 W hA=>by
      have:=zl8 g1 2 s1 g2 (by omega) gZ ⟨gw,gy⟩ Av cv W hA gd.out;rw[gN,<-gK]at this;exact this
     rw[gi,<-gK]at g4
     have gJ:Hid (G=(0,endS a.most a.status s)):=by
      unfold Hid;rw[gL.out,<-gz.out,<-gN,<-gi,hF.out]
      rfl
     have kN:=hIx g1;clear hG h7 gu gP g1 y gE gb gV gg g5 gi gN hw hB gL gz hF gt gH gB hn gK kC;go_wp2_with (go_at_call 29;apply Hid.out);unfold Hid
     with_reducible refine g4.out.mono ?_
     rintro e w4 ⟨rfl,g2,kh⟩;have kk:=hIx (gr.out g2 w4 kh);clear g4 gr kh;go_wp2_with (go_at_call 29;apply Hid.out);unfold Hid
     with_reducible refine kk.out.mono ?_
     rintro e o ⟨rfl,kS,hJ⟩;obtain⟨J,I,ka,_⟩:=hJ.own.form;obtain⟨nm,gQ⟩:∃nm,s.mt.length=nm:=⟨_,rfl⟩
     rw[gQ]at ka;subst ka;clear gQ;have ⟨ge,D⟩:=U.out o hJ.ap;have ⟨u7,u8,u9,hP,gG,hX⟩:=hJ.box.out;have f7:=hJ.box.free 7;have r0:o.cell? w.heap.size=some (jA a.most):=Qf _ _ 0 _ _ _ ge;have r1:o.cell? ⟨w.heap.size,1,none⟩=some (jA a.status):=Qf _ _ 1 _ _ _ ge;have ⟨v0,Q,v2,v3⟩:=D.four;have Y:=D.free 0;have T:=D.free 1;have V:=D.free 2;have P:=D.free 3;have N:w o:=hH.trans hJ.ap.below;have ga:=hIx hJ;have ku:w.heap.size+1+1≠w2.heap.size:=by omega
     have z:Hid (∀W (S:RunS),(∀j:Nat,j≠w2.heap.size->W.heap[j]? = o.heap[j]?)->o.heap.size=W.heap.size->w W->G=(0,S)->S.mt=s.mt->zg7 G w (jC (.tuple #[verV S (.slice J nm I),jA 0])) (putV W (w.heap.size+1+1) S.st S.who S.sc (.slice J nm I))):=λW S h1 h2 h3 h4 h5=>by
      rw[h4];refine⟨(.slice J nm I),rfl,?_,zf5 h3 (by omega) _ _ _ _⟩;rw[h5];refine(ga.out.own.keep λg hg=>?_).low hH.size;have kR:=(ga.out.own.lt g hg).1;rw[zsm _ _ _ _ _ _ _ (by omega),h1 g (by omega)]
     cases hu:s.dn with
     |true=>
      rw[hu]at hX;have hS:Hid (G=(0,s)):=by unfold Hid;rw[gJ.out];unfold endS;rw[Qe (by rw[hu];simp)]
      clear hu;go_wp2_with fail
      go_quiet (fail)
      have hs:∀j:Nat,(o.drewN nq).heap[j]? = o.heap[j]? := λ_=>rfl
      have ho:o.heap.size=(o.drewN nq).heap.size:=rfl;have d:o (o.drewN nq):=⟨rfl,rfl,rfl,Qc _,λ_ _=>rfl⟩
      have p7:=zaa d u7;have p8:=zaa d u8;have p9:=zaa d u9;have gh:=zaa d hP;have p1:=zaa d r1;have g7:=zaB d u7 f7;have y0:=zaa d v0;have y1:=zaa d Q;have y2:=zaa d v2;have y3:=zaa d v3;have z0:=zaB d v0 Y;have z1:=zaB d Q T;have z2:=zaB d v2 V;have z3:=zaB d v3 P;have hz:V4 (o.drewN nq) (w.heap.size+1+1) 0 0 0 (jD 0 0):=D;have h9:w (o.drewN nq):=N.trans (d.mono N.size);generalize o.drewN nq=W6 at *;have HF:=hIx (z.out W6 s (λj _=>hs j) ho h9 hS.out rfl);have ⟨t0,t1,t2,t3⟩:=(hz.set s.st s.who s.sc (.slice J nm I)).four;have Z:=hIx (And.intro t0 (And.intro t1 (And.intro t2 t3)));clear t0 t1 t2 t3 z ge D hz hs ho ga U u7 u8 u9 hP gG hX r0 r1 v0 Q v2 v3 Y T V P f7;go_wp2_with fail;rw[zfC];exact Qi (v:=.tuple #[.agg #[jA s.st,jA s.who,jA s.sc,(.slice J nm I)],jA 0]) (by simp[results,results7,go_sem,Z.out.1,Z.out.2.1,Z.out.2.2.1,Z.out.2.2.2]) rfl HF.out
     |false=>
      rw[hu]at hX
      by_cases hm:a.most<=s.sc
      rotate_left
      ·have d9:decide (a.most<=s.sc)=false:=Qq hm
       have hS:Hid (G=(0,s)):=by unfold Hid;rw[gJ.out];unfold endS;rw[Qe (λh=>hm h.2)]
       clear hu hm;go_wp2_with fail
       go_quiet (fail)
       have hs:∀j:Nat,(o.drewN nq).heap[j]? = o.heap[j]? := λ_=>rfl
       have ho:o.heap.size=(o.drewN nq).heap.size:=rfl;have d:o (o.drewN nq):=⟨rfl,rfl,rfl,Qc _,λ_ _=>rfl⟩
       have p7:=zaa d u7;have p8:=zaa d u8;have p9:=zaa d u9;have gh:=zaa d hP;have p1:=zaa d r1;have g7:=zaB d u7 f7;have y0:=zaa d v0;have y1:=zaa d Q;have y2:=zaa d v2;have y3:=zaa d v3;have z0:=zaB d v0 Y;have z1:=zaB d Q T;have z2:=zaB d v2 V;have z3:=zaB d v3 P;have hz:V4 (o.drewN nq) (w.heap.size+1+1) 0 0 0 (jD 0 0):=D;have h9:w (o.drewN nq):=N.trans (d.mono N.size);generalize o.drewN nq=W6 at *;have HF:=hIx (z.out W6 s (λj _=>hs j) ho h9 hS.out rfl);have ⟨t0,t1,t2,t3⟩:=(hz.set s.st s.who s.sc (.slice J nm I)).four;have Z:=hIx (And.intro t0 (And.intro t1 (And.intro t2 t3)));clear t0 t1 t2 t3 z ge D hz hs ho ga U u7 u8 u9 hP gG hX r0 r1 v0 Q v2 v3 Y T V P f7;go_wp2_with fail;rw[zfC];exact Qi (v:=.tuple #[.agg #[jA s.st,jA s.who,jA s.sc,(.slice J nm I)],jA 0]) (by simp[results,results7,go_sem,Z.out.1,Z.out.2.1,Z.out.2.2.1,Z.out.2.2.2]) rfl HF.out
      ·have d9:decide (a.most<=s.sc)=true:=Qu hm
       have hS:Hid (G=(0,{s with st:=a.status})):=by unfold Hid;rw[gJ.out];unfold endS;rw[Qg ⟨hu,hm⟩]
       clear hu hm;go_wp2_with fail
       go_quiet (fail)
       have hs:∀j:Nat,(o.drewN nq).heap[j]? = o.heap[j]? := λ_=>rfl
       have ho:o.heap.size=(o.drewN nq).heap.size:=rfl;have d:o (o.drewN nq):=⟨rfl,rfl,rfl,Qc _,λ_ _=>rfl⟩
       have p7:=zaa d u7;have p8:=zaa d u8;have p9:=zaa d u9;have gh:=zaa d hP;have p1:=zaa d r1;have g7:=zaB d u7 f7;have y0:=zaa d v0;have y1:=zaa d Q;have y2:=zaa d v2;have y3:=zaa d v3;have z0:=zaB d v0 Y;have z1:=zaB d Q T;have z2:=zaB d v2 V;have z3:=zaB d v3 P;have hz:V4 (o.drewN nq) (w.heap.size+1+1) 0 0 0 (jD 0 0):=D;have h9:w (o.drewN nq):=N.trans (d.mono N.size);generalize o.drewN nq=W6 at *;obtain⟨W7,K⟩:∃W7,W6.setCell ⟨w2.heap.size,7,none⟩ (jA a.status)=W7:=⟨_,rfl⟩
       have gY:∀j:Nat,j≠w2.heap.size->W7.heap[j]? = o.heap[j]? := λj hj=>by rw[<-K,Qk _ _ _ _ hj];exact hs j
       have ky:o.heap.size=W7.heap.size:=by rw[<-K,Z8];exact ho
       have kF:w W7:=by rw[<-K];exact h9.setCell (p:=⟨w2.heap.size,7,none⟩) gp _
       have hy:V4 W7 (w.heap.size+1+1) 0 0 0 (jD 0 0):=(gY _ ku).trans (D);have HF:=hIx (z.out W7 {s with st:=a.status} gY ky kF hS.out rfl);have ⟨t0,t1,t2,t3⟩:=(hy.set a.status s.who s.sc (.slice J nm I)).four;have Z:=hIx (And.intro t0 (And.intro t1 (And.intro t2 t3)));have kw:W7.heap[w2.heap.size]? = (W6.setCell ⟨w2.heap.size,7,none⟩ (jA a.status)).heap[w2.heap.size]? := by rw[K]
       have s7:W7.cell? ⟨w2.heap.size,7,none⟩=some (jA a.status):=by rw[<-K];exact ZA _ _ _ p7
       have s8:W7.cell? ⟨w2.heap.size,8,none⟩=some (jA s.who):=by rw[<-K];exact(QT _ ⟨w2.heap.size,7,none⟩ ⟨w2.heap.size,8,none⟩ _ (by simp)).trans p8
       have s9:W7.cell? ⟨w2.heap.size,9,none⟩=some (jA s.sc):=by rw[<-K];exact(QT _ ⟨w2.heap.size,7,none⟩ ⟨w2.heap.size,9,none⟩ _ (by simp)).trans p9
       have kW:W7.cell? ⟨w2.heap.size,10,none⟩=some (.slice J nm I):=by rw[<-K];exact(QT _ ⟨w2.heap.size,7,none⟩ ⟨w2.heap.size,10,none⟩ _ (by simp)).trans gh
       have ⟨x0,x1,x2,x3⟩:=hy.four;have o0:=hy.free 0;have o1:=hy.free 1;have o2:=hy.free 2;have o3:=hy.free 3;have kA:=hIx K;clear K kw t0 t1 t2 t3 z ge D hz hy hs ho ga U u7 u8 u9 hP gG hX r0 r1 v0 Q v2 v3 Y T V P f7;go_upto_region 18 with fail
       rw[kA.out];clear p7 p8 p9 gh p1 g7 y0 y1 y2 y3 z0 z1 z2 z3;go_wp2_with fail;rw[zfC];exact Qi (v:=.tuple #[.agg #[jA a.status,jA s.who,jA s.sc,(.slice J nm I)],jA 0]) (by simp[results,results7,go_sem,Z.out.1,Z.out.2.1,Z.out.2.2.1,Z.out.2.2.2]) rfl HF.out
theorem Sl.icells{w:World}{B n:Nat}{A:Option Addr}{a:List Int}(h:Sl w B 1 A n (a.map (Value.int .i64)))(f:0<n):
 ∃b off,A=some ⟨b,off,none⟩/\a.length=n/\∀j,j<a.length->w.cell? ⟨b,off+j,none⟩=some (jA (a.getD j 0)):=by
 have hl:=h.len;rw[Qh]at hl;obtain⟨b,off,e,_,d⟩:=h.src (by rw[Qh];omega);refine⟨b,off,e,by omega,λj c=>?_⟩;rw[d j (by rw[Qh];exact c),Zm,Qo,Qd c]
 rfl
theorem Sl.izero{w:World}{B:Nat}{A:Option Addr}{a:List Int}(h:Sl w B 1 A 0 (a.map (Value.int .i64))):a=[]:=
 QA (by have:=h.len;rw[Qh]at this;omega)
theorem zp3{w:World}{B v n m:Nat}{A l:Option Addr}{j k:List Int}(c d:Nat)(h:Sl w B 1 A n (j.map (Value.int .i64)))(h2:Sl w v 1 l m (k.map (Value.int .i64)))(g:n<=9223372036854775807)(a:m<=9223372036854775807):
 Calls prog 30 #[.slice A n c,.slice l m d] w λe w'=>e=jC (.bool (j==k))/\∃q,w'=w.drewN q:=by
 have t:=h.len;have u:=h2.len;rw[Qh]at t u
 by_cases i:n=m
 ·subst i
  rcases Z7 n with rfl|p
  ·rw[h.izero,h2.izero]
   exact(slices_Equal_int_empty A l c 0 d w (by decide)).mono λe w' ⟨h1,h2⟩=>⟨h1.trans (by simp),0,h2⟩
  ·obtain⟨b,off,rfl,y,x⟩:=h.icells p
   obtain⟨s,f,rfl,r,o⟩:=h2.icells p;have:=slices_Equal_int b off n c s f n d j k w (by omega) (by omega) g a x o;rw[QF (by omega),QF (by omega)]at this;exact this
 ·refine(slices_Equal_int_lens A l n c m d w i).mono λe w' ⟨h1,h2⟩=>⟨h1.trans ?_,0,h2⟩
  have:¬j=k:=λe=>by subst e;omega
  simp[this]
theorem zn9(a b c o k j:Int)(A p:Option Addr)(n i m r:Nat)(t x:List Int)(w:World)(h:Sl w w.heap.size 1 A n (t.map (Value.int .i64)))(h2:Sl w w.heap.size 1 p m (x.map (Value.int .i64)))(K:n<=1048576)(L:m<=1048576):
 Calls prog 9 #[.agg #[jA a,jA b,jA c,.slice A n i],.agg #[jA o,jA k,jA j,.slice p m r]] w (zav (a==o&&(b==k&&(c==j&&t==x))) w):=by
 have l:Hid (∀W,w W->Calls prog 30 #[.slice A n i,.slice p m r] W λe w'=>e=jC (.bool (t==x))/\W w'):=λW hb=>
  (zp3 i r (h.below hb) (h2.below hb) (by omega) (by omega)).mono λe w' ⟨h1,q,h2⟩=>⟨h1,by rw[h2];exact⟨rfl,rfl,rfl,Qc _,λ_ _=>rfl⟩⟩
 obtain⟨g,f⟩:∃g,(w.alloc (.cells #[jA a,jA b,jA c,.slice A n i] 33)).alloc (.cells #[jA o,jA k,jA j,.slice p m r] 33)=g:=⟨_,rfl⟩
 have d:w g:=by rw[<-f];exact WaL.alloc (by simp) _
 have h1:V4 g w.heap.size a b c (.slice A n i):=by rw[<-f];exact(Qr _ _ _ (by simp)).trans (Qt w _)
 have z:V4 g (w.heap.size+1) o k j (.slice p m r):=by rw[<-f];exact zbu _ _ _ (by simp)
 have ⟨I,D,N,H⟩:=h1.four;have ⟨O,F,J,G⟩:=z.four;have C:=hIx (l.out g d);have u:=hIx f;clear f h h2 h1 z l
 go_in
 go_upto_region 1 with fail
 rw[u.out];cases s:a==o
 ·go_wp2
  go_ret;exact⟨by rw[s];simp,d⟩
 cases v:b==k
 ·go_wp2
  go_ret;exact⟨by rw[s,v];simp,d⟩
 cases B:c==j
 ·go_wp2
  go_ret;exact⟨by rw[s,v,B];simp,d⟩
 go_wp2_with (go_at_call 30;apply Hid.out);refine WhM C ?_;rintro e E ⟨rfl,y⟩;go_wp2;go_ret;exact⟨by rw[s,v,B];simp,d.trans (y.mono d.size)⟩
def zzX(l:List zcZ):Bool:=l.any λa=>a.k==2
def zzB(l:List zat):Bool:=l.any λr=>zzX r.acts
theorem zxs{l:List zat}(h:zzB l=false):zfe l:=λr c a b e=>by
 have:=List.any_eq_false.1 h r c;exact this (Xy.2 ⟨a,b,by rw[e];rfl⟩)
structure zyR(a:RuArg)(S:RunS):Prop where
 acts:ActsOk (a.l.map RuM.r)
 len:a.l.length<=40
 sc:S.sc<=zbg (a.l.map RuM.r)
 deny:zzB (a.l.map RuM.r)=false->S.who=0/\(zbg (a.l.map RuM.r)<a.most->S.st=0)
 nodup:S.mt.Nodup
 ids:∀x∈S.mt,((a.l.map RuM.r).any λy=>y.id==x)=true
 who:S.who=0\/S.mt.contains S.who=true
 mt:S.mt.length<=40
theorem zsP:∀{l m:List Int},l.Nodup->(∀x∈l,x∈m)->l.length<=m.length
 | [],_,_,_=>Qm _
 |x::r,m,f,c=>by
  have d:=c x (Zg ..);have a:=Z6.1 f;have:=zsP (l:=r) (m:=m.erase x) a.2 λy b=>(List.mem_erase_of_ne (λe=>a.1 (by rw[<-e];exact b))).2 (c y (Ze _ b))
  rw[List.length_erase_of_mem d]at this;have:=List.length_pos_of_mem d;rw[Qn];omega
theorem zyw(a:RuArg)(m t b:ByteArray)(c:List zal)(k most:Nat)(h:(runG a.set m t b c k most).1=0):zyR a (runG a.set m t b c k most).2:=by
 unfold runG at *
 by_cases f:zbf argC a.set=0
 rotate_left
 ·rw[Qg f]at h;exact absurd h f
 rw[Qe (λh=>h f)]at *
 by_cases o:(ofP t c b most).1=0
 rotate_left
 ·rw[Qg o]at h;exact absurd h o
 rw[Qe (λh=>h o)];have n:=zhu f;have d:=zy0 (λp x=>isR x m t b c k p (ofP t c b most).2.1 (ofP t c b most).2.2) a.set (zpO f) (zok f) n.nodup;generalize runS (λp x=>isR x m t b c k p (ofP t c b most).2.1 (ofP t c b most).2.2) a.set=S at *
 have g:∀x∈S.mt,((a.l.map RuM.r).any λy=>y.id==x)=true:=λx j=>by
  obtain⟨y,i,e⟩:=d.ids x j;exact Xy.2 ⟨y,i,by rw[e];exact beq_self_eq_true x⟩
 refine⟨λr j y i=>zhS (((zfc f).2 r j).acts y i),?_,d.sc,λq=>d.deny (zxs q),d.nodup,g,d.who.imp_right λh=>List.contains_iff_mem.2 h,?_⟩
 ·have:=n.len
  rw[show a.set.list.length=a.l.length from Qh _]at this;exact this
 ·have h1:S.mt.length<=(a.set.list.map (·.id)).length:=zsP d.nodup λx j=>by
   obtain⟨y,i,e⟩:=d.ids x j;exact QR.2 ⟨y,i,e⟩
  have h2:=n.len;rw[Qh]at h1;exact Ql h1 h2
theorem zxN{w:World}{base:Nat}{v:Value}{l:List Int}(h:OwnG rowZ w base v l):∃A c,v=.slice A l.length c/\Sl w w.heap.size 1 A l.length (l.map (Value.int .i64))/\l.length<=c:=by
 have k:l.flatMap rowZ.cells=l.map (Value.int .i64):=by
  clear h
  induction l with
  |nil=>rfl
  |cons a r ih=>rw[QH,QW,ih];rfl
 obtain⟨A,c,e,b⟩:=h.form;rw[k]at b;refine⟨A,c,e,b,?_⟩
 rcases h.2 with ⟨h1,h2⟩|⟨g,cap,f,h1,hb,m,i,_⟩
 ·rw[h1]at e
  injection e with _ d j
  omega
 ·rw[h1]at e
  injection e with _ d j
  omega
structure OutM where
 p:OutP
 A:Option Addr
 c:Nat
 Am:Option Addr
 cm:Nat
def zaN(x:OutM):List Value:=[.string x.p.q.h.m,.string x.p.q.h.t,.slice x.A x.p.q.h.fs.length x.c,.string (bs x.p.q.b),jA x.p.st,jA x.p.who,jA x.p.sc,.slice x.Am x.p.mt.length x.cm,jA x.p.err]
def rowO:RowT OutM where
 e:=62
 t:=63
 size:=9
 bytes:=128
 z:=.agg #[.string ByteArray.empty,.string ByteArray.empty,jD 0 0,.string ByteArray.empty,jA 0,jA 0,jA 0,jD 0 0,jA 0]
 cells:=zaN
 hsz _:=rfl
 hpos:=by decide
 under:=underlying63
 info:=by kernel_rfl
 hz:=rfl
 one x u hu:=by simp only[zaN,QI,ZY,or_false]at hu;rcases hu with rfl|rfl|rfl|rfl|rfl|rfl|rfl|rfl|rfl <;> rfl
 hbytes:=by decide
structure OutIn(w:World)(B:Nat)(x:OutM):Prop where
 f:Sl w B 2 x.A x.p.q.h.fs.length (x.p.q.h.fs.flatMap zaA)
 mt:Sl w B 1 x.Am x.p.mt.length (x.p.mt.map (Value.int .i64))
theorem OutIn.keep{w w':World}{B a:Nat}{x:OutM}(h:OutIn w B x)(hb:Below B w w')(b:B<=a):OutIn w' a x:=⟨(h.f.below hb).more b,(h.mt.below hb).more b⟩
structure OutOwn(w:World)(base:Nat)(x:OutM):Prop where
 f:OwnV w base (.slice x.A x.p.q.h.fs.length x.c) x.p.q.h.fs
 mt:OwnG rowZ w base (.slice x.Am x.p.mt.length x.cm) x.p.mt
theorem zvl{w:World}{base:Nat}{A:Option Addr}{c:Nat}{l:List Int}(h:OwnG rowZ w base (.slice A l.length c) l):Sl w w.heap.size 1 A l.length (l.map (Value.int .i64)):=by
 obtain⟨d,f,e,h1,_⟩:=zxN h;injection e with a g b
 rw[a];exact h1
theorem OutOwn.outIn{w:World}{base:Nat}{x:OutM}(h:OutOwn w base x):OutIn w w.heap.size x:=⟨OwnV.sl h.f,zvl h.mt⟩
theorem OutOwn.below{w w':World}{base:Nat}{x:OutM}(h:OutOwn w base x)(hb:w w'):OutOwn w' base x:=⟨h.f.below hb,h.mt.below hb⟩
theorem OutOwn.low{w:World}{base b:Nat}{x:OutM}(h:OutOwn w base x)(hb:b<=base):OutOwn w b x:=⟨h.f.low hb,h.mt.low hb⟩
theorem OutOwn.past{w w':World}{base c:Nat}{x:OutM}{v:Value}{l:List OutM}(h:OutOwn w base x)(b:OwnG rowO w c v l)(a:∀g,g<w.heap.size->v.ownBlock≠some g->w'.heap[g]? = w.heap[g]?):OutOwn w' base x:=
 ⟨zju h.f b (by decide) a,zju h.mt b (by decide) a⟩
def badM(e:Int):OutM:=⟨errO e,none,0,none,0⟩
theorem zwl(e:Int)(w:World)(base:Nat):OutOwn w base (badM e):=⟨OwnV.nil w base,OwnG.nil rowZ w base⟩
theorem zoS{w:World}{B n:Nat}{A:Option Addr}{l:List OutM}(h:Sl w B 9 A n (l.flatMap zaN))(k:Nat)(a:k<l.length):
 ∃b off,A=some ⟨b,off,none⟩/\b<B/\∀j,j<9->∀v,(zaN l[k])[j]? = some v->w.cell? ⟨b,off+k*9+j,none⟩=some v:=by
 have hl:=za0 zaN 9 (λ_=>rfl) l;obtain⟨b,off,e,hb,f⟩:=h.src (by omega);refine⟨b,off,e,hb,λj d v c=>?_⟩;have h1:=zcw zaN 9 (λ_=>rfl) l k j a d;have h2:k*9+j<(l.flatMap zaN).length:=by omega
 rw[Zk,f (k*9+j) h2];rw[Qd h2]at h1;rw[h1,c]
theorem zsR{F:ReqV->OutP}{H B:Int}(b:0<=H)(c:0<=B):∀(n m:Nat) (l:jE),l.length<n->l.length<m->allJ F H B n l=allJ F H B m l:=by
 intro n
 induction n with
 |zero=>intro m l h;omega
 |succ n ih=>
  intro m l e d;cases m with
  |zero=>omega
  |succ m=>
   unfold allJ
   split
   ·rfl
   ·rename_i q k a
    obtain⟨_,h1,h2⟩:=znE b c a;rw[ih m (l.drop k) (by rw[QM];omega) (by rw[QM];omega)]
def allS(F:ReqV->OutP)(H B:Int)(l:jE):List OutP:=allJ F H B (l.length+1) l
theorem zon{F:ReqV->OutP}{H B e:Int}{l:jE}(h:oneR l H B=.error e):allS F H B l=if e=7 then []else [errO (zeY e)]:=by
 unfold allS allJ;rw[h]
theorem znG{F:ReqV->OutP}{H B:Int}{l:jE}{q:ReqV}{k:Nat}(a:0<=H)(b:0<=B)(h:oneR l H B=.ok (q,k)):allS F H B l=F q::if (F q).err=0 then allS F H B (l.drop k)else []:=by
 obtain⟨_,h1,h2⟩:=znE a b h;show allJ F H B (l.length+1) l=F q::if (F q).err=0 then allJ F H B ((l.drop k).length+1) (l.drop k)else []
 have e:allJ F H B (l.length+1) l=F q::if (F q).err=0 then allJ F H B l.length (l.drop k)else []:=by
  show (match oneR l H B with|.error e=>if e=7 then []else [errO (zeY e)]|.ok (q,k)=>F q::if (F q).err=0 then allJ F H B l.length (l.drop k)else [])=_
  rw[h]
 rw[e,zsR a b l.length ((l.drop k).length+1) (l.drop k) (by rw[QM];omega) (ZB _)]
