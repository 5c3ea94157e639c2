/- Lemmas for the last texts. -/
import Derived.Test.YtnnokglddolglaaGreatDoorM31
set_option maxHeartbeats 6400000
set_option maxRecDepth 100000
namespace Go.Proofs.YtnnokglddolglaaGreatDoor
open Go.RowKit Go.Proofs.Tryz
def R3'(w:World)(g:Nat)(a b:Int)(v:Value):Prop:=w.heap[g]? = some (.cells #[.int .i64 a,.int .i64 b,v] 24 (0,0))
def V4(w:World)(g:Nat)(a b c:Int)(v:Value):Prop:=w.heap[g]? = some (.cells #[.int .i64 a,.int .i64 b,.int .i64 c,v] 33 (0,0))
def putV(w:World)(g:Nat)(a b c:Int)(v:Value):World:=(((w.setCell ⟨g,0,none⟩ (.int .i64 a)).setCell ⟨g,1,none⟩ (.int .i64 b)).setCell ⟨g,2,none⟩ (.int .i64 c)).setCell ⟨g,3,none⟩ v
theorem V4.set{w:World}{g:Nat}{a b c:Int}{v:Value}(h:V4 w g a b c v)(x y z:Int)(u:Value):V4 (putV w g x y z u) g x y z u:=by
 have d:V4 (w.setCell ⟨g,0,none⟩ (.int .i64 x)) g x b c v:=Q2 w g 0 _ _ _ h;have h1:V4 ((w.setCell ⟨g,0,none⟩ (.int .i64 x)).setCell ⟨g,1,none⟩ (.int .i64 y)) g x y c v:=Q2 _ g 1 _ _ _ d;have h2:V4 (((w.setCell ⟨g,0,none⟩ (.int .i64 x)).setCell ⟨g,1,none⟩ (.int .i64 y)).setCell ⟨g,2,none⟩ (.int .i64 z)) g x y z v:=Q2 _ g 2 _ _ _ h1;exact Q2 _ g 3 _ _ _ h2
theorem V4.four{w:World}{g:Nat}{a b c:Int}{v:Value}(h:V4 w g a b c v):w.cell? ⟨g,0,none⟩=some (.int .i64 a)/\w.cell? ⟨g,1,none⟩=some (.int .i64 b)/\w.cell? ⟨g,2,none⟩=some (.int .i64 c)/\w.cell? ⟨g,3,none⟩=some v:=
 ⟨Qf _ _ 0 _ _ _ h,Qf _ _ 1 _ _ _ h,Qf _ _ 2 _ _ _ h,Qf _ _ 3 _ _ _ h⟩
theorem V4.free{w:World}{g:Nat}{a b c:Int}{v:Value}(h:V4 w g a b c v)(j:Nat):w.frozen? ⟨g,j,none⟩=false:=ZJ _ _ j _ _ h
theorem zs1(w:World)(g:Nat)(a b c:Int)(v:Value)(k:Nat)(h:k≠g):(putV w g a b c v).heap[k]? = w.heap[k]? := by
 unfold putV;rw[Ql _ _ _ _ h,Ql _ _ _ _ h,Ql _ _ _ _ h,Ql _ _ _ _ h]
theorem zgm{B:Nat}{e w:World}(h:Below B e w){g:Nat}(d:B<=g)(a b c:Int)(v:Value):Below B e (putV w g a b c v):=
 (((h.setCell (p:=⟨g,0,none⟩) d _).setCell (p:=⟨g,1,none⟩) d _).setCell (p:=⟨g,2,none⟩) d _).setCell (p:=⟨g,3,none⟩) d _
def zpK(c:Nat)(l:List RuM)(b:World)(v i:Value)(wr:World):Prop:=
 ∃a:List Nat,i=.int .i64 (a.length:Int)/\Built c l b a v wr
structure RunIn(a:RuArg)(m t b:ByteArray)(fs:List zao)(A:Option Addr)(cl most:Nat)(w:World):Prop where
 lies:RuLies w w.heap.size a
 bulk:zcx a
 f:Sl w w.heap.size 2 A fs.length (fs.flatMap zaL)
 fz:∀f∈fs,f.1.size<=maxLen/\f.2.size<=4194304
 fl:fs.length<=4194304
 tz:t.size<=4194304
 bz:b.size<=4194304
 mz:most<=1048576
 cz:cl<4294967296
 lib:LibOk w
 tab:TabOk w
theorem zyR(t:ByteArray)(a:List zao)(b:ByteArray)(most:Nat):(ofP t a b most).2.1.length<=most+20/\(ofP t a b most).2.2.length<=most:=by
 have h1:=zl4 a b (most-(zcU (Lib.cut t.data.toList [63]).2.1).length);unfold ofP;dsimp only
 split
 ·exact⟨Qm _,Qm _⟩
 split
 ·exact⟨Qm _,Qm _⟩
 split
 ·exact⟨Qm _,Qm _⟩
 ·refine⟨?_,by dsimp only;omega⟩
  dsimp only;rw[Qa];omega
theorem zgG(a:RuArg)(m t b:ByteArray)(z:List zao)(A:Option Addr)(c cl most:Nat)(w:World)(h:RunIn a m t b z A cl most w):
 Calls prog 7 #[a.value,.agg #[.string m,.string t,.slice A z.length c,.string b],.int .u32 (cl:Int),.int .i64 (most:Int)] w (zdf (runG a.set m t b z cl most) w):=by
 obtain⟨L,hx⟩:∃L,(((w.alloc (.cells #[.int .i64 a.most,.int .i64 a.status,.slice a.A a.l.length a.c] 24)).alloc (.cells #[.string m,.string t,.slice A z.length c,.string b] 29)).alloc (.cells #[.int .i64 0,.int .i64 0,.int .i64 0,.slice none 0 0] 33))=L:=⟨_,rfl⟩
 have kC:L.heap.size=w.heap.size+3:=by rw[<-hx];simp
 have h8:Below w.heap.size w L:=by rw[<-hx];exact(WaL.alloc (by simp) _).alloc (by simp;omega) _
 have hR:R3' L w.heap.size a.most a.status (.slice a.A a.l.length a.c):=by
  rw[<-hx];exact(Qt _ _ _ (by simp only[Qr];omega)).trans ((Qt _ _ _ (by simp only[Qr];omega)).trans (Qp w _))
 have hQ:L.heap[w.heap.size+1]? = some (.cells #[.string m,.string t,.slice A z.length c,.string b] 29 (0,0)):=by
  rw[<-hx];exact(Qt _ _ _ (by simp only[Qr];omega)).trans (zbo _ _ _ (by simp only[Qr]))
 have hV:V4 L (w.heap.size+1+1) 0 0 0 (.slice none 0 0):=by
  rw[<-hx];exact zbo _ _ _ (by simp only[Qr])
 have gw:∀W,Below L.heap.size L W->R3' W w.heap.size a.most a.status (.slice a.A a.l.length a.c)/\W.heap[w.heap.size+1]? = some (.cells #[.string m,.string t,.slice A z.length c,.string b] 29 (0,0))/\V4 W (w.heap.size+1+1) 0 0 0 (.slice none 0 0)/\Below w.heap.size w W:=λW hb=>
  ⟨(hb.block _ (by omega)).trans hR,(hb.block _ (by omega)).trans hQ,(hb.block _ (by omega)).trans hV,h8.trans (hb.mono h8.size)⟩
 have g0:=hIx gw;have gB:Hid (Calls prog 27 #[.agg #[.int .i64 a.most,.int .i64 a.status,.slice a.A a.l.length a.c]] L (zbm (zaZ argC a.set) L)):=znq a L (h.lies.keep h8 h8.size) h.bulk (h.lib.below h8)
 have hU:Hid (∀W,Below L.heap.size L W->Calls prog 28 #[.agg #[.string m,.string t,.slice A z.length c,.string b],.int .u32 (cl:Int),.int .i64 (most:Int)] W (zlL t z b most W)):=λW hb=>by
  have hN:=h8.trans (hb.mono h8.size);exact zy3 m t b z A c cl most W ((h.f.below hN).more hN.size) h.fz h.fl h.tz h.bz (by have:=h.mz;omega) (h.lib.below hN)
 have HG:Hid (runG a.set m t b z cl most=if zaZ argC a.set≠0 then (zaZ argC a.set,run0)else if (ofP t z b most).1≠0 then ((ofP t z b most).1,run0)else (0,runS (λsc x=>isR x m t b z cl sc (ofP t z b most).2.1 (ofP t z b most).2.2) a.set)):=rfl;have gl:=zyR t z b most;generalize runG a.set m t b z cl most=G at *;unfold zlL at hU;obtain⟨O,hO⟩:∃O,ofP t z b most=O:=⟨_,rfl⟩
 rw[hO]at hU HG gl;obtain⟨C,hC⟩:∃C,zaZ argC a.set=C:=⟨_,rfl⟩
 rw[hC]at gB HG;have HH:=hIx h;have HC:=hIx hC;have kF:=hIx hx
 have gr:Hid (∀(E:Int) W,G=(E,run0)->Below w.heap.size w W->zdf G w (.returned (.tuple #[.agg #[.int .i64 0,.int .i64 0,.int .i64 0,.slice none 0 0],.int .i64 E])) W):=λE W h1 h2=>by
  rw[h1];exact⟨.slice none 0 0,rfl,OwnG.nil _ _ _,h2⟩
 have kM:w.heap.size<L.heap.size:=by omega
 have kK:w.heap.size+1<L.heap.size:=by omega
 have kJ:w.heap.size+1+1<L.heap.size:=by omega
 have r0:L.cell? ⟨w.heap.size,0,none⟩=some (.int .i64 a.most):=Qf _ _ 0 _ _ _ hR;have r1:L.cell? ⟨w.heap.size,1,none⟩=some (.int .i64 a.status):=Qf _ _ 1 _ _ _ hR;have r2:L.cell? ⟨w.heap.size,2,none⟩=some (.slice a.A a.l.length a.c):=Qf _ _ 2 _ _ _ hR;unfold RuArg.value;clear hx hR hQ hV gw hO hC h kC h8
 go_in
 go_upto_region 1 with fail
 rw[kF.out];go_wp2_with (go_at_call 27;apply Hid.out);refine WhM gB ?_;rintro e w1 ⟨rfl,ht⟩;have ⟨kk,hK,hv,g6⟩:=g0.out w1 ht;have v0:w1.cell? ⟨w.heap.size+1+1,0,none⟩=some (.int .i64 0):=Qf _ _ 0 _ _ _ hv;have Q:w1.cell? ⟨w.heap.size+1+1,1,none⟩=some (.int .i64 0):=Qf _ _ 1 _ _ _ hv;have v2:w1.cell? ⟨w.heap.size+1+1,2,none⟩=some (.int .i64 0):=Qf _ _ 2 _ _ _ hv;have v3:w1.cell? ⟨w.heap.size+1+1,3,none⟩=some (.slice none 0 0):=Qf _ _ 3 _ _ _ hv;have f0:∀j,w1.frozen? ⟨w.heap.size+1+1,j,none⟩=false:=λj=>ZJ _ _ j _ _ hv
 have Y:=f0 0;have T:=f0 1;have V:=f0 2;have P:=f0 3;clear r0 r1 r2 f0
 by_cases hc:C=0
 rotate_left
 ·have n0:(C != 0)=true:=Q6.2 hc
  have HP:=hIx (gr.out C);have ka:G=(C,run0):=by rw[HG.out,Qi hc]
  have gn:=hIx ka;clear hc ka kk hK HG hU;go_wp2;rw[show (((w1.setCell ⟨w.heap.size+1+1,0,none⟩ (.int .i64 0)).setCell ⟨w.heap.size+1+1,1,none⟩ (.int .i64 0)).setCell ⟨w.heap.size+1+1,2,none⟩ (.int .i64 0)).setCell ⟨w.heap.size+1+1,3,none⟩ (.slice none 0 0)=putV w1 (w.heap.size+1+1) 0 0 0 (.slice none 0 0)from rfl];have ⟨t0,t1,t2,t3⟩:=(hv.set 0 0 0 (.slice none 0 0)).four;have HF:=hIx (HP.out _ gn.out (zgm g6 (show w.heap.size<=w.heap.size+1+1 by omega) 0 0 0 (.slice none 0 0)));exact Qj (v:=.tuple #[.agg #[.int .i64 0,.int .i64 0,.int .i64 0,.slice none 0 0],.int .i64 C]) (by simp[results,results7,go_sem,t0,t1,t2,t3]) rfl HF.out
 ·subst hc
  have gp:Hid (G=if O.1≠0 then (O.1,run0)else (0,runS (λsc x=>isR x m t b z cl sc O.2.1 O.2.2) a.set)):=by unfold Hid;rw[HG.out,Qe (by decide)]
  have HO:=hIx (hU.out w1 ht);have q0:w1.cell? ⟨w.heap.size+1,0,none⟩=some (.string m):=Qf _ _ 0 _ _ _ hK;have q1:w1.cell? ⟨w.heap.size+1,1,none⟩=some (.string t):=Qf _ _ 1 _ _ _ hK;have q2:w1.cell? ⟨w.heap.size+1,2,none⟩=some (.slice A z.length c):=Qf _ _ 2 _ _ _ hK;have q3:w1.cell? ⟨w.heap.size+1,3,none⟩=some (.string b):=Qf _ _ 3 _ _ _ hK;have gU:=ht.size;clear HG gB hU kk hK hv v0 Q v2 v3 Y T V P;go_wp2_with (go_at_call 28;apply Hid.out);refine WhM HO ?_;rintro e w2 ⟨vl,vc,rfl,hY,g9,g3⟩;have hL:=ht.trans (g3.mono gU);have ⟨gP,hI,h6,gg⟩:=g0.out w2 hL;obtain⟨Al,kh,rfl,_⟩:=hY.form;obtain⟨Ac,kf,rfl,_⟩:=g9.form
  by_cases h0:O.1=0
  rotate_left
  ·have n0:(O.1 != 0)=true:=Q6.2 h0
   have HP:=hIx (gr.out O.1);have gn:Hid (G=(O.1,run0)):=by unfold Hid;rw[gp.out,Qi h0]
   have ⟨v0,Q,v2,v3⟩:=h6.four;have Y:=h6.free 0;have T:=h6.free 1;have V:=h6.free 2;have P:=h6.free 3;have ⟨t0,t1,t2,t3⟩:=(h6.set 0 0 0 (.slice none 0 0)).four;have HF:=hIx (HP.out _ gn.out (zgm gg (show w.heap.size<=w.heap.size+1+1 by omega) 0 0 0 (.slice none 0 0)));obtain⟨E,hE⟩:∃E,O.1=E:=⟨_,rfl⟩
   rw[hE]at n0 HF ⊢;clear h0 gn HP gP hI gp hY g9 h6 q0 q1 q2 q3 hE;generalize O.2.1.length=n1;generalize O.2.2.length=n2;have Z:=hIx (And.intro t0 (And.intro t1 (And.intro t2 t3)));clear t0 t1 t2 t3;go_wp2;rw[show (((w2.setCell ⟨w.heap.size+1+1,0,none⟩ (.int .i64 0)).setCell ⟨w.heap.size+1+1,1,none⟩ (.int .i64 0)).setCell ⟨w.heap.size+1+1,2,none⟩ (.int .i64 0)).setCell ⟨w.heap.size+1+1,3,none⟩ (.slice none 0 0)=putV w2 (w.heap.size+1+1) 0 0 0 (.slice none 0 0)from rfl];exact Qj (v:=.tuple #[.agg #[.int .i64 0,.int .i64 0,.int .i64 0,.slice none 0 0],.int .i64 E]) (by simp[results,results7,go_sem,Z.out.1,Z.out.2.1,Z.out.2.2.1,Z.out.2.2.2]) rfl HF.out
  ·have gM:Hid (G=(0,runS (λsc x=>isR x m t b z cl sc O.2.1 O.2.2) a.set)):=by unfold Hid;rw[gp.out,Qe (λh=>h h0)]
   rw[h0];obtain⟨O1,L1,L2⟩:=O;dsimp only at gM gl hY g9 ⊢;have q0:w2.cell? ⟨w.heap.size+1,0,none⟩=some (.string m):=Qf _ _ 0 _ _ _ hI;have q1:w2.cell? ⟨w.heap.size+1,1,none⟩=some (.string t):=Qf _ _ 1 _ _ _ hI;have q2:w2.cell? ⟨w.heap.size+1,2,none⟩=some (.slice A z.length c):=Qf _ _ 2 _ _ _ hI;have q3:w2.cell? ⟨w.heap.size+1,3,none⟩=some (.string b):=Qf _ _ 3 _ _ _ hI;have r2:w2.cell? ⟨w.heap.size,2,none⟩=some (.slice a.A a.l.length a.c):=Qf _ _ 2 _ _ _ gP;obtain⟨q,hq⟩:∃q:RunQ,q=⟨m,t,b,z,A,c,cl,L1,Al,kh,L2,Ac,kf⟩:=⟨_,rfl⟩
   obtain⟨w3,hZ⟩:∃w3,w2.alloc (.cells #[.string m,.string t,.slice A z.length c,.string b,.int .u32 (cl:Int),.slice Al L1.length kh,.slice Ac L2.length kf,.int .i64 0,.int .i64 0,.int .i64 0,.slice none 0 0,.int .i64 0,.bool false] 81)=w3:=⟨_,rfl⟩
   have kd:UBox w2.heap.size q.uc run0 (.slice none 0 0) w3:=by rw[<-hZ,hq];exact Qp w2 _
   have hD:Below w2.heap.size w2 w3:=by rw[<-hZ];exact WaL
   have kP:w3.heap.size=w2.heap.size+1:=by rw[<-hZ];simp
   have gT:=hL.trans (hD.mono hL.size);have kI:=hL.size;have r3:=zaa hD r2;have kq:=hIx hZ;have gS:=hIx kd;have kZ:=hIx gT;have he:=hIx hD;have ky:=hIx hL;have gI:=hIx hY;have gC:=hIx g9;have ha:=hIx gg;have kL:w.heap.size<=w1.heap.size:=g6.size;have kH:=g3.size;have kY:a.l.length<=1048576:=HH.out.bulk.len;have gE:=hIx hq;clear hZ kd gT hD hY g9 gP hI h6 gp h0 gg g3 hL ht g6 hq;go_upto_region 8 with fail
   rw[kq.out];clear q0 q1 q2 q3 r2
   have gy:Hid (∀W,Below w3.heap.size w3 W->∀k (hk:k<a.l.length),∃b gd,a.A=some ⟨b,gd,none⟩/\b<W.heap.size/\∀j,j<9->∀v,(zag a.l[k])[j]? = some v->W.cell? ⟨b,gd+k*9+j,none⟩=some v):=λW hb k hk=>by
    have hN:=ha.out.trans ((he.out.trans (hb.mono he.out.size)).mono ha.out.size);obtain⟨b,gd,e,h1,h2⟩:=zpl (HH.out.lies.sl.below hN) k hk;exact⟨b,gd,e,Qv h1 hN.size,h2⟩
   obtain⟨AA,gN⟩:∃AA,a.A=AA:=⟨_,rfl⟩
   rw[gN]at r3 gy;rw[gN];clear gN;go_wp2
   go_loopw [15,45] (λv i wr=>zpK w3.heap.size a.l w3 v i wr) (λ_ i _=>a.l.length-(intOf i).toNat)
   case atStart=>exact⟨[],rfl,Built.nil⟩
   case round=>
    obtain⟨I,rfl,hB⟩:=hrel;have gY:=hB.below.size;obtain⟨Av,cv,rfl,_⟩:=hB.own.form
    by_cases gV:I.length<a.l.length
    ·have d1:decide ((I.length:Int)<(a.l.length:Int))=true:=by simp;omega
     have i7:IntKind.i64.wrap ((I.length:Int)+1)=(I.length:Int)+1:=Qx _ (by omega);obtain⟨b',gd,rfl,kN,J⟩:=gy.out wr hB.below I.length gV;have gc:=hIx (λ(v':Value) (kp kA:World) (g:Nat)=>hB.push (v':=v') (w2:=kp) (w3:=kA) (g:=g) gV gY);generalize a.l[I.length]=X at *;have c0:=J 0 (by decide) _ rfl;have c1:=J 1 (by decide) _ rfl;have c2:=J 2 (by decide) _ rfl;have c3:=J 3 (by decide) _ rfl;have c4:=J 4 (by decide) _ rfl;have c5:=J 5 (by decide) _ rfl;have c6:=J 6 (by decide) _ rfl;have c7:=J 7 (by decide) _ rfl;have c8:=J 8 (by decide) _ rfl;rw[Xj]at c0;obtain⟨F,gk⟩:∃F,wr.alloc (.cells #[.int .i64 X.r.id,.int .i64 X.r.phase,.slice X.vA X.r.vars.length X.vc,.slice X.pA X.r.pipe.length X.pc,.bool X.r.no,.int .i64 X.r.op,.string X.r.arg,.slice X.aA X.r.acts.length X.ac,.bool X.r.chain] 42)=F:=⟨_,rfl⟩
     have g8:Below wr.heap.size wr F:=by rw[<-gk];exact WaL
     have gD:R9 F wr.heap.size (.int .i64 X.r.id) (.int .i64 X.r.phase) (.slice X.vA X.r.vars.length X.vc) (.slice X.pA X.r.pipe.length X.pc) (.bool X.r.no) (.int .i64 X.r.op) (.string X.r.arg) (.slice X.aA X.r.acts.length X.ac) (.bool X.r.chain):=by rw[<-gk];exact Qp wr _
     have ⟨k0,k1,k2,k3,k4,k5,k6,k7,k8⟩:=gD.cells9;have kr:wr.heap.size<F.heap.size:=gD.lt;have HB:=hIx hB;have ku:=hIx gk;have kV:=hIx g8;have kW:=hB.len;have kj:Hid (OwnG rowP F w3.heap.size (.slice Av I.length cv) I):=hB.own.below g8;have gJ:Below F.heap.size F (F.alloc (.cells #[.int .i64 X.r.id,.int .i64 X.r.phase,.slice X.vA X.r.vars.length X.vc,.slice X.pA X.r.pipe.length X.pc,.bool X.r.no,.int .i64 X.r.op,.string X.r.arg,.slice X.aA X.r.acts.length X.ac,.bool X.r.chain,.int .u32 0,.int .i32 0,.int .u32 0,.nilFunc] 97)):=by exact WaL
     have kc:RBox F.heap.size (zh8 X) 0 0 .nilFunc (F.alloc (.cells #[.int .i64 X.r.id,.int .i64 X.r.phase,.slice X.vA X.r.vars.length X.vc,.slice X.pA X.r.pipe.length X.pc,.bool X.r.no,.int .i64 X.r.op,.string X.r.arg,.slice X.aA X.r.acts.length X.ac,.bool X.r.chain,.int .u32 0,.int .i32 0,.int .u32 0,.nilFunc] 97)):=by exact Qp F _
     have hT:Below wr.heap.size wr (F.alloc (.cells #[.int .i64 X.r.id,.int .i64 X.r.phase,.slice X.vA X.r.vars.length X.vc,.slice X.pA X.r.pipe.length X.pc,.bool X.r.no,.int .i64 X.r.op,.string X.r.arg,.slice X.aA X.r.acts.length X.ac,.bool X.r.chain,.int .u32 0,.int .i32 0,.int .u32 0,.nilFunc] 97)):=g8.trans (gJ.mono g8.size);have kn:Hid (OwnG rowP (F.alloc (.cells #[.int .i64 X.r.id,.int .i64 X.r.phase,.slice X.vA X.r.vars.length X.vc,.slice X.pA X.r.pipe.length X.pc,.bool X.r.no,.int .i64 X.r.op,.string X.r.arg,.slice X.aA X.r.acts.length X.ac,.bool X.r.chain,.int .u32 0,.int .i32 0,.int .u32 0,.nilFunc] 97)) w3.heap.size (.slice Av I.length cv) I):=kj.out.below gJ;have kE:=hIx kc;have kg:=hIx hT;have ke:w3.heap.size<=(F.alloc (.cells #[.int .i64 X.r.id,.int .i64 X.r.phase,.slice X.vA X.r.vars.length X.vc,.slice X.pA X.r.pipe.length X.pc,.bool X.r.no,.int .i64 X.r.op,.string X.r.arg,.slice X.aA X.r.acts.length X.ac,.bool X.r.chain,.int .u32 0,.int .i32 0,.int .u32 0,.nilFunc] 97)).heap.size:=Qn gY hT.size;have km:wr.heap.size<=F.heap.size:=Q5 kr
     have D:Hid (∀Q hd,OwnG rowP hd w3.heap.size Q (I++[F.heap.size])->Below w3.heap.size (F.alloc (.cells #[.int .i64 X.r.id,.int .i64 X.r.phase,.slice X.vA X.r.vars.length X.vc,.slice X.pA X.r.pipe.length X.pc,.bool X.r.no,.int .i64 X.r.op,.string X.r.arg,.slice X.aA X.r.acts.length X.ac,.bool X.r.chain,.int .u32 0,.int .i32 0,.int .u32 0,.nilFunc] 97)) hd->(∀k,k<(F.alloc (.cells #[.int .i64 X.r.id,.int .i64 X.r.phase,.slice X.vA X.r.vars.length X.vc,.slice X.pA X.r.pipe.length X.pc,.bool X.r.no,.int .i64 X.r.op,.string X.r.arg,.slice X.aA X.r.acts.length X.ac,.bool X.r.chain,.int .u32 0,.int .i32 0,.int .u32 0,.nilFunc] 97)).heap.size->(Value.slice Av I.length cv).ownBlock≠some k->hd.heap[k]? = (F.alloc (.cells #[.int .i64 X.r.id,.int .i64 X.r.phase,.slice X.vA X.r.vars.length X.vc,.slice X.pA X.r.pipe.length X.pc,.bool X.r.no,.int .i64 X.r.op,.string X.r.arg,.slice X.aA X.r.acts.length X.ac,.bool X.r.chain,.int .u32 0,.int .i32 0,.int .u32 0,.nilFunc] 97)).heap[k]?)->zpK w3.heap.size a.l w3 Q (.int .i64 ((I.length:Int)+1)) hd):=λQ hd h1 h2 h3=>
      ⟨I++[F.heap.size],by rw[Qa];rfl,gc.out Q (F.alloc (.cells #[.int .i64 X.r.id,.int .i64 X.r.phase,.slice X.vA X.r.vars.length X.vc,.slice X.pA X.r.pipe.length X.pc,.bool X.r.no,.int .i64 X.r.op,.string X.r.arg,.slice X.aA X.r.acts.length X.ac,.bool X.r.chain,.int .u32 0,.int .i32 0,.int .u32 0,.nilFunc] 97)) hd F.heap.size km kg.out kE.out h1 h2 h3⟩
     clear gk g8 gJ kc hT gD hB J HB gc kj;go_upto_region 12 with fail
     rw[ku.out];go_wp2_with (at_builtin;refine zax rowP rfl (.tmp 49) (.tmp 53) rfl w3.heap.size (.slice Av I.length cv) I rfl (by exact kn.out) (by exact ke) _ F.heap.size rfl (F.heap.size+1) (by simp) 1 rfl (by omega) ?_;intro Q hd h0 ht g5 kt;have HR:=hIx (D.out Q hd h0 ht g5);clear h0 ht g5 kt);exact⟨HR.out,by dsimp only[intOf];omega⟩
    ·have hn:I.length=a.l.length:=by have:=hB.len;omega
     have d1:decide ((I.length:Int)<(a.l.length:Int))=false:=by simp;omega
     have gG:w2.heap.size<w3.heap.size:=gS.out.lt;have hH:Below w.heap.size w wr:=ha.out.trans ((he.out.trans (hB.below.mono he.out.size)).mono ha.out.size);have gq:w.heap.size<=w2.heap.size:=ha.out.size;obtain⟨n,B⟩:∃n,I.zip a.l=n:=⟨_,rfl⟩
     have hG:∀p∈n,w3.heap.size<=p.1:=λp hp=>by
      rw[<-B]at hp;obtain⟨j,h1,h2,e1,e2⟩:=zlO hp;rw[e1];exact(hB.at1 _ (Qy h1)).1
     have h7:∀W,Apart (GU w2.heap.size n) w.heap.size wr W->∀k,k<w2.heap.size->W.heap[k]? = w2.heap[k]? := λW hW k hk=>by
      refine(hW.keep k (by omega) λhh=>?_).trans ((hB.below.block k (by omega)).trans (he.out.block k hk))
      rcases hh with e|⟨p,hp,e⟩
      ·omega
      ·have:=hG p hp;omega
     have gv:∀W,Apart (GU w2.heap.size n) w.heap.size wr W->ValIn m t b z A L1 Al L2 Ac W:=λW hW=>by
      have gm:=hH.trans hW.below;have hl:=gI.out.keep λg hg=>h7 W hW g (QK gI.out g hg).2
      have hc:=gC.out.keep λg hg=>h7 W hW g (QK gC.out g hg).2
      obtain⟨A',c',e',ko⟩:=hl.form;obtain⟨kR,kQ,kw,gX⟩:=hc.form;injection e' with e1 _ _
      injection kw with e2 _ _
      subst e1;subst e2
      exact⟨(HH.out.f.below gm).more gm.size,ko,gX,HH.out.lib.below gm,HH.out.tab.below gm⟩
     have gQ:∀sc:Int,0<=sc->sc<=1000000->zn6 t z L1 L2 cl sc:=λsc h1 h2=>⟨HH.out.tz,HH.out.fl,λf hf=>(HH.out.fz f hf).1,by have:=gl.1;have:=HH.out.mz;omega,by have:=gl.2;have:=HH.out.mz;omega,HH.out.cz,by omega,by omega⟩
     have g1:zg4 w.heap.size w2.heap.size n q wr:=by
      rw[<-B];refine zy6 HH.out.lies HH.out.bulk HC.out hB hn ⟨gq,gG⟩ hB.below.size hH ?_ ?_
      ·rw[B,gE.out];exact gv
      ·rw[gE.out];exact gQ
     have kD:a.l.length<=40:=by
      have:=(zeg HC.out).len;rw[show a.set.list.length=a.l.length from Qh _]at this;exact this
     have gF:n.length=a.l.length:=by rw[<-B,List.length_zip];omega
     have hF:Hid (n.map (λp=>p.2.r)=a.set.list):=by unfold Hid;rw[<-B];exact ztg a I hn
     have gA:Hid (q.hit=λsc x=>isR x m t b z cl sc L1 L2):=by unfold Hid;rw[gE.out];rfl
     have gu:Hid (RunAt w.heap.size w2.heap.size n q wr run0 (.slice none 0 0) wr):=by unfold Hid;rw[<-B];exact zy4 hB hn (gS.out.keep (hB.below.block _ gG))
     have ge:Hid (∀W,Apart (GU w2.heap.size n) w.heap.size wr W->Sl W W.heap.size 1 Av n.length (n.map λp=>ptrV p.1)):=by unfold Hid;rw[<-B];exact λW hW=>zy9 hB hn gG W hW
     have gL:I.length=n.length:=by omega
     have U:Hid (∀W,Apart (GU w2.heap.size n) w.heap.size wr W->R3' W w.heap.size a.most a.status (.slice a.A a.l.length a.c)/\V4 W (w.heap.size+1+1) 0 0 0 (.slice none 0 0)):=λW hW=>by
      have ks:w.heap.size+1+1<w2.heap.size:=by omega
      have hq:=g0.out w2 ky.out;exact⟨(h7 W hW _ (by omega)).trans hq.1,(h7 W hW _ ks).trans hq.2.2.1⟩
     have gb:ActsOk (n.map λp=>p.2.r):=λr hr=>by
      obtain⟨p,hp,rfl⟩:=QO.1 hr;exact g1.acts p hp
     have gW:(n.map λp=>p.2.r).take n.length=n.map λp=>p.2.r:=QC (by rw[Qh];exact Qd _)
     have gh:=zhK q.hit 1 run0 (n.map λp=>p.2.r) gb ⟨Zw _,by decide⟩ n.length;rw[gW]at gh;obtain⟨s1,gj⟩:∃s1,zaV q.hit 1 (n.map λp=>p.2.r) run0=s1:=⟨_,rfl⟩
     have g5:(zf3 q.hit 1 run0 (n.map λp=>p.2.r)).1=s1:=gj;have gx:=gh.lo;have gz:=gh.hi;have hw:=gh.len;rw[g5]at gx gz hw;rw[Qh]at hw
     have k9:s1.mt.length<=1000:=by
      have:run0.mt.length=0:=rfl;omega
     obtain⟨o,gO⟩:∃o,zaV q.hit 2 (n.map λp=>p.2.r) s1=o:=⟨_,rfl⟩
     have g4:=hIx (zmJ g1 1 run0 (.slice none 0 0) (by omega) (Qm _) ⟨Zw _,by decide⟩ Av cv wr gu.out ge.out)
     have gt:Hid (∀g2 W,RunAt w.heap.size w2.heap.size n q wr s1 g2 W->Calls prog 29 #[.pointer (some ⟨w2.heap.size,0,none⟩),.slice Av I.length cv,.int .i64 2] W (ziY w.heap.size w2.heap.size n q wr o)):=λg2 W hA=>by
      have:=zmJ g1 2 s1 g2 (by omega) k9 ⟨gx,gz⟩ Av cv W hA ge.out;rw[gO,<-gL]at this;exact this
     rw[gj,<-gL]at g4
     have gK:Hid (G=(0,endS a.most a.status o)):=by
      unfold Hid;rw[gM.out,<-gA.out,<-gO,<-gj,hF.out]
      rfl
     have kO:=hIx g1;clear hG h7 gv gQ g1 B gF gb gW gh g5 gj gO hw hB gM gA hF gu gI gC hn gL kD;go_wp2_with (go_at_call 29;apply Hid.out);unfold Hid
     with_reducible refine g4.out.mono ?_
     rintro e w4 ⟨rfl,g2,ki⟩;have kl:=hIx (gt.out g2 w4 ki);clear g4 gt ki;go_wp2_with (go_at_call 29;apply Hid.out);unfold Hid
     with_reducible refine kl.out.mono ?_
     rintro e s ⟨rfl,kU,hJ⟩;obtain⟨y,u,kb,_⟩:=hJ.own.form;obtain⟨nm,gR⟩:∃nm,o.mt.length=nm:=⟨_,rfl⟩
     rw[gR]at kb;subst kb;clear gR;have ⟨gf,H⟩:=U.out s hJ.ap;have ⟨u7,u8,u9,hP,gH,hX⟩:=hJ.box.out;have f7:=hJ.box.free 7;have r0:s.cell? ⟨w.heap.size,0,none⟩=some (.int .i64 a.most):=Qf _ _ 0 _ _ _ gf;have r1:s.cell? ⟨w.heap.size,1,none⟩=some (.int .i64 a.status):=Qf _ _ 1 _ _ _ gf;have ⟨v0,Q,v2,v3⟩:=H.four;have Y:=H.free 0;have T:=H.free 1;have V:=H.free 2;have P:=H.free 3;have N:Below w.heap.size w s:=hH.trans hJ.ap.below;have ga:=hIx hJ;have kv:w.heap.size+1+1≠w2.heap.size:=by omega
     have D:Hid (∀W (S:RunS),(∀j:Nat,j≠w2.heap.size->W.heap[j]? = s.heap[j]?)->s.heap.size=W.heap.size->Below w.heap.size w W->G=(0,S)->S.mt=o.mt->zdf G w (.returned (.tuple #[verV S (.slice y nm u),.int .i64 0])) (putV W (w.heap.size+1+1) S.st S.who S.sc (.slice y nm u))):=λW S h1 h2 h3 h4 h5=>by
      rw[h4];refine⟨(.slice y nm u),rfl,?_,zgm h3 (by omega) _ _ _ _⟩;rw[h5];refine(ga.out.own.keep λg hg=>?_).low hH.size;have kS:=(ga.out.own.lt g hg).1;rw[zs1 _ _ _ _ _ _ _ (by omega),h1 g (by omega)]
     cases hu:o.dn with
     |true=>
      rw[hu]at hX;have hS:Hid (G=(0,o)):=by unfold Hid;rw[gK.out];unfold endS;rw[Qe (by rw[hu];simp)]
      clear hu;go_wp2_with fail
      go_quiet (fail)
      have hs:∀j:Nat,(s.drewN nq).heap[j]? = s.heap[j]? := λ_=>rfl
      have ho:s.heap.size=(s.drewN nq).heap.size:=rfl;have d:Below s.heap.size s (s.drewN nq):=⟨rfl,rfl,rfl,Qd _,λ_ _=>rfl⟩
      have p7:=zaa d u7;have p8:=zaa d u8;have p9:=zaa d u9;have gi:=zaa d hP;have p1:=zaa d r1;have g7:=zaB d u7 f7;have y0:=zaa d v0;have y1:=zaa d Q;have y2:=zaa d v2;have y3:=zaa d v3;have z0:=zaB d v0 Y;have z1:=zaB d Q T;have z2:=zaB d v2 V;have z3:=zaB d v3 P;have hz:V4 (s.drewN nq) (w.heap.size+1+1) 0 0 0 (.slice none 0 0):=H;have h9:Below w.heap.size w (s.drewN nq):=N.trans (d.mono N.size);generalize s.drewN nq=W6 at *;have HF:=hIx (D.out W6 o (λj _=>hs j) ho h9 hS.out rfl);have ⟨t0,t1,t2,t3⟩:=(hz.set o.st o.who o.sc (.slice y nm u)).four;have Z:=hIx (And.intro t0 (And.intro t1 (And.intro t2 t3)));clear t0 t1 t2 t3 D gf H hz hs ho ga U u7 u8 u9 hP gH hX r0 r1 v0 Q v2 v3 Y T V P f7;go_wp2;rw[show (((W6.setCell ⟨w.heap.size+1+1,0,none⟩ (.int .i64 o.st)).setCell ⟨w.heap.size+1+1,1,none⟩ (.int .i64 o.who)).setCell ⟨w.heap.size+1+1,2,none⟩ (.int .i64 o.sc)).setCell ⟨w.heap.size+1+1,3,none⟩ (.slice y nm u)=putV W6 (w.heap.size+1+1) o.st o.who o.sc (.slice y nm u)from rfl]
      exact Qj (v:=.tuple #[.agg #[.int .i64 o.st,.int .i64 o.who,.int .i64 o.sc,(.slice y nm u)],.int .i64 0]) (by simp[results,results7,go_sem,Z.out.1,Z.out.2.1,Z.out.2.2.1,Z.out.2.2.2]) rfl HF.out
     |false=>
      rw[hu]at hX
      by_cases hm:a.most<=o.sc
      rotate_left
      ·have d9:decide (a.most<=o.sc)=false:=Qs hm
       have hS:Hid (G=(0,o)):=by unfold Hid;rw[gK.out];unfold endS;rw[Qe (λh=>hm h.2)]
       clear hu hm;go_wp2_with fail
       go_quiet (fail)
       have hs:∀j:Nat,(s.drewN nq).heap[j]? = s.heap[j]? := λ_=>rfl
       have ho:s.heap.size=(s.drewN nq).heap.size:=rfl;have d:Below s.heap.size s (s.drewN nq):=⟨rfl,rfl,rfl,Qd _,λ_ _=>rfl⟩
       have p7:=zaa d u7;have p8:=zaa d u8;have p9:=zaa d u9;have gi:=zaa d hP;have p1:=zaa d r1;have g7:=zaB d u7 f7;have y0:=zaa d v0;have y1:=zaa d Q;have y2:=zaa d v2;have y3:=zaa d v3;have z0:=zaB d v0 Y;have z1:=zaB d Q T;have z2:=zaB d v2 V;have z3:=zaB d v3 P;have hz:V4 (s.drewN nq) (w.heap.size+1+1) 0 0 0 (.slice none 0 0):=H;have h9:Below w.heap.size w (s.drewN nq):=N.trans (d.mono N.size);generalize s.drewN nq=W6 at *;have HF:=hIx (D.out W6 o (λj _=>hs j) ho h9 hS.out rfl);have ⟨t0,t1,t2,t3⟩:=(hz.set o.st o.who o.sc (.slice y nm u)).four;have Z:=hIx (And.intro t0 (And.intro t1 (And.intro t2 t3)));clear t0 t1 t2 t3 D gf H hz hs ho ga U u7 u8 u9 hP gH hX r0 r1 v0 Q v2 v3 Y T V P f7;go_wp2;rw[show (((W6.setCell ⟨w.heap.size+1+1,0,none⟩ (.int .i64 o.st)).setCell ⟨w.heap.size+1+1,1,none⟩ (.int .i64 o.who)).setCell ⟨w.heap.size+1+1,2,none⟩ (.int .i64 o.sc)).setCell ⟨w.heap.size+1+1,3,none⟩ (.slice y nm u)=putV W6 (w.heap.size+1+1) o.st o.who o.sc (.slice y nm u)from rfl]
       exact Qj (v:=.tuple #[.agg #[.int .i64 o.st,.int .i64 o.who,.int .i64 o.sc,(.slice y nm u)],.int .i64 0]) (by simp[results,results7,go_sem,Z.out.1,Z.out.2.1,Z.out.2.2.1,Z.out.2.2.2]) rfl HF.out
      ·have d9:decide (a.most<=o.sc)=true:=Qu hm
       have hS:Hid (G=(0,{o with st:=a.status})):=by unfold Hid;rw[gK.out];unfold endS;rw[Qi ⟨hu,hm⟩]
       clear hu hm;go_wp2_with fail
       go_quiet (fail)
       have hs:∀j:Nat,(s.drewN nq).heap[j]? = s.heap[j]? := λ_=>rfl
       have ho:s.heap.size=(s.drewN nq).heap.size:=rfl;have d:Below s.heap.size s (s.drewN nq):=⟨rfl,rfl,rfl,Qd _,λ_ _=>rfl⟩
       have p7:=zaa d u7;have p8:=zaa d u8;have p9:=zaa d u9;have gi:=zaa d hP;have p1:=zaa d r1;have g7:=zaB d u7 f7;have y0:=zaa d v0;have y1:=zaa d Q;have y2:=zaa d v2;have y3:=zaa d v3;have z0:=zaB d v0 Y;have z1:=zaB d Q T;have z2:=zaB d v2 V;have z3:=zaB d v3 P;have hz:V4 (s.drewN nq) (w.heap.size+1+1) 0 0 0 (.slice none 0 0):=H;have h9:Below w.heap.size w (s.drewN nq):=N.trans (d.mono N.size);generalize s.drewN nq=W6 at *;obtain⟨W7,K⟩:∃W7,W6.setCell ⟨w2.heap.size,7,none⟩ (.int .i64 a.status)=W7:=⟨_,rfl⟩
       have gZ:∀j:Nat,j≠w2.heap.size->W7.heap[j]? = s.heap[j]? := λj hj=>by rw[<-K,Ql _ _ _ _ hj];exact hs j
       have kz:s.heap.size=W7.heap.size:=by rw[<-K,Z0];exact ho
       have kG:Below w.heap.size w W7:=by rw[<-K];exact h9.setCell (p:=⟨w2.heap.size,7,none⟩) gq _
       have hy:V4 W7 (w.heap.size+1+1) 0 0 0 (.slice none 0 0):=(gZ _ kv).trans (H);have HF:=hIx (D.out W7 {o with st:=a.status} gZ kz kG hS.out rfl);have ⟨t0,t1,t2,t3⟩:=(hy.set a.status o.who o.sc (.slice y nm u)).four;have Z:=hIx (And.intro t0 (And.intro t1 (And.intro t2 t3)));have kx:W7.heap[w2.heap.size]? = (W6.setCell ⟨w2.heap.size,7,none⟩ (.int .i64 a.status)).heap[w2.heap.size]? := by rw[K]
       have s7:W7.cell? ⟨w2.heap.size,7,none⟩=some (.int .i64 a.status):=by rw[<-K];exact Zz _ _ _ p7
       have s8:W7.cell? ⟨w2.heap.size,8,none⟩=some (.int .i64 o.who):=by rw[<-K];exact(QQ _ ⟨w2.heap.size,7,none⟩ ⟨w2.heap.size,8,none⟩ _ (by simp)).trans p8
       have s9:W7.cell? ⟨w2.heap.size,9,none⟩=some (.int .i64 o.sc):=by rw[<-K];exact(QQ _ ⟨w2.heap.size,7,none⟩ ⟨w2.heap.size,9,none⟩ _ (by simp)).trans p9
       have kX:W7.cell? ⟨w2.heap.size,10,none⟩=some (.slice y nm u):=by rw[<-K];exact(QQ _ ⟨w2.heap.size,7,none⟩ ⟨w2.heap.size,10,none⟩ _ (by simp)).trans gi
       have ⟨x0,x1,x2,x3⟩:=hy.four;have o0:=hy.free 0;have o1:=hy.free 1;have o2:=hy.free 2;have o3:=hy.free 3;have kB:=hIx K;clear K kx t0 t1 t2 t3 D gf H hz hy hs ho ga U u7 u8 u9 hP gH hX r0 r1 v0 Q v2 v3 Y T V P f7;go_upto_region 18 with fail
       rw[kB.out];clear p7 p8 p9 gi p1 g7 y0 y1 y2 y3 z0 z1 z2 z3;go_wp2;rw[show (((W7.setCell ⟨w.heap.size+1+1,0,none⟩ (.int .i64 a.status)).setCell ⟨w.heap.size+1+1,1,none⟩ (.int .i64 o.who)).setCell ⟨w.heap.size+1+1,2,none⟩ (.int .i64 o.sc)).setCell ⟨w.heap.size+1+1,3,none⟩ (.slice y nm u)=putV W7 (w.heap.size+1+1) a.status o.who o.sc (.slice y nm u)from rfl];exact Qj (v:=.tuple #[.agg #[.int .i64 a.status,.int .i64 o.who,.int .i64 o.sc,(.slice y nm u)],.int .i64 0]) (by simp[results,results7,go_sem,Z.out.1,Z.out.2.1,Z.out.2.2.1,Z.out.2.2.2]) rfl HF.out
theorem zlj{w:World}{base:Nat}{v:Value}{l:List Int}(h:OwnG rowZ w base v l):∃A c,v=.slice A l.length c/\Sl w w.heap.size 1 A l.length (l.map (Value.int .i64))/\l.length<=c:=by
 have k:l.flatMap rowZ.cells=l.map (Value.int .i64):=by
  clear h
  induction l with
  |nil=>rfl
  |cons a r ih=>rw[QM,QX,ih];rfl
 obtain⟨A,c,e,b⟩:=h.form;rw[k]at b;refine⟨A,c,e,b,?_⟩
 rcases h.2 with ⟨h1,h2⟩|⟨g,cap,f,h1,hb,m,i,_⟩
 ·rw[h1]at e
  injection e with _ d j
  omega
 ·rw[h1]at e
  injection e with _ d j
  omega
def zjv(l:List zao):Nat:=(l.map λx=>x.1.size+x.2.size+2).sum
theorem zeL(x:zao)(l:List zao):zjv (x::l)=(x.1.size+x.2.size+2)+zjv l:=by unfold zjv;rw[QX,List.sum_cons]
theorem zmj{l:List zao}:∀x∈l,x.1.size+x.2.size+2<=zjv l:=by
 induction l with
 |nil=>intro x a;cases a
 |cons y l ih=>
  intro x a;have e:=zeL y l
  rcases QJ.1 a with h|h
  ·subst h;omega
  ·have:=ih x h;omega
