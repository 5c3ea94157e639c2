/- Lemmas for the last texts. -/
import Derived.Test.YtnnokglddolglaaGreatDoorM33
import Derived.Deep.DrawnRows
import Derived.Deep.DeepCutAuto
set_option maxHeartbeats 3200000
set_option maxRecDepth 100000
namespace Go.Proofs.YtnnokglddolglaaGreatDoor
open Go.RowKit Go.Proofs.Tryz
def zwm:Value:=.agg #[.string (.mk #[]),.string (.mk #[]),jD 0 0]
def zdq(l:jE)(w:World)(e:Ending)(w':World):Prop:=
 (∃x,zbq l=.error x/\e=jC (.tuple #[zwm,jA x])/\w w')\/
 ∃h A c,zbq l=.ok h/\e=jC (.tuple #[.agg #[.string h.m,.string h.t,.slice A h.fs.length c],jA 0])/\OwnV w' w.heap.size (.slice A h.fs.length c) h.fs/\w w'
theorem zbA{w:World}{g:Nat}{c d f:Value}(x y z:Value)(b:w.cell? g=some c)(h1:w.cell? ⟨g,1,none⟩=some d)(h2:w.cell? ⟨g,2,none⟩=some f):
 (((w.setCell g x).setCell ⟨g,1,none⟩ y).setCell ⟨g,2,none⟩ z).cell? g=some x/\(((w.setCell g x).setCell ⟨g,1,none⟩ y).setCell ⟨g,2,none⟩ z).cell? ⟨g,1,none⟩=some y/\(((w.setCell g x).setCell ⟨g,1,none⟩ y).setCell ⟨g,2,none⟩ z).cell? ⟨g,2,none⟩=some z:=by
 have i:(⟨g,1,none⟩:Addr)≠⟨g,0,none⟩:=by intro e;cases e
 have n2:(⟨g,2,none⟩:Addr)≠⟨g,0,none⟩:=by intro e;cases e
 have n3:(⟨g,2,none⟩:Addr)≠⟨g,1,none⟩:=by intro e;cases e
 have ⟨h,a⟩:=za8 x y b h1;refine⟨?_,?_,?_⟩
 ·rw[QT _ _ _ _ n2];exact h
 ·rw[QT _ _ _ _ n3];exact a
 ·exact ZA _ _ _ ((QT _ _ _ _ (Xv n3)).trans ((QT _ _ _ _ (Xv n2)).trans h2))
def ResAt(R:Nat)(w:World):Prop:=w.heap[R]? = some (.cells #[.string (.mk #[]),.string (.mk #[]),jD 0 0] 27 (0,0))
theorem ResAt.cells{R:Nat}{w:World}(h:ResAt R w):w.cell? R=some (.string (.mk #[]))/\w.cell? ⟨R,1,none⟩=some (.string (.mk #[]))/\w.cell? ⟨R,2,none⟩=some (jD 0 0):=
 ⟨Qf w _ 0 _ _ _ h,Qf w _ 1 _ _ _ h,Qf w _ 2 _ _ _ h⟩
theorem ResAt.free{R:Nat}{w:World}(h:ResAt R w)(j:Nat):w.frozen? ⟨R,j,none⟩=false:=by
 unfold ResAt at h;simp[World.frozen?, h]
theorem ResAt.below{R B:Nat}{w w':World}(h:ResAt R w)(hb:Below B w w')(a:R<B):ResAt R w':=(hb.block R a).trans h
def HdAt(H:Nat)(m t:ByteArray)(v:Value)(w:World):Prop:=w.heap[H]? = some (.cells #[.string m,.string t,v] 27 (0,0))
theorem HdAt.cells{H:Nat}{m t:ByteArray}{v:Value}{w:World}(h:HdAt H m t v w):w.cell? H=some (.string m)/\w.cell? ⟨H,1,none⟩=some (.string t)/\w.cell? ⟨H,2,none⟩=some v:=
 ⟨Qf w _ 0 _ _ _ h,Qf w _ 1 _ _ _ h,Qf w _ 2 _ _ _ h⟩
theorem HdAt.free{H:Nat}{m t:ByteArray}{v:Value}{w:World}(h:HdAt H m t v w)(j:Nat):w.frozen? ⟨H,j,none⟩=false:=by
 unfold HdAt at h;simp[World.frozen?, h]
theorem HdAt.put{H:Nat}{m t:ByteArray}{v:Value}{w:World}(h:HdAt H m t v w)(u:Value):HdAt H m t u (w.setCell ⟨H,2,none⟩ u):=by
 unfold HdAt at h ⊢;simp[World.setCell,Q4,h]
section
variable {ops:Array Oper} {o:Oper} {a:Act} {Q:Exit->Act->World->Prop} {w:World}
theorem zdO{K:Act->World->Prop}{E:Prop}(f:o.guard=none)(s x:Operand)(y:o.op=.call {callee:=.builtin .append,args:=#[s,x],argTypes:=#[25,25]})
 (base:Nat) (v:Value) (l:List zal) (B:a.eval s=v) (d:OwnV w base v l) (b:base<=w.heap.size)
 (n:List Value) (new:zal) (F:n=zaA new) (p:Nat) (m:w.heap.size=p) (c:Nat) (D:a.eval x=.slice p 1 c)
 (e:l.length<=4194304)
 (h:∀v' w',OwnV w' base v' (l++[new])->Below base w w'->(∀g,g<w.heap.size->v.ownBlock≠some g->w'.heap[g]? = w.heap[g]?)->w.heap.size<w'.heap.size->K (a.put o.dst v') w'):
 if Region.wanted o (yielded ops a.tmps)=true then Oper.wp prog o a (w.alloc (.cells n.toArray 133)) K Q else E:=by
 subst F;subst m
 obtain⟨r,C,i,j,k⟩:=ZG zo8;have t:Region.wanted o (yielded ops a.tmps)=true:=by simp[Region.wanted,f]
 rw[Qg t]
 exact zaV s x 25 y base 133 r _ 2 32 underlying25 C i j k rfl (by decide) v l.length (l.flatMap zaA) B d b (zaA new) 1 c D rfl
  (λu z=>zjx [new] u (by simpa using z)) (by unfold maxLen;omega) (by omega) λv' w' h1 h2 A q=>h v' w' (by unfold OwnV;rw[Qa,Q6];simpa using h1) h2 A q
theorem zeI{K:Act->World->Prop}{E:Prop}(f:o.guard=none)(s x:Operand)(n:o.op=.call {callee:=.builtin .append,args:=#[s,x],argTypes:=#[25,25]})
 (base:Nat) (v:Value) (l:List zal) (q:a.eval s=v) (e:OwnV w base v l) (d:base<=w.heap.size)
 (i:List Value) (new:zal) (t:i=zaA new) (j:Nat) (k:w.heap.size=j) (c:Nat) (r:a.eval x=.slice j 1 c)
 (b:l.length<=4194304)
 (h:∀v' w',OwnV w' base v' (l++[new])->Below base w w'->(∀g,g<w.heap.size->v.ownBlock≠some g->w'.heap[g]? = w.heap[g]?)->w.heap.size<w'.heap.size->K (a.put o.dst v') w'):
 if Region.wanted o (yielded ops a.tmps)=true then Oper.wp prog o a (w.alloc (.cells i.toArray 133)).drew K Q else E:=
 zdO (w:=w.drew) f s x n base v l q e d i new t j k c r b λv' w' h1 h2 p m=>h v' w' h1 (undrew h2) p m
end
def zhT(b:List jE)(m t:ByteArray)(a:World)(i:Value)(wr:World):Prop:=
 ∃(k:Nat) (v:Value),k<=b.length/\i=jA k/\Hid ((b.take k).all zjg=true)/\HdAt a.heap.size m t v wr/\OwnV wr (a.heap.size+1) v ((b.take k).map cutF)/\a wr
theorem zpV(s:ByteArray)(w:World)(hT:LibOk w):
 Calls prog 60 #[.string s] w (zdq s.data.toList w):=by
 have P:s.data.toList.length=s.size:=by simp
 obtain⟨W0,hv⟩:∃W0,w.alloc (.cells #[.string (.mk #[]),.string (.mk #[]),jD 0 0] 27)=W0:=⟨_,rfl⟩
 have S:ResAt w.heap.size W0:=by rw[<-hv];exact Qt w _
 have h7:w W0:=by rw[<-hv];exact WaL
 have I:w.heap.size<W0.heap.size:=by rw[<-hv];simp
 have hn:=hT.below h7
 have m:Hid (∀x W,zbq s.data.toList=.error x->w W->zdq s.data.toList w (jC (.tuple #[zwm,jA x])) (((W.setCell w.heap.size (.string (.mk #[]))).setCell ⟨w.heap.size,1,none⟩ (.string (.mk #[]))).setCell ⟨w.heap.size,2,none⟩ (jD 0 0))):=λx W h hb=>
  .inl ⟨x,h,rfl,((hb.setCell (p:=⟨w.heap.size,0,none⟩) (Qc _) _).setCell (p:=⟨w.heap.size,1,none⟩) (Qc _) _).setCell (p:=⟨w.heap.size,2,none⟩) (Qc _) _⟩
 unfold zwm at m;have gr:=hIx hv;clear hT hv
 by_cases hV:4096<s.size
 ·have d0:decide ((4096:Int)<(s.size:Int))=true:=Qu (by omega)
  have Y:=hIx (m.out 5 W0 (zsg (by omega)) h7);have ⟨r0,r1,r2⟩:=S.cells;have f0:=S.free 0;have f1:=S.free 1;have f2:=S.free 2;clear hV P m S h7 hn
  go_in
  go_upto_region 1 with fail
  rw[gr.out];go_wp2_with fail;have t:=zbA (.string (.mk #[])) (.string (.mk #[])) (jD 0 0) r0 r1 r2;exact Qi (v:=.tuple #[.agg #[.string (.mk #[]),.string (.mk #[]),jD 0 0],jA 5]) (by simp[results,results60,go_sem,t.1,t.2.1,t.2.2]) rfl Y.out
 ·have d0:decide ((4096:Int)<(s.size:Int))=false:=Qq (by omega)
  have hs:s.size<=4194304:=by omega
  have g6:Hid (zbq s.data.toList=match zc5 s.data.toList with|none=>.error 4|some ls=>zc6 ls):=by unfold Hid zbq;rw[Qe (by omega)];cases zc5 s.data.toList <;> rfl
  have gc:=hIx (zrG s W0 hn (by omega));clear hV P
  go_in
  go_upto_region 1 with fail
  rw[gr.out];go_wp2_with fail;refine gc.out.mono ?_;rintro e w1 (⟨gh,rfl,h4⟩|⟨ls,g7,rfl,hJ⟩)
  ·have H:=S.below h4 I
   have Y:=hIx (m.out 4 w1 (by rw[g6.out,gh]) (h7.trans (h4.mono (QX I))));have ⟨r0,r1,r2⟩:=H.cells;have f0:=H.free 0;have f1:=H.free 1;have f2:=H.free 2;clear m S h7 hn H h4 gh;go_wp2_with fail;have t:=zbA (.string (.mk #[])) (.string (.mk #[])) (jD 0 0) r0 r1 r2;exact Qi (v:=.tuple #[.agg #[.string (.mk #[]),.string (.mk #[]),jD 0 0],jA 4]) (by simp[results,results60,go_sem,t.1,t.2.1,t.2.2]) rfl Y.out
  ·have L:Hid (zbq s.data.toList=zc6 ls):=by unfold Hid;rw[g6.out,g7]
   obtain⟨a,ha,J,gj⟩:=zjS g7;have P:s.data.toList.length=s.size:=by simp
   have gC:a.length<=4194304:=by
    have:=Zi List.length ha;rw[Qa]at this;omega
   have hy:∀x∈ls,x.length<=4194304:=λx hx=>by
    rw[<-J]at hx;exact Ql (zf1 a x hx) gC
   have hR:ls.length<=4194305:=by have:=zg6 a;rw[J]at this;omega
   have r:ls≠[]:=by rw[<-J];exact zhx a
   have h4:W0 w1:=by rw[hJ];exact WaL
   have hS:∀j (h:j<ls.length),w1.cell? ⟨W0.heap.size,j,none⟩=some (.string (bs ls[j])):=λj h=>by
    rw[hJ,zao (Qj _ _) j];simp[h]
   have Z:W0.heap.size<w1.heap.size:=by rw[hJ];simp
   clear g7 ha J gj hJ g6 gc
   obtain⟨F,b,rfl⟩:∃F b,ls=F::b:=by
    cases ls with
    |nil=>exact absurd rfl r
    |cons x y=>exact⟨x,y,rfl⟩
   have H:=S.below h4 I;have he:=h7.trans (h4.mono (QX I));have gB:=hn.below h4;obtain⟨m0,hi⟩:=gB;have g9:=hy F (by simp);have J:=strings_Split (bs F) ⟨#[32]⟩ m0 w1 (by rw[zae];omega) hi (by decide);have hq:=zbZ 32 (bs F);have hQ:=Xh ⟨#[32]⟩ (by decide) 0 _ (bs F) rfl;generalize Lib.splitB ⟨#[32]⟩ 0 (Lib.countB (bs F) ⟨#[32]⟩) (bs F)=ps at J hq hQ;generalize Lib.countB (bs F) ⟨#[32]⟩=nn at J hQ;rw[<-hQ]at J
   have ga:ps.length<=4194305:=by
    have h1:=zdK 32 F;have h2:=Zi List.length hq;rw[Qh,zah]at h2;omega
   have ho:=hIx hy;have gM:=hIx hS;have gJ:=hIx hi;have hP:w1.cell? W0.heap.size=some (.string (bs F)):=hS 0 (by simp);rw[zah]at hq;have hm:=hIx hq;have gf:=hIx J;have i0:(0:Int)<((b.length+1:Nat):Int):=by omega
   rw[Qn]at hR;rw[Qn];clear hy hS hi hq J hQ r h4 S h7 hn g9;go_wp2_with fail;refine gf.out.mono ?_;rintro e w2 ⟨rfl,hI⟩;have hj:w1 w2:=by rw[hI];exact WaL
   have U:=H.below hj (ZC I Z);have N:=he.trans (hj.mono (QX (ZC I Z)))
   have h8:Hid (∀j (h:j<ps.length),w2.cell? ⟨w1.heap.size,j,none⟩=some (.string ps[j])):=λj h=>by
    rw[hI,zao (Qj _ _) j];simp[h]
   have hw:w1.heap.size<w2.heap.size:=by rw[hI];simp
   clear hI gf hP
   by_cases hL:∃x y z,ps=[x,y,z]/\z.data.toList=verL
   ·obtain⟨x,y,z,rfl,G⟩:=hL
    have hP:w2.cell? w1.heap.size=some (.string x):=h8.out 0 (by simp);have gv:w2.cell? ⟨w1.heap.size,1,none⟩=some (.string y):=h8.out 1 (by simp);have g3:w2.cell? ⟨w1.heap.size,2,none⟩=some (.string z):=h8.out 2 (by simp);have q2:(z.toList==[72,84,84,80,47,49,46,49])=true:=by rw[QP,G];rfl
    have q3:(z.toList != [72,84,84,80,47,49,46,49])=false:=by rw[QP,G];rfl
    have gA:z=ByteArray.mk #[72,84,84,80,47,49,46,49]:=by rw[<-zc1 z,G];rfl
    subst gA;have D:splL 32 F=[x.data.toList,y.data.toList,verL]:=by have:=hm.out;rw[QW,QW,QW,Zu,G]at this;exact this.symm
    have E:Hid (zc6 (F::b)=if b.all zjg=true then (if zag ⟨x,y,b.map cutF⟩=0 then .ok ⟨x,y,b.map cutF⟩else .error (zag ⟨x,y,b.map cutF⟩))else .error 4):=by
     unfold Hid zc6;rw[List.headD_cons,D];dsimp only;rw[Qg rfl,List.tail_cons,zc1,zc1]
    have gR:x.size<=4194304:=by
     have h1:=zbV 32 F x.data.toList (by rw[D];simp);have h2:=ho.out F (by simp);have h3:x.data.toList.length=x.size:=by simp
     omega
    have gQ:y.size<=4194304:=by
     have h1:=zbV 32 F y.data.toList (by rw[D];simp);have h2:=ho.out F (by simp);have h3:y.data.toList.length=y.size:=by simp
     omega
    have hF:Hid (zbq s.data.toList=zc6 (F::b)):=L.out;have j0:(0:Int)<3:=by decide
    have j1:(1:Int)<3:=by decide
    have j2:(2:Int)<3:=by decide
    have gd:=(Qj w2.heap.size w2).drew;simp only[Qn,QS,Zh,Nat.reduceAdd]at *;have gi:=hIx U;have hh:=hIx N;have gg:=hIx hj;clear H he G D ga hm h8 L U N hj gd;go_wp2_with fail
    go_region
    have T:HdAt w2.heap.size x y (jD 0 0) (w2.alloc (.cells #[.string x,.string y,jD 0 0] 27)).drew:=Qt w2 _;have g4:w2 (w2.alloc (.cells #[.string x,.string y,jD 0 0] 27)).drew:=((Qj w2.heap.size w2).alloc (Qc _) _).drew;have h6:w2.heap.size<(w2.alloc (.cells #[.string x,.string y,jD 0 0] 27)).drew.heap.size:=by show _<(w2.alloc _).heap.size;simp
    generalize (w2.alloc (.cells #[.string x,.string y,jD 0 0] 27)).drew=W5 at *;have V:Hid (zhT b x y w2 (jA 0) W5):=⟨0,jD 0 0,Qm _,rfl,rfl,T,OwnV.nil _ _,g4⟩
    rcases Z7 b.length with gk|gk
    ·obtain rfl:b=[]:=QA gk
     have i1:(1:Int)<=((([]:List jE).length+1:Nat):Int):=by omega
     have i2:((([]:List jE).length+1:Nat):Int)-1=(([]:List jE).length:Int):=by omega
     clear hP gv g3 T g4 h6;go_wp2
     go_loopw [50] (λi wr=>zhT ([]:List jE) x y w2 i wr) (λi _=>([]:List jE).length-(intOf i).toNat)
     case atStart=>exact V.out
     case round=>
      obtain⟨k,v,hk,rfl,h5,T,hO,hb⟩:=hrel;have hr:=gi.out.below hb (ZC I (ZC Z hw));have h9:w wr:=hh.out.trans (hb.mono hh.out.size)
      have K:w2.heap.size<wr.heap.size:=by
       have:=T;unfold HdAt at this;rw[QV]at this;exact this.1
      obtain⟨A,c,rfl,_⟩:=hO.form;rw[Qh]at T hO
      by_cases hK:k<([]:List jE).length
      ·exact absurd hK (by simp)
      ·obtain rfl:k=([]:List jE).length:=by omega
       have d1:decide ((([]:List jE).length:Int)<(([]:List jE).length:Int))=false:=by simp
       rw[QZ]at h5 hO T;rw[h5.out]at E;have HH:=hIx (E.out.trans (Qg rfl));have hB:Hid (zbq s.data.toList=if zag ⟨x,y,([]:List jE).map cutF⟩=0 then .ok ⟨x,y,([]:List jE).map cutF⟩else .error (zag ⟨x,y,([]:List jE).map cutF⟩)):=by unfold Hid;rw[hF.out,HH.out]
       obtain⟨A',c',e',P⟩:=hO.form;rw[Qh]at e';injection e' with eA eB eC
       subst eA;subst eC
       have Q:(([]:List jE).map cutF).length=([]:List jE).length:=Qh _
       have O:=zep ⟨x,y,([]:List jE).map cutF⟩ A c wr P (by show x.size<=maxLen;unfold maxLen;omega) (by show y.size<=maxLen;unfold maxLen;omega) (λf hf=>by
        obtain⟨z,hz,rfl⟩:=QR.1 hf;have h1:=zcM z [58];have h2:=ho.out z (by simp[hz]);have h3:=zfs (Lib.cut z [58]).2.1;unfold cutF maxLen;simp only[zae];omega) (by rw[Q];omega)
       dsimp only at O;rw[Q]at O;have ⟨h0,h1,h2⟩:=T.cells;have HO:=hIx hO;have hY:=hIx O;have hE:=hIx h9;have hD:=hr;have gb:=hIx hD;have hp:w.heap.size<wr.heap.size:=ZC I (ZC Z (ZC hw K));clear O hr hD hb h9 P hO T V;go_wp2_with fail;refine hY.out.mono ?_;rintro e w6 ⟨rfl,d⟩;have o:=gb.out.below d hp;have n:=hE.out.trans (d.mono (QX hp));have ⟨r0,r1,r2⟩:=o.cells;have f0:=o.free 0;have f1:=o.free 1;have f2:=o.free 2;have g0:=(d.cell (p:=⟨w2.heap.size,0,none⟩) K).trans h0;have g1:=(d.cell (p:=⟨w2.heap.size,1,none⟩) K).trans h1;have g2:=(d.cell (p:=⟨w2.heap.size,2,none⟩) K).trans h2;have l:=HO.out.below d
       by_cases hc:zag ⟨x,y,([]:List jE).map cutF⟩=0
       ·have B:zbq s.data.toList=.ok ⟨x,y,([]:List jE).map cutF⟩:=by rw[hB.out,Qg hc]
        have X:OwnV (((w6.setCell w.heap.size (.string x)).setCell ⟨w.heap.size,1,none⟩ (.string y)).setCell ⟨w.heap.size,2,none⟩ (.slice A ([]:List jE).length c)) w.heap.size (.slice A ([]:List jE).length c) (([]:List jE).map cutF):=by
         refine(l.keep λg hg=>?_).low (by omega);have r:g≠w.heap.size:=λe=>by have:=(QK l g hg).1;omega
         rw[Qk _ _ _ _ r,Qk _ _ _ _ r,Qk _ _ _ _ r]
        have Y:Hid (zdq s.data.toList w (jC (.tuple #[.agg #[.string x,.string y,.slice A ([]:List jE).length c],jA 0])) (((w6.setCell w.heap.size (.string x)).setCell ⟨w.heap.size,1,none⟩ (.string y)).setCell ⟨w.heap.size,2,none⟩ (.slice A ([]:List jE).length c))):=by
         refine .inr ⟨⟨x,y,([]:List jE).map cutF⟩,A,c,B,?_,?_,((n.setCell (p:=⟨w.heap.size,0,none⟩) (Qc _) _).setCell (p:=⟨w.heap.size,1,none⟩) (Qc _) _).setCell (p:=⟨w.heap.size,2,none⟩) (Qc _) _⟩
         ·dsimp only;rw[Q]
         ·dsimp only;rw[Q];exact X
        rw[hc];clear hc B X l n o d;go_wp2_with fail;have t:=zbA (.string x) (.string y) (.slice A ([]:List jE).length c) r0 r1 r2
        try simp only[QS]at t
        exact Qi (v:=.tuple #[.agg #[.string x,.string y,.slice A ([]:List jE).length c],jA 0]) (by simp[results,results60,go_sem,t.1,t.2.1,t.2.2]) rfl Y.out
       ·have B:zbq s.data.toList=.error (zag ⟨x,y,([]:List jE).map cutF⟩):=by rw[hB.out,Qe hc]
        have Y:=hIx (m.out _ w6 B n);have q0:(zag ⟨x,y,([]:List jE).map cutF⟩ != 0)=true:=Q7.2 hc;have q1:(zag ⟨x,y,([]:List jE).map cutF⟩==0)=false:=Qb.2 hc;generalize zag ⟨x,y,([]:List jE).map cutF⟩=C at *;clear hc B l n o d;go_wp2_with fail;have t:=zbA (.string (.mk #[])) (.string (.mk #[])) (jD 0 0) r0 r1 r2;exact Qi (v:=.tuple #[.agg #[.string (.mk #[]),.string (.mk #[]),jD 0 0],jA C]) (by simp[results,results60,go_sem,t.1,t.2.1,t.2.2]) rfl Y.out
    ·have gO:¬b.length=0:=by omega
     have i1:(1:Int)<=((b.length+1:Nat):Int):=by omega
     have i2:((b.length+1:Nat):Int)-1=(b.length:Int):=by omega
     clear hP gv g3 T g4 h6;go_wp2
     go_loopw [50] (λi wr=>zhT b x y w2 i wr) (λi _=>b.length-(intOf i).toNat)
     case atStart=>exact V.out
     case round=>
      obtain⟨k,v,hk,rfl,h5,T,hO,hb⟩:=hrel;have hr:=gi.out.below hb (ZC I (ZC Z hw));have h9:w wr:=hh.out.trans (hb.mono hh.out.size)
      have K:w2.heap.size<wr.heap.size:=by
       have:=T;unfold HdAt at this;rw[QV]at this;exact this.1
      obtain⟨A,c,rfl,_⟩:=hO.form;rw[Qh]at T hO
      by_cases hK:k<b.length
      ·have hW:(b.take k).length=k:=by rw[QJ];omega
       rw[hW]at T hO;have i7:IntKind.i64.wrap ((k:Int)+1)=(k:Int)+1:=Qx _ (by omega)
       have hS:wr.cell? ⟨W0.heap.size,1+k,none⟩=some (.string (bs b[k])):=by
        rw[(hb.cell (p:=⟨W0.heap.size,1+k,none⟩) (ZC Z hw)),gg.out.cell (p:=⟨W0.heap.size,1+k,none⟩) Z];have:=gM.out (1+k) (by omega);rw[this];simp[Nat.add_comm 1 k]
       have gP:(b[k]).length<=4194304:=ho.out _ (by simp);have hX:=zcM b[k] [58];have gy:=zfs (Lib.cut b[k] [58]).2.1
       have hi:wr.cell? (0:)=some (jA m0):=by
        rw[hb.cell (p:=⟨0,0,none⟩) (by show 0<w2.heap.size;omega),gg.out.cell (p:=⟨0,0,none⟩) (by show 0<w1.heap.size;omega)];exact gJ.out
       have hcut:=strings_Cut (bs b[k]) ⟨#[58]⟩ m0 wr (by rw[zae];omega) hi;rw[zah]at hcut;have ge:Hid (b.take (k+1)=b.take k++[b[k]]):=Qs hK
       have hu:Hid (zjg b[k]=false->zbq s.data.toList=.error 4):=λh=>by
        rw[hF.out,E.out,Qe];intro ha;have:=Zl.1 ha _ (Qz hK);rw[h]at this;cases this
       unfold zjg at hu
       have g5:Hid (zjg b[k]=true->(b.take (k+1)).all zjg=true):=λh=>by
        rw[ge.out,List.all_append,h5.out];simp[h]
       unfold zjg at g5;have gl:Hid (cutF b[k]=(bs (Lib.cut b[k] [58]).1,bs (zaG (Lib.cut b[k] [58]).2.1))):=rfl;have hA:=hIx hcut;generalize b[k]=u at *;generalize Lib.cut u [58]=q at *;obtain⟨ca,cb,cc⟩:=q;dsimp only at gl hA hu g5 hX gy;have gx:=hIx hr;have hE:=hIx h9;have gG:=hIx T;have gN:=hIx hO;have gL:=hIx hb;clear hi hcut hr h9 T hO hb h5 V;cases cc with
       |false=>
        have gz:=hIx (hu.out rfl);go_wp2_with fail;refine hA.out.mono ?_;rintro e w5 ⟨rfl,nq,rfl⟩;have ht:ResAt w.heap.size (wr.drewN nq):=gx.out;have ⟨r0,r1,r2⟩:=ht.cells;have f0:=ht.free 0;have f1:=ht.free 1;have f2:=ht.free 2;have Y:=hIx (m.out 4 (wr.drewN nq) gz.out (below_drewN hE.out nq));clear ht;go_wp2_with fail;have t:=zbA (.string (.mk #[])) (.string (.mk #[])) (jD 0 0) r0 r1 r2;exact Qi (v:=.tuple #[.agg #[.string (.mk #[]),.string (.mk #[]),jD 0 0],jA 4]) (by simp[results,results60,go_sem,t.1,t.2.1,t.2.2]) rfl Y.out
       |true=>
        have gw:=hIx (g5.out rfl);go_wp2_with fail;refine hA.out.mono ?_;rintro e w5 ⟨rfl,nq,rfl⟩;have g8:HdAt w2.heap.size x y (.slice A k c) (wr.drewN nq):=gG.out;have hG:OwnV (wr.drewN nq) (w2.heap.size+1) (.slice A k c) ((b.take k).map cutF):=gN.out;have gm:w2 (wr.drewN nq):=below_drewN gL.out nq;have ⟨h0,h1,h2⟩:=g8.cells;have h6:w2.heap.size<(wr.drewN nq).heap.size:=K;have hU:(Value.slice A k c).ownBlock≠some w2.heap.size:=λe=>by have:=(QK hG _ e).1;omega
        have gq:((b.take k).map cutF).length<=4194304:=by rw[Qh,hW];omega
        have gp:(bs cb).size<=maxLen:=by rw[zae];unfold maxLen;omega
        generalize wr.drewN nq=w5 at *;have gn:=hIx g8;have gK:=hIx gm;have gu:=hIx hU
        have gI:Hid (∀W,Calls prog 80 #[.string (ByteArray.mk cb.toArray)] W λe w'=>e=jC (.string (bs (zaG cb)))/\w'=W):=λW=>by
         have:=zdE (bs cb) W gp;rw[zah]at this;exact this
        clear g8 gm gp hU;go_wp2_with fail
        go_region_law (first|(refine zdO rfl (.tmp 64) (.tmp 69) rfl (w2.heap.size+1) (.slice A k c) ((b.take k).map cutF) rfl (by exact hG) (by exact h6) _ (bs ca,bs (zaG cb)) rfl w5.heap.size rfl 1 rfl gq ?_;intro v6 w6 l d hN gD;obtain⟨A6,c6,rfl,_⟩:=l.form;have hd:HdAt w2.heap.size x y (.slice A k c) w6:=(hN w2.heap.size h6 gu.out).trans gn.out;have gH:=hd.free 2;have gE:=hd.cells.2.2)|(refine zeI rfl (.tmp 64) (.tmp 69) rfl (w2.heap.size+1) (.slice A k c) ((b.take k).map cutF) rfl (by exact hG) (by exact h6) _ (bs ca,bs (zaG cb)) rfl w5.heap.size rfl 1 rfl gq ?_;intro v6 w6 l d hN gD;obtain⟨A6,c6,rfl,_⟩:=l.form;have hd:HdAt w2.heap.size x y (.slice A k c) w6:=(hN w2.heap.size h6 gu.out).trans gn.out;have gH:=hd.free 2;have gE:=hd.cells.2.2)|(go_simp;go_at_call 80;refine(gI.out _).mono ?_;rintro e w8 ⟨rfl,rfl⟩))
        all_goals
         have hC:((b.take k).map cutF++[(bs ca,bs (zaG cb))]).length=k+1:=by rw[Qa,Qh,hW];rfl
         rw[hC]at l;have gs:=hd.put (.slice A6 (k+1) c6);have gt:=(gK.out.trans (d.mono (Zc _))).setCell (p:=⟨w2.heap.size,2,none⟩) (Qc _) (.slice A6 (k+1) c6)
         have X:OwnV (w6.setCell ⟨w2.heap.size,2,none⟩ (.slice A6 (k+1) c6)) (w2.heap.size+1) (.slice A6 (k+1) c6) ((b.take (k+1)).map cutF):=by
          rw[ge.out,Q2,QW,Zu,gl.out];refine l.keep λg hg=>?_
          have r:g≠w2.heap.size:=λe=>by have:=(QK l g hg).1;omega
          rw[Qk _ _ _ _ r]
         have HN:=hIx (And.intro gs (And.intro X gt));clear gs X gt l d hN hd hG h0 h1 h2 hC;go_wp2_with fail
         go_roundw
         case rel=>exact⟨k+1,.slice A6 (k+1) c6,by omega,by go_num,gw,HN.out.1,HN.out.2.1,HN.out.2.2⟩
         case measure=>simp[intOf] <;> omega
      ·obtain rfl:k=b.length:=by omega
       have d1:decide ((b.length:Int)<(b.length:Int))=false:=by simp
       rw[QZ]at h5 hO T;rw[h5.out]at E;have HH:=hIx (E.out.trans (Qg rfl));have hB:Hid (zbq s.data.toList=if zag ⟨x,y,b.map cutF⟩=0 then .ok ⟨x,y,b.map cutF⟩else .error (zag ⟨x,y,b.map cutF⟩)):=by unfold Hid;rw[hF.out,HH.out]
       obtain⟨A',c',e',P⟩:=hO.form;rw[Qh]at e';injection e' with eA eB eC
       subst eA;subst eC
       have Q:(b.map cutF).length=b.length:=Qh _
       have O:=zep ⟨x,y,b.map cutF⟩ A c wr P (by show x.size<=maxLen;unfold maxLen;omega) (by show y.size<=maxLen;unfold maxLen;omega) (λf hf=>by
        obtain⟨z,hz,rfl⟩:=QR.1 hf;have h1:=zcM z [58];have h2:=ho.out z (by simp[hz]);have h3:=zfs (Lib.cut z [58]).2.1;unfold cutF maxLen;simp only[zae];omega) (by rw[Q];omega)
       dsimp only at O;rw[Q]at O;have ⟨h0,h1,h2⟩:=T.cells;have HO:=hIx hO;have hY:=hIx O;have hE:=hIx h9;have hD:=hr;have gb:=hIx hD;have hp:w.heap.size<wr.heap.size:=ZC I (ZC Z (ZC hw K));clear O hr hD hb h9 P hO T V;go_wp2_with fail;refine hY.out.mono ?_;rintro e w6 ⟨rfl,d⟩;have o:=gb.out.below d hp;have n:=hE.out.trans (d.mono (QX hp));have ⟨r0,r1,r2⟩:=o.cells;have f0:=o.free 0;have f1:=o.free 1;have f2:=o.free 2;have g0:=(d.cell (p:=⟨w2.heap.size,0,none⟩) K).trans h0;have g1:=(d.cell (p:=⟨w2.heap.size,1,none⟩) K).trans h1;have g2:=(d.cell (p:=⟨w2.heap.size,2,none⟩) K).trans h2;have l:=HO.out.below d
       by_cases hc:zag ⟨x,y,b.map cutF⟩=0
       ·have B:zbq s.data.toList=.ok ⟨x,y,b.map cutF⟩:=by rw[hB.out,Qg hc]
        have X:OwnV (((w6.setCell w.heap.size (.string x)).setCell ⟨w.heap.size,1,none⟩ (.string y)).setCell ⟨w.heap.size,2,none⟩ (.slice A b.length c)) w.heap.size (.slice A b.length c) (b.map cutF):=by
         refine(l.keep λg hg=>?_).low (by omega);have r:g≠w.heap.size:=λe=>by have:=(QK l g hg).1;omega
         rw[Qk _ _ _ _ r,Qk _ _ _ _ r,Qk _ _ _ _ r]
        have Y:Hid (zdq s.data.toList w (jC (.tuple #[.agg #[.string x,.string y,.slice A b.length c],jA 0])) (((w6.setCell w.heap.size (.string x)).setCell ⟨w.heap.size,1,none⟩ (.string y)).setCell ⟨w.heap.size,2,none⟩ (.slice A b.length c))):=by
         refine .inr ⟨⟨x,y,b.map cutF⟩,A,c,B,?_,?_,((n.setCell (p:=⟨w.heap.size,0,none⟩) (Qc _) _).setCell (p:=⟨w.heap.size,1,none⟩) (Qc _) _).setCell (p:=⟨w.heap.size,2,none⟩) (Qc _) _⟩
         ·dsimp only;rw[Q]
         ·dsimp only;rw[Q];exact X
        rw[hc];clear hc B X l n o d;go_wp2_with fail;have t:=zbA (.string x) (.string y) (.slice A b.length c) r0 r1 r2
        try simp only[QS]at t
        exact Qi (v:=.tuple #[.agg #[.string x,.string y,.slice A b.length c],jA 0]) (by simp[results,results60,go_sem,t.1,t.2.1,t.2.2]) rfl Y.out
       ·have B:zbq s.data.toList=.error (zag ⟨x,y,b.map cutF⟩):=by rw[hB.out,Qe hc]
        have Y:=hIx (m.out _ w6 B n);have q0:(zag ⟨x,y,b.map cutF⟩ != 0)=true:=Q7.2 hc;have q1:(zag ⟨x,y,b.map cutF⟩==0)=false:=Qb.2 hc;generalize zag ⟨x,y,b.map cutF⟩=C at *;clear hc B l n o d;go_wp2_with fail;have t:=zbA (.string (.mk #[])) (.string (.mk #[])) (jD 0 0) r0 r1 r2;exact Qi (v:=.tuple #[.agg #[.string (.mk #[]),.string (.mk #[]),jD 0 0],jA C]) (by simp[results,results60,go_sem,t.1,t.2.1,t.2.2]) rfl Y.out
   ·have ⟨r0,r1,r2⟩:=U.cells
    have f0:=U.free 0;have f1:=U.free 1;have f2:=U.free 2
    by_cases hZ:ps.length=3
    ·obtain⟨x,y,z,rfl⟩:∃x y z,ps=[x,y,z]:=by
      match ps,hZ with
      | [x,y,z],_=>exact⟨x,y,z,rfl⟩
     have G:¬z.data.toList=verL:=λe=>hL ⟨x,y,z,rfl,e⟩
     have g3:w2.cell? ⟨w1.heap.size,2,none⟩=some (.string z):=h8.out 2 (by simp);have q2:(z.toList==[72,84,84,80,47,49,46,49])=false:=by rw[QP];exact Qb.2 G
     have q3:(z.toList != [72,84,84,80,47,49,46,49])=true:=by rw[QP];exact Q7.2 G
     have D:splL 32 F=[x.data.toList,y.data.toList,z.data.toList]:=by have:=hm.out;rw[QW,QW,QW,Zu]at this;exact this.symm
     have E:zc6 (F::b)=.error 4:=by
      unfold zc6;rw[List.headD_cons,D];dsimp only;rw[Qe G]
     have Y:=hIx (m.out 4 w2 (by rw[L.out,E]) N);simp only[Qn,QS,Zh,Nat.reduceAdd]at *;have j0:(0:Int)<3:=by decide
     have j2:(2:Int)<3:=by decide
     clear H he G D ga hm h8 L U N hj hL E;go_wp2_with fail;have t:=zbA (.string (.mk #[])) (.string (.mk #[])) (jD 0 0) r0 r1 r2;exact Qi (v:=.tuple #[.agg #[.string (.mk #[]),.string (.mk #[]),jD 0 0],jA 4]) (by simp[results,results60,go_sem,t.1,t.2.1,t.2.2]) rfl Y.out
    ·have q2:((ps.length:Int) != 3)=true:=Q7.2 (by omega)
     have q3:((ps.length:Int)==3)=false:=Qb.2 (by omega)
     have E:zc6 (F::b)=.error 4:=by
      have hl:(splL 32 F).length=ps.length:=by rw[<-hm.out,Qh]
      unfold zc6;rw[List.headD_cons]
      split
      ·rename_i gF
       rw[gF]at hl;exact absurd hl.symm hZ
      ·rfl
     have Y:=hIx (m.out 4 w2 (by rw[L.out,E]) N);clear H he ga hm h8 L U N hj hL E hZ;go_wp2_with fail;have t:=zbA (.string (.mk #[])) (.string (.mk #[])) (jD 0 0) r0 r1 r2;exact Qi (v:=.tuple #[.agg #[.string (.mk #[]),.string (.mk #[]),jD 0 0],jA 4]) (by simp[results,results60,go_sem,t.1,t.2.1,t.2.2]) rfl Y.out
theorem Sl.cells{w:World}{B n:Nat}{A:Option Addr}{a:List ByteArray}(h:Sl w B 1 A n (a.map Value.string))(f:0<n):
 ∃b off,A=some ⟨b,off,none⟩/\a.length=n/\∀j,j<a.length->w.cell? ⟨b,off+j,none⟩=some (.string (a.getD j ByteArray.empty)):=by
 have hl:=h.len;rw[Qh]at hl;obtain⟨b,off,e,_,d⟩:=h.src (by rw[Qh];omega);refine⟨b,off,e,by omega,λj c=>?_⟩;rw[d j (by rw[Qh];exact c),Zm,Qo,Qd c]
 rfl
theorem Sl.zero{w:World}{B:Nat}{A:Option Addr}{a:List ByteArray}(h:Sl w B 1 A 0 (a.map Value.string)):a=[]:=
 QA (by have:=h.len;rw[Qh]at this;omega)
theorem zkD{w:World}{B n:Nat}{A:Option Addr}{d:List ByteArray}(c:Nat)(x:ByteArray)(h:Sl w B 1 A n (d.map Value.string))(a:n<=9223372036854775807):
 Calls prog 90 #[.slice A n c,.string x] w λe w'=>e=jC (.bool (Lib.containsS d x))/\w'=w:=by
 rcases Z7 n with rfl|f
 ·rw[h.zero]
  exact slices_Contains_string_empty A c x w
 ·obtain⟨b,off,rfl,i,g⟩:=h.cells f
  have:=slices_Contains_string b off n c d x w (by omega) a g;rw[QF (by omega)]at this;exact this
def clen:ByteArray:=ByteArray.mk #[99,111,110,116,101,110,116,45,108,101,110,103,116,104]
def tenc:ByteArray:=ByteArray.mk #[116,114,97,110,115,102,101,114,45,101,110,99,111,100,105,110,103]
def chkd:jE:=[99,104,117,110,107,101,100]
def ofL:List ByteArray->List ByteArray->Int × Int × Int
 | [],[]=>(1,0,0)
 | [],[c]=>if (zay c.data.toList==chkd)=true then (3,0,0)else (0,0,4)
 | [],_::_::_=>(0,0,4)
 |_::_,_::_=>(0,0,4)
 |s::S,[]=>match numL 10 9 s.data.toList with
  |none=>(0,0,4)
  |some n=>if (s::S).any (λy=>!(y.toList==s.toList))=true then (0,0,4)else (2,n,0)
theorem zsL(c:ByteArray):ofL [] [c]=if (zay c.data.toList==chkd)=true then (3,0,0)else (0,0,4):=rfl
theorem zo0(s:ByteArray)(S:List ByteArray):ofL (s::S) []=match numL 10 9 s.data.toList with
 |none=>(0,0,4)
 |some n=>if (s::S).any (λy=>!(y.toList==s.toList))=true then (0,0,4)else (2,n,0):=rfl
def ofV(r:Int × Int × Int):Value:=.tuple #[.agg #[jA r.1,jA r.2.1],jA r.2.2]
def zkm(r:Int × Int × Int)(w:World)(e:Ending)(w':World):Prop:=e=jC (ofV r)/\w w'
theorem zvx(x:ByteArray)(g:Nat)(A:Option Addr)(c n:Nat)(S:List ByteArray)(w:World)(B:Nat)(i:w.cell? g=some (.slice A n c))(e:Sl w B 1 A n (S.map Value.string))(h:0<n)(d:ByteArray)(h1:S[0]? = some d):
 Calls prog 67 #[.string x,.pointer g] w (zav (!(x.toList==d.toList)) w):=by
 obtain⟨b,off,rfl,j,f⟩:=e.cells h;have a:=f 0 (by omega);rw[Qo,h1,XI]at a
 go_in
 go_wp2;go_ret;exact⟨rfl,Qj _ _⟩
def zz9(d:World)(B:Nat)(S C:List ByteArray)(e f:Value)(a:World):Prop:=
 ∃(g:Nat) (b c:Option Addr) (c1 c2:Nat),e=.pointer g/\a.cell? g=some (.slice b S.length c1)/\f=.slice c C.length c2/\
  Sl a a.heap.size 1 b S.length (S.map Value.string)/\Sl a a.heap.size 1 c C.length (C.map Value.string)/\Below B d a
theorem zs1(m t:ByteArray)(A:Option Addr)(n c:Nat)(h:List (ByteArray × ByteArray))(w:World)(Z:n=h.length)(hf:Sl w w.heap.size 2 A n (zdS h))
 (hs:∀f∈h,f.1.size<=maxLen) (hv:∀f∈h,f.2.size<=maxLen) (hl:h.length<=4398046511104):
 Calls prog 43 #[.agg #[.string m,.string t,.slice A n c]] w (zkm (ofL (getL h clen) (getL h tenc)) w):=by
 subst Z;obtain⟨a,H⟩:∃a,(w.alloc (.cells #[.string m,.string t,.slice A h.length c] 27)).alloc (.cells #[jA 0,jA 0] 114)=a:=⟨_,rfl⟩
 have z:a.heap.size=w.heap.size+2:=by rw[<-H];simp
 have G:Below (w.alloc (.cells #[.string m,.string t,.slice A h.length c] 27)).heap.size (w.alloc (.cells #[.string m,.string t,.slice A h.length c] 27)) a:=by rw[<-H];exact WaL
 have b0:a.cell? w.heap.size=some (.string m):=zao G 0;have b1:a.cell? ⟨w.heap.size,1,none⟩=some (.string t):=zao G 1;have b2:a.cell? ⟨w.heap.size,2,none⟩=some (.slice A h.length c):=zao G 2;have h7:=zaI G (Qc _);have h6:Sl a w.heap.size 2 A h.length (zdS h):=hf.below h7
 have O:a.heap[w.heap.size+1]? = some (.cells #[jA 0,jA 0] 114 (0,0)):=by
  rw[<-H];have:=Qt (w.alloc (.cells #[.string m,.string t,.slice A h.length c] 27)) (.cells #[jA 0,jA 0] 114)
  simpa using this
 have P:∀E,Below (w.heap.size+2) a E->(E.cell? (w.heap.size+1:)=some (jA 0)/\E.cell? ⟨w.heap.size+1,1,none⟩=some (jA 0)/\E.frozen? ⟨w.heap.size+1,0,none⟩=false/\E.frozen? ⟨w.heap.size+1,1,none⟩=false)/\w E:=λE hb=>by
  have V:=(hb.block (w.heap.size+1) (by omega)).trans O;exact⟨⟨Qf E _ 0 _ _ _ V,Qf E _ 1 _ _ _ V,by simp[World.frozen?, V],by simp[World.frozen?, V]⟩,h7.trans (hb.mono (by omega))⟩
 have h0:=hIx H;have N:=hIx P;have HS:=hIx hs;have h3:w.heap.size+2<=a.heap.size:=by omega
 clear z;have z:=h3;clear h3;have L:True:=trivial;clear H P G O hf hs
 go_in
 go_upto_region 1 with fail
 rw[h0.out]
 go_cut [4,5] (λs4 s5 E=>zz9 a (w.heap.size+2) (getL h clen) (getL h tenc) s4 s5 E)
 case first=>
  go_region_held3 (λw'=>w'.cell? w.heap.size=some (.string m)/\w'.cell? ⟨w.heap.size,1,none⟩=some (.string t)/\w'.cell? ⟨w.heap.size,2,none⟩=some (.slice A h.length c))
   (first|go_keep|(refine⟨zaa (W:=a) ?_ b0,zaa (W:=a) ?_ b1,zaa (W:=a) ?_ b2⟩ <;> (first|exact l|exact l.setCell (p:=⟨a.heap.size,0,none⟩) (Qc _) _|exact l.setCell (p:=⟨D.heap.size,0,none⟩) d.size _|exact d.setCell (p:=⟨a.heap.size,0,none⟩) (Qc _) _|exact l.alloc l.size _|exact(l.alloc l.size _).setCell (by first|exact l.size|(simp;omega)) _|exact d|exact d.alloc d.size _|exact(d.alloc d.size _).setCell d.size _|exact(Qj a.heap.size a).drew|exact(Qj a.heap.size a).drew.alloc (Qc _) _|exact((Qj a.heap.size a).alloc (Qc _) _).drew|exact((Qj a.heap.size a).alloc (Qc _) _))))
   (first|(go_at_call 52;first|(have t1:=L;clear L;refine(zhF _ _ _ _ _ h _ _ rfl (by exact(h6.below (Below.mono (by first|exact(Qj a.heap.size a).drew|exact(Qj a.heap.size a).drew.alloc (Qc _) _|exact((Qj a.heap.size a).alloc (Qc _) _).drew|exact((Qj a.heap.size a).alloc (Qc _) _)) (show w.heap.size<=a.heap.size by omega))).more (by first|exact(show w.heap.size<=a.heap.size by omega)|(simp;omega))) HS.out (by decide) hl).mono ?_;rintro e D ⟨v8,rfl,r,B⟩;have d:a D:=Below.trans (by first|exact(Qj a.heap.size a).drew|exact(Qj a.heap.size a).drew.alloc (Qc _) _|exact((Qj a.heap.size a).alloc (Qc _) _).drew|exact((Qj a.heap.size a).alloc (Qc _) _)) (B.mono (by first|exact Qc _|simp));(first|(have q8:D.cell? ⟨a.heap.size,0,none⟩=some (jD 0 0):=zao B 0;have r8:D.frozen? ⟨a.heap.size,0,none⟩=false:=zky B 0)|(have q8:D.cell? ⟨a.heap.size,0,none⟩=some (jD 0 0):=zao (undrew B) 0;have r8:D.frozen? ⟨a.heap.size,0,none⟩=false:=zky (undrew B) 0)|skip);obtain⟨Y,X,rfl,h8⟩:=r.form)|(refine(zhF _ _ _ _ _ h _ _ rfl (by exact(h6.below (Below.mono (by first|exact d|exact d.drew|exact d.alloc d.size _|exact(d.alloc d.size _).drew) (show w.heap.size<=a.heap.size by omega))).more (by first|exact Ql (show w.heap.size<=a.heap.size by omega) d.size|(have:=d.size;simp;omega))) HS.out (by decide) hl).mono ?_;rintro e T ⟨v9,rfl,o,q⟩;have l:a T:=Below.trans (by first|exact d|exact d.drew|exact d.alloc d.size _|exact(d.alloc d.size _).drew) (q.mono (by first|exact d.size|(have:=d.size;simp;omega)));(first|(have q9:T.cell? ⟨a.heap.size,0,none⟩=some (jD 0 0):=zaa q q8;have r9:T.frozen? ⟨a.heap.size,0,none⟩=false:=zaB q q8 r8)|(have q9:T.cell? D.heap.size=some (jD 0 0):=zao q 0;have r9:T.frozen? ⟨D.heap.size,0,none⟩=false:=zky q 0)|(have q9:T.cell? D.heap.size=some (.slice Y _ X):=zao q 0)|(have q9:T.cell? ⟨a.heap.size,0,none⟩=some (.slice Y _ X):=zaa q (by simp[q8,r8,go_sem]))|skip);obtain⟨A9,c9,rfl,h5⟩:=o.form)))
  all_goals (go_wp2;go_meet)
  case rel=>
   exact⟨_,_,_,_,_,rfl,zao (Qj _ _) 0,rfl,(((h8.below q).more q.size).alloc (Qc _) _).more (by simp),(h5.alloc (Qc _) _).more (by simp),(l.mono z).alloc (Ql z l.size) _⟩
  case rel=>
   have o8:=(r.below (zaI q (Qc _))).far (g:=D.heap.size) (λk Q e=>by have:=(r.lt k Q).2;omega) 0 (.slice Y (getL h clen).length X);have o9:=o.far (g:=D.heap.size) (λk Q e=>by have:=(o.lt k Q).1;simp at this;omega) 0 (.slice Y (getL h clen).length X);exact⟨_,_,_,_,_,rfl,ZA _ _ _ q9,rfl,o8.sl,o9.sl,(l.mono z).setCell (p:=⟨D.heap.size,0,none⟩) (Ql z d.size) _⟩
  case rel=>
   have o8:=(r.below q).far (g:=a.heap.size) (λk Q e=>by have:=(r.lt k Q).1;simp at this;omega) 0 (.slice Y (getL h clen).length X);have o9:=o.far (g:=a.heap.size) (λk Q e=>by have:=(o.lt k Q).1;have:=(undrew B).size;simp at this;omega) 0 (.slice Y (getL h clen).length X);exact⟨_,_,_,_,_,rfl,ZA _ _ _ q9,rfl,o8.sl,o9.sl,(l.mono z).setCell (p:=⟨a.heap.size,0,none⟩) z _⟩
 case rest=>
  obtain⟨g,A1,A2,c1,c2,rfl,h4,rfl,U,ha,hb⟩:=hcut;have ⟨⟨I,J,r2,r3⟩,i⟩:=N.out wc hb;have hS:∀x∈getL h clen,x.size<=maxLen:=zjI hv;have hC:∀x∈getL h tenc,x.size<=maxLen:=zjI hv;have hd:(getL h clen).length<=4398046511104:=Ql (zfo h clen) hl;have hg:(getL h tenc).length<=4398046511104:=Ql (zfo h tenc) hl;generalize getL h clen=S at *;generalize getL h tenc=C at *;clear N h0 hv HS
  match S,C,hS,hC with
  | [],[],_,_=>
   go_wp2_with fail;have t:=za8 (jA 1) (jA 0) I J;exact Qi (v:=.tuple #[.agg #[jA 1,jA 0],jA 0]) (by simp[results,results43,go_sem,t.1,t.2]) rfl ⟨rfl,(i.setCell (p:=⟨w.heap.size+1,0,none⟩) (by simp) _).setCell (p:=⟨w.heap.size+1,1,none⟩) (by simp) _⟩
  | [],[c],_,hC=>
   have hc:=hC c (by simp);obtain⟨b,off,rfl,_,F⟩:=ha.cells (by simp);have he:wc.cell? ⟨b,off,none⟩=some (.string c):=F 0 (by simp);clear F hC;go_wp2_with fail;refine(zbd _ _ hc).mono ?_;rintro e w1 ⟨rfl,s⟩;have q0:=zaa s I;have q1:=zaa s J;have q2:=zaB s I r2;have q3:=zaB s J r3;have u:=i.trans (s.mono i.size);clear I J r2 r3;go_wp2_with fail
   ·have h1:(!zay c.data.toList==chkd)=true:=by assumption
    have t:=za8 (jA 0) (jA 0) q0 q1;exact Qi (v:=.tuple #[.agg #[jA 0,jA 0],jA 4]) (by simp[results,results43,go_sem,t.1,t.2]) rfl ⟨by rw[zsL,Qe (by simpa using h1)];rfl,(u.setCell (p:=⟨w.heap.size+1,0,none⟩) (by simp) _).setCell (p:=⟨w.heap.size+1,1,none⟩) (by simp) _⟩
   ·have h1:(!zay c.data.toList==chkd)=false:=by assumption
    have t:=za8 (jA 3) (jA 0) q0 q1;exact Qi (v:=.tuple #[.agg #[jA 3,jA 0],jA 0]) (by simp[results,results43,go_sem,t.1,t.2]) rfl ⟨by rw[zsL,Qg (by simpa using h1)];rfl,(u.setCell (p:=⟨w.heap.size+1,0,none⟩) (by simp) _).setCell (p:=⟨w.heap.size+1,1,none⟩) (by simp) _⟩
  | [],x::y::C',_,_=>
   go_wp2_with fail;have t:=za8 (jA 0) (jA 0) I J;exact Qi (v:=.tuple #[.agg #[jA 0,jA 0],jA 4]) (by simp[results,results43,go_sem,t.1,t.2]) rfl ⟨rfl,(i.setCell (p:=⟨w.heap.size+1,0,none⟩) (by simp) _).setCell (p:=⟨w.heap.size+1,1,none⟩) (by simp) _⟩
  |x::K,y::C',_,_=>
   go_wp2_with fail;have t:=za8 (jA 0) (jA 0) I J;exact Qi (v:=.tuple #[.agg #[jA 0,jA 0],jA 4]) (by simp[results,results43,go_sem,t.1,t.2]) rfl ⟨rfl,(i.setCell (p:=⟨w.heap.size+1,0,none⟩) (by simp) _).setCell (p:=⟨w.heap.size+1,1,none⟩) (by simp) _⟩
  |x::K,[],hS,_=>
   have V:=hS x (by simp);obtain⟨b,off,rfl,_,F⟩:=U.cells (by simp);have he:wc.cell? ⟨b,off,none⟩=some (.string x):=F 0 (by simp);clear F hS;go_wp2_with fail;refine(zf6 _ _ V).mono ?_;rintro e w1 ⟨rfl,rfl⟩;cases Z:numL 10 9 x.data.toList with
   |none=>
    have HN:=hIx Z;clear Z;simp only[zcb];go_wp2_with fail;have t:=za8 (jA 0) (jA 0) I J;exact Qi (v:=.tuple #[.agg #[jA 0,jA 0],jA 4]) (by simp[results,results43,go_sem,t.1,t.2]) rfl ⟨by rw[zo0,HN.out];rfl,(i.setCell (p:=⟨w.heap.size+1,0,none⟩) (by simp) _).setCell (p:=⟨w.heap.size+1,1,none⟩) (by simp) _⟩
   |some k=>
    have HN:=hIx Z;clear Z;simp only[zcb];go_wp2_with fail
    refine(zj5 67 #[.pointer g] (enters_of func67 (by kernel_rfl) rfl) _ _ _ ((x::K).map Value.string) (λj=>.string ((x::K).getD j ByteArray.empty)) (λj=>!(((x::K).getD j ByteArray.empty).toList==x.toList)) _ U (by simp at hd ⊢;omega)
     (λj hj=>by rw[ZM,Qo,Qd (by simpa using hj)];rfl)
     (λW j hj h9=>zvx _ g _ _ _ (x::K) W _ (zaa h9 h4) (U.below h9) (Nat.succ_pos _) x rfl)).mono ?_
    rintro e w2 ⟨rfl,s⟩;rw[show (K.length+1)=(x::K).length from rfl,zdY (λy=>!(y.toList==x.toList)) (x::K)];have q0:=zaa s I;have q1:=zaa s J;have q2:=zaB s I r2;have q3:=zaB s J r3;have u:=i.trans (s.mono i.size);clear I J r2 r3;cases hq:(x::K).any (λy=>!(y.toList==x.toList))with
    |true=>
     have HQ:=hIx hq;clear hq;go_wp2_with fail;have t:=za8 (jA 0) (jA 0) q0 q1;exact Qi (v:=.tuple #[.agg #[jA 0,jA 0],jA 4]) (by simp[results,results43,go_sem,t.1,t.2]) rfl ⟨by rw[zo0,HN.out];show _=jC (ofV (if _ then _ else _));rw[Qg HQ.out];rfl,(u.setCell (p:=⟨w.heap.size+1,0,none⟩) (by simp) _).setCell (p:=⟨w.heap.size+1,1,none⟩) (by simp) _⟩
    |false=>
     have HQ:=hIx hq;clear hq;go_wp2_with fail;have t:=za8 (jA 2) (jA k) q0 q1;exact Qi (v:=.tuple #[.agg #[jA 2,jA k],jA 0]) (by simp[results,results43,go_sem,t.1,t.2]) rfl ⟨by rw[zo0,HN.out];show _=jC (ofV (if _ then _ else _));rw[Qe (by rw[HQ.out];decide)];rfl,(u.setCell (p:=⟨w.heap.size+1,0,none⟩) (by simp) _).setCell (p:=⟨w.heap.size+1,1,none⟩) (by simp) _⟩
