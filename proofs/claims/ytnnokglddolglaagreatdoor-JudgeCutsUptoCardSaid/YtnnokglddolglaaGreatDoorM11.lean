/- Lemmas for the last texts. -/
import Derived.Test.YtnnokglddolglaaGreatDoorM10
set_option maxHeartbeats 6400000
set_option maxRecDepth 100000
namespace Go.Proofs.YtnnokglddolglaaGreatDoor
open Go.RowKit Go.Proofs.Tryz
structure ClSt(g:Nat)(s:ByteArray)(w:World)(k:Nat)(q:RS)(F:Nat->Bool)(wr:World):Prop where
 rd:RdAt g s q wr
 four:FourW wr k (setF F)
 zero:ZeroX wr w.heap.size
 frame:w.grownBy wr (some g)
 far:w.heap.size<k
theorem ClSt.call{g:Nat}{s:ByteArray}{w:World}{k:Nat}{q a:RS}{F:Nat->Bool}{wr w':World}(b:g<w.heap.size)(h:ClSt g s w k q F wr)(e:RdEnd g s a wr w'):ClSt g s w k a F w':=
 ⟨e.1,h.four.grown e.2 (by have:=h.far;omega),h.zero.grown e.2 (by omega),zax h.frame e.2,h.far⟩
theorem ClSt.low{g:Nat}{s:ByteArray}{w:World}{k:Nat}{q:RS}{F:Nat->Bool}{wr w':World}(h:ClSt g s w k q F wr)(hb:wr w'):ClSt g s w k q F w':=
 ⟨h.rd.below hb,h.four.below hb h.four.lt,(hb.block _ h.zero.lt).trans h.zero,zax h.frame (zci (zaW wr _) hb),h.far⟩
theorem ClSt.put{g:Nat}{s:ByteArray}{w:World}{k:Nat}{q:RS}{F:Nat->Bool}{wr:World}(c:g<w.heap.size)(h:ClSt g s w k q F wr)(a:Nat->Bool):ClSt g s w k q a (zcv wr k (setF a)):=by
 have h1:=h.far;have hb:Below k wr (zcv wr k (setF a)):=za9 (Qj _ _) (Qc _) _;have b:=zbt h.four (setF a);exact⟨(hb.block g (by omega)).trans h.rd,b,(hb.block _ (by omega)).trans h.zero,zds h.frame (by omega) hb,h1⟩
def zxD(g:Nat)(s:ByteArray)(R:(Nat->Bool) × RS)(w:World)(k:Nat)(a:Value)(wr:World):Prop:=
 ∃(n:Nat) (q:RS) (F:Nat->Bool),a=jA n/\zeQ s.data.toList q (decide (n=0)) F=R/\q.pos<=s.size/\n+zbR s.data.toList q<=s.size+1/\ClSt g s w k q F wr
theorem zsb(g:Nat)(s:ByteArray)(r:RS)(w:World)(h:RdAt g s r w)(hp:r.pos<=s.size)(hs:s.size<=4096):
 Calls prog 288 #[.pointer g] w (zjD g s (byT (zeJ s.data.toList r).1,(zeJ s.data.toList r).2) w):=by
 have gQ:s.data.toList.length=s.size:=by simp
 have X:=h.lt;obtain⟨W0,hi⟩:∃W0,w.alloc (.cells #[jA 0,jB 0,jB 0,jB 0,jB 0,jD 0 0] 185)=W0:=⟨_,rfl⟩
 have hT:w W0:=by rw[<-hi];exact WaL
 have ge:ZeroX W0 w.heap.size:=by rw[<-hi];exact ZeroX.new w
 have gk:W0.heap.size=w.heap.size+1:=by rw[<-hi];simp
 have gl:=h.below hT;have gC:=hIx (zdQ g s r 94 W0 gl hp hs);have ht:=zdr (s:=s.data.toList) (r:=r) (by omega) (b:=94) (by decide)
 have g9:Hid (∀w1,RdEnd g s (zaL s.data.toList r 94).2 W0 w1->ClSt g s w w1.heap.size (zaL s.data.toList r 94).2 (λ_=>false) (w1.alloc (.cells #[jB 0,jB 0,jB 0,jB 0] 182))):=by
  intro w1 h1;have gx:=h1.2.size;have hO:w1 (w1.alloc (.cells #[jB 0,jB 0,jB 0,jB 0] 182)):=WaL;exact⟨h1.1.below hO,FourW.new w1,(hO.block _ (by omega)).trans (ge.grown h1.2 (by omega)),zax (zci (zaW w _) hT) (zci h1.2 (hO.mono gx)),by omega⟩
 have gq:Hid (zeJ s.data.toList r=(zhc s.data.toList r,(zaL s.data.toList (zj9 s.data.toList r) 93).2)):=rfl;have ho:Hid (zj9 s.data.toList r=if setF (zhc s.data.toList r)=.zero then zaF (zeQ s.data.toList (zaL s.data.toList r 94).2 true λ_=>false).2 3 else (zeQ s.data.toList (zaL s.data.toList r 94).2 true λ_=>false).2):=rfl;have g2:Hid (zhc s.data.toList r=λx=>if (zaL s.data.toList r 94).1=true then !(zeQ s.data.toList (zaL s.data.toList r 94).2 true λ_=>false).1 x else (zeQ s.data.toList (zaL s.data.toList r 94).2 true λ_=>false).1 x):=rfl;have gz:(zaL s.data.toList r 94).2.pos<=s.size:=by have:=ht.1.inn;omega
 have gD:=hIx (zim (s:=s.data.toList) _ (zaL s.data.toList r 94).2 true (λ_=>false) (Qc _) (by omega)).inn;generalize gu:zeJ s.data.toList r=CL at *;generalize gB:zj9 s.data.toList r=LE at *;generalize gI:zhc s.data.toList r=LF at *;generalize hL:zeQ s.data.toList (zaL s.data.toList r 94).2 true (λ_=>false)=L at *;have HL:=hIx hL;generalize zaL s.data.toList r 94=T at *;have gM:=hIx hi;clear h hT ge gk gl ht hi gu gB gI hL
 go_in
 go_upto_region 1 with fail
 rw[gM.out];go_wp2_with (go_at_call 175;apply Hid.out);refine WhM gC ?_;rintro e w1 ⟨rfl,h1⟩;have HC:=hIx (g9.out w1 h1);clear h1 g9;go_upto_region 3 with fail
 generalize gF:w1.alloc (.cells #[jB 0,jB 0,jB 0,jB 0] 182)=W1 at *;clear gF;generalize w1.heap.size=k at *;have HS:Hid (zxD g s L w k (jA (0:Nat)) W1):=⟨0,T.2,λ_=>false,rfl,HL.out,gz,by unfold zbR;split <;> omega,HC.out⟩
 clear HC;go_wp2
 go_loopw [5] (λv5 wr=>zxD g s L w k v5 wr) (λv5 _=>s.size+2-(intOf v5).toNat)
 case atStart=>exact HS.out
 case round=>
  obtain⟨n,q,F,rfl,gs,hq,hn,hC⟩:=hrel;have hc:=ztm (s:=s.data.toList) (r:=q) (first:=decide (n=0)) (F:=F) (by omega);rw[gs]at hc;have hy:=hIx hc;have Z:=hIx hC;have ⟨c0,c1,c2,c3⟩:=hC.rd.cells;have hh:=hIx (zfX g s q wr hC.rd hq);have gf:=zcK (s:=s.data.toList) (r:=q) (by omega);have hj:=λhe=>zfr (s:=s.data.toList) (r:=q) (by omega) he
  have ha:=hIx (And.intro gf hj)
  -- ROUND
  clear hc gs hC gf hj
  by_cases I:q.e=0/\(decide (n=0)=true\/zad s.data.toList q≠93)
  ·have d1:(q.e==0)=true:=by rw[I.1];rfl
   by_cases h0:n=0
   all_goals
    first
     |(
      have d2:((n:Int)==0)=true:=by rw[h0];rfl
      clear h0;go_upto_region 6 with fail
      have o:=Z.out;obtain⟨w2,rfl⟩:∃w2:World,w2=wr:=⟨_,rfl⟩
      clear d2)
     |(
      have d2:((n:Int)==0)=false:=Qb.2 (by omega)
      have d3:(zad s.data.toList q != 93)=true:=Q7.2 (I.2.resolve_left λh=>h0 (Zr h));clear h0;go_wp2_with (go_at_call 218;apply Hid.out);refine WhM hh ?_;rintro e w9 ⟨rfl,m,rfl⟩;have o:=Z.out.low (below_drewN (Qj _ _) m);go_upto_region 6 with fail
      generalize wr.drewN m=w2 at *;clear d2 d3)
    clear c0 c1 c2 c3 Z d1;have hY:zeQ s.data.toList (zbL s.data.toList q).2 false (λx=>F x||(zbL s.data.toList q).1 x)=L:=by rw[hy.out,Qg I]
    have gO:n<=s.size:=by unfold zbR at hn;rw[Qg I.1]at hn;omega
    have A:Hid (∀W,ClSt g s w k (zbL s.data.toList q).2 (λx=>F x||(zbL s.data.toList q).1 x) W->zxD g s L w k (.int .i64 ((n:Int)+1)) W):=λW z=>
     ⟨n+1,_,_,by rw[Int.natCast_succ],by rw[Qq (by omega)];exact hY,by have:=ha.out.1.1.inn;omega,by have:=ha.out.2 I.1;omega,z⟩
    have i7:IntKind.i64.wrap ((n:Int)+1)=(n:Int)+1:=Qx _ (by omega);have gP:=o.four.lt;obtain⟨y,t⟩:∃y,setF F=y:=⟨_,rfl⟩
    have hu:Hid (∀(f:Nat->Bool) (j:Set4) (U:RS) W,setF f=j->ClSt g s w k U F W->Calls prog 306 #[.agg #[jB y.a,jB y.b,jB y.c,jB y.d],.agg #[jB j.a,jB j.b,jB j.c,jB j.d]] W λe w'=>∃Su,e=jC (.agg #[jB Su.a,jB Su.b,jB Su.c,jB Su.d])/\setF (λx=>F x||f x)=Su/\ClSt g s w k U F w'):=λf j U W hf z=>by
     have:=zej F f W;rw[hf,t]at this;exact this.mono (λe w' ⟨h1,h2⟩=>⟨_,h1,rfl,z.low h2⟩)
    have hX:=zey (s:=s.data.toList) (r:=q) (by omega);cases P:(zbp s.data.toList q).1 with
    |some f=>
     have gh:zbL s.data.toList q=(f,(zbp s.data.toList q).2):=by unfold zbL;rw[P]
     obtain⟨j,g4⟩:∃j,setF f=j:=⟨_,rfl⟩
     have HG:Hid (Calls prog 289 #[.pointer g] w2 λe w'=>e=jC (.tuple #[.agg #[jB j.a,jB j.b,jB j.c,jB j.d],.bool true])/\ClSt g s w k (zbp s.data.toList q).2 F w'):=
      (zfy g s q w2 o.rd hq hs).mono (λe w' ⟨h1,h2⟩=>⟨by rw[h1,P];dsimp only;rw[g4];rfl,o.call X h2⟩)
     rw[gh]at A;clear hY hX P gh hy ha hh;go_wp2_with (go_at_call 289;apply Hid.out);refine WhM HG ?_;rintro e w3 ⟨rfl,B⟩;have S:=B.low ((Qj w3.heap.size w3).alloc (Qc _) (.cells #[jB j.a,jB j.b,jB j.c,jB j.d] 182));have g8:FourW (w3.alloc (.cells #[jB j.a,jB j.b,jB j.c,jB j.d] 182)) w3.heap.size j:=Qt w3 _;go_upto_region 8 with fail
     generalize w3.alloc (.cells #[jB j.a,jB j.b,jB j.c,jB j.d] 182)=W4 at *;have ⟨c0,c1,c2,c3⟩:=(show FourW W4 k y from by rw[<-t];exact S.four).cells;have ⟨d0,d1,d2,d3⟩:=g8.cells;have HU:=hIx (hu.out f j _ W4 g4 S);clear S g8 B;go_wp2_with (go_at_call 306;apply Hid.out);refine WhM HU ?_;rintro e w5 ⟨Su,rfl,hd,u⟩;have H:=hIx (A.out _ (u.put X (λx=>F x||f x)));rw[hd]at H;have ⟨c0,c1,c2,c3⟩:=(show FourW w5 k y from by rw[<-t];exact u.four).cells;have f0:=u.four.free 0;have f1:=u.four.free 1;have f2:=u.four.free 2;have f3:=u.four.free 3;clear u hd A hu g4;go_wp2;exact⟨H.out,by dsimp only[intOf];omega⟩
    |none=>
     have g6:(zbp s.data.toList q).2=q:=hX.2.1 P;have hF:=zdt (s:=s.data.toList) (r:=q) (by omega);obtain⟨C,hC⟩:∃C,zbo s.data.toList q=C:=⟨_,rfl⟩
     rw[hC]at hF;have hm:0<=C.1/\C.1<256:=⟨by omega,by omega⟩
     have hG:=zdr (s:=s.data.toList) (r:=C.2) hF.1.inn (b:=45) (by decide);obtain⟨O,h7⟩:∃O,zaL s.data.toList C.2 45=O:=⟨_,rfl⟩
     rw[h7]at hG;have gi:=zdt (s:=s.data.toList) (r:=O.2) hG.1.inn;obtain⟨D,hD⟩:∃D,zbo s.data.toList O.2=D:=⟨_,rfl⟩
     rw[hD]at gi;have hk:0<=D.1/\D.1<256:=⟨by omega,by omega⟩
     have gL:C.2.pos<=s.size:=by have:=hF.1.inn;omega
     have gJ:O.2.pos<=s.size:=by have:=hG.1.inn;omega
     have l:Hid (zbL s.data.toList q=if O.1=true then (rgF C.1.toNat D.1.toNat,if D.1<C.1/\D.2.e=0 then zaF {D.2 with pos:=O.2.pos} 3 else D.2)else (rgF C.1.toNat C.1.toNat,O.2)):=by
      unfold Hid zbL;rw[P];dsimp only;rw[hC,h7,hD]
     have HG:Hid (Calls prog 289 #[.pointer g] w2 λe w'=>e=jC (.tuple #[.agg #[jB 0,jB 0,jB 0,jB 0],.bool false])/\ClSt g s w k q F w'):=
      (zfy g s q w2 o.rd hq hs).mono (λe w' ⟨h1,h2⟩=>⟨by rw[h1,P];rfl,by rw[<-g6];exact o.call X h2⟩)
     have gd:Hid (∀W,ClSt g s w k q F W->Calls prog 290 #[.pointer g] W λe w'=>e=jC (jA C.1)/\ClSt g s w k C.2 F w'):=λW z=>
      (zhG g s q W z.rd hq hs).mono (λe w' ⟨h1,h2⟩=>⟨by rw[h1,hC],by rw[hC]at h2;exact z.call X h2⟩)
     have g7:Hid (∀W,ClSt g s w k C.2 F W->Calls prog 175 #[.pointer g,jA 45] W λe w'=>e=jC (.bool O.1)/\ClSt g s w k O.2 F w'):=λW z=>
      (zdQ g s C.2 45 W z.rd gL hs).mono (λe w' ⟨h1,h2⟩=>⟨by rw[h1,h7],by rw[h7]at h2;exact z.call X h2⟩)
     have g0:Hid (∀W,ClSt g s w k O.2 F W->Calls prog 290 #[.pointer g] W λe w'=>e=jC (jA D.1)/\ClSt g s w k D.2 F w'):=λW z=>
      (zhG g s O.2 W z.rd gJ hs).mono (λe w' ⟨h1,h2⟩=>⟨by rw[h1,hD],by rw[hD]at h2;exact z.call X h2⟩)
     have hA:Hid (∀(U:RS) W,ClSt g s w k U F W->Calls prog 138 #[.pointer g,jA 3] W λe w'=>e=jC (.tuple #[])/\ClSt g s w k (zaF U 3) F w'):=λU W z=>
      (zc9 g s U 3 W z.rd).mono (λe w' ⟨h1,h2⟩=>⟨h1,z.call X h2⟩)
     clear hY hX P g6 hF hC hG h7 gi hD hy ha hh;go_wp2_with (go_at_call 289;apply Hid.out);refine WhM HG ?_;rintro e w3 ⟨rfl,B⟩;have gb:=hIx (B.low ((Qj w3.heap.size w3).alloc (Qc _) (.cells #[jB 0,jB 0,jB 0,jB 0] 182)));clear B;go_upto_region 9 with fail
     generalize w3.alloc (.cells #[jB 0,jB 0,jB 0,jB 0] 182)=W4 at *;have hK:=hIx (gd.out W4 gb.out);go_wp2_with (go_at_call 290;apply Hid.out);refine WhM hK ?_;rintro e w5 ⟨rfl,u⟩;have hI:=hIx (g7.out w5 u);clear u gd hK g7 gb;go_wp2_with (go_at_call 175;apply Hid.out);refine WhM hI ?_;rintro e w6 ⟨rfl,hZ⟩;have hR:=hIx hZ;have ⟨c0,c1,c2,c3⟩:=hZ.rd.cells;clear hZ hI
     go_upto_if 42 with fail
     obtain⟨K,J⟩:∃K,O.1=K:=⟨_,rfl⟩
     rw[J];rw[J]at l;have gN:=hIx J;clear J
     go_cut [8,9]from 13 to 69 (λv8 v9 wx=>v8=jA C.1/\v9=jA (if K=true then D.1 else C.1)/\ClSt g s w k (zbL s.data.toList q).2 F wx)
     case first=>
      cases K with
      |true=>
       rw[Qg rfl]at l;have hJ:=hIx (g0.out w6 hR.out);go_wp2_with (go_at_call 290;apply Hid.out);refine WhM hJ ?_;rintro e w7 ⟨rfl,hE⟩;have hw:=hIx hE;have ⟨c0,c1,c2,c3⟩:=hE.rd.cells;have f1:=hE.rd.free 1;clear hE hJ g0
       by_cases N:D.1<C.1
       ·have d1:decide (D.1<C.1)=true:=Qu N
        by_cases Y:D.2.e=0
        ·have d2:(D.2.e==0)=true:=by rw[Y];rfl
         rw[Qg ⟨N,Y⟩]at l;have hH:RdEnd g s {D.2 with pos:=O.2.pos} w7 (w7.setCell ⟨g,1,none⟩ (jA (O.2.pos:Nat))):=⟨hw.out.rd.setPos _,zak (zaW w7 _) 1 _⟩
         have gK:=hIx (hA.out _ _ (hw.out.call X hH));clear hH N Y;go_wp2_with (go_at_call 138;apply Hid.out);refine WhM gK ?_;rintro e w8 ⟨rfl,V⟩;go_wp2;go_meet;exact⟨rfl,rfl,by rw[l.out];exact V⟩
        ·have d2:(D.2.e==0)=false:=Qb.2 Y
         rw[Qe (λh=>Y h.2)]at l;clear N Y;go_wp2;go_meet;exact⟨rfl,rfl,by rw[l.out];exact hw.out⟩
       ·have d1:decide (D.1<C.1)=false:=Qq N
        rw[Qe (λh=>N h.1)]at l;clear N;go_wp2;go_meet;exact⟨rfl,rfl,by rw[l.out];exact hw.out⟩
      |false=>
       rw[Qe (by decide)]at l;go_wp2;go_meet;exact⟨rfl,rfl,by rw[l.out];exact hR.out⟩
     case rest=>
      obtain⟨rfl,rfl,V⟩:=hcut;obtain⟨lo,ga⟩:∃lo:Nat,C.1=lo:=⟨C.1.toNat,by omega⟩
      obtain⟨hv,g5⟩:∃hv:Nat,(if K=true then D.1 else C.1)=hv:=⟨(if K=true then D.1 else C.1).toNat,by cases K;exact(Int.toNat_of_nonneg hm.1).symm;exact(Int.toNat_of_nonneg hk.1).symm⟩
      have gH:hv<256:=by
       have:((hv:Nat):Int)<256:=by (rw[<-g5];cases K;exact hm.2;exact hk.2)
       omega
      have gj:(zbL s.data.toList q).1=rgF lo hv:=by
       rw[l.out];have e1:C.1.toNat=lo:=by omega
       have e2:(if K=true then D.1 else C.1).toNat=hv:=by omega
       cases K
       ·have e3:C.1.toNat=hv:=e2
        rw[Qe (by decide)];show rgF C.1.toNat C.1.toNat=_;rw[<-e1,<-e3]
       ·have e3:D.1.toNat=hv:=e2
        rw[Qg rfl];show rgF C.1.toNat D.1.toNat=_;rw[<-e1,<-e3]
      rw[g5,ga];rw[gj]at A;obtain⟨Q,hQ⟩:∃Q,(zbL s.data.toList q).2=Q:=⟨_,rfl⟩
      rw[hQ]at V A;obtain⟨Sr,gp⟩:∃Sr,setF (rgF lo hv)=Sr:=⟨_,rfl⟩
      have gn:Hid (∀W,wc W->Calls prog 148 #[jA (lo:Int),jA (hv:Int)] W λe w'=>e=jC (.agg #[jB Sr.a,jB Sr.b,jB Sr.c,jB Sr.d])/\ClSt g s w k Q F w'):=λW z=>by
       have:=zhR lo hv gH W;rw[gp]at this;exact this.mono (λe w' ⟨h1,h2⟩=>⟨h1,(V.low z).low h2⟩)
      have ⟨c0,c1,c2,c3⟩:=(show FourW wc k y from by rw[<-t];exact V.four).cells;clear g0 hA gN l g5 gj hQ hR ga hm hk;go_upto_region 17 with fail
      go_region_with (first
       |(go_at_call 148;(with_reducible refine(gn.out _ ?_).mono ?_);(first|exact Qj _ _|exact(Qj _ _).drew);rintro e w8 ⟨rfl,hV⟩;have gw:=hIx hV;have ⟨c0,c1,c2,c3⟩:=(show FourW w8 k y from by rw[<-t];exact hV.four).cells;clear hV)
       |(go_at_call 306;(refine(hu.out (rgF lo hv) Sr Q w8 gp gw.out).mono ?_);rintro e w9 ⟨Su,rfl,hd,p⟩;have H:=hIx (A.out _ (p.put X (λx=>F x||rgF lo hv x)));rw[hd]at H;have ⟨c0,c1,c2,c3⟩:=(show FourW w9 k y from by rw[<-t];exact p.four).cells;have f0:=p.four.free 0;have f1:=p.four.free 1;have f2:=p.four.free 2;have f3:=p.four.free 3;clear p hd))
      all_goals
       clear gn hu V;go_wp2_with fail
       go_roundw
       case measure=>dsimp only[intOf];omega
       case rel=>exact H.out
  ·by_cases he:q.e=0
   all_goals
    first
     |(
      have d1:(q.e==0)=false:=Qb.2 he
      clear he;go_upto_region 18 with fail
      have o:=Z.out;obtain⟨w2,rfl⟩:∃w2:World,w2=wr:=⟨_,rfl⟩)
     |(
      have d1:(q.e==0)=true:=by rw[he];rfl
      have h0:n≠0:=λh=>I ⟨he,.inl (Qu h)⟩
      have h9:zad s.data.toList q=93:=Decidable.byContradiction λh=>I ⟨he,.inr h⟩
      have d2:((n:Int)==0)=false:=Qb.2 (by omega);have d3:(zad s.data.toList q != 93)=false:=by rw[h9];rfl
      clear he h0 h9;go_wp2_with (go_at_call 218;apply Hid.out);refine WhM hh ?_;rintro e w9 ⟨rfl,m,rfl⟩;have o:=Z.out.low (below_drewN (Qj _ _) m);go_upto_region 18 with fail
      generalize wr.drewN m=w2 at *;clear d2 d3)
    clear c0 c1 c2 c3 Z d1;have gE:L=(F,q):=by rw[hy.out,Qe I]
    have hA:Hid (∀(U:RS) (G:Nat->Bool) W,ClSt g s w k U G W->Calls prog 138 #[.pointer g,jA 3] W λe w'=>e=jC (.tuple #[])/\ClSt g s w k (zaF U 3) G w'):=λU G W z=>
     (zc9 g s U 3 W z.rd).mono (λe w' ⟨h1,h2⟩=>⟨h1,z.call X h2⟩)
    clear ha hh hn;rw[gE]at ho g2 gD;obtain⟨K,J⟩:∃K,T.1=K:=⟨_,rfl⟩
    rw[J]at g2;obtain⟨y,t⟩:∃y,setF F=y:=⟨_,rfl⟩
    have hx:=hIx t;obtain⟨i,hB⟩:∃i,setF LF=i:=⟨_,rfl⟩
    have h6:=hIx hB;rw[hB]at ho
    have hN:i=if K=true then setF (λx=>!F x)else y:=by
     rw[<-hB,g2.out];cases K
     ·rw[Qe (by decide)];rw[<-t];rfl
     ·rw[Qg rfl];rfl
    have hr:=hIx hN;have E:=hIx o;have gR:=o.far;clear t hB hN o
    go_upto_if 70 with fail
    rw[J];clear J
    go_cut [4]from 70 to 81 (λv4 wx=>v4=.pointer k/\ClSt g s w k q LF wx)
    case first=>
     have ⟨c0,c1,c2,c3⟩:=(show FourW w2 k y from by rw[<-hx.out];exact E.out.four).cells;cases K with
     |true=>
      have gy:Hid (Calls prog 286 #[.agg #[jB y.a,jB y.b,jB y.c,jB y.d]] w2 λe w'=>e=jC (.agg #[jB i.a,jB i.b,jB i.c,jB i.d])/\w2 w'):=by
       have:=zoN F w2;rw[hx.out]at this;have e2:=hr.out;rw[Qg rfl]at e2;rw[<-e2]at this;exact this
      go_wp2_with (go_at_call 286;apply Hid.out);refine WhM gy ?_;rintro e w3 ⟨rfl,gg⟩;have h3:=E.out.low gg;have ⟨c0,c1,c2,c3⟩:=(show FourW w3 k y from by rw[<-hx.out];exact h3.four).cells;have f0:=h3.four.free 0;have f1:=h3.four.free 1;have f2:=h3.four.free 2;have f3:=h3.four.free 3;have HP:=hIx (h3.put X LF);rw[h6.out]at HP;clear gg h3;go_wp2;go_meet;exact⟨rfl,HP.out⟩
     |false=>
      have gm:Hid (ClSt g s w k q LF w2):=by
       have e2:=hr.out;rw[Qe (by decide)]at e2;exact⟨E.out.rd,by rw[h6.out,e2,<-hx.out];exact E.out.four,E.out.zero,E.out.frame,E.out.far⟩
      clear c0 c1 c2 c3;go_wp2;go_meet;exact⟨rfl,gm.out⟩
    case rest=>
     obtain⟨rfl,B⟩:=hcut;have hS:=hIx B;have ⟨c0,c1,c2,c3⟩:=(show FourW wc k i from by rw[<-h6.out];exact B.four).cells;have g3:∀W,_:=λW=>zio i Set4.zero W
     unfold setV Set4.zero at g3;dsimp only at g3;clear B E hr
     go_upto_if 75 with fail
     obtain⟨cz,hP⟩:∃cz,zxv i ⟨0,0,0,0⟩=cz:=⟨_,rfl⟩
     rw[hP];have gc:Hid (decide (i=Set4.zero)=cz):=hP;clear hP g3
     go_cut [4]from 73 to 81 (λv4 wx=>v4=.pointer k/\ClSt g s w k LE LF wx)
     case first=>
      cases cz with
      |true=>
       have hz:i=Set4.zero:=Zr gc.out;have h8:Hid (LE=zaF q 3):=by unfold Hid;rw[ho.out,Qg hz]
       have gA:=hIx (hA.out q LF wc hS.out);clear hz;go_wp2_with (go_at_call 138;apply Hid.out);refine WhM gA ?_;rintro e w4 ⟨rfl,h4⟩;go_wp2;go_meet;exact⟨rfl,by rw[h8.out];exact h4⟩
      |false=>
       have hz:¬i=Set4.zero:=of_decide_eq_false gc.out;have h8:Hid (LE=q):=by unfold Hid;rw[ho.out,Qe hz]
       clear hz;go_wp2;go_meet;exact⟨rfl,by rw[h8.out];exact hS.out⟩
     case rest=>
      obtain⟨rfl,S⟩:=hcut
      have gt:LE.pos<=s.size:=by
       have h1:(zaF q 3).pos=q.pos:=(zcg q 3 (by decide)).1;have h2:LE.pos=q.pos:=by rw[ho.out];split;exact h1;rfl
       omega
      have gr:Hid (Calls prog 175 #[.pointer g,jA 93] wc λe w'=>e=jC (.bool (zaL s.data.toList LE 93).1)/\ClSt g s w k (zaL s.data.toList LE 93).2 LF w'):=
       (zdQ g s LE 93 wc S.rd gt hs).mono (λe w' ⟨h1,h2⟩=>⟨h1,S.call X h2⟩)
      clear S hS gt;go_wp2_with (go_at_call 175;apply Hid.out);refine WhM gr ?_;rintro e w5 ⟨rfl,h5⟩;have ⟨c0,c1,c2,c3⟩:=(show FourW w5 k i from by rw[<-h6.out];exact h5.four).cells;have ⟨z0,z1,z2,z3,z4,z5⟩:=h5.zero.cells;have y0:=h5.zero.free 0;have y1:=h5.zero.free 1;have y2:=h5.zero.free 2;have y3:=h5.zero.free 3;have y4:=h5.zero.free 4;have y5:=h5.zero.free 5;have HX:=hIx (h5.zero.fill (jA 3) (jB i.a) (jB i.b) (jB i.c) (jB i.d) (jD 0 0));have g1:Below w.heap.size w5 (zai w5 w.heap.size (jA 3) (jB i.a) (jB i.b) (jB i.c) (jB i.d) (jD 0 0)):=zbD (Qj _ _) (Qc _) _ _ _ _ _ _
      have hU:Hid (RdEnd g s CL.2 w (zai w5 w.heap.size (jA 3) (jB i.a) (jB i.b) (jB i.c) (jB i.d) (jD 0 0))):=by
       unfold Hid;rw[gq.out];exact⟨(g1.block g X).trans h5.rd,zds h5.frame (Qc _) g1⟩
      have gv:Hid (byT CL.1=.node 3 i []):=by unfold Hid;rw[gq.out];unfold byT;rw[h6.out]
      have gG:i.Wf:=by rw[<-h6.out];exact ziE LF
      clear h5 g1 gr;go_wp2_with fail;have ⟨s0,s1,s2,s3,s4,s5⟩:=HX.out.cells;unfold zai at s0 s1 s2 s3 s4 s5;exact Qi (v:=argX (.node 3 i []) none 0) (by simp[results,results288,go_sem,s0,s1,s2,s3,s4,s5,argX,Tree.kind,Tree.set,Tree.kids]) rfl (by rw[gv.out];exact⟨none,0,rfl,LX.leaf _ _ _ _ _ _ gG,hU.out⟩)
theorem zdC{g:Nat}{s:ByteArray}{w wr:World}{q:RS}{t:Tree}{A:Option Addr}{c:Nat}(k:g<w.heap.size)(n:RdAt g s q wr)(l:ZeroX wr w.heap.size)(m:w.grownBy wr (some g))
 (j:LX wr (λb=>w.heap.size<b/\b<wr.heap.size) t (zan t.kind t.set A t.kids.length c)):
 PutX (zai wr w.heap.size (jA t.kind) (jB t.set.a) (jB t.set.b) (jB t.set.c) (jB t.set.d) (.slice A t.kids.length c)) w.heap.size (zan t.kind t.set A t.kids.length c)/\
 NewX w (zai wr w.heap.size (jA t.kind) (jB t.set.a) (jB t.set.b) (jB t.set.c) (jB t.set.d) (.slice A t.kids.length c)) t A c/\
 RdEnd g s q w (zai wr w.heap.size (jA t.kind) (jB t.set.a) (jB t.set.b) (jB t.set.c) (jB t.set.d) (.slice A t.kids.length c)):=by
 have hb:Below w.heap.size wr (zai wr w.heap.size (jA t.kind) (jB t.set.a) (jB t.set.b) (jB t.set.c) (jB t.set.d) (.slice A t.kids.length c)):=zbD (Qj _ _) (Qc _) _ _ _ _ _ _
 have h:∀i,i≠w.heap.size->(zai wr w.heap.size (jA t.kind) (jB t.set.a) (jB t.set.b) (jB t.set.c) (jB t.set.d) (.slice A t.kids.length c)).heap[i]? = wr.heap[i]? := λi f=>by
  unfold zai;rw[Qk _ _ _ _ f,Qk _ _ _ _ f,Qk _ _ _ _ f,Qk _ _ _ _ f,Qk _ _ _ _ f,Qk _ _ _ _ f]
 refine⟨l.fill _ _ _ _ _ _,LX.keep (λb e=>⟨QX e.1,Qv e.2 hb.size⟩) (λb o e=>?_) _ _ j,(hb.block g k).trans n,zds m (Qc _) hb⟩;simp only[World.cell?, h b (show b≠w.heap.size by have:=e.1;omega)]
structure AtSt(g:Nat)(s:ByteArray)(w:World)(q:RS)(wr:World):Prop where
 rd:RdAt g s q wr
 zero:ZeroX wr w.heap.size
 frame:w.grownBy wr (some g)
theorem AtSt.call{g:Nat}{s:ByteArray}{w:World}{q a:RS}{wr w':World}(b:g<w.heap.size)(h:AtSt g s w q wr)(e:RdEnd g s a wr w'):AtSt g s w a w':=
 ⟨e.1,h.zero.grown e.2 (by omega),zax h.frame e.2⟩
theorem AtSt.low{g:Nat}{s:ByteArray}{w:World}{q:RS}{wr w':World}(a:g<w.heap.size)(h:AtSt g s w q wr)(hb:wr w'):AtSt g s w q w':=h.call a (zfl h.rd hb)
theorem zoq(s:ByteArray)(op:Nat)(AF:RS->TR)(hs:s.size<=4096)(gg:op<=20)(hA:ziD s.data.toList AF)(hC:op<20->zfG 137 s (op+1) AF):
 zfG 257 s op (zhh s.data.toList AF):=by
 intro g r w h hp gr;subst gr;have gz:s.data.toList.length=s.size:=by simp
 have u:=h.lt;obtain⟨W0,hn⟩:∃W0,w.alloc (.cells #[jA 0,jB 0,jB 0,jB 0,jB 0,jD 0 0] 185)=W0:=⟨_,rfl⟩
 have hF:w W0:=by rw[<-hn];exact WaL
 have hD:ZeroX W0 w.heap.size:=by rw[<-hn];exact ZeroX.new w
 have gB:w.heap.size<W0.heap.size:=hD.lt;have hk:AtSt g s w r W0:=⟨h.below hF,hD,zci (zaW w _) hF⟩
 have g8:=hIx hk
 have hV:Hid (Calls prog 218 #[.pointer (some ⟨g,0,none⟩)] W0 λe w'=>e=jC (jA (zad s.data.toList r))/\AtSt g s w r w'):=
  (zex g s r W0 hk.rd hp).mono (λe w' ⟨h1,h2⟩=>⟨h1,hk.call u h2⟩)
 have hx:Hid (∀(b:Int) W,AtSt g s w r W->Calls prog 175 #[.pointer (some ⟨g,0,none⟩),jA b] W λe w'=>e=jC (.bool (decide (zad s.data.toList r=b)))/\AtSt g s w (if zad s.data.toList r=b then onR r else r) w'):=λb W hW=>
  (zdQ g s r b W hW.rd hp hs).mono (λe w' ⟨h1,h2⟩=>by
   have I:=hW.call u h2;unfold zaL at h1 I
   by_cases hb:zad s.data.toList r=b
   ·rw[Qg hb]at h1 I
    rw[Qg hb];exact⟨by rw[h1,Qu hb],I⟩
   ·rw[Qe hb]at h1 I
    rw[Qe hb];exact⟨by rw[h1,Qq hb],I⟩)
 have hr:Hid (∀(b:Int) W,zad s.data.toList r=b->AtSt g s w r W->Calls prog 175 #[.pointer (some ⟨g,0,none⟩),jA b] W λe w'=>e=jC (.bool true)/\AtSt g s w (onR r) w'):=λb W hb hW=>
  (hx.out b W hW).mono λe w' ⟨h1,h2⟩=>⟨by rw[h1,Qu hb],by rw[Qg hb]at h2;exact h2⟩
 have hu:Hid (∀(b:Int) W,zad s.data.toList r≠b->AtSt g s w r W->Calls prog 175 #[.pointer (some ⟨g,0,none⟩),jA b] W λe w'=>e=jC (.bool false)/\AtSt g s w r w'):=λb W hb hW=>
  (hx.out b W hW).mono λe w' ⟨h1,h2⟩=>⟨by rw[h1,Qq hb],by rw[Qe hb]at h2;exact h2⟩
 have l:Hid (zhh s.data.toList AF r=if zad s.data.toList r=40 then (if r.op=20 then (kT 0,zaF r 11)else zgP s.data.toList (AF {r with pos:=r.pos+1,op:=r.op+1}))
  else if zad s.data.toList r=46 then (byT (λx=>!(rgF 10 10 x)),onR r)
  else if zad s.data.toList r=94 then (kT 7,onR r)
  else if zad s.data.toList r=36 then (kT 8,onR r)
  else if zad s.data.toList r=91 then (byT (zeJ s.data.toList (onR r)).1,(zeJ s.data.toList (onR r)).2)
  else zol s.data.toList r):=rfl
 obtain⟨R,hR⟩:∃R,zhh s.data.toList AF r=R:=⟨_,rfl⟩
 rw[hR]at l ⊢;have gj:=hIx hC;have gb:=hIx hA;have gs:=hIx hn;have HH:=hIx h;clear h hC hA hF hn hD hR hk hx
 go_in
 go_upto_region 1 with fail
 rw[gs.out];go_wp2_with (go_at_call 218;apply Hid.out);refine WhM hV ?_;rintro e w1 ⟨rfl,O⟩;have V:=hIx O;have ⟨c0,c1,c2,c3⟩:=O.rd.cells;have ⟨z0,z1,z2,z3,z4,z5⟩:=O.zero.cells;have y0:=O.zero.free 0;have y1:=O.zero.free 1;have y2:=O.zero.free 2;have y3:=O.zero.free 3;have y4:=O.zero.free 4;have y5:=O.zero.free 5;clear hV g8 O
 -- WAYS
 clear z0 z1 z2 z3 z4 z5 y0 y1 y2 y3 y4 y5
 by_cases Q:zad s.data.toList r=40
 ·have d0:(zad s.data.toList r==40)=true:=by rw[Q];rfl
  rw[Qg Q]at l;have gA:=(zaO Q (by decide)).1
  by_cases ho:r.op=20
  ·have P:((r.op:Int)==20)=true:=by rw[ho];rfl
   rw[Qg ho]at l;have gd:Hid (Calls prog 138 #[.pointer (some ⟨g,0,none⟩),jA 11] w1 λe w'=>e=jC (.tuple #[])/\AtSt g s w (zaF r 11) w'):=(zc9 g s r 11 w1 V.out.rd).mono (λe w' ⟨h1,h2⟩=>⟨h1,V.out.call u h2⟩);clear Q ho;go_wp2_with (go_at_call 138;apply Hid.out);refine WhM gd ?_;rintro e w2 ⟨rfl,p⟩;have Y:Hid (PutX (zai w2 w.heap.size (jA 0) (jB 0) (jB 0) (jB 0) (jB 0) (jD 0 0)) w.heap.size [jA 0,jB 0,jB 0,jB 0,jB 0,jD 0 0]/\NewX w (zai w2 w.heap.size (jA 0) (jB 0) (jB 0) (jB 0) (jB 0) (jD 0 0)) (kT 0) none 0/\RdEnd g s _ w (zai w2 w.heap.size (jA 0) (jB 0) (jB 0) (jB 0) (jB 0) (jD 0 0))):=zdC (t:=(kT 0)) (A:=none) (c:=0) u p.rd p.zero p.frame (LX.leaf _ _ _ _ _ _ zbE);have ⟨z0,z1,z2,z3,z4,z5⟩:=p.zero.cells;have y0:=p.zero.free 0;have y1:=p.zero.free 1;have y2:=p.zero.free 2;have y3:=p.zero.free 3;have y4:=p.zero.free 4;have y5:=p.zero.free 5;go_wp2_with fail;obtain⟨P,U,X⟩:=Y.out;have ⟨B,E,H,F,D,G⟩:=P.cells;unfold zai at B E H F D G
   exact Qi (v:=argX (kT 0) none 0) (by simp[results,results257,go_sem,B,E,H,F,D,G,argX,kT,Tree.kind,Tree.set,Tree.kids,Set4.zero]) rfl (by rw[l.out];exact⟨none,0,rfl,U,X⟩)
  ·have P:((r.op:Int)==20)=false:=Qb.2 (by omega)
   rw[Qe ho]at l;have hP:r.op<20:=by omega
   have f1:=V.out.rd.free 1;have f2:=V.out.rd.free 2;have i1:IntKind.i64.wrap ((r.pos:Int)+1)=(r.pos:Int)+1:=Qx _ (by omega);have i2:IntKind.i64.wrap ((r.op:Int)+1)=(r.op:Int)+1:=Qx _ (by omega)
   have p:AtSt g s w {r with pos:=r.pos+1,op:=r.op+1} ((w1.setCell ⟨g,1,none⟩ (jA ((r.pos:Int)+1))).setCell ⟨g,2,none⟩ (jA ((r.op:Int)+1))):=by
    have e1:=V.out.rd.setPos (r.pos+1);have e2:=e1.setOp (r.op+1);exact V.out.call u ⟨e2,zak (zak (zaW w1 _) 1 _) 2 _⟩
   have hE:=hIx p;clear p Q;go_upto_region 7 with fail
   generalize (w1.setCell ⟨g,1,none⟩ (jA ((r.pos:Int)+1))).setCell ⟨g,2,none⟩ (jA ((r.op:Int)+1))=w2 at *;have hm:zfK s.data.toList {r with pos:=r.pos+1,op:=r.op+1} (AF {r with pos:=r.pos+1,op:=r.op+1}):=gb.out _ (show r.pos+1<=s.data.toList.length by omega);have hS:=hIx (gj.out hP g {r with pos:=r.pos+1,op:=r.op+1} w2 hE.out.rd (show r.pos+1<=s.size by omega) (rfl));obtain⟨T,hT⟩:∃T,AF {r with pos:=r.pos+1,op:=r.op+1}=T:=⟨_,rfl⟩
   rw[hT]at hm hS l;have ga:T.2.op=r.op+1:=hm.step.op;have gx:1<=T.2.op:=by omega
   have gw:T.2.op<=21:=by omega
   have g2:T.2.pos<=s.size:=by have:=hm.step.inn;omega
   clear c0 c1 c2 c3 f1 f2 hm hT i1 i2 d0 P ga;go_wp2_with (go_at_call 137;apply Hid.out);refine WhM hS ?_;rintro e w3 ⟨A,c,rfl,hQ,h3⟩;have q:=hE.out.call u h3;have g4:w.heap.size<w2.heap.size:=hE.out.zero.lt;have gy:g<w3.heap.size:=q.rd.lt;have ⟨c0,c1,c2,c3⟩:=q.rd.cells;have f2:=q.rd.free 2;have i3:IntKind.i64.wrap ((T.2.op:Int)-1)=(T.2.op:Int)-1:=Qx _ (by omega)
   have m:AtSt g s w {T.2 with op:=T.2.op-1} ((w3.setCell ⟨g,2,none⟩ (jA ((T.2.op:Int)-1))).alloc (.cells #[jA T.1.kind,jB T.1.set.a,jB T.1.set.b,jB T.1.set.c,jB T.1.set.d,.slice A T.1.kids.length c] 185)):=by
    have e1:=q.rd.setOp (T.2.op-1);rw[show ((T.2.op-1:Nat):Int)=(T.2.op:Int)-1 by omega]at e1;have m:=q.call u ⟨e1,zak (zaW w3 _) 2 _⟩;exact m.low u WaL
   have hz:PutX ((w3.setCell ⟨g,2,none⟩ (jA ((T.2.op:Int)-1))).alloc (.cells #[jA T.1.kind,jB T.1.set.a,jB T.1.set.b,jB T.1.set.c,jB T.1.set.d,.slice A T.1.kids.length c] 185)) w3.heap.size [jA T.1.kind,jB T.1.set.a,jB T.1.set.b,jB T.1.set.c,jB T.1.set.d,.slice A T.1.kids.length c]:=by
    have:=PutX.new (w3.setCell ⟨g,2,none⟩ (jA ((T.2.op:Int)-1))) [jA T.1.kind,jB T.1.set.a,jB T.1.set.b,jB T.1.set.c,jB T.1.set.d,.slice A T.1.kids.length c];rw[show (w3.setCell ⟨g,2,none⟩ (jA ((T.2.op:Int)-1))).heap.size=w3.heap.size by simp[World.setCell]]at this;exact this
   have hY:LX ((w3.setCell ⟨g,2,none⟩ (jA ((T.2.op:Int)-1))).alloc (.cells #[jA T.1.kind,jB T.1.set.a,jB T.1.set.b,jB T.1.set.c,jB T.1.set.d,.slice A T.1.kids.length c] 185)) (λb=>w.heap.size<b/\b<w3.heap.size) T.1 (zan T.1.kind T.1.set A T.1.kids.length c):=by
    refine LX.keep (λb hb=>⟨Qv g4 hb.1,hb.2⟩) (λb o hb=>?_) _ _ hQ;have g1:b≠g:=by have:=hb.1;omega
    have h5:((w3.setCell ⟨g,2,none⟩ (jA ((T.2.op:Int)-1))).alloc (.cells #[jA T.1.kind,jB T.1.set.a,jB T.1.set.b,jB T.1.set.c,jB T.1.set.d,.slice A T.1.kids.length c] 185)).heap[b]? = w3.heap[b]? :=
     (Qr _ _ _ (by have:=hb.2;simp only[World.setCell,Array.size_modify];exact this)).trans (Qk _ _ _ _ g1)
    simp only[World.cell?, h5]
   have hw:w3.heap.size<((w3.setCell ⟨g,2,none⟩ (jA ((T.2.op:Int)-1))).alloc (.cells #[jA T.1.kind,jB T.1.set.a,jB T.1.set.b,jB T.1.set.c,jB T.1.set.d,.slice A T.1.kids.length c] 185)).heap.size:=hz.lt;clear hQ h3 q;unfold argX;go_upto_region 9 with fail
   generalize (w3.setCell ⟨g,2,none⟩ (jA ((T.2.op:Int)-1))).alloc (.cells #[jA T.1.kind,jB T.1.set.a,jB T.1.set.b,jB T.1.set.c,jB T.1.set.d,.slice A T.1.kids.length c] 185)=w4 at *;obtain⟨q4,hj⟩:∃q4:RS,q4={T.2 with op:=T.2.op-1}:=⟨_,rfl⟩
   have hL:q4.pos<=s.size:=by rw[hj];exact g2
   rw[<-hj]at m;have h9:Hid (R=(T.1,if (zaL s.data.toList q4 41).1=true then (zaL s.data.toList q4 41).2 else zaF q4 3)):=by unfold Hid;rw[l.out,hj];rfl
   have hh:Hid (∀w',w4.grownBy w' (some g)->PutX w' w3.heap.size [jA T.1.kind,jB T.1.set.a,jB T.1.set.b,jB T.1.set.c,jB T.1.set.d,.slice A T.1.kids.length c]/\LX w' (λb=>w.heap.size<b/\b<w'.heap.size) T.1 (zan T.1.kind T.1.set A T.1.kids.length c)):=λw' hB=>
    ⟨hz.grown hB (by omega),LX.keep (λb hb=>⟨hb.1,Qv (ZC hb.2 hw) hB.size⟩) (λb o hb=>zgo hB (ZC hb.2 hw) (by have:=hb.1;omega)) _ _ hY⟩
   have h4:Hid (Calls prog 175 #[.pointer (some ⟨g,0,none⟩),jA 41] w4 λe w'=>e=jC (.bool (zaL s.data.toList q4 41).1)/\AtSt g s w (zaL s.data.toList q4 41).2 w'/\w4.grownBy w' (some g)):=
    (zdQ g s q4 41 w4 m.rd hL hs).mono (λe w' ⟨h1,h2⟩=>⟨h1,m.call u h2,h2.2⟩)
   clear hz hY m hj c0 c1 c2 c3 f2 l;cases hf:(zaL s.data.toList q4 41).1 with
   |true=>
    rw[hf]at h4 h9;rw[Qg rfl]at h9;go_wp2_with (go_at_call 175;apply Hid.out);refine WhM h4 ?_;rintro e Z ⟨rfl,k,hv⟩;obtain⟨gq,gt⟩:=hh.out Z hv;have ⟨b0,b1,b2,b3,b4,b5⟩:=gq.cells;have Y:Hid (PutX (zai Z w.heap.size (jA T.1.kind) (jB T.1.set.a) (jB T.1.set.b) (jB T.1.set.c) (jB T.1.set.d) (.slice A T.1.kids.length c)) w.heap.size [jA T.1.kind,jB T.1.set.a,jB T.1.set.b,jB T.1.set.c,jB T.1.set.d,.slice A T.1.kids.length c]/\NewX w (zai Z w.heap.size (jA T.1.kind) (jB T.1.set.a) (jB T.1.set.b) (jB T.1.set.c) (jB T.1.set.d) (.slice A T.1.kids.length c)) T.1 A c/\RdEnd g s _ w (zai Z w.heap.size (jA T.1.kind) (jB T.1.set.a) (jB T.1.set.b) (jB T.1.set.c) (jB T.1.set.d) (.slice A T.1.kids.length c))):=zdC (t:=T.1) (A:=A) (c:=c) u k.rd k.zero k.frame gt;have ⟨z0,z1,z2,z3,z4,z5⟩:=k.zero.cells;have y0:=k.zero.free 0;have y1:=k.zero.free 1;have y2:=k.zero.free 2;have y3:=k.zero.free 3;have y4:=k.zero.free 4;have y5:=k.zero.free 5;go_wp2_with fail;obtain⟨P,U,X⟩:=Y.out;have ⟨B,E,H,F,D,G⟩:=P.cells;unfold zai at B E H F D G
    exact Qi (v:=argX T.1 A c) (by simp[results,results257,go_sem,B,E,H,F,D,G,argX]) rfl (by rw[h9.out];exact⟨A,c,rfl,U,X⟩)
   |false=>
    have gh:(zaL s.data.toList q4 41).2=q4:=by
     unfold zaL at hf ⊢
     by_cases h:zad s.data.toList q4=41
     ·rw[Qg h]at hf;cases hf
     ·rw[Qe h]
    rw[hf]at h4 h9;rw[Qe (by decide)]at h9;rw[gh]at h4;go_wp2_with (go_at_call 175;apply Hid.out);refine WhM h4 ?_;rintro e Z ⟨rfl,k,hv⟩
    have gn:Hid (Calls prog 138 #[.pointer g,jA 3] Z λe w'=>e=jC (.tuple #[])/\AtSt g s w (zaF q4 3) w'/\w4.grownBy w' (some g)):=
     (zc9 g s q4 3 Z k.rd).mono (λe w' ⟨h1,h2⟩=>⟨h1,k.call u h2,zax hv h2.2⟩)
    clear k hv;go_wp2_with (go_at_call 138;apply Hid.out);refine WhM gn ?_;rintro e L ⟨rfl,j,gm⟩;obtain⟨gk,hq⟩:=hh.out L gm;have ⟨b0,b1,b2,b3,b4,b5⟩:=gk.cells;have Y:Hid (PutX (zai L w.heap.size (jA T.1.kind) (jB T.1.set.a) (jB T.1.set.b) (jB T.1.set.c) (jB T.1.set.d) (.slice A T.1.kids.length c)) w.heap.size [jA T.1.kind,jB T.1.set.a,jB T.1.set.b,jB T.1.set.c,jB T.1.set.d,.slice A T.1.kids.length c]/\NewX w (zai L w.heap.size (jA T.1.kind) (jB T.1.set.a) (jB T.1.set.b) (jB T.1.set.c) (jB T.1.set.d) (.slice A T.1.kids.length c)) T.1 A c/\RdEnd g s _ w (zai L w.heap.size (jA T.1.kind) (jB T.1.set.a) (jB T.1.set.b) (jB T.1.set.c) (jB T.1.set.d) (.slice A T.1.kids.length c))):=zdC (t:=T.1) (A:=A) (c:=c) u j.rd j.zero j.frame hq;have ⟨z0,z1,z2,z3,z4,z5⟩:=j.zero.cells;have y0:=j.zero.free 0;have y1:=j.zero.free 1;have y2:=j.zero.free 2;have y3:=j.zero.free 3;have y4:=j.zero.free 4;have y5:=j.zero.free 5;go_wp2_with fail;obtain⟨P,U,X⟩:=Y.out;have ⟨B,E,H,F,D,G⟩:=P.cells;unfold zai at B E H F D G;exact Qi (v:=argX T.1 A c) (by simp[results,results257,go_sem,B,E,H,F,D,G,argX]) rfl (by rw[h9.out];exact⟨A,c,rfl,U,X⟩)
 have d0:(zad s.data.toList r==40)=false:=Qb.2 Q;rw[Qe Q]at l;clear c0 c1 c2 c3
 by_cases h8:zad s.data.toList r=46
 ·rw[Qg h8]at l
  have HT:=hIx (hr.out 46 w1 h8 V.out);clear Q h8;go_wp2_with (go_at_call 175;apply Hid.out);refine WhM HT ?_;rintro e w2 ⟨rfl,p⟩;obtain⟨Sr,hI⟩:∃Sr,setF (rgF 10 10)=Sr:=⟨_,rfl⟩
  obtain⟨z,ht⟩:∃z,setF (λx=>!(rgF 10 10 x))=z:=⟨_,rfl⟩
  have hH:Hid (Calls prog 148 #[jA 10,jA 10] w2 λe w'=>e=jC (.agg #[jB Sr.a,jB Sr.b,jB Sr.c,jB Sr.d])/\AtSt g s w (onR r) w'):=by
   have:=zhR 10 10 (by decide) w2;rw[hI]at this;exact this.mono (λe w' ⟨h1,h2⟩=>⟨h1,p.low u h2⟩)
  have g6:Hid (∀W,AtSt g s w (onR r) W->Calls prog 286 #[.agg #[jB Sr.a,jB Sr.b,jB Sr.c,jB Sr.d]] W λe w'=>e=jC (.agg #[jB z.a,jB z.b,jB z.c,jB z.d])/\AtSt g s w (onR r) w'):=λW hW=>by
   have:=zoN (rgF 10 10) W;rw[hI,ht]at this;exact this.mono (λe w' ⟨h1,h2⟩=>⟨h1,hW.low u h2⟩)
  have hi:Hid (R=(.node 3 z [],onR r)):=by unfold Hid;rw[l.out];unfold byT;rw[ht]
  have he:z.Wf:=by rw[<-ht];exact ziE _
  clear p hI ht;go_wp2_with (go_at_call 148;apply Hid.out);refine WhM hH ?_;rintro e w3 ⟨rfl,q⟩;have ge:=hIx (g6.out w3 q);clear q;go_wp2_with (go_at_call 286;apply Hid.out);refine WhM ge ?_;rintro e w4 ⟨rfl,m⟩;have Y:Hid (PutX (zai w4 w.heap.size (jA 3) (jB z.a) (jB z.b) (jB z.c) (jB z.d) (jD 0 0)) w.heap.size [jA 3,jB z.a,jB z.b,jB z.c,jB z.d,jD 0 0]/\NewX w (zai w4 w.heap.size (jA 3) (jB z.a) (jB z.b) (jB z.c) (jB z.d) (jD 0 0)) (.node 3 z []) none 0/\RdEnd g s _ w (zai w4 w.heap.size (jA 3) (jB z.a) (jB z.b) (jB z.c) (jB z.d) (jD 0 0))):=zdC (t:=(.node 3 z [])) (A:=none) (c:=0) u m.rd m.zero m.frame (LX.leaf _ _ _ _ _ _ he);have ⟨z0,z1,z2,z3,z4,z5⟩:=m.zero.cells;have y0:=m.zero.free 0;have y1:=m.zero.free 1;have y2:=m.zero.free 2;have y3:=m.zero.free 3;have y4:=m.zero.free 4;have y5:=m.zero.free 5;go_wp2_with fail;obtain⟨P,U,X⟩:=Y.out;have ⟨B,E,H,F,D,G⟩:=P.cells;unfold zai at B E H F D G
  exact Qi (v:=argX (.node 3 z []) none 0) (by simp[results,results257,go_sem,B,E,H,F,D,G,argX,Tree.kind,Tree.set,Tree.kids]) rfl (by rw[hi.out];exact⟨none,0,rfl,U,X⟩)
 rw[Qe h8]at l;have gp:=hIx (hu.out 46 w1 h8 V.out);go_wp2_with (go_at_call 175;apply Hid.out);refine WhM gp ?_;rintro e w2 ⟨rfl,p⟩
 by_cases hd:zad s.data.toList r=94
 ·rw[Qg hd]at l
  have HT:=hIx (hr.out 94 w2 hd p);clear p;go_wp2_with (go_at_call 175;apply Hid.out);refine WhM HT ?_;rintro e w3 ⟨rfl,q⟩
  have hy:Hid (Calls prog 287 #[jA 7] w3 λe w'=>∃A c,e=jC (.agg #[jA 7,jB 0,jB 0,jB 0,jB 0,.slice A 0 c])/\AtSt g s w (onR r) w'):=
   (zpt 7 w3).mono (λe w' ⟨A,c,h1,_,h2⟩=>⟨A,c,h1,q.low u h2⟩)
  clear q;go_wp2_with (go_at_call 287;apply Hid.out);refine WhM hy ?_;rintro e w8 ⟨A,c,rfl,n⟩;have Y:Hid (PutX (zai w8 w.heap.size (jA 7) (jB 0) (jB 0) (jB 0) (jB 0) (.slice A 0 c)) w.heap.size [jA 7,jB 0,jB 0,jB 0,jB 0,.slice A 0 c]/\NewX w (zai w8 w.heap.size (jA 7) (jB 0) (jB 0) (jB 0) (jB 0) (.slice A 0 c)) (kT 7) A c/\RdEnd g s _ w (zai w8 w.heap.size (jA 7) (jB 0) (jB 0) (jB 0) (jB 0) (.slice A 0 c))):=zdC (t:=(kT 7)) (A:=A) (c:=c) u n.rd n.zero n.frame (LX.leaf _ _ _ _ _ _ zbE);have ⟨z0,z1,z2,z3,z4,z5⟩:=n.zero.cells;have y0:=n.zero.free 0;have y1:=n.zero.free 1;have y2:=n.zero.free 2;have y3:=n.zero.free 3;have y4:=n.zero.free 4;have y5:=n.zero.free 5;go_wp2_with fail;obtain⟨P,U,X⟩:=Y.out;have ⟨B,E,H,F,D,G⟩:=P.cells;unfold zai at B E H F D G;exact Qi (v:=argX (kT 7) A c) (by simp[results,results257,go_sem,B,E,H,F,D,G,argX,kT,Tree.kind,Tree.set,Tree.kids,Set4.zero]) rfl (by rw[l.out];exact⟨A,c,rfl,U,X⟩)
 rw[Qe hd]at l;have g9:=hIx (hu.out 94 w2 hd p);clear p;go_wp2_with (go_at_call 175;apply Hid.out);refine WhM g9 ?_;rintro e w3 ⟨rfl,q⟩
 by_cases ha:zad s.data.toList r=36
 ·rw[Qg ha]at l
  have HT:=hIx (hr.out 36 w3 ha q);clear q;go_wp2_with (go_at_call 175;apply Hid.out);refine WhM HT ?_;rintro e w4 ⟨rfl,m⟩
  have hy:Hid (Calls prog 287 #[jA 8] w4 λe w'=>∃A c,e=jC (.agg #[jA 8,jB 0,jB 0,jB 0,jB 0,.slice A 0 c])/\AtSt g s w (onR r) w'):=
   (zpt 8 w4).mono (λe w' ⟨A,c,h1,_,h2⟩=>⟨A,c,h1,m.low u h2⟩)
  clear m;go_wp2_with (go_at_call 287;apply Hid.out);refine WhM hy ?_;rintro e w8 ⟨A,c,rfl,n⟩;have Y:Hid (PutX (zai w8 w.heap.size (jA 8) (jB 0) (jB 0) (jB 0) (jB 0) (.slice A 0 c)) w.heap.size [jA 8,jB 0,jB 0,jB 0,jB 0,.slice A 0 c]/\NewX w (zai w8 w.heap.size (jA 8) (jB 0) (jB 0) (jB 0) (jB 0) (.slice A 0 c)) (kT 8) A c/\RdEnd g s _ w (zai w8 w.heap.size (jA 8) (jB 0) (jB 0) (jB 0) (jB 0) (.slice A 0 c))):=zdC (t:=(kT 8)) (A:=A) (c:=c) u n.rd n.zero n.frame (LX.leaf _ _ _ _ _ _ zbE);have ⟨z0,z1,z2,z3,z4,z5⟩:=n.zero.cells;have y0:=n.zero.free 0;have y1:=n.zero.free 1;have y2:=n.zero.free 2;have y3:=n.zero.free 3;have y4:=n.zero.free 4;have y5:=n.zero.free 5;go_wp2_with fail;obtain⟨P,U,X⟩:=Y.out;have ⟨B,E,H,F,D,G⟩:=P.cells;unfold zai at B E H F D G;exact Qi (v:=argX (kT 8) A c) (by simp[results,results257,go_sem,B,E,H,F,D,G,argX,kT,Tree.kind,Tree.set,Tree.kids,Set4.zero]) rfl (by rw[l.out];exact⟨A,c,rfl,U,X⟩)
 rw[Qe ha]at l;have gf:=hIx (hu.out 36 w3 ha q);clear q;go_wp2_with (go_at_call 175;apply Hid.out);refine WhM gf ?_;rintro e w4 ⟨rfl,m⟩
 by_cases h7:zad s.data.toList r=91
 ·rw[Qg h7]at l
  have HT:=hIx (hr.out 91 w4 h7 m);have g5:(onR r).pos<=s.size:=by have:=(zde h7 (by decide)).1.inn;omega
  clear m;go_wp2_with (go_at_call 175;apply Hid.out);refine WhM HT ?_;rintro e Z ⟨rfl,k⟩;obtain⟨K,hK⟩:∃K,zeJ s.data.toList (onR r)=K:=⟨_,rfl⟩
  rw[hK]at l
  have gl:Hid (Calls prog 288 #[.pointer g] Z (zjD g s (byT K.1,K.2) Z)):=by
   have:=zsb g s (onR r) Z k.rd g5 hs;rw[hK]at this;exact this
  have hU:=hIx k;clear k hK;go_wp2_with (go_at_call 288;apply Hid.out);refine WhM gl ?_;rintro e L ⟨A,c,rfl,hX,h6⟩;have j:=hU.out.call u h6;have gi:w.heap.size<Z.heap.size:=hU.out.zero.lt;have hq:LX L (λb=>w.heap.size<b/\b<L.heap.size) (byT K.1) (zan (byT K.1).kind (byT K.1).set A (byT K.1).kids.length c):=LX.keep (λb hb=>⟨Qv gi hb.1,hb.2⟩) (λ_ _ _=>rfl) _ _ hX;clear hX h6;obtain⟨y,hO⟩:∃y,byT K.1=y:=⟨_,rfl⟩
  rw[hO]at hq l ⊢;clear hO;unfold argX;have Y:Hid (PutX (zai L w.heap.size (jA y.kind) (jB y.set.a) (jB y.set.b) (jB y.set.c) (jB y.set.d) (.slice A y.kids.length c)) w.heap.size [jA y.kind,jB y.set.a,jB y.set.b,jB y.set.c,jB y.set.d,.slice A y.kids.length c]/\NewX w (zai L w.heap.size (jA y.kind) (jB y.set.a) (jB y.set.b) (jB y.set.c) (jB y.set.d) (.slice A y.kids.length c)) y A c/\RdEnd g s _ w (zai L w.heap.size (jA y.kind) (jB y.set.a) (jB y.set.b) (jB y.set.c) (jB y.set.d) (.slice A y.kids.length c))):=zdC (t:=y) (A:=A) (c:=c) u j.rd j.zero j.frame hq;have ⟨z0,z1,z2,z3,z4,z5⟩:=j.zero.cells;have y0:=j.zero.free 0;have y1:=j.zero.free 1;have y2:=j.zero.free 2;have y3:=j.zero.free 3;have y4:=j.zero.free 4;have y5:=j.zero.free 5;go_wp2_with fail;obtain⟨P,U,X⟩:=Y.out;have ⟨B,E,H,F,D,G⟩:=P.cells;unfold zai at B E H F D G;exact Qi (v:=argX y A c) (by simp[results,results257,go_sem,B,E,H,F,D,G,argX]) rfl (by rw[l.out];exact⟨A,c,rfl,U,X⟩)
 rw[Qe h7]at l;have h4:=hIx (hu.out 91 w4 h7 m);clear m Q h8 hd ha h7;go_wp2_with (go_at_call 175;apply Hid.out);refine WhM h4 ?_;rintro e Z ⟨rfl,k⟩;have hG:=zey (s:=s.data.toList) (r:=r) (by omega)
 have hc:Hid (zol s.data.toList r=match (zbp s.data.toList r).1 with
  |some f=>(byT f,(zbp s.data.toList r).2)
  |none=>(byT (rgF (zbo s.data.toList r).1.toNat (zbo s.data.toList r).1.toNat),(zbo s.data.toList r).2)):=rfl
 cases h0:(zbp s.data.toList r).1 with
 |some f=>
  rw[h0]at hc;obtain⟨i,S⟩:∃i,setF f=i:=⟨_,rfl⟩
  have HG:Hid (Calls prog 289 #[.pointer g] Z λe w'=>e=jC (.tuple #[.agg #[jB i.a,jB i.b,jB i.c,jB i.d],.bool true])/\AtSt g s w (zbp s.data.toList r).2 w'):=
   (zfy g s r Z k.rd hp hs).mono (λe w' ⟨h1,h2⟩=>⟨by rw[h1,h0];dsimp only;rw[S];rfl,k.call u h2⟩)
  have hi:Hid (R=(.node 3 i [],(zbp s.data.toList r).2)):=by unfold Hid;rw[l.out,hc.out];dsimp only;unfold byT;rw[S]
  have he:i.Wf:=by rw[<-S];exact ziE _
  clear hG h0 S k;go_wp2_with (go_at_call 289;apply Hid.out);refine WhM HG ?_;rintro e L ⟨rfl,j⟩;have N:=j.low u ((Qj L.heap.size L).alloc (Qc _) (.cells #[jB i.a,jB i.b,jB i.c,jB i.d] 182));have g7:FourW (L.alloc (.cells #[jB i.a,jB i.b,jB i.c,jB i.d] 182)) L.heap.size i:=Qt L _;clear j;go_upto_region 22 with fail
  generalize L.alloc (.cells #[jB i.a,jB i.b,jB i.c,jB i.d] 182)=w7 at *;have ⟨x0,x1,x2,x3⟩:=g7.cells;have Y:Hid (PutX (zai w7 w.heap.size (jA 3) (jB i.a) (jB i.b) (jB i.c) (jB i.d) (jD 0 0)) w.heap.size [jA 3,jB i.a,jB i.b,jB i.c,jB i.d,jD 0 0]/\NewX w (zai w7 w.heap.size (jA 3) (jB i.a) (jB i.b) (jB i.c) (jB i.d) (jD 0 0)) (.node 3 i []) none 0/\RdEnd g s _ w (zai w7 w.heap.size (jA 3) (jB i.a) (jB i.b) (jB i.c) (jB i.d) (jD 0 0))):=zdC (t:=(.node 3 i [])) (A:=none) (c:=0) u N.rd N.zero N.frame (LX.leaf _ _ _ _ _ _ he);have ⟨z0,z1,z2,z3,z4,z5⟩:=N.zero.cells;have y0:=N.zero.free 0;have y1:=N.zero.free 1;have y2:=N.zero.free 2;have y3:=N.zero.free 3;have y4:=N.zero.free 4;have y5:=N.zero.free 5;go_wp2_with fail;obtain⟨P,U,X⟩:=Y.out;have ⟨B,E,H,F,D,G⟩:=P.cells;unfold zai at B E H F D G;exact Qi (v:=argX (.node 3 i []) none 0) (by simp[results,results257,go_sem,B,E,H,F,D,G,argX,Tree.kind,Tree.set,Tree.kids]) rfl (by rw[hi.out];exact⟨none,0,rfl,U,X⟩)
 |none=>
  rw[h0]at hc;have hJ:(zbp s.data.toList r).2=r:=hG.2.1 h0;have hZ:=(zdt (s:=s.data.toList) (r:=r) (by omega)).2.2;obtain⟨C,hC⟩:∃C,zbo s.data.toList r=C:=⟨_,rfl⟩
  rw[hC]at hZ hc;obtain⟨lo,hN⟩:∃lo:Nat,C.1=lo:=⟨C.1.toNat,by omega⟩
  have g0:lo<256:=by omega
  obtain⟨i,S⟩:∃i,setF (rgF lo lo)=i:=⟨_,rfl⟩
  have HG:Hid (Calls prog 289 #[.pointer g] Z λe w'=>e=jC (.tuple #[.agg #[jB 0,jB 0,jB 0,jB 0],.bool false])/\AtSt g s w r w'):=
   (zfy g s r Z k.rd hp hs).mono (λe w' ⟨h1,h2⟩=>⟨by rw[h1,h0];rfl,by rw[hJ]at h2;exact k.call u h2⟩)
  have gc:Hid (∀W,AtSt g s w r W->Calls prog 290 #[.pointer g] W λe w'=>e=jC (jA (lo:Int))/\AtSt g s w C.2 w'):=λW hW=>
   (zhG g s r W hW.rd hp hs).mono (λe w' ⟨h1,h2⟩=>⟨by rw[h1,hC,hN],by rw[hC]at h2;exact hW.call u h2⟩)
  have hH:Hid (∀W,AtSt g s w C.2 W->Calls prog 148 #[jA (lo:Int),jA (lo:Int)] W λe w'=>e=jC (.agg #[jB i.a,jB i.b,jB i.c,jB i.d])/\AtSt g s w C.2 w'):=λW hW=>by
   have:=zhR lo lo g0 W;rw[S]at this;exact this.mono (λe w' ⟨h1,h2⟩=>⟨h1,hW.low u h2⟩)
  have hi:Hid (R=(.node 3 i [],C.2)):=by unfold Hid;rw[l.out,hc.out];dsimp only;unfold byT;rw[show C.1.toNat=lo by omega,S]
  have he:i.Wf:=by rw[<-S];exact ziE _
  clear hG h0 hJ hZ hC hN S k;go_wp2_with (go_at_call 289;apply Hid.out);refine WhM HG ?_;rintro e L ⟨rfl,j⟩;have gu:=hIx (j.low u ((Qj L.heap.size L).alloc (Qc _) (.cells #[jB 0,jB 0,jB 0,jB 0] 182)));clear j;go_upto_region 23 with fail
  generalize L.alloc (.cells #[jB 0,jB 0,jB 0,jB 0] 182)=w7 at *;have g3:=hIx (gc.out w7 gu.out);go_wp2_with (go_at_call 290;apply Hid.out);refine WhM g3 ?_;rintro e w8 ⟨rfl,n⟩;have gv:=hIx (hH.out w8 n);clear n;go_wp2_with (go_at_call 148;apply Hid.out);refine WhM gv ?_;rintro e w9 ⟨rfl,J⟩;have Y:Hid (PutX (zai w9 w.heap.size (jA 3) (jB i.a) (jB i.b) (jB i.c) (jB i.d) (jD 0 0)) w.heap.size [jA 3,jB i.a,jB i.b,jB i.c,jB i.d,jD 0 0]/\NewX w (zai w9 w.heap.size (jA 3) (jB i.a) (jB i.b) (jB i.c) (jB i.d) (jD 0 0)) (.node 3 i []) none 0/\RdEnd g s _ w (zai w9 w.heap.size (jA 3) (jB i.a) (jB i.b) (jB i.c) (jB i.d) (jD 0 0))):=zdC (t:=(.node 3 i [])) (A:=none) (c:=0) u J.rd J.zero J.frame (LX.leaf _ _ _ _ _ _ he);have ⟨z0,z1,z2,z3,z4,z5⟩:=J.zero.cells;have y0:=J.zero.free 0;have y1:=J.zero.free 1;have y2:=J.zero.free 2;have y3:=J.zero.free 3;have y4:=J.zero.free 4;have y5:=J.zero.free 5;go_wp2_with fail;obtain⟨P,U,X⟩:=Y.out;have ⟨B,E,H,F,D,G⟩:=P.cells;unfold zai at B E H F D G
  exact Qi (v:=argX (.node 3 i []) none 0) (by simp[results,results257,go_sem,B,E,H,F,D,G,argX,Tree.kind,Tree.set,Tree.kids]) rfl (by rw[hi.out];exact⟨none,0,rfl,U,X⟩)
