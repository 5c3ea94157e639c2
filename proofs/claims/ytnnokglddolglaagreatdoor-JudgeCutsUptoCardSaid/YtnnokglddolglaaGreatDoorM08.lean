/- Lemmas for the last texts. -/
import Derived.Test.YtnnokglddolglaaGreatDoorM06
import Derived.Test.YtnnokglddolglaaGreatDoorM07
set_option maxHeartbeats 6400000
set_option maxRecDepth 100000
namespace Go.Proofs.YtnnokglddolglaaGreatDoor
open Go.RowKit Go.Proofs.Tryz
theorem zci{a w w':World}{row:Option Nat}(h:a.grownBy w row)(hb:Below a.heap.size w w'):a.grownBy w' row:=
 ⟨hb.os.trans h.os,hb.tape.trans h.tape,hb.output.trans h.output,Ql h.size hb.size,λi c b=>(hb.block i c).trans (h.block i c b)⟩
theorem zfl{g:Nat}{s:ByteArray}{r:RS}{w W:World}(h:RdAt g s r w)(hb:w W):RdEnd g s r w W:=⟨h.below hb,zci (zaW w _) hb⟩
theorem RdEnd.low{g:Nat}{s:ByteArray}{r:RS}{w W W':World}(a:g<w.heap.size)(h:RdEnd g s r w W)(hb:Below w.heap.size W W'):RdEnd g s r w W':=⟨(hb.block g a).trans h.1,zci h.2 hb⟩
def zcv(W:World)(k:Nat)(S:Set4):World:=(((W.setCell k (jB S.a)).setCell ⟨k,1,none⟩ (jB S.b)).setCell ⟨k,2,none⟩ (jB S.c)).setCell ⟨k,3,none⟩ (jB S.d)
theorem za9{W w:World}{B k:Nat}(h:Below B w W)(a:B<=k)(S:Set4):Below B w (zcv W k S):=
 (((h.setCell (p:=⟨k,0,none⟩) a _).setCell (p:=⟨k,1,none⟩) a _).setCell (p:=⟨k,2,none⟩) a _).setCell (p:=⟨k,3,none⟩) a _
theorem zbt{W:World}{k:Nat}{Z:Set4}(h:FourW W k Z)(S:Set4):FourW (zcv W k S) k S:=h.fill S
def rgF(a b:Nat):Nat->Bool:=λx=>decide (a<=x)&&decide (x<=b)
def zwb:Nat->Bool:=λx=>(rgF 97 122 x||rgF 65 90 x)||(rgF 48 57 x||rgF 95 95 x)
def spcF:Nat->Bool:=λx=>rgF 9 13 x||rgF 32 32 x
def zmP(b:UInt8):Option (Nat->Bool):=if b=100 then some (rgF 48 57)else if b=119 then some zwb else if b=115 then some spcF else none
def zbp(s:jE)(r:RS):Option (Nat->Bool) × RS:=
 if zad s r=92 then match s[r.pos+1]? with
  |none=>(none,r)
  |some b=>match zmP b with
   |none=>(none,r)
   |some f=>(some f,{r with pos:=r.pos+2})
 else (none,r)
def zrU(g:Nat)(s:ByteArray)(R:Option (Nat->Bool) × RS)(w:World)(e:Ending)(w':World):Prop:=
 e=jC (.tuple #[setA (match R.1 with|some f=>setF f|none=>.zero),.bool R.1.isSome])/\RdEnd g s R.2 w w'
theorem zfy(g:Nat)(s:ByteArray)(r:RS)(w:World)(h:RdAt g s r w)(hp:r.pos<=s.size)(hs:s.size<=4096):
 Calls prog 289 #[.pointer g] w (zrU g s (zbp s.data.toList r) w):=by
 have hD:=zdo (s:=s.data.toList) (r:=r);have hC:s.data.toList.length=s.size:=by simp
 have hw:0<=zad s.data.toList r->r.pos<s.size:=λh=>by have:=(zaO rfl h).1;omega
 obtain⟨W0,hi⟩:∃W0,w.alloc (.cells #[jB 0,jB 0,jB 0,jB 0] 182)=W0:=⟨_,rfl⟩
 have hz:FourW W0 w.heap.size .zero:=by rw[<-hi];have:=FourW.new w;rw[zij]at this;exact this
 have ho:w W0:=by rw[<-hi];exact WaL
 have h0:RdAt g s r W0:=h.below ho;have HN:Hid (∀n,Calls prog 218 #[.pointer g] (W0.drewN n) λe w'=>e=jC (jA (zad s.data.toList r))/\∃m,w'=(W0.drewN n).drewN m):=λn=>zfX g s r _ (h0.drew n) hp
 have h4:Hid (zbp s.data.toList r=if zad s.data.toList r=92 then match s.data.toList[r.pos+1]? with
  |none=>(none,r)
  |some b=>match zmP b with
   |none=>(none,r)
   |some f=>(some f,{r with pos:=r.pos+2})
 else (none,r)):=rfl
 generalize zbp s.data.toList r=R at *;generalize zad s.data.toList r=N at *;have ⟨c0,c1,c2,c3⟩:=h0.cells;have i7:IntKind.i64.wrap ((r.pos:Int)+1)=((r.pos+1:Nat):Int):=Qx _ (by omega);have hv:=hIx hi;have H:=hIx (And.intro h (And.intro h0 (And.intro hz ho)));clear hi h h0 hz ho
 go_in
 go_upto_region 1 with fail
 rw[hv.out]
 by_cases q0:N=92
 rotate_left
 ·have d0:(N != 92)=true:=Q7.2 q0
  have HD:Hid (R=(none,r)):=by unfold Hid;rw[h4.out,Qe q0]
  clear h4 q0
  go_quiet ((go_at_call 218;exact Calls.quiet_of (HN.out _)))
  obtain⟨i,F⟩:∃i,W0.drewN nq=i:=⟨_,rfl⟩
  have G:FourW i w.heap.size .zero/\w i:=by rw[<-F];exact⟨H.out.2.2.1,below_drewN H.out.2.2.2 nq⟩
  rw[F];have HZ:=hIx (zbt G.1 .zero);have HE:=hIx (zfl H.out.1 (za9 G.2 (Qc _) .zero));have ⟨z0,z1,z2,z3⟩:=G.1.cells;have y0:=G.1.free 0;have y1:=G.1.free 1;have y2:=G.1.free 2;have y3:=G.1.free 3;clear F G H c0 c1 c2 c3;go_wp2_with fail;have ⟨P,U,X,V⟩:=HZ.out.cells;unfold zcv Set4.zero at P U X V;exact Qi (v:=.tuple #[setA .zero,.bool false]) (by simp[results,results289,go_sem,P,U,X,V,setA,Set4.zero]) rfl (by rw[HD.out];exact⟨rfl,HE.out⟩)
 ·subst q0
  have hB:=hw (by omega)
  by_cases hk:r.pos+1=s.size
  ·have d1:(((r.pos+1:Nat):Int)==(s.size:Int))=true:=by rw[Zo];omega
   have HD:Hid (R=(none,r)):=by unfold Hid;rw[h4.out,Qg rfl,List.getElem?_eq_none (by omega)]
   clear h4 hk
   go_quiet ((go_at_call 218;exact Calls.quiet_of (HN.out _)))
   obtain⟨i,F⟩:∃i,W0.drewN nq=i:=⟨_,rfl⟩
   have G:FourW i w.heap.size .zero/\w i:=by rw[<-F];exact⟨H.out.2.2.1,below_drewN H.out.2.2.2 nq⟩
   rw[F];have HZ:=hIx (zbt G.1 .zero);have HE:=hIx (zfl H.out.1 (za9 G.2 (Qc _) .zero));have ⟨z0,z1,z2,z3⟩:=G.1.cells;have y0:=G.1.free 0;have y1:=G.1.free 1;have y2:=G.1.free 2;have y3:=G.1.free 3;clear F G H c0 c1 c2 c3;go_wp2_with fail;have ⟨P,U,X,V⟩:=HZ.out.cells;unfold zcv Set4.zero at P U X V;exact Qi (v:=.tuple #[setA .zero,.bool false]) (by simp[results,results289,go_sem,P,U,X,V,setA,Set4.zero]) rfl (by rw[HD.out];exact⟨rfl,HE.out⟩)
  ·have hA:r.pos+1<s.size:=by omega
   have d1:(((r.pos+1:Nat):Int)==(s.size:Int))=false:=by rw[Qb];omega
   have J:Hid (R=match zmP s[r.pos+1]with
    |none=>(none,r)
    |some f=>(some f,{r with pos:=r.pos+2})):=by unfold Hid;rw[h4.out,Qg rfl,Xt s (r.pos+1) hA]
   clear h4 hk
   go_quiet ((go_at_call 218;exact Calls.quiet_of (HN.out _)))
   obtain⟨i,F⟩:∃i,W0.drewN nq=i:=⟨_,rfl⟩
   have G:FourW i w.heap.size .zero/\w i/\RdAt g s r i/\w.heap.size<i.heap.size:=by
    have hz:w.heap.size<W0.heap.size:=by rw[<-hv.out];simp
    rw[<-F];exact⟨H.out.2.2.1,below_drewN H.out.2.2.2 nq,H.out.2.1.drew nq,hz⟩
   rw[F];obtain⟨hy,hx,hm,L⟩:=G;have ⟨c0,c1,c2,c3⟩:=hm.cells;clear F HN;generalize hb:s[r.pos+1]=b at *;obtain⟨W1,hh⟩:∃W1,i.alloc (.cells #[jB 0,jB 0,jB 0,jB 0] 182)=W1:=⟨_,rfl⟩
   have hg:i W1:=by rw[<-hh];exact WaL
   have Z:FourW W1 i.heap.size .zero:=by rw[<-hh];have:=FourW.new i;rw[zij]at this;exact this
   have y:FourW W1 w.heap.size .zero:=hy.below hg L;have O:RdAt g s r W1:=hm.below hg;have hu:=hIx hh;clear hh;go_upto_region 4 with fail
   rw[hu.out];have hE:((r.pos+1:Nat):Int).toNat=r.pos+1:=by omega
   have ⟨c0,c1,c2,c3⟩:=O.cells
   go_quiet (fail)
   obtain⟨wr,ht⟩:∃wr,W1.drewN nq=wr:=⟨_,rfl⟩
   have hr:FourW wr i.heap.size .zero/\FourW wr w.heap.size .zero/\RdAt g s r wr/\w wr/\i.heap.size<wr.heap.size:=by
    have hz:i.heap.size<W1.heap.size:=by rw[<-hu.out];simp
    rw[<-ht];exact⟨Z,y,O.drew nq,below_drewN (hx.trans (hg.mono (QX L))) nq,hz⟩
   rw[ht];clear ht hu hg Z y O hy hx hm c0 c1 c2 c3 hv;obtain⟨Z,y,O,h5,h3⟩:=hr;have hn:=h5.size;have u:=Qj wr.heap.size wr;have H1:Hid (∀W,Calls prog 148 #[jA 48,jA 57] W (zb0 (setF (rgF 48 57)) W)):=λW=>zcs 48 57 (by decide) (by decide) W
   have H2:Hid (∀W,Calls prog 148 #[jA 97,jA 122] W (zb0 (setF (rgF 97 122)) W)):=λW=>zcs 97 122 (by decide) (by decide) W
   have H3:Hid (∀W,Calls prog 148 #[jA 65,jA 90] W (zb0 (setF (rgF 65 90)) W)):=λW=>zcs 65 90 (by decide) (by decide) W
   have H4:Hid (∀W,Calls prog 148 #[jA 95,jA 95] W (zb0 (setF (rgF 95 95)) W)):=λW=>zcs 95 95 (by decide) (by decide) W
   have H5:Hid (∀W,Calls prog 148 #[jA 9,jA 13] W (zb0 (setF (rgF 9 13)) W)):=λW=>zcs 9 13 (by decide) (by decide) W
   have H6:Hid (∀W,Calls prog 148 #[jA 32,jA 32] W (zb0 (setF (rgF 32 32)) W)):=λW=>zcs 32 32 (by decide) (by decide) W
   by_cases b1:b=100
   ·subst b1
    have q1:(((100:UInt8).toNat:Int)==100)=true:=rfl;go_wp2_with (go_at_call 148;apply Hid.out);unfold Hid;refine(H1.out wr).mono ?_;rintro e wa ⟨rfl,p⟩;have l:=u.trans (p.mono u.size);clear p;have o:FourW wa i.heap.size .zero:=(l.block _ h3).trans Z;have I:FourW wa w.heap.size .zero:=(l.block _ (ZC L h3)).trans y;have hf:RdAt g s r wa:=O.below l;have ⟨x0,x1,x2,x3⟩:=o.cells;have v0:=o.free 0;have v1:=o.free 1;have v2:=o.free 2;have v3:=o.free 3;obtain⟨S,hS⟩:∃S,setF (rgF 48 57)=S:=⟨_,rfl⟩
    have HS:=hIx hS;have HD:Hid (R=(some (rgF 48 57),{r with pos:=r.pos+2})):=by unfold Hid;rw[J.out];rfl
    rw[show setA (setF (rgF 48 57))=setA S from by rw[hS]];unfold setA;have Y:=h5.trans (l.mono hn);have Q:FourW (zcv wa i.heap.size S) i.heap.size S:=zbt o S;have T:FourW (zcv wa i.heap.size S) w.heap.size .zero:=(((I.far (by omega) 0 _).far (by omega) 1 _).far (by omega) 2 _).far (by omega) 3 _;have K:w (zcv wa i.heap.size S):=za9 Y (QX L) S;clear hS o I hf Y J l;go_upto_region 12 with fail
    rw[show (((wa.setCell ⟨i.heap.size,0,none⟩ (jB S.a)).setCell ⟨i.heap.size,1,none⟩ (jB S.b)).setCell ⟨i.heap.size,2,none⟩ (jB S.c)).setCell ⟨i.heap.size,3,none⟩ (jB S.d)=zcv wa i.heap.size S from rfl];generalize zcv wa i.heap.size S=X1 at *;have q:=zfl H.out.1 K;have ⟨c0,c1,c2,c3⟩:=q.1.cells;have f1:=q.1.free 1;have B:RdEnd g s {r with pos:=r.pos+2} w (X1.setCell ⟨g,1,none⟩ (jA ((r.pos+2:Nat):Int))):=⟨q.1.setPos _,zak q.2 1 _⟩
    have A:=Q.far (k:=g) (by have:=H.out.1.lt;omega) 1 (jA ((r.pos+2:Nat):Int));have j:=T.far (k:=g) (by have:=H.out.1.lt;omega) 1 (jA ((r.pos+2:Nat):Int));have i2:IntKind.i64.wrap ((r.pos:Int)+2)=(r.pos:Int)+2:=Qx _ (by omega);have e2:((r.pos+2:Nat):Int)=(r.pos:Int)+2:=by omega
    rw[e2]at B A j;clear e2;clear Q T K q x0 x1 x2 x3 v0 v1 v2 v3;go_upto_region 13 with fail
    generalize X1.setCell ⟨g,1,none⟩ (jA ((r.pos:Int)+2))=X2 at *;have ⟨x0,x1,x2,x3⟩:=A.cells;have ⟨z0,z1,z2,z3⟩:=j.cells;have y0:=j.free 0;have y1:=j.free 1;have y2:=j.free 2;have y3:=j.free 3;have HZ:=hIx (zbt j S);have HE:=hIx (RdEnd.low H.out.1.lt B (za9 (Qj _ X2) (Qc _) S));clear A j B c0 c1 c2 c3 f1;go_wp2_with fail;have ⟨P,U,X,V⟩:=HZ.out.cells;unfold zcv at P U X V;exact Qi (v:=.tuple #[setA S,.bool true]) (by simp[results,results289,go_sem,P,U,X,V,setA]) rfl (by rw[HD.out];exact⟨by show _=jC (.tuple #[setA (setF (rgF 48 57)),.bool true]);rw[HS.out],HE.out⟩)
   by_cases b2:b=119
   ·subst b2
    have q0:(((119:UInt8).toNat:Int)==100)=false:=rfl;have q1:(((119:UInt8).toNat:Int)==119)=true:=rfl;go_wp2_with (go_at_call 148;apply Hid.out);unfold Hid;refine(H2.out wr).mono ?_;rintro e wa ⟨rfl,p⟩;have l:=u.trans (p.mono u.size);clear p;go_wp2_with (go_at_call 148;apply Hid.out);unfold Hid;refine(H3.out wa).mono ?_;rintro e wb ⟨rfl,z⟩;have C:=l.trans (z.mono l.size);clear z;go_wp2_with (go_at_call 306;apply Hid.out);unfold Hid;refine(zej (rgF 97 122) (rgF 65 90) wb).mono ?_;rintro e wc ⟨rfl,E⟩;have t:=C.trans (E.mono C.size);clear E;go_wp2_with (go_at_call 148;apply Hid.out);unfold Hid;refine(H1.out wc).mono ?_;rintro e wd ⟨rfl,h7⟩;have h8:=t.trans (h7.mono t.size);clear h7;go_wp2_with (go_at_call 148;apply Hid.out);unfold Hid;refine(H4.out wd).mono ?_;rintro e we ⟨rfl,ha⟩;have he:=h8.trans (ha.mono h8.size);clear ha;go_wp2_with (go_at_call 306;apply Hid.out);unfold Hid;refine(zej (rgF 48 57) (rgF 95 95) we).mono ?_;rintro e wf ⟨rfl,h9⟩;have hd:=he.trans (h9.mono he.size);clear h9;go_wp2_with (go_at_call 306;apply Hid.out);unfold Hid;refine(zej (λx=>rgF 97 122 x||rgF 65 90 x) (λx=>rgF 48 57 x||rgF 95 95 x) wf).mono ?_;rintro e wg ⟨rfl,h6⟩;have D:=hd.trans (h6.mono hd.size);clear h6
    have o:FourW wg i.heap.size .zero:=(D.block _ h3).trans Z;have I:FourW wg w.heap.size .zero:=(D.block _ (ZC L h3)).trans y;have hf:RdAt g s r wg:=O.below D;have ⟨x0,x1,x2,x3⟩:=o.cells;have v0:=o.free 0;have v1:=o.free 1;have v2:=o.free 2;have v3:=o.free 3;obtain⟨S,hS⟩:∃S,setF (zwb)=S:=⟨_,rfl⟩
    have HS:=hIx hS;have HD:Hid (R=(some (zwb),{r with pos:=r.pos+2})):=by unfold Hid;rw[J.out];rfl
    rw[show setA (setF (λx=>(rgF 97 122 x||rgF 65 90 x)||(rgF 48 57 x||rgF 95 95 x)))=setA S from by rw[<-hS];rfl];unfold setA;have Y:=h5.trans (D.mono hn);have Q:FourW (zcv wg i.heap.size S) i.heap.size S:=zbt o S;have T:FourW (zcv wg i.heap.size S) w.heap.size .zero:=(((I.far (by omega) 0 _).far (by omega) 1 _).far (by omega) 2 _).far (by omega) 3 _;have K:w (zcv wg i.heap.size S):=za9 Y (QX L) S;clear hS o I hf Y J D;go_upto_region 12 with fail
    rw[show (((wg.setCell i.heap.size (jB S.a)).setCell ⟨i.heap.size,1,none⟩ (jB S.b)).setCell ⟨i.heap.size,2,none⟩ (jB S.c)).setCell ⟨i.heap.size,3,none⟩ (jB S.d)=zcv wg i.heap.size S from rfl];generalize zcv wg i.heap.size S=X1 at *;have q:=zfl H.out.1 K;have ⟨c0,c1,c2,c3⟩:=q.1.cells;have f1:=q.1.free 1;have B:RdEnd g s {r with pos:=r.pos+2} w (X1.setCell ⟨g,1,none⟩ (jA ((r.pos+2:Nat):Int))):=⟨q.1.setPos _,zak q.2 1 _⟩
    have A:=Q.far (k:=g) (by have:=H.out.1.lt;omega) 1 (jA ((r.pos+2:Nat):Int));have j:=T.far (k:=g) (by have:=H.out.1.lt;omega) 1 (jA ((r.pos+2:Nat):Int));have i2:IntKind.i64.wrap ((r.pos:Int)+2)=(r.pos:Int)+2:=Qx _ (by omega);have e2:((r.pos+2:Nat):Int)=(r.pos:Int)+2:=by omega
    rw[e2]at B A j;clear e2;clear Q T K q x0 x1 x2 x3 v0 v1 v2 v3;go_upto_region 13 with fail
    generalize X1.setCell ⟨g,1,none⟩ (jA ((r.pos:Int)+2))=X2 at *;have ⟨x0,x1,x2,x3⟩:=A.cells;have ⟨z0,z1,z2,z3⟩:=j.cells;have y0:=j.free 0;have y1:=j.free 1;have y2:=j.free 2;have y3:=j.free 3;have HZ:=hIx (zbt j S);have HE:=hIx (RdEnd.low H.out.1.lt B (za9 (Qj _ X2) (Qc _) S));clear A j B c0 c1 c2 c3 f1;go_wp2_with fail;have ⟨P,U,X,V⟩:=HZ.out.cells;unfold zcv at P U X V;exact Qi (v:=.tuple #[setA S,.bool true]) (by simp[results,results289,go_sem,P,U,X,V,setA]) rfl (by rw[HD.out];exact⟨by show _=jC (.tuple #[setA (setF (zwb)),.bool true]);rw[HS.out],HE.out⟩)
   by_cases b3:b=115
   ·subst b3
    have q0:(((115:UInt8).toNat:Int)==100)=false:=rfl;have q1:(((115:UInt8).toNat:Int)==119)=false:=rfl;have q2:(((115:UInt8).toNat:Int)==115)=true:=rfl;go_wp2_with (go_at_call 148;apply Hid.out);unfold Hid;refine(H5.out wr).mono ?_;rintro e wa ⟨rfl,p⟩;have l:=u.trans (p.mono u.size);clear p;go_wp2_with (go_at_call 148;apply Hid.out);unfold Hid;refine(H6.out wa).mono ?_;rintro e wb ⟨rfl,z⟩;have C:=l.trans (z.mono l.size);clear z;go_wp2_with (go_at_call 306;apply Hid.out);unfold Hid;refine(zej (rgF 9 13) (rgF 32 32) wb).mono ?_;rintro e wc ⟨rfl,E⟩;have t:=C.trans (E.mono C.size);clear E;have o:FourW wc i.heap.size .zero:=(t.block _ h3).trans Z;have I:FourW wc w.heap.size .zero:=(t.block _ (ZC L h3)).trans y;have hf:RdAt g s r wc:=O.below t;have ⟨x0,x1,x2,x3⟩:=o.cells;have v0:=o.free 0;have v1:=o.free 1;have v2:=o.free 2;have v3:=o.free 3;obtain⟨S,hS⟩:∃S,setF (spcF)=S:=⟨_,rfl⟩
    have HS:=hIx hS;have HD:Hid (R=(some (spcF),{r with pos:=r.pos+2})):=by unfold Hid;rw[J.out];rfl
    rw[show setA (setF (λx=>rgF 9 13 x||rgF 32 32 x))=setA S from by rw[<-hS];rfl];unfold setA;have Y:=h5.trans (t.mono hn);have Q:FourW (zcv wc i.heap.size S) i.heap.size S:=zbt o S;have T:FourW (zcv wc i.heap.size S) w.heap.size .zero:=(((I.far (by omega) 0 _).far (by omega) 1 _).far (by omega) 2 _).far (by omega) 3 _;have K:w (zcv wc i.heap.size S):=za9 Y (QX L) S;clear hS o I hf Y J t;go_upto_region 12 with fail
    rw[show (((wc.setCell i.heap.size (jB S.a)).setCell ⟨i.heap.size,1,none⟩ (jB S.b)).setCell ⟨i.heap.size,2,none⟩ (jB S.c)).setCell ⟨i.heap.size,3,none⟩ (jB S.d)=zcv wc i.heap.size S from rfl];generalize zcv wc i.heap.size S=X1 at *;have q:=zfl H.out.1 K;have ⟨c0,c1,c2,c3⟩:=q.1.cells;have f1:=q.1.free 1;have B:RdEnd g s {r with pos:=r.pos+2} w (X1.setCell ⟨g,1,none⟩ (jA ((r.pos+2:Nat):Int))):=⟨q.1.setPos _,zak q.2 1 _⟩
    have A:=Q.far (k:=g) (by have:=H.out.1.lt;omega) 1 (jA ((r.pos+2:Nat):Int));have j:=T.far (k:=g) (by have:=H.out.1.lt;omega) 1 (jA ((r.pos+2:Nat):Int));have i2:IntKind.i64.wrap ((r.pos:Int)+2)=(r.pos:Int)+2:=Qx _ (by omega);have e2:((r.pos+2:Nat):Int)=(r.pos:Int)+2:=by omega
    rw[e2]at B A j;clear e2;clear Q T K q x0 x1 x2 x3 v0 v1 v2 v3;go_upto_region 13 with fail
    generalize X1.setCell ⟨g,1,none⟩ (jA ((r.pos:Int)+2))=X2 at *;have ⟨x0,x1,x2,x3⟩:=A.cells;have ⟨z0,z1,z2,z3⟩:=j.cells;have y0:=j.free 0;have y1:=j.free 1;have y2:=j.free 2;have y3:=j.free 3;have HZ:=hIx (zbt j S);have HE:=hIx (RdEnd.low H.out.1.lt B (za9 (Qj _ X2) (Qc _) S));clear A j B c0 c1 c2 c3 f1;go_wp2_with fail;have ⟨P,U,X,V⟩:=HZ.out.cells;unfold zcv at P U X V;exact Qi (v:=.tuple #[setA S,.bool true]) (by simp[results,results289,go_sem,P,U,X,V,setA]) rfl (by rw[HD.out];exact⟨by show _=jC (.tuple #[setA (setF (spcF)),.bool true]);rw[HS.out],HE.out⟩)
   have hj:∀c:UInt8,b≠c->((b.toNat:Int)==(c.toNat:Int))=false:=λc hc=>Qb.2 λe=>hc (Zs.1 (by omega))
   have q0:((b.toNat:Int)==100)=false:=hj 100 b1;have q1:((b.toNat:Int)==119)=false:=hj 119 b2;have q2:((b.toNat:Int)==115)=false:=hj 115 b3;have HD:Hid (R=(none,r)):=by unfold Hid;rw[J.out];unfold zmP;rw[Qe b1,Qe b2,Qe b3]
   have HZ:=hIx (zbt y .zero);have HE:=hIx (zfl H.out.1 (za9 h5 (Qc _) .zero));have ⟨z0,z1,z2,z3⟩:=y.cells;have y0:=y.free 0;have y1:=y.free 1;have y2:=y.free 2;have y3:=y.free 3;clear H H1 H2 H3 H4 H5 H6 J hj b1 b2 b3 Z y O h5 u;go_wp2_with fail;have ⟨P,U,X,V⟩:=HZ.out.cells;unfold zcv Set4.zero at P U X V;exact Qi (v:=.tuple #[setA .zero,.bool false]) (by simp[results,results289,go_sem,P,U,X,V,setA,Set4.zero]) rfl (by rw[HD.out];exact⟨rfl,HE.out⟩)
theorem zcg(r:RS)(x:Int)(a:x≠0):(zaF r x).pos=r.pos/\(zaF r x).op=r.op/\(zaF r x).e≠0:=by
 unfold zaF
 by_cases h:r.e=0
 ·rw[Qg h];exact⟨rfl,rfl,a⟩
 ·rw[Qe h];exact⟨rfl,rfl,h⟩
structure Step(s:jE)(r r':RS):Prop where
 inn:r'.pos<=s.length
 le:r.pos<=r'.pos
 op:r'.op=r.op
 keep:r.e≠0->r'.e≠0
theorem Step.refl{s:jE}{r:RS}(h:r.pos<=s.length):Step s r r:=⟨h,Qc _,rfl,id⟩
theorem Step.trans{s:jE}{a b c:RS}(h:Step s a b)(k:Step s b c):Step s a c:=⟨k.inn,Ql h.le k.le,k.op.trans h.op,λe=>k.keep (h.keep e)⟩
theorem zdu{s:jE}{r:RS}(h:r.pos<=s.length)(x:Int)(b:x≠0):Step s r (zaF r x):=by
 obtain⟨h1,h2,a⟩:=zcg r x b;exact⟨by omega,by omega,h2,λ_=>a⟩
theorem zeV{s:jE}{r:RS}(h:r.pos<s.length):Step s r {r with pos:=r.pos+1}:=⟨h,Zc _,rfl,id⟩
theorem zdr{s:jE}{r:RS}(h:r.pos<=s.length){b:Int}(hb:0<=b):Step s r (zaL s r b).2/\((zaL s r b).1=true->r.pos<(zaL s r b).2.pos/\r.e=0):=by
 unfold zaL
 by_cases a:zad s r=b
 ·rw[Qg a]
  have:=zaO a hb;exact⟨zeV this.1,λ_=>⟨ZB _,this.2⟩⟩
 ·rw[Qe a]
  exact⟨Step.refl h,λh=>by cases h⟩
theorem znn{l:jE}{b:UInt8}:Lib.indexByte l b<0\/Lib.indexByte l b<l.length:=by
 rcases Int.lt_or_le (Lib.indexByte l b) 0 with h|h
 ·exact .inl h
 ·obtain⟨o,a⟩:∃o:Nat,Lib.indexByte l b=o:=⟨(Lib.indexByte l b).toNat,by omega⟩
  have:=(Qw.1 (Lib.indexByte_some a).1).1;exact .inr (by omega)
theorem zjT{s:jE}{r:RS}(h:r.pos<=s.length):Step s r (zaM s r).2/\0<=(zaM s r).1/\(zaM s r).1<=15:=by
 unfold zaM
 by_cases h1:zad s r<0
 ·rw[Qg h1]
  exact⟨zdu h 3 (by decide),ZD _,by show (0:Int)<=15;decide⟩
 rw[Qe h1]
 by_cases h2:Lib.indexByte hexL (zad s r).toNat.toUInt8<0
 ·rw[Qg h2]
  exact⟨zdu h 3 (by decide),ZD _,by show (0:Int)<=15;decide⟩
 rw[Qe h2];refine⟨zeV (zaO rfl (by omega)).1,by show 0<=Lib.indexByte hexL _;omega,?_⟩
 rcases znn (l:=hexL) (b:=(zad s r).toNat.toUInt8)with a|a
 ·exact absurd a h2
 ·have e:((hexL.length:Nat):Int)=16:=rfl
  rw[e]at a;show Lib.indexByte hexL _<=15
  omega
theorem zdt{s:jE}{r:RS}(h:r.pos<=s.length):Step s r (zbo s r).2/\(r.pos<(zbo s r).2.pos\/(zbo s r).2.e≠0)/\0<=(zbo s r).1/\(zbo s r).1<=255:=by
 have p:∀q:RS,q.pos<=s.length->Step s q (zaF q 3)/\(zaF q 3).e≠0:=λq j=>⟨zdu j 3 (by decide),(zcg q 3 (by decide)).2.2⟩
 have z:(0:Int)<=255:=by decide
 unfold zbo
 by_cases i:zad s r=92
 ·rw[Qg i]
  have g:=(zaO i (by decide)).1;have d:=zeV g;generalize j:({r with pos:=r.pos+1}:RS)=q at *;have A:q.pos=r.pos+1:=by rw[<-j]
  have f:q.pos<=s.length:=d.inn
  have c:∀v:Int,0<=zad s q->0<=v->v<=255->Step s r {q with pos:=q.pos+1}/\(r.pos<({q with pos:=q.pos+1}:RS).pos\/({q with pos:=q.pos+1}:RS).e≠0)/\0<=v/\v<=255:=λv x h1 h2=>
   ⟨d.trans (zeV (zaO rfl x).1),.inl (by show r.pos<q.pos+1;omega),h1,h2⟩
  unfold escR
  by_cases h1:zad s q=110
  ·rw[Qg h1];exact c 10 (by omega) (by decide) (by decide)
  rw[Qe h1]
  by_cases h2:zad s q=116
  ·rw[Qg h2];exact c 9 (by omega) (by decide) (by decide)
  rw[Qe h2]
  by_cases b:zad s q=114
  ·rw[Qg b];exact c 13 (by omega) (by decide) (by decide)
  rw[Qe b]
  by_cases k:zad s q=120
  ·rw[Qg k]
   have n:=zeV (zaO k (by decide)).1;obtain⟨l,D,E⟩:=zjT n.inn;obtain⟨m,B,C⟩:=zjT l.inn;have u:=l.le;have w:=m.le;have y:r.pos<({q with pos:=q.pos+1}:RS).pos:=by show r.pos<q.pos+1;omega
   exact⟨d.trans (n.trans (l.trans m)),.inl (Qv y (Ql u w)),by dsimp only;omega,by dsimp only;omega⟩
  rw[Qe k];have fl:=p q f;have a:Step s r (zaF q 3)/\(r.pos<(zaF q 3).pos\/(zaF q 3).e≠0)/\(0:Int)<=0/\(0:Int)<=255:=⟨d.trans fl.1,.inr fl.2,ZD _,z⟩
  by_cases o:zad s q<0
  ·rw[Qg o];exact a
  rw[Qe o]
  by_cases t:zfE (zad s q)=true
  ·rw[Qg t];exact c _ (by omega) (by omega) (zdo (s:=s) (r:=q)).2
  ·rw[Qe t];exact a
 ·rw[Qe i]
  have fl:=p r h;have a:Step s r (zaF r 3)/\(r.pos<(zaF r 3).pos\/(zaF r 3).e≠0)/\(0:Int)<=0/\(0:Int)<=255:=⟨fl.1,.inr fl.2,ZD _,z⟩
  unfold zwK
  by_cases h1:zad s r<33
  ·rw[Qg h1];exact a
  rw[Qe h1]
  by_cases h2:126<zad s r
  ·rw[Qg h2];exact a
  rw[Qe h2]
  by_cases b:zfE (zad s r)=true
  ·rw[Qg b];exact a
  rw[Qe b];exact⟨zeV (zaO rfl (by omega)).1,.inl (ZB _),by dsimp only;omega,by dsimp only;omega⟩
theorem zey{s:jE}{r:RS}(h:r.pos<=s.length):Step s r (zbp s r).2/\((zbp s r).1=none->(zbp s r).2=r)/\∀f,(zbp s r).1=some f->r.pos<(zbp s r).2.pos/\r.e=0:=by
 have c:Step s r ((none,r):Option (Nat->Bool) × RS).2/\(((none,r):Option (Nat->Bool) × RS).1=none->((none,r):Option (Nat->Bool) × RS).2=r)/\∀f,((none,r):Option (Nat->Bool) × RS).1=some f->r.pos<((none,r):Option (Nat->Bool) × RS).2.pos/\r.e=0:=
  ⟨Step.refl h,λ_=>rfl,λf d=>by cases d⟩
 unfold zbp
 by_cases a:zad s r=92
 ·rw[Qg a]
  have h1:=zaO a (by decide);cases g:s[r.pos+1]? with
  |none=>exact c
  |some b=>
   dsimp only;have h2:=(Qw.1 g).1;cases zmP b with
   |none=>exact c
   |some f=>
    dsimp only;exact⟨⟨h2,by show r.pos<=r.pos+2;omega,rfl,λe=>e⟩,λe=>absurd e (by simp),λ_ _=>⟨by show r.pos<r.pos+2;omega,h1.2⟩⟩
 ·rw[Qe a];exact c
def zzH(a:Nat)(w:World)(b:Value)(wr:World):Prop:=
 b=jA a/\FourW wr (w.heap.size+1) (setF λ_=>false)/\FourW wr w.heap.size (setF λ_=>false)/\w wr
theorem zs8(f i:Nat)(h1:i<f)(w:World):
 Calls prog 148 #[jA f,jA i] w (zb0 (setF λ_=>false) w):=by
 have l:∀W,W=(w.alloc (.cells #[jB 0,jB 0,jB 0,jB 0] 182)).alloc (.cells #[jB 0,jB 0,jB 0,jB 0] 182)->FourW W (w.heap.size+1) (setF λ_=>false)/\FourW W w.heap.size (setF λ_=>false)/\w W:=λW g=>by
  have hb:w W:=by rw[g];exact WaL.alloc (by simp) _
  refine⟨?_,?_,hb⟩
  ·have:=FourW.new (w.alloc (.cells #[jB 0,jB 0,jB 0,jB 0] 182))
   rw[Qp]at this;rw[g];exact this
  ·rw[g]
   exact(Qr _ _ _ (by simp)).trans (FourW.new w)
 have n:=hIx l;clear l
 go_in
 go_wp2
 go_loopw [6] (λb wr=>zzH f w b wr) (λb _=>256-(intOf b).toNat)
 case atStart=>exact⟨rfl,n.out _ rfl⟩
 case round=>
  obtain⟨rfl,m,e,hb⟩:=hrel;have A:decide ((f:Int)<=(i:Int))=false:=by simp;omega
  obtain⟨S,k⟩:∃S,S=setF λ_=>false:=⟨_,rfl⟩
  rw[<-k]at m e;have s:=hIx k;clear k;have ⟨c0,c1,c2,c3⟩:=m.cells;have ⟨D,z,x,C⟩:=e.cells;have E:=e.free 0;have u:=e.free 1;have F:=e.free 2;have y:=e.free 3;go_wp2_with fail;have j:=e.fill S;have h:=(((hb.setCell (p:=⟨w.heap.size,0,none⟩) (Qc _) (jB S.a)).setCell (p:=⟨w.heap.size,1,none⟩) (Qc _) (jB S.b)).setCell (p:=⟨w.heap.size,2,none⟩) (Qc _) (jB S.c)).setCell (p:=⟨w.heap.size,3,none⟩) (Qc _) (jB S.d);generalize ((((wr.setCell w.heap.size (jB S.a)).setCell ⟨w.heap.size,1,none⟩ (jB S.b)).setCell ⟨w.heap.size,2,none⟩ (jB S.c)).setCell ⟨w.heap.size,3,none⟩ (jB S.d))=B at *;obtain⟨q,r,o,t⟩:=j.cells;exact Qi (v:=setA S) (by simp[results,results148,go_sem,q,r,o,t,setA]) rfl ⟨by rw[s.out],h⟩
theorem zhR(b a:Nat)(h2:a<256)(w:World):
 Calls prog 148 #[jA b,jA a] w (zb0 (setF (rgF b a)) w):=by
 rcases ZI a b with h|h
 ·have e:setF (rgF b a)=setF λ_=>false:=zbW λx _=>by
   unfold rgF
   by_cases e:b<=x
   ·have:¬x<=a:=by omega
    simp[this]
   ·simp[e]
  rw[e];exact zs8 b a h w
 ·exact zcs b a h h2 w
def zbL(s:jE)(r:RS):(Nat->Bool) × RS:=
 match (zbp s r).1 with
 |some f=>(f,(zbp s r).2)
 |none=>
  if (zaL s (zbo s r).2 45).1=true then
   (rgF (zbo s r).1.toNat (zbo s (zaL s (zbo s r).2 45).2).1.toNat,
    if (zbo s (zaL s (zbo s r).2 45).2).1<(zbo s r).1/\(zbo s (zaL s (zbo s r).2 45).2).2.e=0 then zaF {(zbo s (zaL s (zbo s r).2 45).2).2 with pos:=(zaL s (zbo s r).2 45).2.pos} 3
    else (zbo s (zaL s (zbo s r).2 45).2).2)
  else (rgF (zbo s r).1.toNat (zbo s r).1.toNat,(zaL s (zbo s r).2 45).2)
theorem zcK{s:jE}{r:RS}(h:r.pos<=s.length):Step s r (zbL s r).2/\(r.pos<(zbL s r).2.pos\/(zbL s r).2.e≠0):=by
 obtain⟨p,v,t⟩:=zey h;obtain⟨c1,c2,_⟩:=zdt h;obtain⟨a,m⟩:=zdr c1.inn (b:=45) (by decide);obtain⟨i,u,_⟩:=zdt a.inn;unfold zbL;cases n:(zbp s r).1 with
 |some f=>exact⟨p,.inl (t f n).1⟩
 |none=>
  dsimp only;generalize zbo s r=C at *;generalize zaL s C.2 45=T at *;generalize zbo s T.2=D at *;have d:=c1.trans a;have x:=c1.le;have y:=a.le;have w:=i.le
  by_cases g:T.1=true
  ·rw[Qg g]
   have h2:=m g
   by_cases hb:D.1<C.1/\D.2.e=0
   ·rw[Qg hb]
    obtain⟨o,q,l⟩:=zcg {D.2 with pos:=T.2.pos} 3 (by decide);have c:(zaF {D.2 with pos:=T.2.pos} 3).pos=T.2.pos:=o;have j:(zaF {D.2 with pos:=T.2.pos} 3).op=D.2.op:=q;exact⟨⟨by show (zaF {D.2 with pos:=T.2.pos} 3).pos<=_;rw[c];exact a.inn,by show _<=(zaF {D.2 with pos:=T.2.pos} 3).pos;rw[c];exact d.le,by show (zaF {D.2 with pos:=T.2.pos} 3).op=_;rw[j];exact i.op.trans d.op,λ_=>l⟩,.inr l⟩
   ·rw[Qe hb]
    exact⟨d.trans i,.inl (by show r.pos<D.2.pos;have:=h2.1;omega)⟩
  ·rw[Qe g]
   refine⟨d,?_⟩
   rcases c2 with k|k
   ·exact .inl (by show r.pos<T.2.pos;omega)
   ·exact .inr (a.keep k)
def zgU:Nat->jE->RS->Bool->(Nat->Bool)->(Nat->Bool) × RS
 |0,_,r,_,F=>(F,r)
 |f+1,s,r,first,F=>if r.e=0/\(first=true\/zad s r≠93)then zgU f s (zbL s r).2 false (λx=>F x||(zbL s r).1 x)else (F,r)
def zbR(s:jE)(r:RS):Nat:=if r.e=0 then s.length-r.pos+1 else 0
theorem zfr{s:jE}{r:RS}(h:r.pos<=s.length)(b:r.e=0):zbR s (zbL s r).2<zbR s r:=by
 obtain⟨h1,h2⟩:=zcK h;unfold zbR;rw[Qg b];have:=h1.inn
 by_cases a:(zbL s r).2.e=0
 ·rw[Qg a]
  rcases h2 with h2|h2
  ·omega
  ·exact absurd a h2
 ·rw[Qe a];omega
theorem zjN{s:jE}:∀(f g:Nat) (r:RS) (first:Bool) (F:Nat->Bool),r.pos<=s.length->zbR s r<=f->zbR s r<=g->zgU f s r first F=zgU g s r first F
 |0,0,_,_,_,_,_,_=>rfl
 |0,g+1,r,first,F,_,h1,_=>by
  have:r.e≠0:=λe=>by unfold zbR at h1;rw[Qg e]at h1;omega
  rw[zgU,zgU,Qe (λh=>this h.1)]
 |f+1,0,r,first,F,_,_,h2=>by
  have:r.e≠0:=λe=>by unfold zbR at h2;rw[Qg e]at h2;omega
  rw[zgU,zgU,Qe (λh=>this h.1)]
 |f+1,g+1,r,first,F,b,h1,h2=>by
  rw[zgU,zgU]
  by_cases a:r.e=0/\(first=true\/zad s r≠93)
  ·rw[Qg a,Qg a]
   have:=zfr b a.1;exact zjN f g _ _ _ (zcK b).1.inn (by omega) (by omega)
  ·rw[Qe a,Qe a]
def zeQ(s:jE)(r:RS)(first:Bool)(F:Nat->Bool):(Nat->Bool) × RS:=zgU (zbR s r) s r first F
theorem ztm{s:jE}{r:RS}{first:Bool}{F:Nat->Bool}(b:r.pos<=s.length):
 zeQ s r first F=if r.e=0/\(first=true\/zad s r≠93)then zeQ s (zbL s r).2 false (λx=>F x||(zbL s r).1 x)else (F,r):=by
 unfold zeQ
 by_cases a:r.e=0/\(first=true\/zad s r≠93)
 ·rw[Qg a]
  have h1:=zfr b a.1;obtain⟨k,c⟩:∃k,zbR s r=k+1:=⟨zbR s r-1,by omega⟩
  rw[c,zgU,Qg a];exact zjN _ _ _ _ _ (zcK b).1.inn (by omega) (Qc _)
 ·rw[Qe a]
  cases zbR s r with
  |zero=>rfl
  |succ k=>rw[zgU,Qe a]
theorem zim{s:jE}:∀(n:Nat) (r:RS) (first:Bool) (F:Nat->Bool),zbR s r<=n->r.pos<=s.length->Step s r (zeQ s r first F).2
 |n,r,first,F,b,a=>by
  rw[ztm a]
  by_cases c:r.e=0/\(first=true\/zad s r≠93)
  ·rw[Qg c]
   have h1:=zfr a c.1
   match n,b with
   |0,b=>exact absurd b (by omega)
   |n+1,b=>exact(zcK a).1.trans (zim n _ _ _ (by omega) (zcK a).1.inn)
  ·rw[Qe c];exact Step.refl a
def zhc(s:jE)(r:RS):Nat->Bool:=λx=>if (zaL s r 94).1=true then !(zeQ s (zaL s r 94).2 true λ_=>false).1 x else (zeQ s (zaL s r 94).2 true λ_=>false).1 x
def zj9(s:jE)(r:RS):RS:=if setF (zhc s r)=.zero then zaF (zeQ s (zaL s r 94).2 true λ_=>false).2 3 else (zeQ s (zaL s r 94).2 true λ_=>false).2
def zeJ(s:jE)(r:RS):(Nat->Bool) × RS:=(zhc s r,(zaL s (zj9 s r) 93).2)
theorem zqO{s:jE}{r:RS}(h:r.pos<=s.length):Step s r (zeJ s r).2:=by
 have h1:=(zdr h (b:=94) (by decide)).1;have h2:=h1.trans (zim _ (zaL s r 94).2 true (λ_=>false) (Qc _) h1.inn)
 have a:Step s r (zj9 s r):=by
  unfold zj9
  by_cases c:setF (zhc s r)=.zero
  ·rw[Qg c];exact h2.trans (zdu h2.inn 3 (by decide))
  ·rw[Qe c];exact h2
 exact a.trans (zdr a.inn (by decide)).1
section
open Go.ChangeShapes Go.WideShapes Go.Deep
theorem zgo{w w':World}{g b off:Nat}(c:w.grownBy w' (some g))(hb:b<w.heap.size)(a:b≠g):w'.cell? ⟨b,off,none⟩=w.cell? ⟨b,off,none⟩:=by
 have:=c.block b hb (λe=>a (QD e));simp only[World.cell?, this]
end
theorem zbE:Set4.zero.Wf:=⟨⟨by decide,by decide⟩,⟨by decide,by decide⟩,⟨by decide,by decide⟩,⟨by decide,by decide⟩⟩
def zzV(t:Tree)(w:World)(e:Ending)(w':World):Prop:=
 ∃A c,e=jC (argX t A c)/\LT w' w'.heap.size t (zan t.kind t.set A t.kids.length c)/\w w'
theorem zpt(k:Int)(w:World):Calls prog 287 #[jA k] w (zzV (.node k .zero []) w):=by
 have a:Hid (∀o,w (w.alloc o)):=λo=>(Qj _ _).alloc (Qc _) o
 go_in
 go_wp2_with fail;refine Qi (v:=argX (.node k .zero []) none 0) (by simp[results,results287,go_sem,argX,Tree.kind,Tree.set,Tree.kids,Set4.zero]) rfl ⟨none,0,rfl,?_,a.out _⟩;rw[LT];exact⟨_,_,rfl,zbE,LK.nil _ _ _⟩
mutual
def zeF:Tree->Int->Int
 |.node _ _ a,n=>zf2 a (n+1)
def zf2:List Tree->Int->Int
 | [],n=>n
 |t::a,n=>if 80<n then n else zf2 a (zeF t n)
end
mutual
theorem zle:∀(t:Tree) (n:Int),n<=80->n<zeF t n/\zeF t n<=81
 |.node _ _ a,n,h=>by
  rw[zeF];have:=zo3 a (n+1) (by omega);exact⟨by omega,this.2⟩
theorem zo3:∀(a:List Tree) (n:Int),n<=81->n<=zf2 a n/\zf2 a n<=81
 | [],n,h=>by rw[zf2];exact⟨ZD _,h⟩
 |t::a,n,h=>by
  rw[zf2]
  by_cases h2:80<n
  ·rw[Qg h2];exact⟨ZD _,h⟩
  ·rw[Qe h2]
   have c:=zle t n (by omega);have b:=zo3 a (zeF t n) c.2;exact⟨by omega,b.2⟩
end
mutual
def FewT:Tree->Prop
 |.node _ _ a=>a.length<=2/\FewK a
def FewK:List Tree->Prop
 | []=>True
 |t::a=>FewT t/\FewK a
end
theorem FewK.at:∀{b:List Tree},FewK b->∀(i:Nat) (h:i<b.length),FewT b[i]
 | [],_,i,h=>absurd h (by simp)
 |t::b,a,0,_=>by rw[FewK]at a;exact a.1
 |t::b,a,i+1,h=>by rw[FewK]at a;exact FewK.at a.2 i (by simpa using h)
theorem zqA(a:List Tree)(j:Nat)(h:j<a.length)(m:Int):zf2 (a.drop j) m=if 80<m then m else zf2 (a.drop (j+1)) (zeF a[j] m):=by
 rw[Zb h,zf2]
def zzY(b:List Tree)(n:Int)(w:World)(c a:Value)(wr:World):Prop:=
 ∃(j:Nat) (m:Int),j<=b.length/\c=jA m/\a=jA j/\0<=m/\m<=81/\zf2 (b.drop j) m=n/\w wr
def zxk(t:Tree):Prop:=FewT t->∀(A:Option Addr) (c:Nat) (w:World) (n:Int),LT w w.heap.size t (zan t.kind t.set A t.kids.length c)->0<=n->n<=80->
 Calls prog 258 #[argX t A c,jA n] w λe w'=>e=jC (jA (zeF t n))/\w w'
theorem zt0(k:Int)(s:Set4)(a:List Tree)(ih:∀(i:Nat) (h:i<a.length),zxk a[i]):zxk (.node k s a):=by
 intro f A c w n hl h3 Z;rw[FewT]at f;have h4:=f.1;have H:=hIx f.2;clear f;have IH:=hIx ih;rw[LT]at hl;obtain⟨T,c',D,_,P⟩:=hl;have hA:T=A:=by unfold zan at D;simp only[XS,Value.slice.injEq]at D;exact D.2.2.2.2.2.1.1.symm
 subst hA;have Q:Hid (zeF (.node k s a) n=zf2 a (n+1)):=by unfold Hid;rw[zeF]
 have i0:IntKind.i64.wrap (n+1)=n+1:=Qx _ (by omega);have J:Hid (∀o,w (w.alloc o)):=λo=>(Qj _ _).alloc (Qc _) o
 have K:Hid (∀W,w W->LK W w.heap.size a T):=λW h=>P.below h
 generalize V:zf2 a (n+1)=N at *;have HN:=hIx V;unfold argX Tree.kind Tree.set Tree.kids;dsimp only;clear ih P D V
 go_in
 go_wp2
 go_loopw [1,6,12] (λv1 _ x wr=>zzY a N w v1 x wr) (λ_ _ x _=>a.length-(intOf x).toNat)
 case atStart=>exact⟨0,n+1,Qm _,rfl,rfl,by omega,by omega,HN.out,J.out _⟩
 case round=>
  obtain⟨j,m,hj,rfl,rfl,G,h6,hM,hb⟩:=hrel;have y:=hIx hb
  by_cases g:j<a.length
  ·have d1:decide ((j:Int)<(a.length:Int))=true:=Qu (by omega)
   have i7:IntKind.i64.wrap ((j:Int)+1)=(j:Int)+1:=Qx _ (by omega);have C:=hb.size;obtain⟨b,off,h5,rfl,h0,r,l⟩:=(K.out wr hb).at j g;have u:=IH.out j g (H.out.at j g);have q:=hIx (zqA a j g m);generalize a[j]=E at *;obtain⟨U,c2,z,_⟩:=l.parts;subst z;have ⟨y0,y1,y2,y3,y4,y5⟩:=(show CellsAt wr b (off+j*6) [_,_,_,_,_,_]from r).six
   by_cases d:80<m
   ·have X:decide (80<m)=true:=Qu d
    have F:Hid (N=m):=by unfold Hid;rw[<-hM,q.out,Qg d]
    have t:Hid (∀o,w (wr.alloc o)):=λo=>y.out.alloc C o
    clear hM hb r l d u;go_wp2;exact Qi (v:=jA m) (by simp[results,results258,go_sem]) rfl ⟨by rw[Q.out,F.out],t.out _⟩
   ·have X:decide (80<m)=false:=Qq d
    have L:=zle E m (by omega)
    have O:Hid (∀o,Calls prog 258 #[argX E U c2,jA m] (wr.alloc o) λe w'=>e=jC (jA (zeF E m))/\Below (wr.alloc o).heap.size (wr.alloc o) w'):=λo=>
     u U c2 (wr.alloc o) m (l.keep (by simp;omega) (λS oo hp=>((Qj wr.heap.size wr).alloc (Qc _) o).cell (p:=⟨S,oo,none⟩) (by show S<wr.heap.size;omega))) G (by omega)
    rw[q.out,Qe d]at hM;have Y:=hIx hM;generalize zeF E m=m2 at *;have t:Hid (∀o w',Below (wr.alloc o).heap.size (wr.alloc o) w'->w w'):=λo w' h=>(y.out.alloc C o).trans (h.mono (by simp;omega))
    unfold argX at O;clear hM hb r l d u q;go_wp2_with (go_at_call 258;apply Hid.out);unfold Hid;refine(O.out _).mono ?_;rintro e w2 ⟨rfl,B⟩;have I:=t.out _ _ B;clear B y0 y1 y2 y3 y4 y5;go_wp2;exact⟨⟨j+1,m2,by omega,rfl,rfl,by omega,L.2,Y.out,I⟩,by dsimp only[intOf];omega⟩
  ·obtain rfl:j=a.length:=by omega
   have d1:decide ((a.length:Int)<(a.length:Int))=false:=by simp
   have F:Hid (N=m):=by unfold Hid;rw[<-hM,List.drop_length,zf2]
   clear hM hb;go_wp2;exact Qi (v:=jA m) (by simp[results,results258,go_sem]) rfl ⟨by rw[Q.out,F.out],y.out⟩
theorem zoB(t:Tree):zxk t:=
 match t with
 |.node k s a=>zt0 k s a λi h=>zoB a[i]
termination_by SizeOf.sizeOf t
decreasing_by
 have:=List.sizeOf_lt_of_mem (Qz h);simp only[Tree.node.sizeOf_spec];omega
