/- Lemmas for the last texts. -/
import Derived.Test.YtnnokglddolglaaGreatDoorM01
import Derived.Test.YtnnokglddolglaaGreatDoorM05
import Derived.Lib.IndexBytes
set_option maxHeartbeats 6400000
set_option maxRecDepth 100000
namespace Go.Proofs.YtnnokglddolglaaGreatDoor
open Go.RowKit Go.Proofs.Tryz
def zi2(P:List Ins)(s:jE)(n:Nat):Prop:=∃i j,j<n+1/\R P s i (P.length-1) j
def zzi(P:List Ins)(s:ByteArray)(h:Value)(w:World)(t:Nat)(j:World)(G:Nat->Nat)(e:List Nat)(f a c:Nat)(k:Value)(g:World):Prop:=
 ∃q d H l i b,k=jA ((q:Nat):Int)/\q<=e.length/\InRT P s h w t j G e false f q g a c d H l false i b
def zx3(P:List Ins)(s:ByteArray)(i:Value)(w:World)(b c:Value)(wr:World):Prop:=
 ∃t a d e F h f g,c=jA ((t:Nat):Int)/\t<=s.size+1/\b=.pointer (some ⟨a,0,none⟩)/\RunR P s i w t wr a d e F h false f g
def zos(P:List Ins)(s:ByteArray)(w:World)(e:Ending)(w':World):Prop:=
 ∃found f a,e=jC (.agg #[jA ((f:Nat):Int),jA ((a:Nat):Int),.bool found])/\(found=true↔zi2 P s.data.toList s.size)/\w w'
theorem zuL(P:List Ins)(ha:OkP P)(hG:∀n (h:n<P.length),P[n].kind=6↔n=P.length-1)(E:∀n (h:n<P.length),P[n].set.Wf)(h0:0<P.length)(h4:P.length<=400)(s:ByteArray)(hs:s.size<=8192)(pv:Value)(w:World)(hP:OwnP w 0 pv P):
 Calls prog 281 #[pv,.string s,.bool true] w (zos P s w):=by
 obtain⟨gp,cp,rfl,gB⟩:=OwnP.head hP h0;have hN:=hIx ha;have gb:=hIx hG;have gk:=hIx E;clear hG E
 go_in
 go_wp2_with (at_make;refine zfA rfl _ _ rfl P.length (w.heap.size+1+1) (by simp) rfl rfl (by omega) ?_;intro w1 gm hr gs)
 go_loopw [8,9] (λvn vt wr=>zx3 P s (.slice gp P.length cp) w vn vt wr) (λ_ vt _=>s.size+1-(intOf vt).toNat)
 case atStart=>
  have hz:w.heap.size+1+1<w1.heap.size:=gs;have hk:∀j,j<w.heap.size+1+1->∀o,(w1.alloc o).heap[j]? = w1.heap[j]? := λj hj o=>Qr _ _ _ (by omega)
  have hB:w w1:=(WaL.alloc (by simp) _).trans (hr.mono (by simp;omega));refine⟨0,w1.heap.size,w.heap.size+1+1,jD 0 0,λ_=>0,[],0,0,rfl,Qm _,rfl,⟨ThM.fresh ⟨P.length,Qt _ _⟩ (gm.keep (Qr _ _ _ hz)),Thr.zero 0,λ_ k _ h=>absurd h (by omega),λ_=>Qc _,zrO _,?_,?_,?_,⟨by omega,by omega,λg hg=>by cases hg⟩,hB.alloc hB.size _⟩⟩
  ·refine(hk _ (by omega) _).trans ((hr.block _ (by simp)).trans ?_)
   have:=Qt (w.alloc (.cells #[jA 0,jA 0,.bool false] 351)) (.cells #[jA 0,jA 0,.bool false] 351)
   simpa using this
  ·refine(hk _ (by omega) _).trans ((hr.block _ (by simp;omega)).trans ((Qr _ _ _ (by simp)).trans (Qt _ _)))
  ·exact hP.keep λg hg=>((hk g (by have:=(QK hP g hg).2;omega) _).trans (hB.block g (QK hP g hg).2))
 case round=>
  obtain⟨t,gt,gF,vl,F,ls,f,tu,rfl,ht,rfl,T⟩:=hrel;obtain⟨⟨x0,x1,x2⟩,y0,y1,y2⟩:=T.cells.three;obtain⟨⟨u0,u1,u2⟩,v0,v1,v2⟩:=T.res.three
  by_cases gc:t<=s.size
  ·have d1:decide ((t:Int)<=(s.size:Int))=true:=by simp;omega
   have g7:=T.below.size;obtain⟨l1,l2,l3⟩:=T.low;have B:gt<wr.heap.size:=by obtain⟨_,hb⟩:=T.thm.blk;exact zaz hb
   have h8:gF<wr.heap.size:=zaz T.thm.frm;have HR:=hIx T;have HA:=hIx (ztG P ha h4 s t 0 t h0 (by omega) F ls gt gF _ vl wr T.thm T.prg h8 B);clear T
   go_upto_if 30 with fail
   go_cut [8,9]from 22 to 106 (λs8 s9 I=>s8=.pointer gt/\s9=jA ((t:Nat):Int)/\∃hH G L,MidR P s (.slice gp P.length cp) w t I gt gF hH G L false f tu)
   case first=>
    go_wp2_with fail;refine HA.out.mono ?_;rintro e w2 ⟨G,L,r,rfl,g2,g8,gv,gu⟩;have d:=HR.out.added g2 g8 gv gu;go_wp2;go_meet;exact⟨rfl,rfl,_,_,_,d⟩
   case rest=>
    obtain⟨rfl,rfl,hH,G,L,hM⟩:=hcut;obtain⟨I,rfl⟩:∃I:World,I=wc:=⟨_,rfl⟩
    clear x0 x1 x2 y0 y1 y2 u0 u1 u2 v0 v1 v2 HR HA g7 l1 l2 l3 B h8;obtain⟨A1,cl,gr⟩:=hM.thm.lst.form;subst gr;have B:gt<I.heap.size:=by obtain⟨_,hb⟩:=hM.thm.blk;exact zaz hb
    have hS:=hM.thm.blk;have d:=hIx hM;clear hM;go_wp2_with (at_make;refine zfA rfl _ _ rfl P.length I.heap.size rfl rfl rfl (by omega) ?_;intro w5 hv Q ge;have ⟨p0,p1,⟨_,p2⟩,p3,p4⟩:=(hS.keep (Q.block gt B)).cells;have gz:gt<w5.heap.size:=Qv B Q.size)
    go_loopw [47] (λvq wq=>zzi P s (.slice gp P.length cp) w t I G L f w5.heap.size I.heap.size vq wq) (λvq _=>L.length-(intOf vq).toNat)
    case atStart=>
     have gn:ThM (w5.alloc (.cells #[.slice gp P.length cp,.string s,.slice (some ⟨I.heap.size,0,none⟩) P.length P.length,jD 0 0] 374)) w5.heap.size (.slice gp P.length cp) s I.heap.size P.length (jD 0 0) (λ_=>0) []:=
      ThM.fresh ⟨P.length,Qt _ _⟩ (hv.keep (Qr _ _ _ ge))
     exact⟨0,_,_,_,_,_,rfl,Qm _,d.out.start gn (Q.alloc Q.size _) Q.size (Qc _)⟩
    case round=>
     obtain⟨q,r,H,lh,m,u,rfl,hq,hI⟩:=hrel;have N:=hIx hI;have l:=hI.now d.out;obtain⟨m0,m1,⟨_,m2⟩,m3,m4⟩:=l.blk.cells;clear p0 p1 p2 p3 p4
     by_cases ho:q<L.length
     ·have d2:decide ((q:Int)<(L.length:Int))=true:=by simp;omega
      obtain⟨gl,gC,e,gA⟩:=l.lst.head (by omega);injection e with e1 _ e2
      subst e1;subst e2
      have he:=l.lst.cell q ho;have HQ:Hid (L[q]? = some L[q]):=hIx (Qd ho);have Y:G L[q]≠0:=(d.out.thr.mem _).1 (Qz ho);generalize L[q]=n at he HQ Y;obtain⟨k,hk,hC⟩:=d.out.thr.real n Y;have hD:=hIx hC;have U:n<P.length:=d.out.thr.lt ha h0 Y;have hX:=d.out.max n;have hp:=(l.frm.cell n U).1;rw[hk]at hp;have HK:=hIx hk;have C:=N.out.prg d.out hP;have hx:=hN.out n U;have z:Hid (P[n]? = some P[n]):=hIx (Qd U);have ⟨X,Z,z2,z3,z4,z5,z6⟩:Ins7 wr gp (n*7) P[n]:=⟨(C.spot n U 0 (by decide)).1,(C.spot n U 1 (by decide)).1,(C.spot n U 2 (by decide)).1,(C.spot n U 3 (by decide)).1,(C.spot n U 4 (by decide)).1,(C.spot n U 5 (by decide)).1,(C.spot n U 6 (by decide)).1⟩
      have A:=gb.out n U;have E:=gk.out n U;generalize P[n]=x at hx z X Z z2 z3 z4 z5 z6 A E;obtain⟨kd,xa,xb,⟨sa,sb,sc,sd⟩⟩:=x;dsimp only at hx A E X Z z2 z3 z4 z5 z6;have HX:=hIx hx;have gg:=hIx A;clear hx A;have gD:w.heap.size+1<wr.heap.size:=zaz hI.cells;obtain⟨⟨x0,x1,x2⟩,y0,y1,y2⟩:=hI.cells.three;have i6:wrap64 (k:Int)=(k:Int):=IntWalk.wrap64_in _ (by omega);have i7:IntKind.i64.wrap ((q:Int)+1)=(q:Int)+1:=Qx _ (by have:=d.out.thm.len;omega);have j4:(n:Int)<(P.length:Int):=by omega
      have hV:k<=8192:=Ql (Nat.le_of_succ_le_succ (Ql (Nat.le_of_eq hk.symm) hX)) (Ql gc hs)
      have h6:Hid (∀w4,n+1<P.length->wr w4->Calls prog 303 #[.pointer (some ⟨w5.heap.size,0,none⟩),jA ((n:Int)+1),jA ((t:Int)+1),jA (k:Int)] w4 (AddW P s (t+1) (n+1) k H lh w5.heap.size I.heap.size (.slice gp P.length cp) r w4)):=
       λw4 h1 h2=>hI.call d.out hP hN.out h4 h1 hV h2
      clear l hI C Y hC hk hV
      ·have K:false=true->k<=m:=λe=>by cases e
       have HC:=hIx K;go_upto_region 13 with fail
       go_cut [12,13,47,67]from 47 to 105 (λgj gi gh gq I=>gj=jA (n:Int)/\gi=jA (k:Int)/\gh=jA (q:Int)/\gq=.bool false/\I=wr)
       case first=>
        go_wp2;go_meet;exact⟨rfl,rfl,rfl,rfl,rfl⟩
       case rest=>
        obtain⟨rfl,rfl,rfl,rfl,rfl⟩:=hcut;clear K;have A:=gg.out
        rcases HX.out with ⟨rfl,_⟩|⟨rfl,_⟩|⟨rfl|rfl|rfl,hi⟩|rfl
        ·have a:n=P.length-1->false=true/\m+1<G n:=λe=>absurd (A.2 e) (by decide)
         have b:zcB P s.data.toList t n->false=true/\m+1<G n:=λhb=>by
          obtain⟨y,_,h1,h2,_⟩:=hb;rw[z.out]at h1;injection h1 with h1;subst h1
          dsimp only at h2;omega
         have O:=hIx a;have HB:=hIx b;clear a b A;go_wp2_with fail
         go_region
         go_wp2;exact⟨⟨q+1,r,H,lh,m,u,rfl,by omega,N.out.pass (zaz d.out.cells) HQ.out WaL.drew HB.out O.out⟩,by dsimp only[intOf];omega⟩
        ·have a:n=P.length-1->false=true/\m+1<G n:=λe=>absurd (A.2 e) (by decide)
         have b:zcB P s.data.toList t n->false=true/\m+1<G n:=λhb=>by
          obtain⟨y,_,h1,h2,_⟩:=hb;rw[z.out]at h1;injection h1 with h1;subst h1
          dsimp only at h2;omega
         have O:=hIx a;have HB:=hIx b;clear a b A;go_wp2_with fail
         go_region
         go_wp2;exact⟨⟨q+1,r,H,lh,m,u,rfl,by omega,N.out.pass (zaz d.out.cells) HQ.out WaL.drew HB.out O.out⟩,by dsimp only[intOf];omega⟩
        ·have a:n≠P.length-1:=λe=>absurd (A.2 e) (by decide)
         have O:=hIx a;clear a A
         by_cases hQ:t<s.size
         ·have i9:(t:Int)<(s.size:Int):=by omega
          obtain⟨c,hw⟩:∃c,s[t]=c:=⟨_,rfl⟩
          have hy:Hid (s.data.toList[t]? = some c):=by
           unfold Hid;rw[<-hw,Qd (by simpa using hQ)]
           rfl
          have g1:=HK.out;have J:=λx W=>zrH ⟨sa,sb,sc,sd⟩ x W E
          unfold setV at J;dsimp only at J;have h7:=hIx J;have g9:=hIx hi;clear hi;clear J g1;go_wp2_with fail;have V:=Qt wc (.cells #[jA 1,jA xa,jA xb,jB sa,jB sb,jB sc,jB sd] 235);have hY:wc (wc.alloc (.cells #[jA 1,jA xa,jA xb,jB sa,jB sb,jB sc,jB sd] 235)):=WaL;generalize wc.alloc (.cells #[jA 1,jA xa,jA xb,jB sa,jB sb,jB sc,jB sd] 235)=W at *;have g0:=Qf _ wc.heap.size 0 _ _ _ V;have g3:=Qf _ wc.heap.size 3 _ _ _ V;have g4:=Qf _ wc.heap.size 4 _ _ _ V;have g5:=Qf _ wc.heap.size 5 _ _ _ V;have g6:=Qf _ wc.heap.size 6 _ _ _ V;simp only[ZT,Z9,XL]at g0 g3 g4 g5 g6;have S:=hIx hY;clear V hY
          go_region_held3 (λw'=>w'.cell? wc.heap.size=some (jA 1)/\w'.cell? ⟨wc.heap.size,3,none⟩=some (jB sa)/\w'.cell? ⟨wc.heap.size,4,none⟩=some (jB sb)/\w'.cell? ⟨wc.heap.size,5,none⟩=some (jB sc)/\w'.cell? ⟨wc.heap.size,6,none⟩=some (jB sd))
           (first|go_keep|(refine⟨zaa D ?_,zaa D ?_,zaa D ?_,zaa D ?_,zaa D ?_⟩ <;> assumption))
           (first|(go_at_call 255;refine(h7.out _ _).mono ?_;rintro e w8 ⟨rfl,D⟩))
          have hJ:W w8:=undrew D;have hd:Hid (wc w8):=S.out.trans (hJ.mono S.out.size);clear D hJ g0 g3 g4 g5 g6 S;cases hh:hasB ⟨sa,sb,sc,sd⟩ c with
          |false=>
           have hf:Hid (zcB P s.data.toList t n->false=true/\m+1<G n):=λhb=>by
            obtain⟨y,c',h1,h2,h3,h5⟩:=hb;rw[z.out]at h1;injection h1 with h1;subst h1
            rw[hy.out]at h3;injection h3 with h3;subst h3
            rw[hh]at h5;cases h5
           clear hh;go_wp2;exact⟨⟨q+1,r,H,lh,m,u,rfl,by omega,N.out.pass (zaz d.out.cells) HQ.out hd.out hf.out (λe=>absurd e O.out)⟩,by dsimp only[intOf];omega⟩
          |true=>
           have hZ:Hid (zcB P s.data.toList t n):=⟨_,c,z.out,rfl,hy.out,hh⟩
           clear hh m0 m1 m2 m3 m4 he hp X Z z2 z3 z4 z5 z6 x0 x1 x2 y0 y1 y2 hw i9 hS hv Q i6 E h7;go_wp2_with fail;refine(h6.out _ (g9.out) hd.out).mono ?_;rintro e w9 ⟨H',gy,gx,rfl,hT,hA,_,hK⟩;have hc:=hIx (N.out.push d.out HQ.out hZ.out O.out HK.out hd.out hT hA hK);clear hT hA hK h6;go_wp2;exact⟨⟨q+1,gx,H',gy,m,u,rfl,by omega,hc.out⟩,by dsimp only[intOf];omega⟩
         ·have hf:Hid (zcB P s.data.toList t n->false=true/\m+1<G n):=λhb=>by
           obtain⟨y,_,h1,h2,h3,_⟩:=hb;exact absurd h3 (by rw[List.getElem?_eq_none (by simpa using hQ)];intro e;cases e)
          have i9:decide ((t:Int)<(s.size:Int))=false:=by simp;omega
          go_wp2_with fail
          go_region
          go_wp2;exact⟨⟨q+1,r,H,lh,m,u,rfl,by omega,N.out.pass (zaz d.out.cells) HQ.out WaL.drew hf.out (λe=>absurd e O.out)⟩,by dsimp only[intOf];omega⟩
        ·have a:n=P.length-1->false=true/\m+1<G n:=λe=>absurd (A.2 e) (by decide)
         have b:zcB P s.data.toList t n->false=true/\m+1<G n:=λhb=>by
          obtain⟨y,_,h1,h2,_⟩:=hb;rw[z.out]at h1;injection h1 with h1;subst h1
          dsimp only at h2;omega
         have O:=hIx a;have HB:=hIx b;clear a b A;go_wp2_with fail
         go_region
         go_wp2;exact⟨⟨q+1,r,H,lh,m,u,rfl,by omega,N.out.pass (zaz d.out.cells) HQ.out WaL.drew HB.out O.out⟩,by dsimp only[intOf];omega⟩
        ·have a:n=P.length-1->false=true/\m+1<G n:=λe=>absurd (A.2 e) (by decide)
         have b:zcB P s.data.toList t n->false=true/\m+1<G n:=λhb=>by
          obtain⟨y,_,h1,h2,_⟩:=hb;rw[z.out]at h1;injection h1 with h1;subst h1
          dsimp only at h2;omega
         have O:=hIx a;have HB:=hIx b;clear a b A;go_wp2_with fail
         go_region
         go_wp2;exact⟨⟨q+1,r,H,lh,m,u,rfl,by omega,N.out.pass (zaz d.out.cells) HQ.out WaL.drew HB.out O.out⟩,by dsimp only[intOf];omega⟩
        ·have hu:n=P.length-1:=A.1 rfl
         have O:=hIx hu
         have b:¬zcB P s.data.toList t n:=λhb=>by
          obtain⟨y,_,h1,h2,_⟩:=hb;rw[z.out]at h1;injection h1 with h1;subst h1
          dsimp only at h2;omega
         have HB:=hIx b;clear b A hu;have gw:=hD;have hO:Hid (BestB wc (w.heap.size+1) m u false):=N.out.cells;have hL:Hid (BestB wc w.heap.size 0 0 false):=(N.out.keep _ (by have:=zaz d.out.cells;omega) (by omega)).trans d.out.res;have S:=hIx N.out.below;go_upto_region 18 with fail
         have HT:=zpP hO.out k t (.cells #[jA 6,jA xa,jA xb,jB sa,jB sb,jB sc,jB sd] 235);obtain⟨W,h9⟩:∃W:World,(((wc.setCell (w.heap.size+1:) (jA (k:Int))).setCell ⟨w.heap.size+1,1,none⟩ (jA (t:Int))).setCell ⟨w.heap.size+1,2,none⟩ (.bool true)).alloc (.cells #[jA 6,jA xa,jA xb,jB sa,jB sb,jB sc,jB sd] 235)=W:=⟨_,rfl⟩
         rw[h9]at HT ⊢;have gd:BestB W (w.heap.size+1) k t true:=HT.1;have hF:BestB W w.heap.size 0 0 false:=(HT.2.1 _ (by omega) (by omega)).trans hL.out
         have ga:w W:=by
          rw[<-h9];exact(((S.out.setCell (p:=⟨w.heap.size+1,0,none⟩) (Zc _) _).setCell (p:=⟨w.heap.size+1,1,none⟩) (Zc _) _).setCell (p:=⟨w.heap.size+1,2,none⟩) (Zc _) _).alloc (by simp;omega) _
         have hU:Hid (zi2 P s.data.toList s.size):=⟨k,t,by omega,O.out ▸ gw.out⟩
         clear HT h9 m0 m1 m2 m3 m4 he hp X Z z2 z3 z4 z5 z6 x0 x1 x2 y0 y1 y2 hO hL S;obtain⟨⟨x0,x1,x2⟩,y0,y1,y2⟩:=gd.three;obtain⟨⟨X,Z,z2⟩,v0,v1,v2⟩:=hF.three;go_wp2_with fail;have V:=((ga.setCell (p:=⟨w.heap.size,0,none⟩) (Qc _) (jA (k:Int))).setCell (p:=⟨w.heap.size,1,none⟩) (Qc _) (jA (t:Int))).setCell (p:=⟨w.heap.size,2,none⟩) (Qc _) (.bool true);have hE:BestB _ w.heap.size k t true:=hF.setAll;generalize (((W.setCell w.heap.size (jA (k:Int))).setCell ⟨w.heap.size,1,none⟩ (jA (t:Int))).setCell ⟨w.heap.size,2,none⟩ (.bool true))=WF at *;obtain⟨⟨X,Z,z2⟩,_⟩:=hE.three;exact Qi (v:=.agg #[jA (k:Int),jA (t:Int),.bool true]) (by simp[results,results281,go_sem,X,Z,z2]) rfl ⟨true,k,t,rfl,⟨λ_=>hU.out,λ_=>rfl⟩,V⟩
     ·have d2:decide ((q:Int)<(L.length:Int))=false:=by simp;omega
      obtain rfl:q=L.length:=by omega
      have hz:IntKind.i64.wrap ((t:Int)+1)=(t:Int)+1:=Qx _ (by omega);have gf:=N.out.stop d.out hP;clear l hI N d;go_wp2;exact⟨⟨t+1,w5.heap.size,I.heap.size,r,H,lh,m,u,rfl,by omega,rfl,gf⟩,by dsimp only[intOf];omega⟩
  ·obtain rfl:t=s.size+1:=by omega
   have d1:decide (((s.size+1:Nat):Int)<=(s.size:Int))=false:=by simp;omega
   go_wp2_with fail;have V:=((T.below.setCell (p:=⟨w.heap.size,0,none⟩) (Qc _) (jA (f:Int))).setCell (p:=⟨w.heap.size,1,none⟩) (Qc _) (jA (tu:Int))).setCell (p:=⟨w.heap.size,2,none⟩) (Qc _) (.bool false);have hE:BestB _ w.heap.size f tu false:=T.res.setAll;generalize (((wr.setCell w.heap.size (jA (f:Int))).setCell ⟨w.heap.size,1,none⟩ (jA (tu:Int))).setCell ⟨w.heap.size,2,none⟩ (.bool false))=WF at *;obtain⟨⟨X,Z,z2⟩,_⟩:=hE.three;exact Qi (v:=.agg #[jA (f:Int),jA (tu:Int),.bool false]) (by simp[results,results281,go_sem,X,Z,z2]) rfl ⟨false,f,tu,rfl,⟨λe=>(by cases e),λ⟨i,j,h1,h2⟩=>absurd h2 ((T.best.2 rfl).1 i j h1)⟩,V⟩
structure RS where
 pos:Nat
 op:Nat
 e:Int
def RdAt(g:Nat)(s:ByteArray)(r:RS)(w:World):Prop:=w.heap[g]? = some (.cells #[.string s,jA r.pos,jA r.op,jA r.e] 229 (0,0))
theorem RdAt.cells{g:Nat}{s:ByteArray}{r:RS}{w:World}(h:RdAt g s r w):w.cell? g=some (.string s)/\w.cell? ⟨g,1,none⟩=some (jA r.pos)/\w.cell? ⟨g,2,none⟩=some (jA r.op)/\w.cell? ⟨g,3,none⟩=some (jA r.e):=
 ⟨Qf w g 0 _ _ _ h,Qf w g 1 _ _ _ h,Qf w g 2 _ _ _ h,Qf w g 3 _ _ _ h⟩
theorem RdAt.free{g:Nat}{s:ByteArray}{r:RS}{w:World}(h:RdAt g s r w)(j:Nat):w.frozen? ⟨g,j,none⟩=false:=by
 unfold RdAt at h;simp[World.frozen?, h]
theorem RdAt.lt{g:Nat}{s:ByteArray}{r:RS}{w:World}(h:RdAt g s r w):g<w.heap.size:=by
 rcases ZI g w.heap.size with a|a
 ·exact a
 ·unfold RdAt at h;simp[ZZ a]at h
theorem RdAt.drew{g:Nat}{s:ByteArray}{r:RS}{w:World}(h:RdAt g s r w)(n:Nat):RdAt g s r (w.drewN n):=h
theorem RdAt.below{g:Nat}{s:ByteArray}{r:RS}{w w':World}(h:RdAt g s r w)(hb:w w'):RdAt g s r w':=(hb.block g h.lt).trans h
theorem RdAt.setPos{g:Nat}{s:ByteArray}{r:RS}{w:World}(h:RdAt g s r w)(n:Nat):RdAt g s {r with pos:=n} (w.setCell ⟨g,1,none⟩ (jA n)):=by
 unfold RdAt at h ⊢;simp only[World.setCell,Q4,h]
 rfl
theorem RdAt.setE{g:Nat}{s:ByteArray}{r:RS}{w:World}(h:RdAt g s r w)(n:Int):RdAt g s {r with e:=n} (w.setCell ⟨g,3,none⟩ (jA n)):=by
 unfold RdAt at h ⊢;simp only[World.setCell,Q4,h]
 rfl
theorem RdAt.setOp{g:Nat}{s:ByteArray}{r:RS}{w:World}(h:RdAt g s r w)(n:Nat):RdAt g s {r with op:=n} (w.setCell ⟨g,2,none⟩ (jA n)):=by
 unfold RdAt at h ⊢;simp only[World.setCell,Q4,h]
 rfl
def RdEnd(g:Nat)(s:ByteArray)(r:RS)(w w':World):Prop:=RdAt g s r w'/\w.grownBy w' (some g)
theorem RdEnd.drew{g:Nat}{s:ByteArray}{r:RS}{w:World}(h:RdAt g s r w)(n:Nat):RdEnd g s r w (w.drewN n):=⟨h,rfl,rfl,rfl,Qc _,λ_ _ _=>rfl⟩
theorem zaW(w:World)(row:Option Nat):w.grownBy w row:=⟨rfl,rfl,rfl,Qc _,λ_ _ _=>rfl⟩
def zad(s:jE)(r:RS):Int:=if r.e=0 then (match s[r.pos]? with|some b=>(b.toNat:Int)|none=>-1)else -1
def zaF(r:RS)(e:Int):RS:=if r.e=0 then {r with e:=e}else r
def zaL(s:jE)(r:RS)(b:Int):Bool × RS:=if zad s r=b then (true,{r with pos:=r.pos+1})else (false,r)
def zgj(s:jE)(r:RS):Bool:=decide (zad s r<0)||(decide (zad s r=124)||decide (zad s r=41))
theorem zfX(g:Nat)(s:ByteArray)(r:RS)(w:World)(h:RdAt g s r w)(q:r.pos<=s.size):
 Calls prog 218 #[.pointer g] w λe w'=>e=jC (jA (zad s.data.toList r))/\∃n,w'=w.drewN n:=by
 have ⟨c0,c1,c2,c3⟩:=h.cells;have H:=hIx h
 by_cases c:r.e=0
 ·have m:(r.e != 0)=false:=by rw[c];rfl
  rcases ZI r.pos s.size with i|l
  ·have k:((r.pos:Int)==(s.size:Int))=false:=by rw[Qb];omega
   have f:Hid (zad s.data.toList r=(s[r.pos].toNat:Int)):=by
    unfold Hid zad;rw[Qg c,Xt s r.pos i]
   clear h c
   go_in
   go_wp2_with fail
   go_quiet (fail)
   obtain⟨b,a⟩:∃b,w.drewN nq=b:=⟨_,rfl⟩
   have d:Hid (RdAt g s r b/\∃n,b=w.drewN n):=by rw[<-a];exact⟨H.out.drew nq,nq,rfl⟩
   rw[a];have ⟨c0,c1,c2,c3⟩:=d.out.1.cells;clear a;go_wp2_with fail
   go_quiet (fail)
   go_wp2;exact Qi (v:=jA (s[r.pos].toNat:Int)) (by simp[results,results218,go_sem];exact IntWalk.wrap64_in (s[r.pos].toNat:Int) (by have:=s[r.pos].toNat_lt;omega)) rfl ⟨by rw[f.out],by obtain⟨n,p⟩:=d.out.2;exact⟨n+nq,by rw[p,World.drewN_drewN]⟩⟩
  ·obtain j:r.pos=s.size:=by omega
   have k:((r.pos:Int)==(s.size:Int))=true:=by rw[Zo];omega
   have f:Hid (zad s.data.toList r=-1):=by
    unfold Hid zad;rw[Qg c,List.getElem?_eq_none (by simp;omega)]
   clear h c j
   go_in
   go_wp2_with fail
   go_quiet (fail)
   obtain⟨b,a⟩:∃b,w.drewN nq=b:=⟨_,rfl⟩
   have d:Hid (RdAt g s r b/\∃n,b=w.drewN n):=by rw[<-a];exact⟨H.out.drew nq,nq,rfl⟩
   rw[a];have ⟨c0,c1,c2,c3⟩:=d.out.1.cells;clear a;go_wp2;exact Qi (v:=jA (-1)) (by simp[results,results218,go_sem]) rfl ⟨by rw[f.out],d.out.2⟩
 ·have m:(r.e != 0)=true:=Q7.2 c
  have f:Hid (zad s.data.toList r=-1):=by
   unfold Hid zad;rw[Qe c]
  clear h c
  go_in
  by_cases o:r.pos=s.size
  have k:((r.pos:Int)==(s.size:Int))=true:=by rw[Zo];omega
  rotate_left
  have k:((r.pos:Int)==(s.size:Int))=false:=by rw[Qb];omega
  all_goals
   clear o;go_wp2_with fail
   go_quiet (fail)
   obtain⟨b,a⟩:∃b,w.drewN nq=b:=⟨_,rfl⟩
   have d:Hid (RdAt g s r b/\∃n,b=w.drewN n):=by rw[<-a];exact⟨H.out.drew nq,nq,rfl⟩
   rw[a];have ⟨c0,c1,c2,c3⟩:=d.out.1.cells;clear a;go_wp2;exact Qi (v:=jA (-1)) (by simp[results,results218,go_sem]) rfl ⟨by rw[f.out],d.out.2⟩
theorem zex(g:Nat)(s:ByteArray)(r:RS)(w:World)(h:RdAt g s r w)(a:r.pos<=s.size):
 Calls prog 218 #[.pointer g] w λe w'=>e=jC (jA (zad s.data.toList r))/\RdEnd g s r w w':=
 (zfX g s r w h a).mono λe w' ⟨h1,n,h2⟩=>⟨h1,by rw[h2];exact RdEnd.drew h n⟩
theorem zc9(g:Nat)(s:ByteArray)(r:RS)(x:Int)(w:World)(h:RdAt g s r w):
 Calls prog 138 #[.pointer g,jA x] w λe w'=>e=jC (.tuple #[])/\RdEnd g s (zaF r x) w w':=by
 have ⟨c0,c1,c2,c3⟩:=h.cells;have d:=h.free 3
 by_cases a:r.e=0
 have c:(r.e==0)=true:=by rw[a];rfl
 have b:Hid (RdEnd g s (zaF r x) w (w.setCell ⟨g,3,none⟩ (jA x))):=by unfold Hid zaF;rw[Qg a];exact⟨h.setE x,zak (zaW w _) 3 _⟩
 rotate_left
 have c:(r.e==0)=false:=Qb.2 a;have b:Hid (RdEnd g s (zaF r x) w w):=by unfold Hid zaF;rw[Qe a];exact⟨h,zaW w _⟩
 all_goals
  clear h a
  go_in
  go_wp2;exact bodyPost_end (v:=.tuple #[]) (by simp[results,results138,go_sem]) rfl ⟨rfl,b.out⟩
theorem RdEnd.trans{g:Nat}{s:ByteArray}{b:RS}{w a w2:World}(h:w.grownBy a (some g))(k:RdEnd g s b a w2):RdEnd g s b w w2:=⟨k.1,zax h k.2⟩
theorem zaO{s:jE}{r:RS}{b:Int}(h:zad s r=b)(hb:0<=b):r.pos<s.length/\r.e=0:=by
 unfold zad at h
 split at h
 ·rename_i c
  cases a:s[r.pos]? with
  |none=>rw[a]at h;dsimp only at h;omega
  |some y=>exact⟨(Qw.1 a).1,c⟩
 ·omega
theorem zdQ(g:Nat)(s:ByteArray)(r:RS)(b:Int)(w:World)(h:RdAt g s r w)(k:r.pos<=s.size)(n:s.size<=4096):
 Calls prog 175 #[.pointer g,jA b] w λe w'=>e=jC (.bool (zaL s.data.toList r b).1)/\RdEnd g s (zaL s.data.toList r b).2 w w':=by
 have c:=hIx (zex g s r w h k);clear h
 by_cases hb:zad s.data.toList r=b
 ·have j:(zad s.data.toList r != b)=false:=by rw[hb];simp
  have m:IntKind.i64.wrap ((r.pos:Int)+1)=((r.pos+1:Nat):Int):=Qx _ (by omega);have a:Hid (zaL s.data.toList r b=(true,{r with pos:=r.pos+1})):=by unfold Hid zaL;rw[Qg hb]
  go_in
  go_wp2_with (go_at_call 218;apply Hid.out);refine WhM c ?_;rintro e f ⟨rfl,h1,i⟩;have ⟨c0,c1,c2,c3⟩:=h1.cells;have l:=h1.free 1;have d:Hid (RdEnd g s {r with pos:=r.pos+1} w (f.setCell ⟨g,1,none⟩ (jA ((r.pos+1:Nat):Int)))):=⟨h1.setPos _,zak i 1 _⟩
  clear hb h1 i c;go_wp2;exact Qi (v:=.bool true) (by simp[results,results175,go_sem]) rfl ⟨by rw[a.out],by rw[a.out];exact d.out⟩
 ·have j:(zad s.data.toList r != b)=true:=Q7.2 hb
  have a:Hid (zaL s.data.toList r b=(false,r)):=by unfold Hid zaL;rw[Qe hb]
  clear hb
  go_in
  go_wp2_with (go_at_call 218;apply Hid.out);refine WhM c ?_;rintro e f ⟨rfl,h1⟩;have d:=hIx h1;clear h1 c;go_wp2;exact Qi (v:=.bool false) (by simp[results,results175,go_sem]) rfl ⟨by rw[a.out],by rw[a.out];exact d.out⟩
theorem zmY(g:Nat)(s:ByteArray)(r:RS)(w:World)(h:RdAt g s r w)(k:r.pos<=s.size):
 Calls prog 216 #[.pointer g] w λe w'=>e=jC (.bool (zgj s.data.toList r))/\RdEnd g s r w w':=by
 have i:=hIx (zex g s r w h k);have a:Hid (zgj s.data.toList r=(decide (zad s.data.toList r<0)||(decide (zad s.data.toList r=124)||decide (zad s.data.toList r=41)))):=rfl;generalize zgj s.data.toList r=R at *;generalize zad s.data.toList r=N at *;clear h
 go_in
 go_wp2_with (go_at_call 218;apply Hid.out);refine WhM i ?_;rintro e l ⟨rfl,h1⟩;have f:=hIx h1;clear h1 i
 by_cases c:N<0
 ·have d:decide (N<0)=true:=Qu c
  rw[d,Bool.true_or]at a;clear c;go_wp2;exact Qi (v:=.bool true) (by simp[results,results216,go_sem]) rfl ⟨by rw[a.out],f.out⟩
 ·have d:decide (N<0)=false:=Qq c
  rw[d,Bool.false_or]at a;clear c
  by_cases b:N=124
  ·have j:(N==124)=true:=by rw[b];rfl
   rw[Qu b,Bool.true_or]at a;clear b;go_wp2;exact Qi (v:=.bool true) (by simp[results,results216,go_sem]) rfl ⟨by rw[a.out],f.out⟩
  ·have j:(N==124)=false:=Qb.2 b
   rw[Qq b,Bool.false_or]at a;clear b;go_wp2;exact Qi (v:=.bool (N==41)) (by simp[results,results216,go_sem]) rfl ⟨by rw[a.out,Bool.beq_eq_decide_eq],f.out⟩
def hexL:jE:=[48,49,50,51,52,53,54,55,56,57,97,98,99,100,101,102]
def zaM(s:jE)(r:RS):Int × RS:=
 if zad s r<0 then (0,zaF r 3)
 else if Lib.indexByte hexL (zad s r).toNat.toUInt8<0 then (0,zaF r 3)
 else (Lib.indexByte hexL (zad s r).toNat.toUInt8,{r with pos:=r.pos+1})
theorem zdo{s:jE}{r:RS}:-1<=zad s r/\zad s r<=255:=by
 unfold zad
 split
 ·cases s[r.pos]? with
  |none=>dsimp only;omega
  |some b=>dsimp only;have:=b.toNat_lt;omega
 ·omega
theorem zjV(g:Nat)(s:ByteArray)(r:RS)(w:World)(h:RdAt g s r w)(u:r.pos<=s.size)(B:s.size<=4096):
 Calls prog 307 #[.pointer g] w λe w'=>e=jC (jA (zaM s.data.toList r).1)/\RdEnd g s (zaM s.data.toList r).2 w w':=by
 have n:=hIx (zex g s r w h u);have x:=zdo (s:=s.data.toList) (r:=r);have a:0<=zad s.data.toList r->r.pos<s.size:=λh=>by have:=(zaO rfl h).1;simpa using this
 have b:Hid (zaM s.data.toList r=if zad s.data.toList r<0 then (0,zaF r 3)
 else if Lib.indexByte hexL (zad s.data.toList r).toNat.toUInt8<0 then (0,zaF r 3)
 else (Lib.indexByte hexL (zad s.data.toList r).toNat.toUInt8,{r with pos:=r.pos+1})):=rfl
 have f:Hid (∀W,RdAt g s r W->Calls prog 138 #[.pointer g,jA 3] W λe w'=>e=jC (.tuple #[])/\RdEnd g s (zaF r 3) W w'):=λW h=>zc9 g s r 3 W h
 generalize zaM s.data.toList r=R at *;generalize zad s.data.toList r=N at *;clear h
 go_in
 go_wp2_with (go_at_call 218;apply Hid.out);refine WhM n ?_;rintro e l ⟨rfl,h1,m⟩;have k:=hIx m;clear n m
 by_cases i:N<0
 ·have t:decide (N<0)=true:=Qu i
  rw[Qg i]at b;have c:=hIx (f.out l h1);clear i h1 f a;go_wp2_with (go_at_call 138;apply Hid.out);refine WhM c ?_;rintro e w2 ⟨rfl,h2⟩;have j:=hIx (RdEnd.trans k.out h2);clear h2;go_wp2;exact Qi (v:=jA 0) (by simp[results,results307,go_sem]) rfl ⟨by rw[b.out],by rw[b.out];exact j.out⟩
 have t:decide (N<0)=false:=Qq i;rw[Qe i]at b;have p:=a (by omega);have y:IntKind.u8.wrap N=N:=by rw[show IntKind.u8.wrap N=N % 256 from rfl];omega
 have q:Hid (∀W,Calls prog 122 #[.string (.mk #[48,49,50,51,52,53,54,55,56,57,97,98,99,100,101,102]),.int .u8 N] W λe w'=>e=jC (jA (Lib.indexByte hexL N.toNat.toUInt8))/\w'=W):=λW=>strings_IndexByte _ N W
 generalize Lib.indexByte hexL N.toNat.toUInt8=K at *;go_wp2_with (go_at_call 122;apply Hid.out);unfold Hid;refine(q.out l).mono ?_;rintro e w2 ⟨rfl,rfl⟩
 by_cases d:K<0
 ·have o:decide (K<0)=true:=Qu d
  rw[Qg d]at b;have c:=hIx (f.out w2 h1);clear d h1 f a;go_wp2_with (go_at_call 138;apply Hid.out);refine WhM c ?_;rintro e w3 ⟨rfl,h2⟩;have j:=hIx (RdEnd.trans k.out h2);clear h2;go_wp2;exact Qi (v:=jA 0) (by simp[results,results307,go_sem]) rfl ⟨by rw[b.out],by rw[b.out];exact j.out⟩
 ·have o:decide (K<0)=false:=Qq d
  rw[Qe d]at b;have A:IntKind.i64.wrap ((r.pos:Int)+1)=((r.pos+1:Nat):Int):=Qx _ (by omega);have ⟨c0,c1,c2,c3⟩:=h1.cells;have z:=h1.free 1;have j:Hid (RdEnd g s {r with pos:=r.pos+1} w (w2.setCell ⟨g,1,none⟩ (jA ((r.pos+1:Nat):Int)))):=⟨h1.setPos _,zak k.out 1 _⟩
  clear d h1 f a;go_wp2;exact Qi (v:=jA K) (by simp[results,results307,go_sem]) rfl ⟨by rw[b.out],by rw[b.out];exact j.out⟩
def ztH:jE:=[40,41,91,93,124,42,43,63,46,94,36,45,92]
def zfE(b:Int):Bool:=decide (0<=Lib.indexByte ztH b.toNat.toUInt8)
def zwK(s:jE)(r:RS):Int × RS:=
 if zad s r<33 then (0,zaF r 3)else if 126<zad s r then (0,zaF r 3)else if zfE (zad s r)=true then (0,zaF r 3)else (zad s r,{r with pos:=r.pos+1})
def escR(s:jE)(r:RS):Int × RS:=
 if zad s r=110 then (10,{r with pos:=r.pos+1})
 else if zad s r=116 then (9,{r with pos:=r.pos+1})
 else if zad s r=114 then (13,{r with pos:=r.pos+1})
 else if zad s r=120 then ((zaM s {r with pos:=r.pos+1}).1*16+(zaM s (zaM s {r with pos:=r.pos+1}).2).1,(zaM s (zaM s {r with pos:=r.pos+1}).2).2)
 else if zad s r<0 then (0,zaF r 3)else if zfE (zad s r)=true then (zad s r,{r with pos:=r.pos+1})else (0,zaF r 3)
def zbo(s:jE)(r:RS):Int × RS:=if zad s r=92 then escR s {r with pos:=r.pos+1}else zwK s r
theorem zqb{s:jE}{r:RS}(h:r.pos<=s.length):(zaM s r).2.pos<=s.length:=by
 have a:(zaF r 3).pos=r.pos:=by unfold zaF;split <;> rfl
 unfold zaM
 split
 ·show (zaF r 3).pos<=_;omega
 ·rename_i h1
  split
  ·show (zaF r 3).pos<=_;omega
  ·have:=(zaO (s:=s) (r:=r) rfl (by omega)).1
   show r.pos+1<=_
   omega
theorem zkx(l:jE)(b:UInt8):Lib.indexByte l b<=l.length:=by
 have h1:=Lib.indexByte_ge l b
 rcases Int.lt_or_le (Lib.indexByte l b) 0 with h|h
 ·omega
 ·obtain⟨o,a⟩:∃o:Nat,Lib.indexByte l b=o:=⟨(Lib.indexByte l b).toNat,by omega⟩
  have:=(Qw.1 (Lib.indexByte_some a).1).1;omega
theorem zjO{s:jE}{r:RS}:0<=(zaM s r).1/\(zaM s r).1<=16:=by
 unfold zaM
 split
 ·exact⟨ZD _,by show (0:Int)<=16;decide⟩
 ·split
  ·exact⟨ZD _,by show (0:Int)<=16;decide⟩
  ·rename_i h1 h2
   have:=zkx hexL (zad s r).toNat.toUInt8;exact⟨by show 0<=Lib.indexByte hexL _;omega,by show Lib.indexByte hexL _<=16;exact this⟩
theorem zhG(g:Nat)(s:ByteArray)(r:RS)(w:World)(h:RdAt g s r w)(hp:r.pos<=s.size)(hs:s.size<=4096):
 Calls prog 290 #[.pointer g] w λe w'=>e=jC (jA (zbo s.data.toList r).1)/\RdEnd g s (zbo s.data.toList r).2 w w':=by
 have I:=hIx (zex g s r w h hp);have h8:=zdo (s:=s.data.toList) (r:=r);have hj:s.data.toList.length=s.size:=by simp
 have i:0<=zad s.data.toList r->r.pos<s.size:=λh=>by have:=(zaO rfl h).1;omega
 have X:Hid (zbo s.data.toList r=if zad s.data.toList r=92 then escR s.data.toList {r with pos:=r.pos+1}else if zad s.data.toList r<33 then (0,zaF r 3)else if 126<zad s.data.toList r then (0,zaF r 3)else if zfE (zad s.data.toList r)=true then (0,zaF r 3)else (zad s.data.toList r,{r with pos:=r.pos+1})):=rfl;have y:Hid (∀(N:Int) W,Calls prog 122 #[.string (.mk #[40,41,91,93,124,42,43,63,46,94,36,45,92]),.int .u8 N] W λe w'=>e=jC (jA (Lib.indexByte ztH N.toNat.toUInt8))/\w'=W):=λN W=>strings_IndexByte _ N W
 have c:Hid (∀N:Int,zfE N=decide (0<=Lib.indexByte ztH N.toNat.toUInt8)):=λ_=>rfl
 generalize zbo s.data.toList r=R at *;generalize zad s.data.toList r=N at *;clear h
 go_in
 go_wp2_with (go_at_call 218;apply Hid.out);unfold Hid;refine(I.out).mono ?_;rintro e w1 ⟨rfl,h1,hk⟩;have D:=hIx hk;clear I hk
 by_cases Q:N=92
 rotate_left
 ·have d0:(N != 92)=true:=Q7.2 Q
  have k:Hid (∀W,RdAt g s r W->Calls prog 138 #[.pointer g,jA 3] W λe w'=>e=jC (.tuple #[])/\RdEnd g s (zaF r 3) W w'):=λW h=>zc9 g s r 3 W h
  have a:Hid (R=if N<33 then (0,zaF r 3)else if 126<N then (0,zaF r 3)else if zfE N=true then (0,zaF r 3)else (N,{r with pos:=r.pos+1})):=by unfold Hid;rw[X.out,Qe Q]
  clear X Q
  by_cases x:N<33
  ·have d1:decide (N<33)=true:=Qu x
   rw[Qg x]at a;clear x i y c;have j:=hIx (k.out w1 h1);clear h1 k;go_wp2_with (go_at_call 138;apply Hid.out);unfold Hid;refine(j.out).mono ?_;rintro e wf ⟨rfl,t⟩;have f:=hIx (RdEnd.trans D.out t);clear t;go_wp2;exact Qi (v:=jA 0) (by simp[results,results290,go_sem]) rfl ⟨by rw[a.out],by rw[a.out];exact f.out⟩
  have d1:decide (N<33)=false:=Qq x;rw[Qe x]at a
  by_cases E:126<N
  ·have d2:decide (126<N)=true:=Qu E
   rw[Qg E]at a;clear x E i y c;have j:=hIx (k.out w1 h1);clear h1 k;go_wp2_with (go_at_call 138;apply Hid.out);unfold Hid;refine(j.out).mono ?_;rintro e wf ⟨rfl,t⟩;have f:=hIx (RdEnd.trans D.out t);clear t;go_wp2;exact Qi (v:=jA 0) (by simp[results,results290,go_sem]) rfl ⟨by rw[a.out],by rw[a.out];exact f.out⟩
  have d2:decide (126<N)=false:=Qq E;rw[Qe E,c.out N]at a;have P:=i (by omega);have i8:IntKind.u8.wrap N=N:=by rw[show IntKind.u8.wrap N=N % 256 from rfl];omega
  have m:=hIx (y.out N);generalize Lib.indexByte ztH N.toNat.toUInt8=K at *;clear y c x E i;go_wp2_with (go_at_call 122;apply Hid.out);unfold Hid;refine(m.out w1).mono ?_;rintro e w2 ⟨rfl,rfl⟩
  by_cases z:0<=K
  ·have B:decide (0<=K)=true:=Qu z
   rw[B,Qg rfl]at a;clear z m;have j:=hIx (k.out w2 h1);clear h1 k;go_wp2_with (go_at_call 138;apply Hid.out);unfold Hid;refine(j.out).mono ?_;rintro e wf ⟨rfl,t⟩;have f:=hIx (RdEnd.trans D.out t);clear t;go_wp2;exact Qi (v:=jA 0) (by simp[results,results290,go_sem]) rfl ⟨by rw[a.out],by rw[a.out];exact f.out⟩
  ·have B:decide (0<=K)=false:=Qq z
   rw[B,Qe (by decide)]at a;have i7:IntKind.i64.wrap ((r.pos:Int)+1)=((r.pos+1:Nat):Int):=Qx _ (by omega);clear z m k;have ⟨c0,c1,c2,c3⟩:=h1.cells;have A:=h1.free 1;have f:Hid (RdEnd g s {r with pos:=r.pos+1} w (w2.setCell ⟨g,1,none⟩ (jA ((r.pos+1:Nat):Int)))):=⟨h1.setPos _,zak D.out 1 _⟩
   clear h1;go_wp2;exact Qi (v:=jA N) (by simp[results,results290,go_sem]) rfl ⟨by rw[a.out],by rw[a.out];exact f.out⟩
 ·have P:=i (by omega)
  have a:Hid (R=escR s.data.toList {r with pos:=r.pos+1}):=by unfold Hid;rw[X.out,Qg Q]
  subst Q;have i7:IntKind.i64.wrap ((r.pos:Int)+1)=((r.pos+1:Nat):Int):=Qx _ (by omega);have ⟨c0,c1,c2,c3⟩:=h1.cells;have A:=h1.free 1;have h2:=h1.setPos (r.pos+1);have F:=zak D.out 1 (jA ((r.pos+1:Nat):Int));have ha:({r with pos:=r.pos+1}:RS).pos<=s.size:=P;generalize hq:({r with pos:=r.pos+1}:RS)=q at *;have I:=hIx (zex g s q _ h2 ha);have hd:=zdo (s:=s.data.toList) (r:=q);have d:0<=zad s.data.toList q->q.pos<s.size:=λh=>by have:=(zaO rfl h).1;omega
  have U:Hid (escR s.data.toList q=if zad s.data.toList q=110 then (10,{q with pos:=q.pos+1})
   else if zad s.data.toList q=116 then (9,{q with pos:=q.pos+1})
   else if zad s.data.toList q=114 then (13,{q with pos:=q.pos+1})
   else if zad s.data.toList q=120 then ((zaM s.data.toList {q with pos:=q.pos+1}).1*16+(zaM s.data.toList (zaM s.data.toList {q with pos:=q.pos+1}).2).1,(zaM s.data.toList (zaM s.data.toList {q with pos:=q.pos+1}).2).2)
   else if zad s.data.toList q<0 then (0,zaF q 3)else if zfE (zad s.data.toList q)=true then (zad s.data.toList q,{q with pos:=q.pos+1})else (0,zaF q 3)):=rfl
  have T:=a;clear a
  have a:Hid (R=if zad s.data.toList q=110 then (10,{q with pos:=q.pos+1})
   else if zad s.data.toList q=116 then (9,{q with pos:=q.pos+1})
   else if zad s.data.toList q=114 then (13,{q with pos:=q.pos+1})
   else if zad s.data.toList q=120 then ((zaM s.data.toList {q with pos:=q.pos+1}).1*16+(zaM s.data.toList (zaM s.data.toList {q with pos:=q.pos+1}).2).1,(zaM s.data.toList (zaM s.data.toList {q with pos:=q.pos+1}).2).2)
   else if zad s.data.toList q<0 then (0,zaF q 3)else if zfE (zad s.data.toList q)=true then (zad s.data.toList q,{q with pos:=q.pos+1})else (0,zaF q 3)):=by unfold Hid;rw[T.out,U.out]
  have k:Hid (∀W,RdAt g s q W->Calls prog 138 #[.pointer g,jA 3] W λe w'=>e=jC (.tuple #[])/\RdEnd g s (zaF q 3) W w'):=λW h=>zc9 g s q 3 W h
  generalize zad s.data.toList q=M at *;have i9:IntKind.i64.wrap ((q.pos:Int)+1)=((q.pos+1:Nat):Int):=Qx _ (by omega);have H:=hIx F;clear X T U h8 i h1 h2 F hq D;go_wp2_with (go_at_call 218;apply Hid.out);unfold Hid;refine(I.out).mono ?_;rintro e w2 ⟨rfl,b,L⟩;have l:=hIx (zax H.out L);clear I L H c0 c1 c2 c3 A
  by_cases n:M=110
  ·subst n
   rw[Qg rfl]at a;clear y c k;have ⟨c0,c1,c2,c3⟩:=b.cells;have A:=b.free 1;have f:Hid (RdEnd g s {q with pos:=q.pos+1} w (w2.setCell ⟨g,1,none⟩ (jA ((q.pos+1:Nat):Int)))):=⟨b.setPos _,zak l.out 1 _⟩
   clear b;go_wp2;exact Qi (v:=jA 10) (by simp[results,results290,go_sem]) rfl ⟨by rw[a.out],by rw[a.out];exact f.out⟩
  have he:(M==110)=false:=Qb.2 n;rw[Qe n]at a;clear n
  by_cases p:M=116
  ·subst p
   rw[Qg rfl]at a;clear y c k;have ⟨c0,c1,c2,c3⟩:=b.cells;have A:=b.free 1;have f:Hid (RdEnd g s {q with pos:=q.pos+1} w (w2.setCell ⟨g,1,none⟩ (jA ((q.pos+1:Nat):Int)))):=⟨b.setPos _,zak l.out 1 _⟩
   clear b;go_wp2;exact Qi (v:=jA 9) (by simp[results,results290,go_sem]) rfl ⟨by rw[a.out],by rw[a.out];exact f.out⟩
  have hh:(M==116)=false:=Qb.2 p;rw[Qe p]at a;clear p
  by_cases o:M=114
  ·subst o
   rw[Qg rfl]at a;clear y c k;have ⟨c0,c1,c2,c3⟩:=b.cells;have A:=b.free 1;have f:Hid (RdEnd g s {q with pos:=q.pos+1} w (w2.setCell ⟨g,1,none⟩ (jA ((q.pos+1:Nat):Int)))):=⟨b.setPos _,zak l.out 1 _⟩
   clear b;go_wp2;exact Qi (v:=jA 13) (by simp[results,results290,go_sem]) rfl ⟨by rw[a.out],by rw[a.out];exact f.out⟩
  have hg:(M==114)=false:=Qb.2 o;rw[Qe o]at a;clear o
  by_cases u:M=120
  ·subst u
   rw[Qg rfl]at a;have Y:=d (by omega);have ⟨c0,c1,c2,c3⟩:=b.cells;have A:=b.free 1;have h4:=b.setPos (q.pos+1);have V:=zak l.out 1 (jA ((q.pos+1:Nat):Int));have h0:=zqb (s:=s.data.toList) (r:={q with pos:=q.pos+1}) (by show q.pos+1<=_;omega);have HG:=hIx (zjV g s {q with pos:=q.pos+1} _ h4 (by show q.pos+1<=_;omega) hs);have C:Hid (∀W,RdAt g s (zaM s.data.toList {q with pos:=q.pos+1}).2 W->Calls prog 307 #[.pointer g] W λe w'=>e=jC (jA (zaM s.data.toList (zaM s.data.toList {q with pos:=q.pos+1}).2).1)/\RdEnd g s (zaM s.data.toList (zaM s.data.toList {q with pos:=q.pos+1}).2).2 W w'):=λW h=>zjV g s _ W h (by omega) hs
   have h9:=zjO (s:=s.data.toList) (r:={q with pos:=q.pos+1});have h7:=zjO (s:=s.data.toList) (r:=(zaM s.data.toList {q with pos:=q.pos+1}).2);generalize zaM s.data.toList (zaM s.data.toList {q with pos:=q.pos+1}).2=D2 at *;generalize zaM s.data.toList {q with pos:=q.pos+1}=D1 at *;obtain⟨O,r1⟩:=D1;obtain⟨Z,r2⟩:=D2;dsimp only at a HG C h9 h7;have hm:IntKind.i64.wrap (O*16)=O*16:=Qx _ (by omega);have hi:IntKind.i64.wrap (O*16+Z)=O*16+Z:=Qx _ (by omega);have S:=hIx V;clear b h4 V y c k d h0 l;go_wp2_with (go_at_call 307;apply Hid.out);unfold Hid;refine(HG.out).mono ?_;rintro e w3 ⟨rfl,h5,G⟩;have J:=hIx (zax S.out G);clear G HG S c0 c1 c2 c3 A;go_wp2_with (go_at_call 307;apply Hid.out);unfold Hid;refine(C.out w3 h5).mono ?_;rintro e w4 ⟨rfl,h6⟩;have f:=hIx (RdEnd.trans J.out h6);clear h5 h6 J C;go_wp2;exact Qi (v:=jA (O*16+Z)) (by simp[results,results290,go_sem]) rfl ⟨by rw[a.out],by rw[a.out];exact f.out⟩
  have hc:(M==120)=false:=Qb.2 u;rw[Qe u]at a;clear u
  by_cases x:M<0
  ·have d1:decide (0<=M)=false:=Qq (by omega)
   rw[Qg x]at a;clear x d y c;have j:=hIx (k.out w2 b);clear b k;go_wp2_with (go_at_call 138;apply Hid.out);unfold Hid;refine(j.out).mono ?_;rintro e wf ⟨rfl,t⟩;have f:=hIx (RdEnd.trans l.out t);clear t;go_wp2;exact Qi (v:=jA 0) (by simp[results,results290,go_sem]) rfl ⟨by rw[a.out],by rw[a.out];exact f.out⟩
  have d1:decide (0<=M)=true:=Qu (by omega);rw[Qe x,c.out M]at a;have Y:=d (by omega);have i8:IntKind.u8.wrap M=M:=by rw[show IntKind.u8.wrap M=M % 256 from rfl];omega
  have m:=hIx (y.out M);generalize Lib.indexByte ztH M.toNat.toUInt8=K at *;clear y c x d;go_wp2_with (go_at_call 122;apply Hid.out);unfold Hid;refine(m.out w2).mono ?_;rintro e w3 ⟨rfl,rfl⟩
  by_cases z:0<=K
  ·have B:decide (0<=K)=true:=Qu z
   rw[B,Qg rfl]at a;clear z m k;have ⟨c0,c1,c2,c3⟩:=b.cells;have A:=b.free 1;have f:Hid (RdEnd g s {q with pos:=q.pos+1} w (w3.setCell ⟨g,1,none⟩ (jA ((q.pos+1:Nat):Int)))):=⟨b.setPos _,zak l.out 1 _⟩
   clear b;go_wp2;exact Qi (v:=jA M) (by simp[results,results290,go_sem]) rfl ⟨by rw[a.out],by rw[a.out];exact f.out⟩
  ·have B:decide (0<=K)=false:=Qq z
   rw[B,Qe (by decide)]at a;clear z m;have j:=hIx (k.out w3 b);clear b k;go_wp2_with (go_at_call 138;apply Hid.out);unfold Hid;refine(j.out).mono ?_;rintro e wf ⟨rfl,t⟩;have f:=hIx (RdEnd.trans l.out t);clear t;go_wp2;exact Qi (v:=jA 0) (by simp[results,results290,go_sem]) rfl ⟨by rw[a.out],by rw[a.out];exact f.out⟩
