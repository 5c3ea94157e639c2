/- Lemmas for the last texts. -/
import Derived.Test.YtfhaojhofiocaaaGreatDoorM15
set_option maxHeartbeats 6400000
set_option maxRecDepth 100000
namespace Go.Proofs.YtfhaojhofiocaaaGreatDoor
open Go.RowKit Go.Proofs.Tryz
def vfP(m t b:ByteArray)(f:List zas)(d:Nat)(e:Int)(c a:List Pair)(v:VarV):List Pair:=valP v.k v.n m t b f d e c a
theorem ziY(a:List zas):(zbf a).length=a.length:=by unfold zbf;rw[Qk]
theorem znE(l:List Pair)(a:ByteArray):(zfa l a).length<=l.length:=Zh _ _
theorem zr0{m t b:ByteArray}{h:List zas}{u:Nat}{y:Int}{c a:List Pair}(g:znj t h c a u y)(v:VarV):(vfP m t b h u y c a v).length<=4194304:=by
 have h1:=znE c v.n;have h2:=znE a v.n;have A:=znE (zbf h) v.n;rw[ziY]at A;have B:=g.zf;have C:=g.zl;have D:=g.zk;have one:∀x,(oneV x).length<=4194304:=λx=>by show 1<=4194304;omega
 unfold vfP valP
 by_cases i:v.k=1
 ·rw[Qj i];exact one _
 rw[Qf i]
 by_cases w:v.k=2
 ·rw[Qj w];exact one _
 rw[Qf w]
 by_cases q:v.k=3
 ·rw[Qj q];exact one _
 rw[Qf q]
 by_cases z:v.k=4
 ·rw[Qj z];exact one _
 rw[Qf z]
 by_cases r:v.k=5
 ·rw[Qj r];exact one _
 rw[Qf r]
 by_cases s:v.k=6
 ·rw[Qj s];omega
 rw[Qf s]
 by_cases l:v.k=7
 ·rw[Qj l];unfold zgj;rw[Qk];omega
 rw[Qf l]
 by_cases j:v.k=8
 ·rw[Qj j];omega
 rw[Qf j]
 by_cases o:v.k=9
 ·rw[Qj o];unfold zgj;rw[Qk,ziY];omega
 rw[Qf o]
 by_cases d:v.k=10
 ·rw[Qj d];omega
 rw[Qf d]
 by_cases e:v.k=11
 ·rw[Qj e];exact one _
 rw[Qf e]
 by_cases f:v.k=12
 ·rw[Qj f];exact one _
 rw[Qf f];exact Qn _
def zzk(a:VarV->List Pair)(l:List VarV)(B:Nat)(b:World)(v i:Value)(wr:World):Prop:=
 ∃k:Nat,k<=l.length/\i=jA k/\OwnA wr B v (allP a l (l.take k))/\Below B b wr
def zy3(l:List VarV)(x:VarV)(a:List Pair)(b:World)(v i:Value)(wr:World):Prop:=
 ∃j:Nat,j<=a.length/\i=jA j/\OwnA wr b.heap.size v (zdP l x (a.take j))/\b wr
theorem zxq(l:List VarV)(A0:Option Addr)(c0:Nat)(m t b:ByteArray)(H:List zas)(A:Option Addr)(c:Nat)(cl:Nat)(sc:Int)(f:List Pair)(Al:Option Addr)(c1:Nat)(d:List Pair)(Ac:Option Addr)(c2:Nat)(w:World)
 (hv:Sl w w.heap.size 3 A0 l.length (l.flatMap zb5)) (hG:ValIn m t b H A f Al d Ac w) (hz:znj t H f d cl sc) (hl:l.length<=4194304) (u:(allP (vfP m t b H cl sc f d) l l).length<=4398046511104):
 Calls prog 189 #[.slice A0 l.length c0,.agg #[.string m,.string t,.slice A H.length c,.string b],.int .u32 (cl:Int),jA sc,.slice Al f.length c1,.slice Ac d.length c2] w (RowA (allP (vfP m t b H cl sc f d) l l) w):=by
 have hs:∀W,Below (w.heap.size+1) (w.alloc (.cells #[.string m,.string t,.slice A H.length c,.string b] 53)) W->(W.cell? w.heap.size=some (.string m)/\W.cell? ⟨w.heap.size,1,none⟩=some (.string t)/\W.cell? ⟨w.heap.size,2,none⟩=some (.slice A H.length c)/\W.cell? ⟨w.heap.size,3,none⟩=some (.string b))/\w W/\ValIn m t b H A f Al d Ac W/\Sl W W.heap.size 3 A0 l.length (l.flatMap zb5):=λW hb=>by
  obtain⟨h1,h2⟩:=zbB hb;exact⟨⟨h1 0,h1 1,h1 2,h1 3⟩,h2,hG.below h2,(hv.below h2).more h2.size⟩
 have O:=hIx hs;obtain⟨W0,h5⟩:∃W0,w.alloc (.cells #[.string m,.string t,.slice A H.length c,.string b] 53)=W0:=⟨_,rfl⟩
 have U:w.heap.size+1<=W0.heap.size:=by rw[<-h5];simp
 rw[h5]at O;have g4:=hIx h5
 have hH:Hid (∀(v:VarV) (W:World),Below (w.heap.size+1) W0 W->Calls prog 208 #[.agg #[jA v.k,jA v.m,.string v.n],.agg #[.string m,.string t,.slice A H.length c,.string b],.int .u32 (cl:Int),jA sc,.slice Al f.length c1,.slice Ac d.length c2] W (RowA (vfP m t b H cl sc f d v) W)):=λv W h=>
  zpq v.k v.m v.n m t b H A c cl sc f Al c1 d Ac c2 W (O.out W h).2.2.1 hz
 have g6:Hid (∀v,(vfP m t b H cl sc f d v).length<=4194304):=λv=>zr0 hz v
 generalize vfP m t b H cl sc f d=C at *;have hE:=hIx u;have hQ:=λk h=>hIx (zq3 C l l k h)
 have g5:=λk=>hIx (zx0 C l l k)
 have g3:=hIx hl;have hr:Hid (∀(n:Nat) (W:World),n<=4194304->Below (w.heap.size+1) W0 W->Calls prog 31 #[jA (n:Int)] W λe w'=>e=jC (.string (bs (Lib.itoa (n:Int))))/\W w'):=λn W hn h=>zoy (n:Int) W (by omega) (by omega) (O.out W h).2.2.1.tab
 clear hs h5 hG hz hv u hl
 go_in
 go_upto_region 1 with fail
 rw[g4.out];go_wp2
 go_loopw [13,21] (λv i wr=>zzk C l (w.heap.size+1) W0 v i wr) (λ_ i _=>l.length-(intOf i).toNat)
 case atStart=>exact⟨0,Qn _,rfl,OwnA.nil _ _,Qi _ _⟩
 case round=>
  obtain⟨k,hk,rfl,hO,hb⟩:=hrel;have hD:w.heap.size+1<=wr.heap.size:=Ql U hb.size;have ⟨⟨b0,b1,b2,b3⟩,h4,hI,z⟩:=O.out wr hb;have gc:w.heap.size<wr.heap.size:=hD;obtain⟨Ao,co,rfl,_⟩:=hO.form;have HO:=hIx hO;have HB:=hIx hb;have gf:=g3.out
  by_cases ho:k<l.length
  ·have d1:decide ((k:Int)<(l.length:Int))=true:=by simp;omega
   have i7:IntKind.i64.wrap ((k:Int)+1)=(k:Int)+1:=Qz _ (by omega);obtain⟨bb,gd,rfl,ga,x0,x1,x2⟩:=zyV z k ho;have h6:=hQ k ho;have I:=(g5 (k+1)).out;rw[h6.out,Qb]at I;have u:=hE.out;have hU:Hid ((allP C l (l.take k)).length+(zf3 l l[k] (C l[k])).length<=4398046511104):=Ql I u;generalize l[k]=X at *;have hK:=hIx (hH.out X);have hY:=hIx (g6.out X);generalize C X=a at *;obtain⟨q,o,r⟩:=X;dsimp only at *;have s:Below (w.heap.size+1) wr (wr.alloc (.cells #[jA q,jA o,.string r] 62)):=(Qi _ _).alloc hD _;have h0:=hb.trans s;have V:=hO.below ((Qi wr.heap.size wr).alloc (Qd _) (.cells #[jA q,jA o,.string r] 62));cases q2:(o==2)with
   |true=>
    have Z:o=2:=by simpa using q2
    have HE:Hid (allP C l (l.take (k+1))=allP C l (l.take k)):=by unfold Hid;rw[h6.out];unfold zf3;rw[Qj Z,QO]
    have h9:=hIx V;have K:=hIx h0;clear Z hO hb h4 hI z b0 b1 b2 b3 I u s h0 V;go_wp2;exact⟨⟨k+1,by omega,rfl,by rw[HE.out];exact h9.out,K.out⟩,by dsimp only[intOf];omega⟩
   |false=>
    have Z:o≠2:=by simpa using q2
    have K:=hIx h0;have h9:=hIx V;have hg:wr.heap.size+1<=(wr.alloc (.cells #[jA q,jA o,.string r] 62)).heap.size:=by simp
    have E:=λW h=>zbB (w:=wr) (W':=W) (cs:=#[jA q,jA o,.string r]) (t:=62) h
    have g2:=hIx E;clear hO hb h4 hI I u s h0 V E;go_wp2_with fail;refine(hK.out _ K.out).mono ?_;rintro e w2 ⟨v2,rfl,hi,Y⟩;obtain⟨A2,d2,rfl,hh⟩:=hi.form;have hw:Hid (Below (wr.heap.size+1) (wr.alloc (.cells #[jA q,jA o,.string r] 62)) w2):=Y.mono hg;have h8:Hid (Below (w.heap.size+1) W0 w2):=K.out.trans (Y.mono (Ql U K.out.size));have hR:Hid (OwnA w2 (w.heap.size+1) (.slice Ao (allP C l (l.take k)).length co) (allP C l (l.take k))):=h9.out.below Y;have hP:Hid (∀W,w2 W->Sl W W.heap.size 2 A2 a.length (a.flatMap za6)):=λW h=>(hh.below h).more h.size
    clear Y hi hh x0 x1 x2 b0 b1 b2 b3 z;obtain⟨wo,rfl⟩:∃wo:World,wo=wr:=⟨_,rfl⟩
    go_wp2
    go_loopw [16,36] (λv i wr=>zy3 l ⟨q,o,r⟩ a w2 v i wr) (λ_ i _=>a.length-(intOf i).toNat)
    case atStart=>exact⟨0,Qn _,rfl,OwnA.nil _ _,Qi _ _⟩
    case round=>
     obtain⟨j,hj,rfl,F,y⟩:=hrel;have g:=h8.out.trans (y.mono (Ql U h8.out.size));have ⟨_,_,_,z⟩:=O.out wr g;have ⟨E,_⟩:=g2.out wr (hw.out.trans (y.mono (Ql hg hw.out.size)));have v0:wr.cell? ⟨wo.heap.size,0,none⟩=some (jA q):=E 0;have v1:wr.cell? ⟨wo.heap.size,1,none⟩=some (jA o):=E 1;have T:=hR.out.below y;have g1:w2.heap.size<=wr.heap.size:=y.size;have gg:=hY.out;have hW:=zvZ l ⟨q,o,r⟩ a j;obtain⟨Ai,ci,rfl,_⟩:=F.form
     by_cases h7:j<a.length
     ·have dj:decide ((j:Int)<(a.length:Int))=true:=by simp;omega
      have i9:IntKind.i64.wrap ((j:Int)+1)=(j:Int)+1:=Qz _ (by omega);obtain⟨b',g9,rfl,_,y0,y1⟩:=zpa (hP.out wr y) j h7;have hA:=hIx (zpv l ⟨q,o,r⟩ a j h7);generalize a[j]=x at *;obtain⟨n1,n2⟩:=x;dsimp only at y0 y1;have s:wr (wr.alloc (.cells #[.string n1,.string n2] 279)):=WaL;have hC:=zxF l ⟨q,o,r⟩ (n1,n2) _ c0 wo.heap.size wr.heap.size (wr.alloc (.cells #[.string n1,.string n2] 279)) ((z.below s).more s.size) (by omega) (zaa s v0) (zar (Qi _ _) 0);have hB:=F.below s;have hy:=y.trans (s.mono g1);have hZ:Hid (∀W,Below (wr.alloc (.cells #[.string n1,.string n2] 279)).heap.size (wr.alloc (.cells #[.string n1,.string n2] 279)) W->W.cell? ⟨wr.heap.size,0,none⟩=some (.string n1)/\W.cell? ⟨wr.heap.size,1,none⟩=some (.string n2)):=λW h=>⟨zar h 0,zar h 1⟩
      have HC:=hIx hC;have hF:=hIx hB;have h3:=hIx hy;clear s hC hB hy F y g z E v0 v1 T;cases hq:exP l ⟨q,o,r⟩ (n1,n2)with
      |true=>
       have hc:Hid (zdP l ⟨q,o,r⟩ (a.take (j+1))=zdP l ⟨q,o,r⟩ (a.take j)):=by unfold Hid;rw[hA.out,Qj hq,QO]
       rw[hq]at HC;clear hq;go_wp2_with (go_at_call 209;(with_reducible refine HC.out.mono ?_);rintro e w4 ⟨rfl,B⟩);exact⟨⟨j+1,by omega,rfl,by rw[hc.out];exact hF.out.below B,h3.out.trans (B.mono h3.out.size)⟩,by dsimp only[intOf];omega⟩
      |false=>
       have hc:Hid (zdP l ⟨q,o,r⟩ (a.take (j+1))=zdP l ⟨q,o,r⟩ (a.take j)++[(n1,n2)]):=by unfold Hid;rw[hA.out,Qf (by rw[hq];decide)]
       rw[hq]at HC;clear hq;generalize zdP l ⟨q,o,r⟩ (a.take j)=D at *
       go_wp2_with (first
        |(go_at_call 209;(with_reducible refine HC.out.mono ?_);rintro e w4 ⟨rfl,B⟩;have hX:=hF.out.below B;have hu:=h3.out.trans (B.mono h3.out.size);have g7:w2.heap.size<=w4.heap.size:=hu.size;have ⟨a0,a1⟩:=hZ.out w4 B)
        |(at_builtin;refine za2 rfl (.tmp 44) (.tmp 46) rfl w2.heap.size (.slice Ai D.length ci) D rfl (by exact hX) (by exact g7) _ (n1,n2) rfl w4.heap.size rfl 1 rfl (by omega) ?_;intro v5 w5 Q hf ge ht))
       exact⟨⟨j+1,by omega,rfl,by rw[hc.out];exact Q,hu.trans hf⟩,by dsimp only[intOf];omega⟩
     ·obtain rfl:j=a.length:=by omega
      have dj:decide ((a.length:Int)<(a.length:Int))=false:=by simp
      rw[Q0]at F hW ⊢;have hJ:=hIx T;have hx:=hIx g;have ha:w.heap.size+1<=wr.heap.size:=Ql U g.size;have J:=hU.out;cases q1:(o==1)with
      |true=>
       have G:o=1:=by simpa using q1
       have HE:Hid (allP C l (l.take (k+1))=allP C l (l.take k)++oneV (bs (Lib.itoa ((zdP l ⟨q,o,r⟩ a).length:Int)))):=by unfold Hid;rw[h6.out];unfold zf3;rw[Qf Z,Qj G]
       have N:zf3 l ⟨q,o,r⟩ a=oneV (bs (Lib.itoa ((zdP l ⟨q,o,r⟩ a).length:Int))):=by unfold zf3;rw[Qf Z,Qj G]
       rw[N]at J;have J:(allP C l (l.take k)).length+1<=4398046511104:=J;clear Z G N;generalize zdP l ⟨q,o,r⟩ a=L at *;have hT:=hIx (hr.out L.length wr (by omega) g);generalize bs (Lib.itoa (L.length:Int))=S at *;generalize allP C l (l.take k)=D at *;clear F y g z E T
       go_wp2_with (first
        |(go_at_call 31;(with_reducible refine hT.out.mono ?_);rintro e w4 ⟨rfl,B⟩)
        |(go_at_call 211;(with_reducible refine(zdc S w4).mono ?_);rintro e w5 ⟨v5,rfl,Q,hf⟩;have P:=B.trans (hf.mono B.size);have hp:=hJ.out.below P;have g0:=hx.out.trans (P.mono ha);have ht:w.heap.size+1<=w5.heap.size:=Ql ha P.size;obtain⟨A5,c5,rfl,_⟩:=Q.form)
        |(at_builtin;refine zcC rfl (.tmp 56) (.tmp 57) rfl (w.heap.size+1) w4.heap.size (.slice Ao D.length co) (.slice A5 (oneV S).length c5) D (oneV S) rfl rfl (by exact hp) (by exact Q) (by exact ht) (by exact J) ?_;intro v6 w6 he hd hV hN))
       exact⟨⟨k+1,by omega,rfl,by rw[HE.out];exact he,g0.trans hd⟩,by dsimp only[intOf];omega⟩
      |false=>
       have G:o≠1:=by simpa using q1
       have HE:Hid (allP C l (l.take (k+1))=allP C l (l.take k)++zdP l ⟨q,o,r⟩ a):=by unfold Hid;rw[h6.out];unfold zf3;rw[Qf Z,Qf G]
       have N:zf3 l ⟨q,o,r⟩ a=zdP l ⟨q,o,r⟩ a:=by unfold zf3;rw[Qf Z,Qf G]
       rw[N]at J;clear Z G N;generalize zdP l ⟨q,o,r⟩ a=L at *;generalize allP C l (l.take k)=D at *;have hS:=hIx F;clear F y g z E T;go_wp2_with (at_builtin;refine zcC rfl (.tmp 56) (.tmp 57) rfl (w.heap.size+1) w2.heap.size (.slice Ao D.length co) (.slice Ai L.length ci) D L rfl rfl (by exact hJ.out) (by exact hS.out) (by exact ha) (by exact J) ?_;intro v6 w6 he hd hV hN);exact⟨⟨k+1,by omega,rfl,by rw[HE.out];exact he,hx.out.trans hd⟩,by dsimp only[intOf];omega⟩
  ·obtain rfl:k=l.length:=by omega
   have d1:decide ((l.length:Int)<(l.length:Int))=false:=by simp
   rw[Q0]at hO;have g8:=hIx h4;have hL:=hIx (hO.low (Zd w.heap.size));clear hO hb h4 hI z b0 b1 b2 b3;go_wp2_with fail;rw[Q0];go_ret;exact⟨_,rfl,hL.out,g8.out⟩
def okK(k:Int):Bool:=!(decide (k<1)||decide (11<k))
theorem zsl(k:Int):okK k=true↔1<=k/\k<=11:=by unfold okK;simp
def zbu(l:List Int):Int:=if 8<l.length then 2 else if l.all okK=true then 0 else 1
theorem zrI{l:List Int}:zbu l=0↔l.length<=8/\∀x∈l,1<=x/\x<=11:=by
 unfold zbu
 by_cases h:8<l.length
 ·rw[Qj h]
  exact⟨λe=>absurd e (by decide),λe=>by omega⟩
 ·rw[Qf h]
  by_cases h2:l.all okK=true
  ·rw[Qj h2]
   exact⟨λ_=>⟨by omega,λx a=>(zsl x).1 (Zv.1 h2 x a)⟩,λ_=>rfl⟩
  ·rw[Qf h2]
   exact⟨λe=>absurd e (by decide),λe=>absurd (Zv.2 λx a=>(zsl x).2 (e.2 x a)) h2⟩
def OwnK(w:World)(base:Nat)(v:Value)(l:List Int):Prop:=w.ownsRow base 3 1 v l.length (l.map (Value.int .i64))
theorem OwnK.below{w w':World}{base:Nat}{v:Value}{l:List Int}(h:OwnK w base v l)(hb:w w'):OwnK w' base v l:=zaM h hb
theorem OwnK.low{w:World}{base b:Nat}{v:Value}{l:List Int}(h:OwnK w base v l)(hb:b<=base):OwnK w b v l:=
 ⟨h.1,h.2.imp_right λ⟨g,cap,a,h1,h2,c⟩=>⟨g,cap,a,h1,Ql hb h2,c⟩⟩
theorem OwnK.form{w:World}{base:Nat}{v:Value}{l:List Int}(h:OwnK w base v l):∃A c,v=.slice A l.length c/\l.length<=c/\Sl w w.heap.size 1 A l.length (l.map (Value.int .i64)):=by
 rcases h.2 with ⟨h1,h2⟩|⟨g,cap,b,h1,hb,e,a,_⟩
 ·have:l=[]:=QA h2
  subst this;exact⟨none,0,h1,Qd _,Sl.nil _ _ _ _⟩
 ·refine⟨_,_,h1,a,by simp,λf=>⟨g,0,rfl,?_,λj d=>?_⟩⟩
  ·exact((QE h g (by rw[h1];simp[Value.ownBlock])).2)
  ·have:=Zq (g:=g) h (by rw[h1];simp[Value.ownBlock]) j _ (Qe d)
   rw[zbd]at this;rw[Ze];exact this
theorem zp3(k:Int)(w:World):Calls prog 44 #[jA k] w (zaC (!okK k) w):=by
 have a:Hid ((!okK k)=(decide (k<1)||decide (11<k))):=by unfold Hid okK;rw[Bool.not_not]
 by_cases c1:k<1
 ·have b:decide (k<1)=true:=Qx c1
  rw[b]at a
  go_in
  go_wp2;go_ret;exact⟨by rw[a.out];rfl,Qi _ _⟩
 ·have b:decide (k<1)=false:=Qt c1
  rw[b]at a
  by_cases c2:11<k
  have c:decide (11<k)=true:=Qx c2
  rotate_left
  have c:decide (11<k)=false:=Qt c2
  all_goals
   rw[c]at a
   go_in
   go_wp2;go_ret;exact⟨by rw[a.out];rfl,Qi _ _⟩
theorem ziV(l:List Int)(A:Option Addr)(c:Nat)(w:World)(h:Sl w w.heap.size 1 A l.length (l.map (Value.int .i64)))(hl:l.length<=4194304):
 Calls prog 35 #[.slice A l.length c] w λe w'=>e=jC (jA (zbu l))/\w w':=by
 have d:=hIx ((zjO 44 #[] (enters_of func44 (by kernel_rfl) rfl) A l.length c (l.map (Value.int .i64)) (λj=>jA (l.getD j 0)) (λj=>!okK (l.getD j 0)) w h (by omega)
  (λj q=>by rw[ZP,Qr,Qe q];rfl) (λW j _ _=>zp3 _ W)))
 rw[zd2 (λk=>!okK k) l 0]at d
 by_cases i:8<l.length
 ·have b:Hid (zbu l=2):=by unfold Hid zbu;rw[Qj i]
  have o:decide (8<(l.length:Int))=true:=by simp;omega
  rw[b.out]
  go_in
  go_wp2;go_ret;exact⟨rfl,Qi _ _⟩
 ·have o:decide (8<(l.length:Int))=false:=by simp;omega
  have b:Hid (zbu l=if l.any (λk=>!okK k)=true then 1 else 0):=by
   unfold Hid zbu;rw[Qf i];cases g:l.any (λk=>!okK k)with
   |true=>
    rw[Qf,Qj rfl];intro e;obtain⟨x,f,a⟩:=List.any_eq_true.1 g;rw[Zv.1 e x f]at a;cases a
   |false=>
    rw[Qj,Qf (by decide)];rw[Zv];intro x f;have:=List.any_eq_false.1 g x f
    simpa using this
  rw[b.out];clear b;generalize l.any (λk=>!okK k)=n at *;cases n with
  |true=>
   rw[Qj rfl]
   go_in
   go_wp2_with fail;refine d.out.mono ?_;rintro e m ⟨rfl,hb⟩;go_wp2;go_ret;exact⟨rfl,hb⟩
  |false=>
   rw[Qf (by decide)]
   go_in
   go_wp2_with fail;refine d.out.mono ?_;rintro e m ⟨rfl,hb⟩;go_wp2;go_ret;exact⟨rfl,hb⟩
def zjW(o:Option Int)(e:Nat):UInt8 × Nat:=match o with
 |some n=>if 255<n then (0,0)else (UInt8.ofNat n.toNat,e+1)
 |none=>(0,0)
def zgG(l:jE)(e:Nat):UInt8 × Nat:=
 if Lib.hasPrefix ((l.take e).drop 2) [120]=true then (if ((l.take e).drop 2).length<=3 then zjW (numL 16 7 (((l.take e).drop 2).drop 1)) e else (0,0))
 else if ((l.take e).drop 2).length<=3 then zjW (numL 10 9 ((l.take e).drop 2)) e else (0,0)
def entL(l:jE):UInt8 × Nat:=
 if Lib.hasPrefix l [38,108,116,59]=true then (60,4)else if Lib.hasPrefix l [38,103,116,59]=true then (62,4)else if Lib.hasPrefix l [38,97,109,112,59]=true then (38,5)
 else if Lib.hasPrefix l [38,113,117,111,116,59]=true then (34,6)else if Lib.indexByte (l.take 7) 59<0\/Lib.hasPrefix l [38,35]=false then (0,0)else zgG l (Lib.indexByte (l.take 7) 59).toNat
def zcp(b:UInt8)(r:jE):jE × Nat:=
 if b=38/\0<(entL (38::r)).2 then ([(entL (38::r)).1],(entL (38::r)).2-1)else ([b],0)
def zco(l:jE):jE:=scan zcp l
theorem zgI(base:Int)(hb:2<=base/\base<=16):∀(l:jE) (n r:Int),0<=n->zcb base l n=some r->0<=r
 | [],n,r,a,h=>by cases h;exact a
 |b::l,n,r,a,h=>by
  unfold zcb at h
  split at h
  ·cases h
  ·rename_i d
   have c:0<=n*base:=Int.mul_nonneg a (by omega);exact zgI base hb l _ r (by omega) h
theorem zii(base:Int)(most:Nat)(hb:2<=base/\base<=16)(l:jE)(r:Int)(h:numL base most l=some r):0<=r:=by
 unfold numL at h
 split at h
 ·cases h
 ·exact zgI base hb l 0 r (ZB 0) h
theorem zb7{l p:jE}(h:Lib.hasPrefix l p=true):p.length<=l.length:=by
 unfold Lib.hasPrefix at h;obtain⟨t,rfl⟩:=Zg.1 h;simp
theorem zf4{l:jE}{c:UInt8}{n:Nat}(h:0<=Lib.indexByte (l.take n) c):(Lib.indexByte (l.take n) c).toNat<n/\(Lib.indexByte (l.take n) c).toNat<l.length/\l[(Lib.indexByte (l.take n) c).toNat]? = some c:=by
 obtain⟨k,a⟩:=Zs h;obtain⟨h1,_⟩:=Lib.indexByte_some a;rw[a,Q9];have h2:=(Qy.1 h1).1;rw[QK]at h2;rw[List.getElem?_take,Qj (by omega)]at h1;exact⟨by omega,by omega,h1⟩
theorem zxD{l:jE}(h:0<=Lib.indexByte (l.take 7) 59)(b:Lib.hasPrefix l [38,35]=true):2<=(Lib.indexByte (l.take 7) 59).toNat:=by
 obtain⟨_,_,a⟩:=zf4 h;unfold Lib.hasPrefix at b;obtain⟨t,rfl⟩:=Zg.1 b;generalize (Lib.indexByte (([38,35]++t).take 7) 59).toNat=e at *
 match e,a with
 |0,a=>simp at a
 |1,a=>simp at a
 |e+2,_=>omega
theorem zyf(l:jE):(entL l).2<=l.length:=by
 unfold entL
 split
 ·rename_i h;exact zb7 h
 split
 ·rename_i h;exact zb7 h
 split
 ·rename_i h;exact zb7 h
 split
 ·rename_i h;exact zb7 h
 split
 ·exact Qn _
 ·rename_i h
  have b:0<=Lib.indexByte (l.take 7) 59:=by
   have:=not_or.1 h;omega
  obtain⟨_,h2,_⟩:=zf4 b
  have c:∀o e,e+1<=l.length->(zjW o e).2<=l.length:=λo e a=>by
   unfold zjW
   split
   ·split
    ·exact Qn _
    ·exact a
   ·exact Qn _
  unfold zgG
  (repeat' split) <;> first|exact c _ _ (by omega)|exact Qn _
def EntPost(r:UInt8 × Nat)(w:World)(e:Ending)(w':World):Prop:=e=jC (.tuple #[.int .u8 (r.1.toNat:Int),jA (r.2:Int)])/\w w'
theorem EntPost.mk{r:UInt8 × Nat}{w w':World}{e:Ending}(a b:Int)(c:e=jC (.tuple #[.int .u8 a,jA b]))(d:a=(r.1.toNat:Int))(hb:b=(r.2:Int))(h:w w'):EntPost r w e w':=by
 subst d;subst hb;exact⟨c,h⟩
theorem zu3(s:ByteArray):(s.extract 0 (min (s.size:Int) 7).toNat).data.toList=s.data.toList.take 7:=by
 rw[ZL,List.drop_zero,Nat.sub_zero]
 rcases ZJ s.size 7 with h|h
 ·rw[show (min (s.size:Int) 7).toNat=s.size by omega,QR (by simp),QR (by simp;omega)]
 ·rw[show (min (s.size:Int) 7).toNat=7 by omega]
theorem zm3(s:ByteArray)(e:Nat):(s.extract 2 e).data.toList=(s.data.toList.take e).drop 2:=by
 rw[ZL,List.drop_take]
theorem zj1(s:ByteArray)(w:World)(N:s.size<=maxLen):
 Calls prog 256 #[.string s] w (EntPost (entL s.data.toList) w):=by
 have T:=N;unfold maxLen at N
 by_cases c0:Lib.hasPrefix s.data.toList [38,108,116,59]=true
 have g:Hid (entL s.data.toList=(60,4)):=by unfold Hid entL;rw[Qj c0]
 rotate_left
 rw[XF]at c0
 by_cases c1:Lib.hasPrefix s.data.toList [38,103,116,59]=true
 have g:Hid (entL s.data.toList=(62,4)):=by unfold Hid entL;rw[Qf (by rw[c0];decide),Qj c1]
 rotate_left
 rw[XF]at c1
 by_cases c2:Lib.hasPrefix s.data.toList [38,97,109,112,59]=true
 have g:Hid (entL s.data.toList=(38,5)):=by unfold Hid entL;rw[Qf (by rw[c0];decide),Qf (by rw[c1];decide),Qj c2]
 rotate_left
 rw[XF]at c2
 by_cases c3:Lib.hasPrefix s.data.toList [38,113,117,111,116,59]=true
 have g:Hid (entL s.data.toList=(34,6)):=by unfold Hid entL;rw[Qf (by rw[c0];decide),Qf (by rw[c1];decide),Qf (by rw[c2];decide),Qj c3]
 rotate_left
 rw[XF]at c3
 have f:Hid (entL s.data.toList=if Lib.indexByte (s.data.toList.take 7) 59<0\/Lib.hasPrefix s.data.toList [38,35]=false then (0,0)else zgG s.data.toList (Lib.indexByte (s.data.toList.take 7) 59).toNat):=by
  unfold Hid entL;rw[Qf (by rw[c0];decide),Qf (by rw[c1];decide),Qf (by rw[c2];decide),Qf (by rw[c3];decide)]
 have G:=hIx (zu3 s);obtain⟨x,z⟩:∃x,Lib.indexByte (s.data.toList.take 7) 59=x:=⟨_,rfl⟩
 have J:=hIx z;have a:=@zxD s.data.toList;have b:=@zf4 s.data.toList 59 7;rw[z]at a b;rw[z]at f;clear z
 by_cases B:x<0
 have g:Hid (entL s.data.toList=(0,0)):=f.out.trans (Qj (Or.inl B));clear a b
 rotate_left
 have I:0<=x:=by omega
 by_cases c4:Lib.hasPrefix s.data.toList [38,35]=true
 rotate_left
 rw[XF]at c4;have g:Hid (entL s.data.toList=(0,0)):=f.out.trans (Qj (Or.inr c4));have L:=hIx c4;clear a b c4
 rotate_right
 have A:Hid (entL s.data.toList=zgG s.data.toList x.toNat):=f.out.trans (Qf (λh=>h.elim B (λh=>by rw[c4]at h;cases h)));have U:=a I c4;obtain⟨V,P,_⟩:=b I;rw[show s.data.toList.length=s.size by simp]at P;have L:=hIx c4;clear a b c4 B;obtain⟨k,rfl⟩:=Zs I;rw[Q9]at *;have K:=hIx (zm3 s k);obtain⟨d,y⟩:∃d,(s.data.toList.take k).drop 2=d:=⟨_,rfl⟩
 have H:d.length=k-2:=by rw[<-y,QJ,QK];simp;omega
 have u:Hid (zgG s.data.toList k=if Lib.hasPrefix d [120]=true then (if d.length<=3 then zjW (numL 16 7 (d.drop 1)) k else (0,0))else if d.length<=3 then zjW (numL 10 9 d) k else (0,0)):=by
  unfold Hid zgG;rw[y]
 rw[y]at K;clear y
 by_cases c5:Lib.hasPrefix d [120]=true
 obtain⟨l,c⟩:∃l,d.drop 1=l:=⟨_,rfl⟩
 have O:Hid (Lib.trimPrefix d [120]=l):=by unfold Hid Lib.trimPrefix;rw[Qj c5];exact c
 have D:=zb7 c5;have j:=hIx ((u.out).trans (Qj c5));rw[c]at j;simp only[Qq,QP]at D;have o:l.length=d.length-1:=by rw[<-c];exact QJ
 have i:d.length<=3->(bs l).size<=maxLen:=λ_=>by rw[zah,o];unfold maxLen;omega
 have m:=λn=>zii 16 7 (by decide) l n
 by_cases v:d.length<=3
 have q:(l.length:Int)<=2:=by omega
 clear o c
 rotate_left
 have q:2<(l.length:Int):=by omega
 clear o c
 rotate_left
 have O:Hid (Lib.trimPrefix d [120]=d):=by unfold Hid Lib.trimPrefix;rw[Qf c5]
 have j:=hIx ((u.out).trans (Qf c5));rw[XF]at c5;have i:d.length<=3->(bs d).size<=maxLen:=λ_=>by rw[zah];unfold maxLen;omega
 have m:=λn=>zii 10 9 (by decide) d n
 by_cases v:d.length<=3
 have q:(d.length:Int)<=3:=by omega
 rotate_left
 have q:3<(d.length:Int):=by omega
 all_goals
  try have Q:=hIx c5
  try clear c5 H
  first
   |(
    have i:=i v
    have r:=hIx (j.out.trans (Qj v))
    first|cases t:numL 16 7 l|cases t:numL 10 9 d
    have g:Hid (entL s.data.toList=(0,0)):=by unfold Hid;rw[A.out,r.out,t];rfl
    rotate_left
    rename_i n;have m:=m n t
    by_cases F:255<n
    have g:Hid (entL s.data.toList=(0,0)):=by unfold Hid;rw[A.out,r.out,t];exact Qj F
    rotate_left
    have g:Hid (entL s.data.toList=(UInt8.ofNat n.toNat,k+1)):=by unfold Hid;rw[A.out,r.out,t];exact Qf F
    have E:n<=255:=by omega
    clear F
    all_goals
     have S:=hIx t;clear t)
   |(have g:Hid (entL s.data.toList=(0,0)):=by unfold Hid;rw[A.out,j.out,Qf v])
   |skip
 all_goals
  try clear v
  go_in
  go_wp2_with fail;refine wp_loop_rounds 5 ?_;rw[rounds_succ];go_wp2_with (first|rw[rounds_succ]|(go_at_call 248;refine(strings_HasPrefix _ _ _).mono ?_;rintro e w' ⟨rfl,rfl⟩))
  first
   |(
    go_ret2
    rw[g.out];exact⟨rfl,WaL⟩)
   |(
    refine(strings_IndexByte _ _ _).mono ?_
    rintro e C ⟨rfl,rfl⟩;rw[show (59:Int).toNat.toUInt8=(59:UInt8)from rfl,G.out,J.out];go_wp2_with fail
    first
     |(
      go_ret2
      rw[g.out];exact⟨rfl,WaL⟩)
     |(
      refine(strings_HasPrefix _ _ _).mono ?_
      rintro e C ⟨rfl,rfl⟩;rw[show (ByteArray.mk #[38,35]).data.toList=[38,35]from rfl,L.out];go_wp2_with fail
      first
       |(
        go_ret2
        rw[g.out];exact⟨rfl,WaL⟩)
       |(
        refine(strings_CutPrefix _ _ _).mono ?_
        rintro e C ⟨rfl,rfl⟩;rw[show (ByteArray.mk #[120]).data.toList=[120]from rfl,K.out,O.out,Q.out];go_wp2_with fail
        first
         |(
          go_ret2
          rw[g.out];exact⟨rfl,WaL⟩)
         |(
          first|refine(ztQ _ _ i).mono ?_|refine(zge _ _ i).mono ?_
          rintro e C ⟨rfl,rfl⟩;rw[zam,S.out];simp only[zcg];go_wp2
          go_ret2
          rw[g.out]
          first
           |exact⟨rfl,WaL⟩
           |exact EntPost.mk _ _ rfl (znL n m E).symm (by show (k:Int)+1=_;simp) WaL))))
def zxu(s:ByteArray)(w:World)(v i:Value)(wr:World):Prop:=
 ∃(k:Nat) (a:jE),k<=s.size/\i=jA k/\a.length<=k/\OwnB wr w.heap.size v a/\zco s.data.toList=a++zco (s.data.toList.drop k)/\w wr
theorem OwnB.below{w w':World}{base:Nat}{v:Value}{l:jE}(h:OwnB w base v l)(hb:w w'):OwnB w' base v l:=
 h.kept (row:=none) ⟨hb.os,hb.tape,hb.output,hb.size,λk a _=>hb.block k a⟩ (by cases b:v.ownBlock <;> simp)
theorem zjk(s:ByteArray)(w:World)(T:s.size<=140737488351232):
 Calls prog 233 #[.string s] w (zbJ (bs (zco s.data.toList)) w):=by
 have F:Hid (s.data.toList.length=s.size):=by unfold Hid;simp
 go_in
 go_wp2
 go_loopw [3,4] (λv i wr=>zxu s w v i wr) (λ_ i _=>s.size-(intOf i).toNat)
 case atStart=>exact⟨0,[],Qn _,rfl,Qd _,OwnB.nil _ _,rfl,Qi _ _⟩
 case round=>
  obtain⟨k,f,S,rfl,H,d,I,g⟩:=hrel;have b:=g.size;have y:=hIx I;clear I
  by_cases B:k<s.size
  ·have A:=hIx (zaH s k B)
   have C:=hIx (zee zcp s[k] (s.data.toList.drop (k+1)));have L:=s[k].toNat_lt
   by_cases a:s[k]=38
   ·have O:((s[k].toNat:Int)==38)=true:=by rw[a];decide
    have z:(s.extract k s.size).data.toList=s.data.toList.drop k:=Lib.extract_to_end s k;have m:(s.extract k s.size).size=s.size-k:=by rw[Lib.size_eq,z];simp
    obtain⟨x,n,r⟩:∃x n,entL (s.data.toList.drop k)=(x,n):=⟨_,_,rfl⟩
    have u:=zyf (s.data.toList.drop k);rw[r,QJ,F.out]at u;have j:entL (38::s.data.toList.drop (k+1))=(x,n):=by rw[<-r,A.out,a]
    have K:=hIx z;have q:=hIx m;have J:=hIx r;simp only[]at u
    by_cases G:0<n
    ·have t:Hid (zcp s[k] (s.data.toList.drop (k+1))=([x],n-1)):=by unfold Hid zcp;rw[j,Qj ⟨a,G⟩]
     have P:(0:Int)<n:=by omega
     clear z m r j a;go_wp2_with (first|(go_at_call 256;refine(zj1 _ _ (by rw[q.out];unfold maxLen;omega)).mono ?_;rintro e E ⟨rfl,a⟩;rw[K.out,J.out])|(at_builtin;refine zag rfl _ _ rfl w.heap.size _ f rfl (by exact d.below a) (by exact Ql b a.size) _ [x] rfl 1 1 rfl rfl (by omega) ?_;intro v' w2 c o l));exact⟨⟨k+n,f++[x],by omega,by go_num,by simp;omega,c,by rw[y.out,A.out];unfold zco;rw[C.out,t.out,Zw,show k+1+(n-1)=k+n by omega];simp,(g.trans (a.mono b)).trans o⟩,by simp[intOf];omega⟩
    ·have t:Hid (zcp s[k] (s.data.toList.drop (k+1))=([s[k]],0)):=by unfold Hid zcp;rw[j,Qf (λh=>G h.2)]
     have D:n=0:=by omega
     subst D;clear z m r j a;go_wp2_with (first|(go_at_call 256;refine(zj1 _ _ (by rw[q.out];unfold maxLen;omega)).mono ?_;rintro e E ⟨rfl,a⟩;rw[K.out,J.out])|(at_builtin;refine zag rfl _ _ rfl w.heap.size _ f rfl (by exact d.below a) (by exact Ql b a.size) _ [s[k]] rfl 1 1 rfl rfl (by omega) ?_;intro v' w2 c o l));exact⟨⟨k+1,f++[s[k]],by omega,by go_num,by simp;omega,c,by rw[y.out,A.out];unfold zco;rw[C.out,t.out];simp,(g.trans (a.mono b)).trans o⟩,by simp[intOf];omega⟩
   ·have O:((s[k].toNat:Int)==38)=false:=Qc.2 (λh=>a (Zr.1 (by show s[k].toNat=38;omega)))
    have t:Hid (zcp s[k] (s.data.toList.drop (k+1))=([s[k]],0)):=by unfold Hid zcp;rw[Qf (λh=>a h.1)]
    clear a;go_wp2_with (at_builtin;refine zag rfl _ _ rfl w.heap.size _ f rfl (by exact d) (by exact b) _ [s[k]] rfl 1 1 rfl rfl (by omega) ?_;intro v' E c a l);exact⟨⟨k+1,f++[s[k]],by omega,by go_num,by simp;omega,c,by rw[y.out,A.out];unfold zco;rw[C.out,t.out];simp,g.trans a⟩,by simp[intOf];omega⟩
  ·have Q:=d.string
   have N:Hid (zco s.data.toList=f):=by unfold Hid;rw[y.out,QM (by rw[F.out];omega)];unfold zco;rw[zoG,QO]
   clear d;go_wp2;go_ret;exact⟨by rw[N.out];rfl,g⟩
def zy2(s:ByteArray)(w:World)(v i:Value)(wr:World):Prop:=
 ∃(k:Nat) (a:jE),k<=s.size/\i=jA k/\a.length<=k/\OwnB wr w.heap.size v a/\zbQ s.data.toList=(zbQ (s.data.toList.drop k)).map (a++·)/\w wr
theorem zkZ(s:ByteArray)(w:World)(J:s.size<=140737488351232):
 Calls prog 231 #[.string s] w (ze1 (zjR 4 (zbQ s.data.toList)) w):=by
 have l:Hid (s.data.toList.length=s.size):=by unfold Hid;simp
 go_in
 go_wp2
 go_loopw [4,5] (λv i wr=>zy2 s w v i wr) (λ_ i _=>s.size-(intOf i).toNat)
 case atStart=>exact⟨0,[],Qn _,rfl,Qd _,OwnB.nil _ _,by simp,Qi _ _⟩
 case round=>
  obtain⟨k,d,I,rfl,A,a,B,b⟩:=hrel;have c:=b.size;have m:=hIx B;clear B
  by_cases F:k<s.size
  ·have g:0<(s.data.toList.drop k).length:=by rw[QJ,l.out];omega
   have j:=zcZ (s.data.toList.drop k);have x:=hIx (zju (s.data.toList.drop k) g);have D:=hIx (ziK (s.data.toList.drop k) g);obtain⟨n,q⟩:∃n,zc2 (s.data.toList.drop k)=n:=⟨_,rfl⟩
   rw[q]at j x D;have C:=hIx q;obtain⟨r1,r2,r3⟩:=j;rw[QJ,l.out]at r3;clear q g
   by_cases o:n<0
   ·have h:=hIx (x.out o)
    clear r3;go_wp2_with (go_at_call 201;refine(zhf _ _ (by omega) (by omega) _).mono ?_;rintro e u ⟨rfl,nq,rfl⟩;rw[Q9,C.out])
    go_ret2
    exact⟨by rw[m.out,h.out];rfl,below_drewN b _⟩
   ·have z:0<=n:=by omega
    have r4:=r3 z;have h:=hIx (D.out o);have G:=hIx (znL n z r2);have r:Hid ([Value.int .u8 n]=[UInt8.ofNat n.toNat].map zd1):=by unfold Hid zd1;simp only[Q8,ZE];rw[G.out]
    clear r3 o;go_wp2_with (first|(go_at_call 201;refine(zhf _ _ (by omega) (by omega) _).mono ?_;rintro e u ⟨rfl,nq,rfl⟩;rw[Q9,C.out])|(at_builtin;refine zag rfl _ _ rfl w.heap.size _ d rfl (by exact a.drewN _) (by exact c) _ [UInt8.ofNat n.toNat] r.out 1 1 rfl rfl (by omega) ?_;intro v' u f t E));exact⟨⟨k+2,d++[UInt8.ofNat n.toNat],by omega,by go_num,by simp;omega,f,by rw[m.out,h.out,Zw,Option.map_map];congr 1;funext y;simp,(below_drewN b _).trans t⟩,by simp[intOf];omega⟩
  ·have H:=a.string
   have h:Hid (zbQ s.data.toList=some d):=by unfold Hid;rw[m.out,QM (by rw[l.out];omega),zgw];simp
   clear a;go_wp2
   go_ret2
   exact⟨by rw[h.out];rfl,b⟩
theorem zo5(step:UInt8->jE->jE × Nat)(h:∀b r,(step b r).1.length=1):∀(n:Nat) (l:jE),l.length<=n->(scan step l).length<=l.length:=by
 intro n
 induction n with
 |zero=>
  intro l hl;have:l=[]:=QA (by omega);subst this;exact Qd _
 |succ n ih=>
  intro l hl;cases l with
  |nil=>exact Qd _
  |cons b r=>
   simp only[Qq]at hl;rw[zee,Qb,h b r,Qq];have:=ih (r.drop (step b r).2) (by rw[QJ];omega);rw[QJ]at this;omega
theorem zpY(l:jE):(zcj l).length<=l.length:=zo5 zb8 (λb r=>(zpO b r).2) _ l (Qd _)
theorem zne(l:jE):(zco l).length<=l.length:=zo5 zcp (λb r=>by unfold zcp;split <;> rfl) _ l (Qd _)
def b64T:jE:=[65,66,67,68,69,70,71,72,73,74,75,76,77,78,79,80,81,82,83,84,85,86,87,88,89,90,97,98,99,100,101,102,103,104,105,106,107,108,109,110,111,112,113,114,115,116,117,118,119,120,121,122,48,49,50,51,52,53,54,55,56,57,43,47]
def sgn(n:Nat):UInt8:=(b64T[n]?).getD 0
def idx(b:UInt8):Int:=Lib.indexByte b64T b
theorem zxT(b:UInt8):-1<=idx b/\idx b<64/\(0<=idx b->sgn (idx b).toNat=b/\b≠61):=
 Zp (zeg (p:=λb=>decide (-1<=idx b/\idx b<64/\(0<=idx b->sgn (idx b).toNat=b/\b≠61))) (by decide+kernel) b)
def zca(n a:Nat):jE->Option jE
 | []=>if n≠0\/a=6 then none else some []
 |x::r=>if idx x<0 then none else
  if a=0 then zca (n*64+(idx x).toNat) 6 r
  else (zca ((n*64+(idx x).toNat) % 2 ^ (a-2)) (a-2) r).map (UInt8.ofNat ((n*64+(idx x).toNat) / 2 ^ (a-2))::·)
theorem zyc(n a:Nat)(x:UInt8)(r:jE)(h:idx x<0):zca n a (x::r)=none:=by rw[zca,Qj h]
theorem zAj(n:Nat)(x:UInt8)(r:jE)(h:¬idx x<0):zca n 0 (x::r)=zca (n*64+(idx x).toNat) 6 r:=by
 rw[zca,Qf h,Qj rfl]
theorem zzW(n:Nat)(x:UInt8)(r:jE)(h:¬idx x<0):zca n 6 (x::r)=(zca ((n*64+(idx x).toNat) % 16) 4 r).map (UInt8.ofNat ((n*64+(idx x).toNat) / 16)::·):=by
 rw[zca,Qf h,Qf (by omega)]
theorem zAg(n:Nat)(x:UInt8)(r:jE)(h:¬idx x<0):zca n 4 (x::r)=(zca ((n*64+(idx x).toNat) % 4) 2 r).map (UInt8.ofNat ((n*64+(idx x).toNat) / 4)::·):=by
 rw[zca,Qf h,Qf (by omega)]
theorem zAf(n:Nat)(x:UInt8)(r:jE)(h:¬idx x<0):zca n 2 (x::r)=(zca 0 0 r).map (UInt8.ofNat (n*64+(idx x).toNat)::·):=by
 rw[zca,Qf h,Qf (by omega)];simp[Nat.mod_one]
def zdF(l:jE):jE:=Lib.trimSuffix l [61]
def b64D(l:jE):Option jE:=if l.length % 4≠0 then none else zca 0 0 (zdF (zdF l))
theorem zx3{l p:jE}(h:Lib.hasSuffix l p=true):p <:+l:=by
 exact List.isSuffixOf_iff_suffix.1 h
theorem zqQ(l:jE):zdF (l++[61])=l:=by
 unfold zdF Lib.trimSuffix Lib.hasSuffix;rw[Qj (List.isSuffixOf_iff_suffix.2 (List.suffix_append _ _))];simp
theorem zh7(l:jE):(zdF l=l/\¬[61] <:+l)\/l=zdF l++[61]:=by
 by_cases h:[61] <:+l
 ·obtain⟨t,rfl⟩:=h
  right;rw[zqQ]
 ·left
  refine⟨?_,h⟩;unfold zdF Lib.trimSuffix;rw[Qf];intro a;exact h (zx3 a)
def zzr:Value->Nat
 |.string r=>r.size
 |_=>0
theorem zzt(x y:Int)(i:Nat)(a:0<=x)(f:x % 2 ^ i=0)(c:x<4294967296)(b:0<=y)(e:y<2 ^ i)(d:y<4294967296):bits .or .u32 x y=x+y:=
 bits_join .u32 32 (by decide) (λn g h1=>by rw[IntKind.wrap_u32];omega) i x y a f (by omega) b e (by omega)
def zy7(s:ByteArray)(w:World)(v n b i:Value)(wr:World):Prop:=
 ∃(k m c:Nat) (a:jE),k<=s.size/\i=jA k/\n=.int .u32 m/\b=jA c/\(c=0/\m=0\/c=2/\m<4\/c=4/\m<16\/c=6/\m<64)/\a.length<=k/\OwnB wr w.heap.size v a/\
  zca 0 0 s.data.toList=(zca m c (s.data.toList.drop k)).map (a++·)/\w wr
theorem zwX(m k:Nat)(a:m<64)(b:k<64):bits .or .u32 ((m:Int)*64) (k:Int)=((m*64+k:Nat):Int):=by
 rw[zzt _ _ 6 (by omega) (by omega) (by omega) (by omega) (by omega) (by omega)];omega
theorem ziJ(M i:Nat)(h:M<4294967296)(a:i<=32):bits .and .u32 (M:Int) (2 ^ i-1)=((M % 2 ^ i:Nat):Int):=by
 rw[bits_mask .u32 32 (by decide) (λn b h1=>by rw[IntKind.wrap_u32];omega) i a (M:Int) (by omega) (by omega)];simp
theorem zlM(t:ByteArray)(W:World)(h:t.size<=140737488351232):Calls prog 255 #[.string t,.string (.mk #[61])] W λe w'=>e=jC (.string (bs (zdF t.data.toList)))/\w'=W:=
 strings_TrimSuffix t (ByteArray.mk #[61]) W (by omega)
theorem zg3(s:ByteArray)(w:World)(hs:s.size<=140737488351232):
 Calls prog 232 #[.string s] w (ze1 (zjR 4 (b64D s.data.toList)) w):=by
 have W:s.data.toList.length=s.size:=by simp
 by_cases h4:s.size % 4=0
 ·have q4:((s.size:Int) % 4 != 0)=false:=by rw[show (s.size:Int) % 4=0 by omega];rfl
  have X:Hid (b64D s.data.toList=zca 0 0 (zdF (zdF s.data.toList))):=by unfold Hid b64D;rw[Qf (by omega)]
  have z1:(bs (zdF s.data.toList)).size<=s.size:=by
   rw[zah];rcases zh7 s.data.toList with ⟨e,-⟩|e
   ·rw[e];omega
   ·have:=Zm List.length e;rw[Qb]at this;omega
  have z2:(bs (zdF (zdF s.data.toList))).size<=s.size:=by
   rw[zah]at z1 ⊢;rcases zh7 (zdF s.data.toList)with ⟨e,-⟩|e
   ·rw[e];omega
   ·have:=Zm List.length e;rw[Qb]at this;omega
  clear W h4
  go_in
  go_wp2_with fail;refine(zlM _ _ hs).mono ?_;rintro e U ⟨rfl,I⟩;have I:=I.symm;subst I;go_wp2_with fail;refine(zlM _ _ (by omega)).mono ?_;rintro e U ⟨rfl,I⟩;have I:=I.symm;subst I;rw[zam];obtain⟨z,Z⟩:∃z,bs (zdF (zdF s.data.toList))=z:=⟨_,rfl⟩
  rw[Z]at z2 ⊢;have F:Hid (b64D s.data.toList=zca 0 0 z.data.toList):=by unfold Hid;rw[X.out,<-Z];rfl
  clear Z X z1;have W:Hid (z.data.toList.length=z.size):=by unfold Hid;simp
  go_wp2
  go_loopw [5,6,7,19] (λv n b i wr=>zy7 z w v n b i wr) (λ_ _ _ i _=>z.size-(intOf i).toNat)
  case atStart=>exact⟨0,0,0,[],Qn _,rfl,rfl,rfl,.inl ⟨rfl,rfl⟩,Qd _,OwnB.nil _ _,by simp,Qi _ _⟩
  case round=>
   obtain⟨k,m,S,l,hk,rfl,rfl,rfl,G,h3,d,hr,g⟩:=hrel;have o:=g.size;have H:=hIx hr;clear hr
   by_cases Y:k<z.size
   ·have r:=hIx (zaH z k Y)
    have h0:(k:Int)<(z.size:Int):=by omega
    have P:=zxT z[k];obtain⟨x,hx⟩:∃x,idx z[k]=x:=⟨_,rfl⟩
    have V:=hIx (λ(h:idx z[k]<0) n b=>zyc n b z[k] (z.data.toList.drop (k+1)) h);have B:=hIx (λ(h:¬idx z[k]<0) n=>zAj n z[k] (z.data.toList.drop (k+1)) h);have D:=hIx (λ(h:¬idx z[k]<0) n=>zAf n z[k] (z.data.toList.drop (k+1)) h);have C:=hIx (λ(h:¬idx z[k]<0) n=>zAg n z[k] (z.data.toList.drop (k+1)) h);have A:=hIx (λ(h:¬idx z[k]<0) n=>zzW n z[k] (z.data.toList.drop (k+1)) h);rw[hx]at V B D C A P;obtain⟨x1,x2,-⟩:=P;have T:=hIx hx;clear hx
    by_cases c:x<0
    ·have f:=hIx (V.out c m S)
     clear V B D C A;go_wp2_with (go_at_call 111;refine(zaY _ _ _).mono ?_;rintro e w' ⟨rfl,rfl⟩;rw[show (Lib.indexByte (ByteArray.mk #[65,66,67,68,69,70,71,72,73,74,75,76,77,78,79,80,81,82,83,84,85,86,87,88,89,90,97,98,99,100,101,102,103,104,105,106,107,108,109,110,111,112,113,114,115,116,117,118,119,120,121,122,48,49,50,51,52,53,54,55,56,57,43,47]).data.toList z[k]=x)from T.out])
     go_ret2
     exact⟨by rw[F.out,H.out,r.out,f.out];rfl,g⟩
    ·obtain⟨y,rfl⟩:=Zs (Int.not_lt.1 c)
     rw[Q9]at B D C A;have B:=hIx (B.out c);have D:=hIx (D.out c);have C:=hIx (C.out c);have A:=hIx (A.out c);have hy:y<64:=by omega
     clear V c x1 x2;have O:=zwX m y (by omega) hy;obtain⟨M,hM⟩:∃M,m*64+y=M:=⟨_,rfl⟩
     rw[hM]at O
     rcases G with ⟨rfl,rfl⟩|⟨rfl,J⟩|⟨rfl,J⟩|⟨rfl,J⟩
     ·have f:=hIx (B.out 0)
      have h5:bits .or .u32 0 (y:Int)=y:=by have:=zwX 0 y (by omega) hy;simpa using this
      clear B D C A hM O;go_wp2_with (go_at_call 111;refine(zaY _ _ _).mono ?_;rintro e w' ⟨rfl,rfl⟩;rw[show (Lib.indexByte (ByteArray.mk #[65,66,67,68,69,70,71,72,73,74,75,76,77,78,79,80,81,82,83,84,85,86,87,88,89,90,97,98,99,100,101,102,103,104,105,106,107,108,109,110,111,112,113,114,115,116,117,118,119,120,121,122,48,49,50,51,52,53,54,55,56,57,43,47]).data.toList z[k]=y)from T.out]);exact⟨⟨k+1,y,6,l,by omega,by go_num,rfl,rfl,by omega,by omega,d,by rw[H.out,r.out,f.out,XO,Ze],g⟩,by simp[intOf];omega⟩
     ·have f:=hIx (D.out m)
      rw[hM]at f
      have t:Hid ([Value.int .u8 ((M:Int) % 256)]=[UInt8.ofNat (M)].map zd1):=by
       unfold Hid zd1;simp only[Q8,ZE,UInt8.toNat_ofNat'];rfl
      have j:bits .and .u32 (M:Int) 0=((M % 1:Nat):Int):=ziJ M 0 (by omega) (by omega);obtain⟨Q,q⟩:∃Q,M % 1=Q:=⟨_,rfl⟩
      have N:=hIx hM;rw[q]at j;have HQ:=hIx q;have L:Q<1:=by omega
      clear B D C A hM q;go_wp2_with (first|(go_at_call 111;refine(zaY _ _ _).mono ?_;rintro e w' ⟨rfl,rfl⟩;rw[show (Lib.indexByte (ByteArray.mk #[65,66,67,68,69,70,71,72,73,74,75,76,77,78,79,80,81,82,83,84,85,86,87,88,89,90,97,98,99,100,101,102,103,104,105,106,107,108,109,110,111,112,113,114,115,116,117,118,119,120,121,122,48,49,50,51,52,53,54,55,56,57,43,47]).data.toList z[k]=y)from T.out])|(at_builtin;refine zag rfl _ _ rfl w.heap.size _ l rfl (by exact d) (by exact o) _ [UInt8.ofNat (M)] t.out 1 1 rfl rfl (by omega) ?_;intro v' U a u E));exact⟨⟨k+1,0,0,l++[UInt8.ofNat (M)],by omega,by go_num,by go_num,rfl,by omega,by simp;omega,a,by rw[H.out,r.out,f.out,Option.map_map];congr 1;funext y;simp,g.trans u⟩,by simp[intOf];omega⟩
     ·have f:=hIx (C.out m)
      rw[hM]at f
      have t:Hid ([Value.int .u8 ((M:Int) / 4 % 256)]=[UInt8.ofNat (M / 4)].map zd1):=by
       unfold Hid zd1;simp only[Q8,ZE,UInt8.toNat_ofNat'];rfl
      have j:bits .and .u32 (M:Int) 3=((M % 4:Nat):Int):=ziJ M 2 (by omega) (by omega);obtain⟨Q,q⟩:∃Q,M % 4=Q:=⟨_,rfl⟩
      have N:=hIx hM;rw[q]at j f;have HQ:=hIx q;have L:Q<4:=by omega
      clear B D C A hM q;go_wp2_with (first|(go_at_call 111;refine(zaY _ _ _).mono ?_;rintro e w' ⟨rfl,rfl⟩;rw[show (Lib.indexByte (ByteArray.mk #[65,66,67,68,69,70,71,72,73,74,75,76,77,78,79,80,81,82,83,84,85,86,87,88,89,90,97,98,99,100,101,102,103,104,105,106,107,108,109,110,111,112,113,114,115,116,117,118,119,120,121,122,48,49,50,51,52,53,54,55,56,57,43,47]).data.toList z[k]=y)from T.out])|(at_builtin;refine zag rfl _ _ rfl w.heap.size _ l rfl (by exact d) (by exact o) _ [UInt8.ofNat (M / 4)] t.out 1 1 rfl rfl (by omega) ?_;intro v' U a u E));exact⟨⟨k+1,Q,2,l++[UInt8.ofNat (M / 4)],by omega,by go_num,rfl,rfl,by omega,by simp;omega,a,by rw[H.out,r.out,f.out,Option.map_map];congr 1;funext y;simp,g.trans u⟩,by simp[intOf];omega⟩
     ·have f:=hIx (A.out m)
      rw[hM]at f
      have t:Hid ([Value.int .u8 ((M:Int) / 16 % 256)]=[UInt8.ofNat (M / 16)].map zd1):=by
       unfold Hid zd1;simp only[Q8,ZE,UInt8.toNat_ofNat'];rfl
      have j:bits .and .u32 (M:Int) 15=((M % 16:Nat):Int):=ziJ M 4 (by omega) (by omega);obtain⟨Q,q⟩:∃Q,M % 16=Q:=⟨_,rfl⟩
      have N:=hIx hM;rw[q]at j f;have HQ:=hIx q;have L:Q<16:=by omega
      clear B D C A hM q;go_wp2_with (first|(go_at_call 111;refine(zaY _ _ _).mono ?_;rintro e w' ⟨rfl,rfl⟩;rw[show (Lib.indexByte (ByteArray.mk #[65,66,67,68,69,70,71,72,73,74,75,76,77,78,79,80,81,82,83,84,85,86,87,88,89,90,97,98,99,100,101,102,103,104,105,106,107,108,109,110,111,112,113,114,115,116,117,118,119,120,121,122,48,49,50,51,52,53,54,55,56,57,43,47]).data.toList z[k]=y)from T.out])|(at_builtin;refine zag rfl _ _ rfl w.heap.size _ l rfl (by exact d) (by exact o) _ [UInt8.ofNat (M / 16)] t.out 1 1 rfl rfl (by omega) ?_;intro v' U a u E));exact⟨⟨k+1,Q,4,l++[UInt8.ofNat (M / 16)],by omega,by go_num,rfl,rfl,by omega,by simp;omega,a,by rw[H.out,r.out,f.out,Option.map_map];congr 1;funext y;simp,g.trans u⟩,by simp[intOf];omega⟩
   ·have HN:Hid (z.data.toList.drop k=[]):=QM (by rw[W.out];omega)
    have h6:=d.string;clear d
    by_cases J:m=0/\S≠6
    ·obtain⟨rfl,J⟩:=J
     have f:Hid (zca 0 0 z.data.toList=some l):=by unfold Hid;rw[H.out,HN.out,zca,Qf (by omega)];simp
     have qb:((S:Int)==6)=false:=Qc.2 (by omega);clear G;go_wp2
     go_ret2
     exact⟨by rw[F.out,f.out];rfl,g⟩
    ·have f:Hid (zca 0 0 z.data.toList=none):=by unfold Hid;rw[H.out,HN.out,zca,Qj (by omega)];rfl
     by_cases K:m=0
     have qm:((m:Int) != 0)=false:=by rw[K];rfl
     have qb:((S:Int)==6)=true:=by rw[show S=6 by omega];rfl
     rotate_left
     have qm:((m:Int) != 0)=true:=Q6.2 (by omega)
     all_goals
      clear J G K;go_wp2
      go_ret2
      exact⟨by rw[F.out,f.out];rfl,g⟩
 ·have q4:((s.size:Int) % 4 != 0)=true:=Q6.2 (by omega)
  have X:Hid (b64D s.data.toList=none):=by unfold Hid b64D;rw[Qj (by omega)]
  clear W h4
  go_in
  go_wp2
  go_ret2
  exact⟨by rw[X.out];rfl,Qi _ _⟩
def zc9(b:UInt8):Bool:=decide (9<=b.toNat)&&decide (b.toNat<=13)||b==32
def sqGo:Bool->jE->jE
 |_,[]=>[]
 |p,b::l=>if zc9 b=true then (if p=true then sqGo true l else 32::sqGo true l)else b::sqGo false l
def zb6(l:jE):jE:=sqGo false l
def outL(set l:jE):jE:=l.filter λb=>decide (Lib.indexByte set b<0)
def zbV(b:UInt8):UInt8:=if b=44\/b=59 then 32 else b
def dsL:jE->jE
 | []=>[]
 | [b]=>[b]
 |b::c::l=>if b=32/\(c=47\/c=40)then dsL (c::l)else b::dsL (c::l)
def zgL:jE:=[92,34,39,94]
def cmdL(l:jE):jE:=zaB (dsL (zb6 ((outL zgL l).map zbV)))
def adj(R:UInt8->UInt8->Bool):jE->Bool
 |a::b::l=>R a b&&adj R (b::l)
 |_=>true
def n2(a b:UInt8):Bool:=!(a==32&&b==32)
def n3(a b:UInt8):Bool:=!(a==32&&(b==47||b==40))
def Good(l:jE):Prop:=(∀b∈l,zc9 b=true->b=32)/\adj n2 l=true
theorem zuk{R:UInt8->UInt8->Bool}{a:UInt8}{l:jE}:adj R (a::l)=true↔(∀b,l.head? = some b->R a b=true)/\adj R l=true:=by
 cases l with
 |nil=>simp[adj]
 |cons b l=>simp[adj]
theorem zvU:Good []:=⟨λ_ h=>absurd h (by simp),rfl⟩
theorem zlU{a:UInt8}{l:jE}:Good (a::l)↔(zc9 a=true->a=32)/\(∀b,l.head? = some b->n2 a b=true)/\Good l:=by
 unfold Good;rw[zuk];simp only[QN,forall_eq_or_imp];exact⟨λh=>⟨h.1.1,h.2.1,h.1.2,h.2.2⟩,λh=>⟨⟨h.1,h.2.2.1⟩,h.2.1,h.2.2.2⟩⟩
theorem zyK:zc9 32=true:=by decide
theorem zq6:∀(l:jE) (p:Bool),Good (sqGo p l)/\(p=true->(sqGo p l).head? ≠ some 32)
 | [],_=>⟨zvU,λ_=>by simp[sqGo]⟩
 |b::l,p=>by
  unfold sqGo
  by_cases a:zc9 b=true
  ·rw[Qj a]
   obtain⟨h1,h2⟩:=zq6 l true
   by_cases d:p=true
   ·rw[Qj d];exact⟨h1,λ_=>h2 rfl⟩
   ·rw[Qf d]
    exact⟨zlU.2 ⟨λ_=>rfl,λc f=>by
     have:c≠32:=λe=>h2 rfl (by rw[f,e])
     simp[n2,this],h1⟩,λe=>absurd e d⟩
  ·rw[Qf a]
   have hb:b≠32:=λe=>a (by rw[e];exact zyK)
   exact⟨zlU.2 ⟨λe=>absurd e a,λc _=>by simp[n2,hb],(zq6 l false).1⟩,λ_=>by simpa using hb⟩
theorem zyz{R:UInt8->UInt8->Bool}{f:UInt8->UInt8}(h:∀a b,R (f a) (f b)=R a b):∀l:jE,adj R (l.map f)=adj R l
 | []=>rfl
 | [a]=>rfl
 |a::b::l=>by
  have ih:=zyz h (b::l);simp only[Q8]at ih;simp only[Q8,adj,h,ih]
theorem zl8:∀(l:jE) (p:Bool),(sqGo p l).length<=l.length
 | [],_=>Qd _
 |b::l,p=>by
  have h1:=zl8 l true;have h2:=zl8 l false;unfold sqGo
  (repeat' split) <;> simp only[Qq] <;> omega
theorem zwH:∀l:jE,(dsL l).length<=l.length
 | []=>Qd _
 | [_]=>Qd _
 |a::c::l=>by
  have h:=zwH (c::l);unfold dsL
  split <;> simp only[Qq]at*<;> omega
theorem zfE(b:UInt8)(w:World):
 Calls prog 257 #[.int .u8 b.toNat] w λe w'=>e=jC (.bool (zc9 b))/\w'=w:=by
 have hb:(b.toNat:Int)<=255:=by have:=b.toNat_lt;omega
 have a:(b==32)=decide (b.toNat=32):=by
  rw[Bool.eq_iff_iff,Zn,QX];exact⟨λh=>by rw[h];rfl,λh=>Zr.1 h⟩
 unfold zc9;rw[a];generalize b.toNat=n at *
 go_in
 go_wp2
 all_goals
  go_ret;refine⟨zaQ ?_,rfl⟩;rw[Bool.eq_iff_iff];simp
  try omega
def zz5(s:ByteArray)(w:World)(v i:Value)(wr:World):Prop:=
 ∃(k:Nat) (a:jE) (p:Bool),k<=s.size/\i=jA k/\a.length<=k/\OwnB wr w.heap.size v a/\zb6 s.data.toList=a++sqGo p (s.data.toList.drop k)/\
  (k=0->p=false)/\(∀j (h:j<s.size),k=j+1->p=zc9 s[j])/\w wr
theorem ztP(p:Bool)(b:UInt8)(l:jE):sqGo p (b::l)=if zc9 b=true then (if p=true then sqGo true l else 32::sqGo true l)else b::sqGo false l:=rfl
theorem zi0(s:ByteArray)(w:World)(T:s.size<=140737488351232):
 Calls prog 235 #[.string s] w (zbJ (bs (zb6 s.data.toList)) w):=by
 have N:Hid (s.data.toList.length=s.size):=by unfold Hid;simp
 go_in
 go_wp2
 go_loopw [3,7] (λv i wr=>zz5 s w v i wr) (λ_ i _=>s.size-(intOf i).toNat)
 case atStart=>exact⟨0,[],false,Qn _,rfl,Qd _,OwnB.nil _ _,rfl,λ_=>rfl,λj _ h=>absurd h (by omega),Qi _ _⟩
 case round=>
  obtain⟨k,g,p,S,rfl,I,c,J,t,o,l⟩:=hrel;have f:=l.size;have y:=hIx J;clear J
  by_cases E:k<s.size
  ·have C:=hIx (zaH s k E)
   have H:=hIx (ztP p s[k] (s.data.toList.drop (k+1)));cases u:zc9 s[k]with
   |false=>
    have A:=hIx u
    have a:Hid (∀i (h:i<s.size),k+1=i+1->zc9 s[k]=zc9 s[i]):=λi h e=>by
     have F:k=i:=by omega
     subst F;rfl
    rw[u]at a;have d:sqGo p (s[k]::s.data.toList.drop (k+1))=s[k]::sqGo false (s.data.toList.drop (k+1)):=by rw[H.out,u,Qf (by decide)]
    have z:=hIx d;clear u t o d;go_wp2_with (first|(go_at_call 257;refine(zfE _ _).mono ?_;rintro e D ⟨rfl,rfl⟩;rw[A.out])|(at_builtin;refine zag rfl _ _ rfl w.heap.size _ g rfl (by exact c) (by exact f) _ [s[k]] rfl 1 1 rfl rfl (by omega) ?_;intro v' w2 b m n));exact⟨⟨k+1,g++[s[k]],false,by omega,by go_num,by simp;omega,b,by rw[y.out,C.out,z.out];simp,λh=>absurd h (by omega),a.out,l.trans m⟩,by simp[intOf];omega⟩
   |true=>
    have A:=hIx u
    have a:Hid (∀i (h:i<s.size),k+1=i+1->zc9 s[k]=zc9 s[i]):=λi h e=>by
     have F:k=i:=by omega
     subst F;rfl
    rw[u]at a;have d:sqGo p (s[k]::s.data.toList.drop (k+1))=if p=true then sqGo true (s.data.toList.drop (k+1))else 32::sqGo true (s.data.toList.drop (k+1)):=by rw[H.out,u,Qj rfl]
    have z:=hIx d;clear u d
    by_cases q:k=0
    ·have B:=hIx (t q)
     have G:((k:Int)==0)=true:=Zn.2 (by omega);have O:=hIx q;clear q t o;go_wp2_with (first|(go_at_call 257;refine(zfE _ _).mono ?_;rintro e D ⟨rfl,rfl⟩;rw[A.out])|(at_builtin;refine zag rfl _ _ rfl w.heap.size _ g rfl (by exact c) (by exact f) _ [32] rfl 1 1 rfl rfl (by omega) ?_;intro v' w2 b m n));exact⟨⟨k+1,g++[32],true,by omega,by go_num,by simp;omega,b,by rw[y.out,C.out,z.out,B.out,Qf (by decide)];simp,λh=>absurd h (by omega),a.out,l.trans m⟩,by simp[intOf];omega⟩
    ·obtain⟨j,rfl⟩:∃j,k=j+1:=⟨k-1,by omega⟩
     have P:j<s.size:=by omega
     have r:=o j P rfl;have G:((j:Int)+1==0)=false:=Qc.2 (by omega);have x:(j:Int)+1-1=j:=by omega
     have K:=hIx x;clear q t o x;cases p with
     |true=>
      have B:=hIx r.symm;clear r;go_wp2_with (first|(go_at_call 257;refine(zfE _ _).mono ?_;rintro e D ⟨rfl,rfl⟩;first|rw[A.out]|rw[B.out])|(at_builtin;refine zag rfl _ _ rfl w.heap.size _ g rfl (by exact c) (by exact f) _ [32] rfl 1 1 rfl rfl (by omega) ?_;intro v' w2 b m n));exact⟨⟨j+2,g,true,by omega,by go_num,by omega,c,by rw[y.out,C.out,z.out];simp,λh=>absurd h (by omega),a.out,l⟩,by simp[intOf];omega⟩
     |false=>
      have B:=hIx r.symm;clear r;go_wp2_with (first|(go_at_call 257;refine(zfE _ _).mono ?_;rintro e D ⟨rfl,rfl⟩;first|rw[A.out]|rw[B.out])|(at_builtin;refine zag rfl _ _ rfl w.heap.size _ g rfl (by exact c) (by exact f) _ [32] rfl 1 1 rfl rfl (by omega) ?_;intro v' w2 b m n));exact⟨⟨j+2,g++[32],true,by omega,by go_num,by simp;omega,b,by rw[y.out,C.out,z.out,Qf (by decide)];simp,λh=>absurd h (by omega),a.out,l.trans m⟩,by simp[intOf];omega⟩
  ·have Q:=c.string
   have L:Hid (zb6 s.data.toList=g):=by unfold Hid;rw[y.out,QM (by rw[N.out];omega)];cases p <;> simp[sqGo]
   clear c;go_wp2;go_ret;exact⟨by rw[L.out];rfl,l⟩
def zzd(s t:ByteArray)(w:World)(v i:Value)(wr:World):Prop:=
 ∃k:Nat,k<=s.size/\i=jA k/\OwnB wr w.heap.size v (outL t.data.toList (s.data.toList.take k))/\w wr
theorem zi1(s t:ByteArray)(w:World)(E:s.size<=140737488351232):
 Calls prog 258 #[.string s,.string t] w (zbJ (bs (outL t.data.toList s.data.toList)) w):=by
 have z:Hid (s.data.toList.length=s.size):=by unfold Hid;simp
 go_in
 go_wp2
 go_loopw [5,9] (λv i wr=>zzd s t w v i wr) (λ_ i _=>s.size-(intOf i).toNat)
 case atStart=>exact⟨0,Qn _,rfl,OwnB.nil _ _,Qi _ _⟩
 case round=>
  obtain⟨k,D,rfl,a,b⟩:=hrel;have c:=b.size
  by_cases l:k<s.size
  ·have y:=hIx (zhH s k l)
   have o:(outL t.data.toList (s.data.toList.take k)).length<=(s.data.toList.take k).length:=Zh _ _;have m:(s.data.toList.take k).length<=k:=ZN _ _;have q:(outL t.data.toList (s.data.toList.take k)).length<=k:=by omega
   clear o m;obtain⟨x,j⟩:∃x,Lib.indexByte t.data.toList s[k]=x:=⟨_,rfl⟩
   have u:=hIx j
   have g:Hid (outL t.data.toList (s.data.toList.take (k+1))=outL t.data.toList (s.data.toList.take k)++(if x<0 then [s[k]]else [])):=by
    unfold Hid outL;rw[y.out,ZR]
    congr 1
    by_cases h:x<0
    ·rw[Qj h];simp[j,h]
    ·rw[Qf h];simp[j,h]
   clear j
   by_cases h:x<0
   ·have f:Hid (outL t.data.toList (s.data.toList.take (k+1))=outL t.data.toList (s.data.toList.take k)++[s[k]]):=by unfold Hid;rw[g.out,Qj h]
    go_wp2_with (first|(go_at_call 111;refine(zaY _ _ _).mono ?_;rintro e w' ⟨rfl,rfl⟩;rw[u.out])|(at_builtin;refine zag rfl _ _ rfl w.heap.size _ (outL t.data.toList (s.data.toList.take k)) rfl (by exact a) (by exact c) _ [s[k]] rfl 1 1 rfl rfl (by omega) ?_;intro v' C d n r));exact⟨⟨k+1,by omega,by go_num,by rw[f.out];exact d,b.trans n⟩,by simp[intOf];omega⟩
   ·have f:Hid (outL t.data.toList (s.data.toList.take (k+1))=outL t.data.toList (s.data.toList.take k)):=by unfold Hid;rw[g.out,Qf h,QO]
    go_wp2_with (go_at_call 111;refine(zaY _ _ _).mono ?_;rintro e w' ⟨rfl,rfl⟩;rw[u.out]);exact⟨⟨k+1,by omega,by go_num,by rw[f.out];exact a,b⟩,by simp[intOf];omega⟩
  ·have A:Hid (s.data.toList.take k=s.data.toList):=QR (by rw[z.out];omega)
   have B:=a.string;clear a;go_wp2;go_ret;exact⟨by show jC (.string (bs (outL t.data.toList (s.data.toList.take k))))=_;rw[A.out],b⟩
theorem zpS(s:ByteArray)(w:World)(b:s.size<=140737488351232):
 Calls prog 236 #[.string s] w (zbJ (bs (outL [0] s.data.toList)) w):=by
 go_in
 go_wp2_with (go_at_call 258;refine(zi1 _ _ _ b).mono ?_;rintro e w' ⟨rfl,a⟩);go_ret;exact⟨rfl,a⟩
