/- Lemmas for the last texts. -/
import Derived.Test.YtnnokglddolglaaGreatDoorM22
set_option maxHeartbeats 6400000
set_option maxRecDepth 100000
namespace Go.Proofs.YtnnokglddolglaaGreatDoor
open Go.RowKit Go.Proofs.Tryz
def vfP(m t b:ByteArray)(f:List zal)(d:Nat)(e:Int)(c a:List Pair)(v:VarV):List Pair:=valP v.k v.n m t b f d e c a
theorem ziW(a:List zal):(zbc a).length=a.length:=by unfold zbc;rw[Qh]
theorem znQ(l:List Pair)(a:ByteArray):(zeU l a).length<=l.length:=Zn _ _
theorem zr7{m t b:ByteArray}{h:List zal}{s:Nat}{w:Int}{c a:List Pair}(g:znw t h c a s w)(v:VarV):(vfP m t b h s w c a v).length<=4194304:=by
 have h1:=znQ c v.n;have h2:=znQ a v.n;have z:=znQ (zbc h) v.n;rw[ziW]at z;have A:=g.zf;have B:=g.zl;have C:=g.zk;have one:∀x,(oneV x).length<=4194304:=λx=>by show 1<=4194304;omega
 unfold vfP valP
 by_cases i:v.k=1
 ·rw[Qg i];exact one _
 rw[Qe i]
 by_cases u:v.k=2
 ·rw[Qg u];exact one _
 rw[Qe u]
 by_cases p:v.k=3
 ·rw[Qg p];exact one _
 rw[Qe p]
 by_cases y:v.k=4
 ·rw[Qg y];exact one _
 rw[Qe y]
 by_cases q:v.k=5
 ·rw[Qg q];exact one _
 rw[Qe q]
 by_cases r:v.k=6
 ·rw[Qg r];omega
 rw[Qe r]
 by_cases l:v.k=7
 ·rw[Qg l];unfold zgd;rw[Qh];omega
 rw[Qe l]
 by_cases j:v.k=8
 ·rw[Qg j];omega
 rw[Qe j]
 by_cases o:v.k=9
 ·rw[Qg o];unfold zgd;rw[Qh,ziW];omega
 rw[Qe o]
 by_cases d:v.k=10
 ·rw[Qg d];omega
 rw[Qe d]
 by_cases e:v.k=11
 ·rw[Qg e];exact one _
 rw[Qe e]
 by_cases f:v.k=12
 ·rw[Qg f];exact one _
 rw[Qe f];exact Qm _
def zzb(a:VarV->List Pair)(l:List VarV)(B:Nat)(b:World)(v i:Value)(wr:World):Prop:=
 ∃k:Nat,k<=l.length/\i=jA k/\OwnA wr B v (allP a l (l.take k))/\Below B b wr
def zyQ(l:List VarV)(x:VarV)(a:List Pair)(b:World)(v i:Value)(wr:World):Prop:=
 ∃j:Nat,j<=a.length/\i=jA j/\OwnA wr b.heap.size v (zdN l x (a.take j))/\b wr
theorem zxn(l:List VarV)(A0:Option Addr)(c0:Nat)(m t b:ByteArray)(G:List zal)(A:Option Addr)(c:Nat)(cl:Nat)(sc:Int)(f:List Pair)(Al:Option Addr)(c1:Nat)(d:List Pair)(Ac:Option Addr)(c2:Nat)(w:World)
 (hv:Sl w w.heap.size 3 A0 l.length (l.flatMap zdR)) (hG:ValIn m t b G A f Al d Ac w) (hz:znw t G f d cl sc) (hl:l.length<=4194304) (s:(allP (vfP m t b G cl sc f d) l l).length<=4398046511104):
 Calls prog 84 #[.slice A0 l.length c0,.agg #[.string m,.string t,.slice A G.length c,.string b],.int .u32 (cl:Int),jA sc,.slice Al f.length c1,.slice Ac d.length c2] w (RowA (allP (vfP m t b G cl sc f d) l l) w):=by
 have hs:∀W,Below (w.heap.size+1) (w.alloc (.cells #[.string m,.string t,.slice A G.length c,.string b] 29)) W->(W.cell? w.heap.size=some (.string m)/\W.cell? ⟨w.heap.size,1,none⟩=some (.string t)/\W.cell? ⟨w.heap.size,2,none⟩=some (.slice A G.length c)/\W.cell? ⟨w.heap.size,3,none⟩=some (.string b))/\w W/\ValIn m t b G A f Al d Ac W/\Sl W W.heap.size 3 A0 l.length (l.flatMap zdR):=λW hb=>by
  obtain⟨h1,h2⟩:=zbs hb;exact⟨⟨h1 0,h1 1,h1 2,h1 3⟩,h2,hG.below h2,(hv.below h2).more h2.size⟩
 have N:=hIx hs;obtain⟨W0,h5⟩:∃W0,w.alloc (.cells #[.string m,.string t,.slice A G.length c,.string b] 29)=W0:=⟨_,rfl⟩
 have T:w.heap.size+1<=W0.heap.size:=by rw[<-h5];simp
 rw[h5]at N;have g4:=hIx h5
 have hH:Hid (∀(v:VarV) (W:World),Below (w.heap.size+1) W0 W->Calls prog 118 #[.agg #[jA v.k,jA v.m,.string v.n],.agg #[.string m,.string t,.slice A G.length c,.string b],.int .u32 (cl:Int),jA sc,.slice Al f.length c1,.slice Ac d.length c2] W (RowA (vfP m t b G cl sc f d v) W)):=λv W h=>
  zpG v.k v.m v.n m t b G A c cl sc f Al c1 d Ac c2 W (N.out W h).2.2.1 hz
 have g6:Hid (∀v,(vfP m t b G cl sc f d v).length<=4194304):=λv=>zr7 hz v
 generalize vfP m t b G cl sc f d=B at *;have hE:=hIx s;have hQ:=λk h=>hIx (zra B l l k h)
 have g5:=λk=>hIx (zxV B l l k)
 have g3:=hIx hl;have hr:Hid (∀(n:Nat) (W:World),n<=4194304->Below (w.heap.size+1) W0 W->Calls prog 58 #[jA (n:Int)] W λe w'=>e=jC (.string (bs (Lib.itoa (n:Int))))/\W w'):=λn W hn h=>zoM (n:Int) W (by omega) (by omega) (N.out W h).2.2.1.tab
 clear hs h5 hG hz hv s hl
 go_in
 go_upto_region 1 with fail
 rw[g4.out];go_wp2
 go_loopw [13,21] (λv i wr=>zzb B l (w.heap.size+1) W0 v i wr) (λ_ i _=>l.length-(intOf i).toNat)
 case atStart=>exact⟨0,Qm _,rfl,OwnA.nil _ _,Qj _ _⟩
 case round=>
  obtain⟨k,hk,rfl,hO,hb⟩:=hrel;have hD:w.heap.size+1<=wr.heap.size:=Ql T hb.size;have ⟨⟨b0,b1,b2,b3⟩,h4,hI,y⟩:=N.out wr hb;have gb:w.heap.size<wr.heap.size:=hD;obtain⟨Ao,co,rfl,_⟩:=hO.form;have HO:=hIx hO;have HB:=hIx hb;have gd:=g3.out
  by_cases ho:k<l.length
  ·have d1:decide ((k:Int)<(l.length:Int))=true:=by simp;omega
   have i7:IntKind.i64.wrap ((k:Int)+1)=(k:Int)+1:=Qx _ (by omega);obtain⟨bb,off,rfl,ga,x0,x1,x2⟩:=zyJ y k ho;have h6:=hQ k ho;have H:=(g5 (k+1)).out;rw[h6.out,Qa]at H;have s:=hE.out;have hU:Hid ((allP B l (l.take k)).length+(zfU l l[k] (B l[k])).length<=4398046511104):=Ql H s;generalize l[k]=X at *;have hK:=hIx (hH.out X);have hY:=hIx (g6.out X);generalize B X=a at *;obtain⟨p,o,q⟩:=X;dsimp only at *;have r:Below (w.heap.size+1) wr (wr.alloc (.cells #[jA p,jA o,.string q] 55)):=(Qj _ _).alloc hD _;have h0:=hb.trans r;have U:=hO.below ((Qj wr.heap.size wr).alloc (Qc _) (.cells #[jA p,jA o,.string q] 55));cases q2:(o==2)with
   |true=>
    have Y:o=2:=by simpa using q2
    have HE:Hid (allP B l (l.take (k+1))=allP B l (l.take k)):=by unfold Hid;rw[h6.out];unfold zfU;rw[Qg Y,QE]
    have h9:=hIx U;have J:=hIx h0;clear Y hO hb h4 hI y b0 b1 b2 b3 H s r h0 U;go_wp2;exact⟨⟨k+1,by omega,rfl,by rw[HE.out];exact h9.out,J.out⟩,by dsimp only[intOf];omega⟩
   |false=>
    have Y:o≠2:=by simpa using q2
    have J:=hIx h0;have h9:=hIx U;have hg:wr.heap.size+1<=(wr.alloc (.cells #[jA p,jA o,.string q] 55)).heap.size:=by simp
    have D:=λW h=>zbs (w:=wr) (W':=W) (cs:=#[jA p,jA o,.string q]) (t:=55) h
    have g2:=hIx D;clear hO hb h4 hI H s r h0 U D;go_wp2_with fail;refine(hK.out _ J.out).mono ?_;rintro e w2 ⟨v2,rfl,hi,V⟩;obtain⟨A2,d2,rfl,hh⟩:=hi.form;have hw:Hid (Below (wr.heap.size+1) (wr.alloc (.cells #[jA p,jA o,.string q] 55)) w2):=V.mono hg;have h8:Hid (Below (w.heap.size+1) W0 w2):=J.out.trans (V.mono (Ql T J.out.size));have hR:Hid (OwnA w2 (w.heap.size+1) (.slice Ao (allP B l (l.take k)).length co) (allP B l (l.take k))):=h9.out.below V;have hP:Hid (∀W,w2 W->Sl W W.heap.size 2 A2 a.length (a.flatMap za5)):=λW h=>(hh.below h).more h.size
    clear V hi hh x0 x1 x2 b0 b1 b2 b3 y;obtain⟨wo,rfl⟩:∃wo:World,wo=wr:=⟨_,rfl⟩
    go_wp2
    go_loopw [16,36] (λv i wr=>zyQ l ⟨p,o,q⟩ a w2 v i wr) (λ_ i _=>a.length-(intOf i).toNat)
    case atStart=>exact⟨0,Qm _,rfl,OwnA.nil _ _,Qj _ _⟩
    case round=>
     obtain⟨j,hj,rfl,E,u⟩:=hrel;have g:=h8.out.trans (u.mono (Ql T h8.out.size));have ⟨_,_,_,y⟩:=N.out wr g;have ⟨D,_⟩:=g2.out wr (hw.out.trans (u.mono (Ql hg hw.out.size)));have v0:wr.cell? ⟨wo.heap.size,0,none⟩=some (jA p):=D 0;have v1:wr.cell? ⟨wo.heap.size,1,none⟩=some (jA o):=D 1;have Q:=hR.out.below u;have g1:w2.heap.size<=wr.heap.size:=u.size;have ge:=hY.out;have hW:=zvX l ⟨p,o,q⟩ a j;obtain⟨Ai,ci,rfl,_⟩:=E.form
     by_cases h7:j<a.length
     ·have dj:decide ((j:Int)<(a.length:Int))=true:=by simp;omega
      have i9:IntKind.i64.wrap ((j:Int)+1)=(j:Int)+1:=Qx _ (by omega);obtain⟨b',g9,rfl,_,y0,y1⟩:=zpl (hP.out wr u) j h7;have hA:=hIx (zpL l ⟨p,o,q⟩ a j h7);generalize a[j]=x at *;obtain⟨Z,n2⟩:=x;dsimp only at y0 y1;have r:wr (wr.alloc (.cells #[.string Z,.string n2] 163)):=WaL;have hC:=zxB l ⟨p,o,q⟩ (Z,n2) _ c0 wo.heap.size wr.heap.size (wr.alloc (.cells #[.string Z,.string n2] 163)) ((y.below r).more r.size) (by omega) (zaa r v0) (zao (Qj _ _) 0);have hB:=E.below r;have hy:=u.trans (r.mono g1);have hZ:Hid (∀W,Below (wr.alloc (.cells #[.string Z,.string n2] 163)).heap.size (wr.alloc (.cells #[.string Z,.string n2] 163)) W->W.cell? ⟨wr.heap.size,0,none⟩=some (.string Z)/\W.cell? ⟨wr.heap.size,1,none⟩=some (.string n2)):=λW h=>⟨zao h 0,zao h 1⟩
      have HC:=hIx hC;have hF:=hIx hB;have h3:=hIx hy;clear r hC hB hy E u g y D v0 v1 Q;cases hq:exP l ⟨p,o,q⟩ (Z,n2)with
      |true=>
       have hc:Hid (zdN l ⟨p,o,q⟩ (a.take (j+1))=zdN l ⟨p,o,q⟩ (a.take j)):=by unfold Hid;rw[hA.out,Qg hq,QE]
       rw[hq]at HC;clear hq;go_wp2_with (go_at_call 119;(with_reducible refine HC.out.mono ?_);rintro e w4 ⟨rfl,z⟩);exact⟨⟨j+1,by omega,rfl,by rw[hc.out];exact hF.out.below z,h3.out.trans (z.mono h3.out.size)⟩,by dsimp only[intOf];omega⟩
      |false=>
       have hc:Hid (zdN l ⟨p,o,q⟩ (a.take (j+1))=zdN l ⟨p,o,q⟩ (a.take j)++[(Z,n2)]):=by unfold Hid;rw[hA.out,Qe (by rw[hq];decide)]
       rw[hq]at HC;clear hq;generalize zdN l ⟨p,o,q⟩ (a.take j)=C at *
       go_wp2_with (first
        |(go_at_call 119;(with_reducible refine HC.out.mono ?_);rintro e w4 ⟨rfl,z⟩;have hX:=hF.out.below z;have hu:=h3.out.trans (z.mono h3.out.size);have g7:w2.heap.size<=w4.heap.size:=hu.size;have ⟨a0,a1⟩:=hZ.out w4 z)
        |(at_builtin;refine zaZ rfl (.tmp 44) (.tmp 46) rfl w2.heap.size (.slice Ai C.length ci) C rfl (by exact hX) (by exact g7) _ (Z,n2) rfl w4.heap.size rfl 1 rfl (by omega) ?_;intro v5 w5 P hf gc ht))
       exact⟨⟨j+1,by omega,rfl,by rw[hc.out];exact P,hu.trans hf⟩,by dsimp only[intOf];omega⟩
     ·obtain rfl:j=a.length:=by omega
      have dj:decide ((a.length:Int)<(a.length:Int))=false:=by simp
      rw[QZ]at E hW ⊢;have hJ:=hIx Q;have hx:=hIx g;have ha:w.heap.size+1<=wr.heap.size:=Ql T g.size;have I:=hU.out;cases q1:(o==1)with
      |true=>
       have F:o=1:=by simpa using q1
       have HE:Hid (allP B l (l.take (k+1))=allP B l (l.take k)++oneV (bs (Lib.itoa ((zdN l ⟨p,o,q⟩ a).length:Int)))):=by unfold Hid;rw[h6.out];unfold zfU;rw[Qe Y,Qg F]
       have K:zfU l ⟨p,o,q⟩ a=oneV (bs (Lib.itoa ((zdN l ⟨p,o,q⟩ a).length:Int))):=by unfold zfU;rw[Qe Y,Qg F]
       rw[K]at I;have I:(allP B l (l.take k)).length+1<=4398046511104:=I;clear Y F K;generalize zdN l ⟨p,o,q⟩ a=L at *;have hT:=hIx (hr.out L.length wr (by omega) g);generalize bs (Lib.itoa (L.length:Int))=S at *;generalize allP B l (l.take k)=C at *;clear E u g y D Q
       go_wp2_with (first
        |(go_at_call 58;(with_reducible refine hT.out.mono ?_);rintro e w4 ⟨rfl,z⟩)
        |(go_at_call 121;(with_reducible refine(zda S w4).mono ?_);rintro e w5 ⟨v5,rfl,P,hf⟩;have O:=z.trans (hf.mono z.size);have hp:=hJ.out.below O;have g0:=hx.out.trans (O.mono ha);have ht:w.heap.size+1<=w5.heap.size:=Ql ha O.size;obtain⟨A5,c5,rfl,_⟩:=P.form)
        |(at_builtin;refine zcx rfl (.tmp 56) (.tmp 57) rfl (w.heap.size+1) w4.heap.size (.slice Ao C.length co) (.slice A5 (oneV S).length c5) C (oneV S) rfl rfl (by exact hp) (by exact P) (by exact ht) (by exact I) ?_;intro v6 w6 he hd hV hN))
       exact⟨⟨k+1,by omega,rfl,by rw[HE.out];exact he,g0.trans hd⟩,by dsimp only[intOf];omega⟩
      |false=>
       have F:o≠1:=by simpa using q1
       have HE:Hid (allP B l (l.take (k+1))=allP B l (l.take k)++zdN l ⟨p,o,q⟩ a):=by unfold Hid;rw[h6.out];unfold zfU;rw[Qe Y,Qe F]
       have K:zfU l ⟨p,o,q⟩ a=zdN l ⟨p,o,q⟩ a:=by unfold zfU;rw[Qe Y,Qe F]
       rw[K]at I;clear Y F K;generalize zdN l ⟨p,o,q⟩ a=L at *;generalize allP B l (l.take k)=C at *;have hS:=hIx E;clear E u g y D Q;go_wp2_with (at_builtin;refine zcx rfl (.tmp 56) (.tmp 57) rfl (w.heap.size+1) w2.heap.size (.slice Ao C.length co) (.slice Ai L.length ci) C L rfl rfl (by exact hJ.out) (by exact hS.out) (by exact ha) (by exact I) ?_;intro v6 w6 he hd hV hN);exact⟨⟨k+1,by omega,rfl,by rw[HE.out];exact he,hx.out.trans hd⟩,by dsimp only[intOf];omega⟩
  ·obtain rfl:k=l.length:=by omega
   have d1:decide ((l.length:Int)<(l.length:Int))=false:=by simp
   rw[QZ]at hO;have g8:=hIx h4;have hL:=hIx (hO.low (Zc w.heap.size));clear hO hb h4 hI y b0 b1 b2 b3;go_wp2_with fail;rw[QZ];go_ret;exact⟨_,rfl,hL.out,g8.out⟩
def okK(k:Int):Bool:=!(decide (k<1)||decide (11<k))
theorem zsu(k:Int):okK k=true↔1<=k/\k<=11:=by unfold okK;simp
def zbw(l:List Int):Int:=if 8<l.length then 2 else if l.all okK=true then 0 else 1
theorem zrQ{l:List Int}:zbw l=0↔l.length<=8/\∀x∈l,1<=x/\x<=11:=by
 unfold zbw
 by_cases h:8<l.length
 ·rw[Qg h]
  exact⟨λe=>absurd e (by decide),λe=>by omega⟩
 ·rw[Qe h]
  by_cases h2:l.all okK=true
  ·rw[Qg h2]
   exact⟨λ_=>⟨by omega,λx a=>(zsu x).1 (Zl.1 h2 x a)⟩,λ_=>rfl⟩
  ·rw[Qe h2]
   exact⟨λe=>absurd e (by decide),λe=>absurd (Zl.2 λx a=>(zsu x).2 (e.2 x a)) h2⟩
theorem zqk(k:Int)(w:World):Calls prog 102 #[jA k] w (zav (!okK k) w):=by
 have a:Hid ((!okK k)=(decide (k<1)||decide (11<k))):=by unfold Hid okK;rw[Bool.not_not]
 by_cases c1:k<1
 ·have b:decide (k<1)=true:=Qu c1
  rw[b]at a
  go_in
  go_wp2;go_ret;exact⟨by rw[a.out];rfl,Qj _ _⟩
 ·have b:decide (k<1)=false:=Qq c1
  rw[b]at a
  by_cases c2:11<k
  have c:decide (11<k)=true:=Qu c2
  rotate_left
  have c:decide (11<k)=false:=Qq c2
  all_goals
   rw[c]at a
   go_in
   go_wp2;go_ret;exact⟨by rw[a.out];rfl,Qj _ _⟩
theorem ziU(l:List Int)(A:Option Addr)(c:Nat)(w:World)(h:Sl w w.heap.size 1 A l.length (l.map (Value.int .i64)))(hl:l.length<=4194304):
 Calls prog 73 #[.slice A l.length c] w λe w'=>e=jC (jA (zbw l))/\w w':=by
 have d:=hIx ((zj0 102 #[] (enters_of func102 (by kernel_rfl) rfl) A l.length c (l.map (Value.int .i64)) (λj=>jA (l.getD j 0)) (λj=>!okK (l.getD j 0)) w h (by omega)
  (λj p=>by rw[ZM,Qo,Qd p];rfl) (λW j _ _=>zqk _ W)))
 rw[zdY (λk=>!okK k) l 0]at d
 by_cases i:8<l.length
 ·have b:Hid (zbw l=2):=by unfold Hid zbw;rw[Qg i]
  have o:decide (8<(l.length:Int))=true:=by simp;omega
  rw[b.out]
  go_in
  go_wp2;go_ret;exact⟨rfl,Qj _ _⟩
 ·have o:decide (8<(l.length:Int))=false:=by simp;omega
  have b:Hid (zbw l=if l.any (λk=>!okK k)=true then 1 else 0):=by
   unfold Hid zbw;rw[Qe i];cases g:l.any (λk=>!okK k)with
   |true=>
    rw[Qe,Qg rfl];intro e;obtain⟨x,f,a⟩:=Xy.1 g;rw[Zl.1 e x f]at a;cases a
   |false=>
    rw[Qg,Qe (by decide)];rw[Zl];intro x f;have:=List.any_eq_false.1 g x f
    simpa using this
  rw[b.out];clear b;generalize l.any (λk=>!okK k)=n at *;cases n with
  |true=>
   rw[Qg rfl]
   go_in
   go_wp2_with fail;refine d.out.mono ?_;rintro e m ⟨rfl,hb⟩;go_wp2;go_ret;exact⟨rfl,hb⟩
  |false=>
   rw[Qe (by decide)]
   go_in
   go_wp2_with fail;refine d.out.mono ?_;rintro e m ⟨rfl,hb⟩;go_wp2;go_ret;exact⟨rfl,hb⟩
def zka(o:Option Int)(e:Nat):UInt8 × Nat:=match o with
 |some n=>if 255<n then (0,0)else (UInt8.ofNat n.toNat,e+1)
 |none=>(0,0)
def zgy(l:jE)(e:Nat):UInt8 × Nat:=
 if Lib.hasPrefix ((l.take e).drop 2) [120]=true then (if ((l.take e).drop 2).length<=3 then zka (numL 16 7 (((l.take e).drop 2).drop 1)) e else (0,0))
 else if ((l.take e).drop 2).length<=3 then zka (numL 10 9 ((l.take e).drop 2)) e else (0,0)
def entL(l:jE):UInt8 × Nat:=
 if Lib.hasPrefix l [38,108,116,59]=true then (60,4)else if Lib.hasPrefix l [38,103,116,59]=true then (62,4)else if Lib.hasPrefix l [38,97,109,112,59]=true then (38,5)
 else if Lib.hasPrefix l [38,113,117,111,116,59]=true then (34,6)else if Lib.indexByte (l.take 7) 59<0\/Lib.hasPrefix l [38,35]=false then (0,0)else zgy l (Lib.indexByte (l.take 7) 59).toNat
def zcm(b:UInt8)(r:jE):jE × Nat:=
 if b=38/\0<(entL (38::r)).2 then ([(entL (38::r)).1],(entL (38::r)).2-1)else ([b],0)
def zcl(l:jE):jE:=scan zcm l
theorem zgB(base:Int)(hb:2<=base/\base<=16):∀(l:jE) (n r:Int),0<=n->zbr base l n=some r->0<=r
 | [],n,r,a,h=>by cases h;exact a
 |b::l,n,r,a,h=>by
  unfold zbr at h
  split at h
  ·cases h
  ·rename_i d
   have c:0<=n*base:=Int.mul_nonneg a (by omega);exact zgB base hb l _ r (by omega) h
theorem zii(base:Int)(most:Nat)(hb:2<=base/\base<=16)(l:jE)(r:Int)(h:numL base most l=some r):0<=r:=by
 unfold numL at h
 split at h
 ·cases h
 ·exact zgB base hb l 0 r (ZD 0) h
theorem zb4{l p:jE}(h:Lib.hasPrefix l p=true):p.length<=l.length:=by
 unfold Lib.hasPrefix at h;obtain⟨t,rfl⟩:=Zd.1 h;simp
theorem zfW{l:jE}{c:UInt8}{n:Nat}(h:0<=Lib.indexByte (l.take n) c):(Lib.indexByte (l.take n) c).toNat<n/\(Lib.indexByte (l.take n) c).toNat<l.length/\l[(Lib.indexByte (l.take n) c).toNat]? = some c:=by
 obtain⟨k,a⟩:=Zt h;obtain⟨h1,_⟩:=Lib.indexByte_some a;rw[a,Q8];have h2:=(Qw.1 h1).1;rw[QJ]at h2;rw[List.getElem?_take,Qg (by omega)]at h1;exact⟨by omega,by omega,h1⟩
theorem zxz{l:jE}(h:0<=Lib.indexByte (l.take 7) 59)(b:Lib.hasPrefix l [38,35]=true):2<=(Lib.indexByte (l.take 7) 59).toNat:=by
 obtain⟨_,_,a⟩:=zfW h;unfold Lib.hasPrefix at b;obtain⟨t,rfl⟩:=Zd.1 b;generalize (Lib.indexByte (([38,35]++t).take 7) 59).toNat=e at *
 match e,a with
 |0,a=>simp at a
 |1,a=>simp at a
 |e+2,_=>omega
theorem zyb(l:jE):(entL l).2<=l.length:=by
 unfold entL
 split
 ·rename_i h;exact zb4 h
 split
 ·rename_i h;exact zb4 h
 split
 ·rename_i h;exact zb4 h
 split
 ·rename_i h;exact zb4 h
 split
 ·exact Qm _
 ·rename_i h
  have b:0<=Lib.indexByte (l.take 7) 59:=by
   have:=not_or.1 h;omega
  obtain⟨_,h2,_⟩:=zfW b
  have c:∀o e,e+1<=l.length->(zka o e).2<=l.length:=λo e a=>by
   unfold zka
   split
   ·split
    ·exact Qm _
    ·exact a
   ·exact Qm _
  unfold zgy
  (repeat' split) <;> first|exact c _ _ (by omega)|exact Qm _
def EntPost(r:UInt8 × Nat)(w:World)(e:Ending)(w':World):Prop:=e=jC (.tuple #[.int .u8 (r.1.toNat:Int),jA (r.2:Int)])/\w w'
theorem EntPost.mk{r:UInt8 × Nat}{w w':World}{e:Ending}(a b:Int)(c:e=jC (.tuple #[.int .u8 a,jA b]))(d:a=(r.1.toNat:Int))(hb:b=(r.2:Int))(h:w w'):EntPost r w e w':=by
 subst d;subst hb;exact⟨c,h⟩
theorem zuV(s:ByteArray):(s.extract 0 (min (s.size:Int) 7).toNat).data.toList=s.data.toList.take 7:=by
 rw[ZK,List.drop_zero,Nat.sub_zero]
 rcases ZI s.size 7 with h|h
 ·rw[show (min (s.size:Int) 7).toNat=s.size by omega,QF (by simp),QF (by simp;omega)]
 ·rw[show (min (s.size:Int) 7).toNat=7 by omega]
theorem zng(s:ByteArray)(e:Nat):(s.extract 2 e).data.toList=(s.data.toList.take e).drop 2:=by
 rw[ZK,List.drop_take]
theorem zkd(s:ByteArray)(w:World)(L:s.size<=maxLen):
 Calls prog 238 #[.string s] w (EntPost (entL s.data.toList) w):=by
 have S:=L;unfold maxLen at L
 by_cases c0:Lib.hasPrefix s.data.toList [38,108,116,59]=true
 have g:Hid (entL s.data.toList=(60,4)):=by unfold Hid entL;rw[Qg c0]
 rotate_left
 rw[XN]at c0
 by_cases c1:Lib.hasPrefix s.data.toList [38,103,116,59]=true
 have g:Hid (entL s.data.toList=(62,4)):=by unfold Hid entL;rw[Qe (by rw[c0];decide),Qg c1]
 rotate_left
 rw[XN]at c1
 by_cases c2:Lib.hasPrefix s.data.toList [38,97,109,112,59]=true
 have g:Hid (entL s.data.toList=(38,5)):=by unfold Hid entL;rw[Qe (by rw[c0];decide),Qe (by rw[c1];decide),Qg c2]
 rotate_left
 rw[XN]at c2
 by_cases c3:Lib.hasPrefix s.data.toList [38,113,117,111,116,59]=true
 have g:Hid (entL s.data.toList=(34,6)):=by unfold Hid entL;rw[Qe (by rw[c0];decide),Qe (by rw[c1];decide),Qe (by rw[c2];decide),Qg c3]
 rotate_left
 rw[XN]at c3
 have f:Hid (entL s.data.toList=if Lib.indexByte (s.data.toList.take 7) 59<0\/Lib.hasPrefix s.data.toList [38,35]=false then (0,0)else zgy s.data.toList (Lib.indexByte (s.data.toList.take 7) 59).toNat):=by
  unfold Hid entL;rw[Qe (by rw[c0];decide),Qe (by rw[c1];decide),Qe (by rw[c2];decide),Qe (by rw[c3];decide)]
 have F:=hIx (zuV s);obtain⟨x,y⟩:∃x,Lib.indexByte (s.data.toList.take 7) 59=x:=⟨_,rfl⟩
 have I:=hIx y;have a:=@zxz s.data.toList;have b:=@zfW s.data.toList 59 7;rw[y]at a b;rw[y]at f;clear y
 by_cases A:x<0
 have g:Hid (entL s.data.toList=(0,0)):=f.out.trans (Qg (Or.inl A));clear a b
 rotate_left
 have H:0<=x:=by omega
 by_cases c4:Lib.hasPrefix s.data.toList [38,35]=true
 rotate_left
 rw[XN]at c4;have g:Hid (entL s.data.toList=(0,0)):=f.out.trans (Qg (Or.inr c4));have K:=hIx c4;clear a b c4
 rotate_right
 have z:Hid (entL s.data.toList=zgy s.data.toList x.toNat):=f.out.trans (Qe (λh=>h.elim A (λh=>by rw[c4]at h;cases h)));have T:=a H c4;obtain⟨U,O,_⟩:=b H;rw[show s.data.toList.length=s.size by simp]at O;have K:=hIx c4;clear a b c4 A;obtain⟨k,rfl⟩:=Zt H;rw[Q8]at *;have J:=hIx (zng s k);obtain⟨d,v⟩:∃d,(s.data.toList.take k).drop 2=d:=⟨_,rfl⟩
 have G:d.length=k-2:=by rw[<-v,QM,QJ];simp;omega
 have t:Hid (zgy s.data.toList k=if Lib.hasPrefix d [120]=true then (if d.length<=3 then zka (numL 16 7 (d.drop 1)) k else (0,0))else if d.length<=3 then zka (numL 10 9 d) k else (0,0)):=by
  unfold Hid zgy;rw[v]
 rw[v]at J;clear v
 by_cases c5:Lib.hasPrefix d [120]=true
 obtain⟨l,c⟩:∃l,d.drop 1=l:=⟨_,rfl⟩
 have N:Hid (Lib.trimPrefix d [120]=l):=by unfold Hid Lib.trimPrefix;rw[Qg c5];exact c
 have C:=zb4 c5;have j:=hIx ((t.out).trans (Qg c5));rw[c]at j;simp only[Qn,QS]at C;have o:l.length=d.length-1:=by rw[<-c];exact QM
 have i:d.length<=3->(bs l).size<=maxLen:=λ_=>by rw[zae,o];unfold maxLen;omega
 have m:=λn=>zii 16 7 (by decide) l n
 by_cases u:d.length<=3
 have p:(l.length:Int)<=2:=by omega
 clear o c
 rotate_left
 have p:2<(l.length:Int):=by omega
 clear o c
 rotate_left
 have N:Hid (Lib.trimPrefix d [120]=d):=by unfold Hid Lib.trimPrefix;rw[Qe c5]
 have j:=hIx ((t.out).trans (Qe c5));rw[XN]at c5;have i:d.length<=3->(bs d).size<=maxLen:=λ_=>by rw[zae];unfold maxLen;omega
 have m:=λn=>zii 10 9 (by decide) d n
 by_cases u:d.length<=3
 have p:(d.length:Int)<=3:=by omega
 rotate_left
 have p:3<(d.length:Int):=by omega
 all_goals
  try have P:=hIx c5
  try clear c5 G
  first
   |(
    have i:=i u
    have q:=hIx (j.out.trans (Qg u))
    first|cases r:numL 16 7 l|cases r:numL 10 9 d
    have g:Hid (entL s.data.toList=(0,0)):=by unfold Hid;rw[z.out,q.out,r];rfl
    rotate_left
    rename_i n;have m:=m n r
    by_cases E:255<n
    have g:Hid (entL s.data.toList=(0,0)):=by unfold Hid;rw[z.out,q.out,r];exact Qg E
    rotate_left
    have g:Hid (entL s.data.toList=(UInt8.ofNat n.toNat,k+1)):=by unfold Hid;rw[z.out,q.out,r];exact Qe E
    have D:n<=255:=by omega
    clear E
    all_goals
     have Q:=hIx r;clear r)
   |(have g:Hid (entL s.data.toList=(0,0)):=by unfold Hid;rw[z.out,j.out,Qe u])
   |skip
 all_goals
  try clear u
  go_in
  go_wp2_with fail;refine wp_loop_rounds 5 ?_;rw[rounds_succ];go_wp2_with (first|rw[rounds_succ]|(go_at_call 209;refine(strings_HasPrefix _ _ _).mono ?_;rintro e w' ⟨rfl,rfl⟩))
  first
   |(
    go_ret2
    rw[g.out];exact⟨rfl,WaL⟩)
   |(
    refine(strings_IndexByte _ _ _).mono ?_
    rintro e B ⟨rfl,rfl⟩;rw[show (59:Int).toNat.toUInt8=(59:UInt8)from rfl,F.out,I.out];go_wp2_with fail
    first
     |(
      go_ret2
      rw[g.out];exact⟨rfl,WaL⟩)
     |(
      refine(strings_HasPrefix _ _ _).mono ?_
      rintro e B ⟨rfl,rfl⟩;rw[show (ByteArray.mk #[38,35]).data.toList=[38,35]from rfl,K.out];go_wp2_with fail
      first
       |(
        go_ret2
        rw[g.out];exact⟨rfl,WaL⟩)
       |(
        refine(strings_CutPrefix _ _ _).mono ?_
        rintro e B ⟨rfl,rfl⟩;rw[show (ByteArray.mk #[120]).data.toList=[120]from rfl,J.out,N.out,P.out];go_wp2_with fail
        first
         |(
          go_ret2
          rw[g.out];exact⟨rfl,WaL⟩)
         |(
          first|refine(ztN _ _ i).mono ?_|refine(zf6 _ _ i).mono ?_
          rintro e B ⟨rfl,rfl⟩;rw[zah,Q.out];simp only[zcb];go_wp2
          go_ret2
          rw[g.out]
          first
           |exact⟨rfl,WaL⟩
           |exact EntPost.mk _ _ rfl (znY n m D).symm (by show (k:Int)+1=_;simp) WaL))))
def zxr(s:ByteArray)(w:World)(v i:Value)(wr:World):Prop:=
 ∃(k:Nat) (a:jE),k<=s.size/\i=jA k/\a.length<=k/\OwnB wr w.heap.size v a/\zcl s.data.toList=a++zcl (s.data.toList.drop k)/\w wr
theorem OwnB.below{w w':World}{base:Nat}{v:Value}{l:jE}(h:OwnB w base v l)(hb:w w'):OwnB w' base v l:=
 h.kept (row:=none) ⟨hb.os,hb.tape,hb.output,hb.size,λk a _=>hb.block k a⟩ (by cases b:v.ownBlock <;> simp)
theorem zjn(s:ByteArray)(w:World)(S:s.size<=140737488351232):
 Calls prog 194 #[.string s] w (zbJ (bs (zcl s.data.toList)) w):=by
 have E:Hid (s.data.toList.length=s.size):=by unfold Hid;simp
 go_in
 go_wp2
 go_loopw [3,4] (λv i wr=>zxr s w v i wr) (λ_ i _=>s.size-(intOf i).toNat)
 case atStart=>exact⟨0,[],Qm _,rfl,Qc _,OwnB.nil _ _,rfl,Qj _ _⟩
 case round=>
  obtain⟨k,f,Q,rfl,G,d,H,g⟩:=hrel;have b:=g.size;have u:=hIx H;clear H
  by_cases A:k<s.size
  ·have z:=hIx (zaH s k A)
   have B:=hIx (zd7 zcm s[k] (s.data.toList.drop (k+1)));have K:=s[k].toNat_lt
   by_cases a:s[k]=38
   ·have N:((s[k].toNat:Int)==38)=true:=by rw[a];decide
    have y:(s.extract k s.size).data.toList=s.data.toList.drop k:=Lib.extract_to_end s k;have m:(s.extract k s.size).size=s.size-k:=by rw[Lib.size_eq,y];simp
    obtain⟨x,n,q⟩:∃x n,entL (s.data.toList.drop k)=(x,n):=⟨_,_,rfl⟩
    have t:=zyb (s.data.toList.drop k);rw[q,QM,E.out]at t;have j:entL (38::s.data.toList.drop (k+1))=(x,n):=by rw[<-q,z.out,a]
    have J:=hIx y;have p:=hIx m;have I:=hIx q;simp only[]at t
    by_cases F:0<n
    ·have r:Hid (zcm s[k] (s.data.toList.drop (k+1))=([x],n-1)):=by unfold Hid zcm;rw[j,Qg ⟨a,F⟩]
     have O:(0:Int)<n:=by omega
     clear y m q j a;go_wp2_with (first|(go_at_call 238;refine(zkd _ _ (by rw[p.out];unfold maxLen;omega)).mono ?_;rintro e D ⟨rfl,a⟩;rw[J.out,I.out])|(at_builtin;refine zaf rfl _ _ rfl w.heap.size _ f rfl (by exact d.below a) (by exact Ql b a.size) _ [x] rfl 1 1 rfl rfl (by omega) ?_;intro v' w2 c o l));exact⟨⟨k+n,f++[x],by omega,by go_num,by simp;omega,c,by rw[u.out,z.out];unfold zcl;rw[B.out,r.out,Zz,show k+1+(n-1)=k+n by omega];simp,(g.trans (a.mono b)).trans o⟩,by simp[intOf];omega⟩
    ·have r:Hid (zcm s[k] (s.data.toList.drop (k+1))=([s[k]],0)):=by unfold Hid zcm;rw[j,Qe (λh=>F h.2)]
     have C:n=0:=by omega
     subst C;clear y m q j a;go_wp2_with (first|(go_at_call 238;refine(zkd _ _ (by rw[p.out];unfold maxLen;omega)).mono ?_;rintro e D ⟨rfl,a⟩;rw[J.out,I.out])|(at_builtin;refine zaf rfl _ _ rfl w.heap.size _ f rfl (by exact d.below a) (by exact Ql b a.size) _ [s[k]] rfl 1 1 rfl rfl (by omega) ?_;intro v' w2 c o l));exact⟨⟨k+1,f++[s[k]],by omega,by go_num,by simp;omega,c,by rw[u.out,z.out];unfold zcl;rw[B.out,r.out];simp,(g.trans (a.mono b)).trans o⟩,by simp[intOf];omega⟩
   ·have N:((s[k].toNat:Int)==38)=false:=Qb.2 (λh=>a (Zs.1 (by show s[k].toNat=38;omega)))
    have r:Hid (zcm s[k] (s.data.toList.drop (k+1))=([s[k]],0)):=by unfold Hid zcm;rw[Qe (λh=>a h.1)]
    clear a;go_wp2_with (at_builtin;refine zaf rfl _ _ rfl w.heap.size _ f rfl (by exact d) (by exact b) _ [s[k]] rfl 1 1 rfl rfl (by omega) ?_;intro v' D c a l);exact⟨⟨k+1,f++[s[k]],by omega,by go_num,by simp;omega,c,by rw[u.out,z.out];unfold zcl;rw[B.out,r.out];simp,g.trans a⟩,by simp[intOf];omega⟩
  ·have P:=d.string
   have L:Hid (zcl s.data.toList=f):=by unfold Hid;rw[u.out,QN (by rw[E.out];omega)];unfold zcl;rw[zoT,QE]
   clear d;go_wp2;go_ret;exact⟨by rw[L.out];rfl,g⟩
def zyP(s:ByteArray)(w:World)(v i:Value)(wr:World):Prop:=
 ∃(k:Nat) (a:jE),k<=s.size/\i=jA k/\a.length<=k/\OwnB wr w.heap.size v a/\zbN s.data.toList=(zbN (s.data.toList.drop k)).map (a++·)/\w wr
theorem zla(s:ByteArray)(w:World)(N:s.size<=140737488351232):
 Calls prog 192 #[.string s] w (zeO (zj4 4 (zbN s.data.toList)) w):=by
 have m:Hid (s.data.toList.length=s.size):=by unfold Hid;simp
 go_in
 go_wp2
 go_loopw [4,5] (λv i wr=>zyP s w v i wr) (λ_ i _=>s.size-(intOf i).toNat)
 case atStart=>exact⟨0,[],Qm _,rfl,Qc _,OwnB.nil _ _,by simp,Qj _ _⟩
 case round=>
  obtain⟨k,d,L,rfl,A,a,B,b⟩:=hrel;have c:=b.size;have o:=hIx B;clear B
  by_cases F:k<s.size
  ·have g:0<(s.data.toList.drop k).length:=by rw[QM,m.out];omega
   have j:=zcT (s.data.toList.drop k);have x:=hIx (zjA (s.data.toList.drop k) g);have D:=hIx (ziJ (s.data.toList.drop k) g);obtain⟨n,q⟩:∃n,zcY (s.data.toList.drop k)=n:=⟨_,rfl⟩
   rw[q]at j x D;have C:=hIx q;obtain⟨J,H,l⟩:=j;rw[QM,m.out]at l;clear q g
   by_cases p:n<0
   ·have h:=hIx (x.out p)
    clear l;go_wp2_with (go_at_call 111;refine(zha _ _ (by omega) (by omega) _).mono ?_;rintro e u ⟨rfl,nq,rfl⟩;rw[Q8,C.out])
    go_ret2
    exact⟨by rw[o.out,h.out];rfl,below_drewN b _⟩
   ·have z:0<=n:=by omega
    have K:=l z;have h:=hIx (D.out p);have G:=hIx (znY n z H);have r:Hid ([Value.int .u8 n]=[UInt8.ofNat n.toNat].map zdX):=by unfold Hid zdX;simp only[QW,Zu];rw[G.out]
    clear l p;go_wp2_with (first|(go_at_call 111;refine(zha _ _ (by omega) (by omega) _).mono ?_;rintro e u ⟨rfl,nq,rfl⟩;rw[Q8,C.out])|(at_builtin;refine zaf rfl _ _ rfl w.heap.size _ d rfl (by exact a.drewN _) (by exact c) _ [UInt8.ofNat n.toNat] r.out 1 1 rfl rfl (by omega) ?_;intro v' u f t E));exact⟨⟨k+2,d++[UInt8.ofNat n.toNat],by omega,by go_num,by simp;omega,f,by rw[o.out,h.out,Zz,Option.map_map];congr 1;funext y;simp,(below_drewN b _).trans t⟩,by simp[intOf];omega⟩
  ·have I:=a.string
   have h:Hid (zbN s.data.toList=some d):=by unfold Hid;rw[o.out,QN (by rw[m.out];omega),zgp];simp
   clear a;go_wp2
   go_ret2
   exact⟨by rw[h.out];rfl,b⟩
theorem zpj(step:UInt8->jE->jE × Nat)(h:∀b r,(step b r).1.length=1):∀(n:Nat) (l:jE),l.length<=n->(scan step l).length<=l.length:=by
 intro n
 induction n with
 |zero=>
  intro l hl;have:l=[]:=QA (by omega);subst this;exact Qc _
 |succ n ih=>
  intro l hl;cases l with
  |nil=>exact Qc _
  |cons b r=>
   simp only[Qn]at hl;rw[zd7,Qa,h b r,Qn];have:=ih (r.drop (step b r).2) (by rw[QM];omega);rw[QM]at this;omega
theorem zqg(l:jE):(zcf l).length<=l.length:=zpj zb5 (λb r=>(zp5 b r).2) _ l (Qc _)
theorem znq(l:jE):(zcl l).length<=l.length:=zpj zcm (λb r=>by unfold zcm;split <;> rfl) _ l (Qc _)
def b64T:jE:=[65,66,67,68,69,70,71,72,73,74,75,76,77,78,79,80,81,82,83,84,85,86,87,88,89,90,97,98,99,100,101,102,103,104,105,106,107,108,109,110,111,112,113,114,115,116,117,118,119,120,121,122,48,49,50,51,52,53,54,55,56,57,43,47]
def sgn(n:Nat):UInt8:=(b64T[n]?).getD 0
def idx(b:UInt8):Int:=Lib.indexByte b64T b
theorem zxP(b:UInt8):-1<=idx b/\idx b<64/\(0<=idx b->sgn (idx b).toNat=b/\b≠61):=
 Zr (zcq (p:=λb=>decide (-1<=idx b/\idx b<64/\(0<=idx b->sgn (idx b).toNat=b/\b≠61))) (by decide+kernel) b)
def zb7(n a:Nat):jE->Option jE
 | []=>if n≠0\/a=6 then none else some []
 |x::r=>if idx x<0 then none else
  if a=0 then zb7 (n*64+(idx x).toNat) 6 r
  else (zb7 ((n*64+(idx x).toNat) % 2 ^ (a-2)) (a-2) r).map (UInt8.ofNat ((n*64+(idx x).toNat) / 2 ^ (a-2))::·)
theorem zx8(n a:Nat)(x:UInt8)(r:jE)(h:idx x<0):zb7 n a (x::r)=none:=by rw[zb7,Qg h]
theorem zz5(n:Nat)(x:UInt8)(r:jE)(h:¬idx x<0):zb7 n 0 (x::r)=zb7 (n*64+(idx x).toNat) 6 r:=by
 rw[zb7,Qe h,Qg rfl]
theorem zzM(n:Nat)(x:UInt8)(r:jE)(h:¬idx x<0):zb7 n 6 (x::r)=(zb7 ((n*64+(idx x).toNat) % 16) 4 r).map (UInt8.ofNat ((n*64+(idx x).toNat) / 16)::·):=by
 rw[zb7,Qe h,Qe (by omega)]
theorem zz3(n:Nat)(x:UInt8)(r:jE)(h:¬idx x<0):zb7 n 4 (x::r)=(zb7 ((n*64+(idx x).toNat) % 4) 2 r).map (UInt8.ofNat ((n*64+(idx x).toNat) / 4)::·):=by
 rw[zb7,Qe h,Qe (by omega)]
theorem zz2(n:Nat)(x:UInt8)(r:jE)(h:¬idx x<0):zb7 n 2 (x::r)=(zb7 0 0 r).map (UInt8.ofNat (n*64+(idx x).toNat)::·):=by
 rw[zb7,Qe h,Qe (by omega)];simp[Nat.mod_one]
def zdD(l:jE):jE:=Lib.trimSuffix l [61]
def b64D(l:jE):Option jE:=if l.length % 4≠0 then none else zb7 0 0 (zdD (zdD l))
theorem zxY{l p:jE}(h:Lib.hasSuffix l p=true):p <:+l:=by
 exact XD.1 h
theorem zqY(l:jE):zdD (l++[61])=l:=by
 unfold zdD Lib.trimSuffix Lib.hasSuffix;rw[Qg (XD.2 (List.suffix_append _ _))];simp
theorem zh6(l:jE):(zdD l=l/\¬[61] <:+l)\/l=zdD l++[61]:=by
 by_cases h:[61] <:+l
 ·obtain⟨t,rfl⟩:=h
  right;rw[zqY]
 ·left
  refine⟨?_,h⟩;unfold zdD Lib.trimSuffix;rw[Qe];intro a;exact h (zxY a)
def zwP:Value->Nat
 |.string r=>r.size
 |_=>0
theorem zzh(x y:Int)(i:Nat)(a:0<=x)(f:x % 2 ^ i=0)(c:x<4294967296)(b:0<=y)(e:y<2 ^ i)(d:y<4294967296):bits .or .u32 x y=x+y:=
 bits_join .u32 32 (by decide) (λn g h1=>by rw[IntKind.wrap_u32];omega) i x y a f (by omega) b e (by omega)
