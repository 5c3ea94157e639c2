/- Lemmas for the last texts. -/
import Derived.Test.YtnnokglddolglaaGreatDoorM15
import Derived.OrdersHeld
import Derived.StillTail
import Derived.Deep.RegionHeld
import Derived.Lib.Strings
import Derived.Lib.IndexBytes
import Derived.Shelf.SlicesQ.Equal
set_option maxHeartbeats 1600000
set_option maxRecDepth 100000
namespace Go.Proofs.YtnnokglddolglaaGreatDoor
open Go.RowKit Go.Proofs.Tryz
section
variable {P:Program} {ops:Array Oper} {Q:Exit->Act->World->Prop} {md:Region.Mode} {S:World->Prop} {U:Nat}
def zcF(P:Program)(e:Region.Mode)(c:Array Oper)(Q:Exit->Act->World->Prop)(S:World->Prop)(U:Nat):Nat->Array Bool->Act->World->Prop
 |0,b,a,w=>Region.ready e c b=[]/\Q .normal a w
 |d+1,b,a,w=>
  (Region.ready e c b=[]->Q .normal a w)/\
  ∀i∈Region.ready e c b,wpOp P c Q i (λf w'=>((b.setIfInBounds i true).getD U true=false->S w')/\zcF P e c Q S U d (b.setIfInBounds i true) f w') a w
theorem zkm:∀(b:Nat) (c:Array Bool) (a:Act) (w:World),zcF P md ops Q S U b c a w->wpAny P md ops Q b c a w
 |0,_,_,_,h=>h
 |b+1,_,_,_,h=>⟨h.1,λi f=>wpOp_mono (λe w' d=>zkm b _ e w' d.2) (h.2 i f)⟩
def zh7(b:Region.Mode)(a:Array Oper):Nat->List Nat->Bool
 |_,[]=>true
 |i,v::c=>Region.waitsFor b a v i&&zh7 b a v c
theorem zi0:∀(b:List Nat) (i:Nat) (a:Array Bool),zh7 md ops i b=true->a.getD i true=false->(∀v∈b,a.getD v true=false)->∀v∈b,v ∉ Region.ready md ops a
 | [],_,_,_,_,_=>λv f=>absurd f (by simp)
 |u::b,i,a,h,m,c=>λv f=>by
  unfold zh7 at h;rw[QW]at h
  rcases QJ.1 f with rfl|f
  ·intro l
   obtain⟨q,k,e,o,hb,j⟩:=Region.waitsFor_spec h.1;obtain⟨_,p,g,d⟩:=mem_ready.1 l;rw[k]at g;obtain rfl:=QD g;have h1:=d e o hb;rw[j]at h1;rw[getD_both m]at h1;cases h1
  ·exact zi0 b u a h.2 (c u (by simp)) (λx n=>c x (by simp[n])) v f
theorem zl5{i:Nat}{r:Oper}{v:Value}(K:ops[i]? = some r)(p:∀(j:Nat) (o:Oper) cs b,ops[j]? = some o->o.op≠.select cs b)
 (N:∀c a w,Q (.panic c) (a.put r.dst v) w->Q (.panic c) a w) (I:i≠U):
 ∀(g:Nat) (d:Array Bool) (a:Act) (w:World),
  (∀j t,ops[j]? = some t->j≠i->d.getD j true=false->(∀e∈t.after,Region.binds md e=true->e.on≠i)->r.apart ops t=true)->
  i∈Region.ready md ops d->YieldsIf P ops (λ_=>True) r v a->(d.getD U true=false->S w)->
  zcF P md ops Q S U g (d.setIfInBounds i true) (a.put r.dst v) w->zcF P md ops Q S U (g+1) d a w:=by
 intro g
 induction g with
 |zero=>
  intro d a w _ s C L H;refine⟨λh=>(by rw[h]at s;cases s),λj D=>?_⟩
  by_cases f:j=i
  ·subst f;exact C.wpOp K trivial ⟨λh=>L (by rwa[XY true I]at h),H⟩
  ·have:=ready_mono D f
   rw[H.1]at this;cases this
 |succ g ih=>
  intro d a w l s C L H;refine⟨λh=>(by rw[h]at s;cases s),λj D=>?_⟩
  by_cases f:j=i
  ·subst f;exact C.wpOp K trivial ⟨λh=>L (by rwa[XY true I]at h),H⟩
  ·have h1:=H.2 j (ready_mono D f)
   obtain⟨n,t,q,B⟩:=mem_ready.1 D
   have x:∀e∈t.after,Region.binds md e=true->e.on≠i:=λe V hb G=>by
    have h1:=B e V hb;rw[G,getD_both (mem_ready.1 s).1]at h1;cases h1
   have h2:=wpOp_putIf q (l j t q f n x) (λcs b=>p i r cs b K) (λcs b=>p j t cs b q) N C h1
   have m:∀k y,ops[k]? = some y->k≠i->(d.setIfInBounds j true).getD k true=false->
    (∀e∈y.after,Region.binds md e=true->e.on≠i)->r.apart ops y=true:=λk y O F A E=>by
    refine l k y O F ?_ E
    by_cases u:j=k
    ·subst u;exact n
    ·rw[XY true u]at A;exact A
   refine wpOp_mono (λT w' J=>?_) h2
   have z:(d.setIfInBounds j true).getD U true=false->S w':=λh=>J.2.1 (by
    rw[Array.setIfInBounds_comm _ _ (XB f),XY true I];exact h)
   refine⟨z,ih (d.setIfInBounds j true) T w' m (ready_mono s (XB f)) J.1 z ?_⟩;rw[Array.setIfInBounds_comm _ _ f];exact J.2.2
theorem zno{i:Nat}{t:Oper}{v:Value}(X:ops[i]? = some t)(q:∀(j:Nat) (o:Oper) cs b,ops[j]? = some o->o.op≠.select cs b)
 (Y:∀c a w,Q (.panic c) (a.put t.dst v) w->Q (.panic c) a w) (hU:i≠U) (B:List Nat) (V:zh7 md ops i B=true) (J:U∈B):
 ∀(g:Nat) (d:Array Bool) (a:Act) (w:World),
  (∀j y,ops[j]? = some y->j≠i->d.getD j true=false->(∀e∈y.after,Region.binds md e=true->e.on≠i)->t.apart ops y=true)->
  i∈Region.ready md ops d->(∀v∈B,d.getD v true=false)->YieldsIf P ops S t v a->S w->
  zcF P md ops Q S U g (d.setIfInBounds i true) (a.put t.dst v) w->zcF P md ops Q S U (g+1) d a w:=by
 intro g
 induction g with
 |zero=>
  intro d a w _ r _ K I H;refine⟨λh=>(by rw[h]at r;cases r),λj G=>?_⟩
  by_cases f:j=i
  ·subst f;exact K.wpOp X I ⟨λ_=>I,H⟩
  ·have:=ready_mono G f
   rw[H.1]at this;cases this
 |succ g ih=>
  intro d a w l r u K I H;refine⟨λh=>(by rw[h]at r;cases r),λj G=>?_⟩
  by_cases f:j=i
  ·subst f;exact K.wpOp X I ⟨λ_=>I,H⟩
  ·have h1:=H.2 j (ready_mono G f)
   have D:∀x∈B,j≠x:=λx L e=>zi0 B i d V (mem_ready.1 r).1 u x L (e ▸ G)
   obtain⟨n,y,s,F⟩:=mem_ready.1 G
   have C:∀e∈y.after,Region.binds md e=true->e.on≠i:=λe he hb T=>by
    have h1:=F e he hb;rw[T,getD_both (mem_ready.1 r).1]at h1;cases h1
   have h2:=wpOp_putIf s (l j y s f n C) (λcs b=>q i t cs b X) (λcs b=>q j y cs b s) Y K h1
   have m:∀k E,ops[k]? = some E->k≠i->(d.setIfInBounds j true).getD k true=false->
    (∀e∈E.after,Region.binds md e=true->e.on≠i)->t.apart ops E=true:=λk E Z O p N=>by
    refine l k E Z O ?_ N
    by_cases z:j=k
    ·subst z;exact n
    ·rw[XY true z]at p;exact p
   refine wpOp_mono (λa' w' W=>?_) h2;have A:S w':=W.2.1 (by rw[XY true (D U J),XY true hU];exact u U J);refine⟨λ_=>A,ih (d.setIfInBounds j true) a' w' m (ready_mono r (XB f)) (λx L=>by rw[XY true (D x L)];exact u x L) W.1 A ?_⟩;rw[Array.setIfInBounds_comm _ _ f];exact W.2.2
theorem zbG{i:Nat}{f:Oper}{v:Value}{e:Nat}{b:Array Bool}{a:Act}{w:World}(d:Option Tmp)(g:ops[i]? = some f)(k:f.dst=d)
 (r:Region.noSelect ops=true) (o:Region.free md ops b i=true) (q:(Region.ready md ops b).contains i=true) (m:i≠U)
 (l:∀c a w,Q (.panic c) (a.put d v) w->Q (.panic c) a w) (n:Region.wanted f (yielded ops a.tmps)=true) (p:∀w,(execOp a.eval f).run P w=.ok (.value v) w) (j:S w)
 (h:S w->zcF P md ops Q S U e (b.setIfInBounds i true) (a.put d v) w):zcF P md ops Q S U (e+1) b a w:=by
 subst k;exact zl5 g (Region.noSelect_spec r) l m e b a w (Region.free_spec g o) (by simpa using q) (.inl ⟨n,λw _=>p w⟩) (λ_=>j) (h j)
theorem zdB{i:Nat}{g:Oper}{v:Value}{e:Nat}{b:Array Bool}{a:Act}{w:World}(f:List Nat)(d:Option Tmp)(m:ops[i]? = some g)(o:g.dst=d)
 (x:Region.noSelect ops=true) (s:Region.free md ops b i=true) (u:(Region.ready md ops b).contains i=true) (q:i≠U) (l:zh7 md ops i f=true) (k:U∈f) (j:f.all (λv=>!b.getD v true)=true)
 (p:∀c a w,Q (.panic c) (a.put d v) w->Q (.panic c) a w) (r:Region.wanted g (yielded ops a.tmps)=true) (t:∀w,S w->(execOp a.eval g).run P w=.ok (.value v) w) (n:S w)
 (h:S w->zcF P md ops Q S U e (b.setIfInBounds i true) (a.put d v) w):zcF P md ops Q S U (e+1) b a w:=by
 subst o;exact zno m (Region.noSelect_spec x) p q f l k e b a w (Region.free_spec m s) (by simpa using u) (λv y=>by have:=Zn.1 j v y;simpa using this) (.inl ⟨r,t⟩) n (h n)
theorem zkb{i:Nat}{o:Oper}{c:Nat}{b:Array Bool}{a:Act}{w:World}(d:Option Tmp)(op:Op)(k:Region.ready md ops b=[i])(r:ops[i]? = some o)(m:o.dst=d)(g:o.op=op)(q:Region.wanted o (yielded ops a.tmps)=true)
 (h:∀f:Act->World->Prop,Shut (∀e w',S w'->(S w'->zcF P md ops Q S U c (b.setIfInBounds i true) e w')->f e w')->Oper.wp P ⟨d,op,o.type,o.pos,o.after,o.guard⟩ a w f Q):zcF P md ops Q S U (c+1) b a w:=by
 subst m;subst g
 refine⟨λn=>absurd (k ▸ n) (by simp),λj l=>?_⟩;rw[k]at l;obtain rfl:=QE.1 l;refine wpOp_step r λf p=>?_
 rw[Qi q];exact h f λe w' h1 h2=>p e w' ⟨λ_=>h1,h2 h1⟩
theorem zdX{i:Nat}{o:Oper}{c:Nat}{b:Array Bool}{a:Act}{w:World}(d:Option Tmp)(op:Op)(k:Region.ready md ops b=[i])(r:ops[i]? = some o)(m:o.dst=d)(g:o.op=op)(q:Region.wanted o (yielded ops a.tmps)=true)(hl:(b.setIfInBounds i true).getD U true=true)
 (h:∀f:Act->World->Prop,Shut (∀e w',zcF P md ops Q S U c (b.setIfInBounds i true) e w'->f e w')->Oper.wp P ⟨d,op,o.type,o.pos,o.after,o.guard⟩ a w f Q):zcF P md ops Q S U (c+1) b a w:=by
 subst m;subst g
 refine⟨λn=>absurd (k ▸ n) (by simp),λj l=>?_⟩;rw[k]at l;obtain rfl:=QE.1 l;refine wpOp_step r λf p=>?_
 rw[Qi q];exact h f λe w' h1=>p e w' ⟨λh2=>(by rw[hl]at h2;cases h2),h1⟩
theorem zow{b:Array Bool}{a:Act}{w:World}(d:Region.ready md ops b=[])(h:Q .normal a w):∀c,zcF P md ops Q S U c b a w
 |0=>⟨d,h⟩
 |_+1=>⟨λ_=>h,by rw[d];simp⟩
theorem zoF{b:Nat}{a:Act}{w:World}(U:Nat)(S:World->Prop)(c:P.follows .mixedOrders=true)(d:S w.drew)
 (h:S w.drew->zcF P .any ops Q S U ops.size (Array.replicate ops.size false) a w.drew):(Code.region b ops true).wp P Q a w:=
 wp_region_any c (zkm _ _ _ _ (h d))
end
theorem zoa(ws:List ByteArray)(n:Nat)(_:n<40)(gZ:ws.length<=30)(gw:0<ws.length)(A:Option Addr)(c B W N ga ca g cap:Nat)(ns:List zaC)(ss:List (List UInt8))(l:List (zaM × Nat))(ats:List Nat)(w:World)
 (hS:Sl w B 1 A ws.length (ws.map Value.string)) (hL:ztR w B W N ga ca ws n g cap ns ss l ats):
 Calls prog 143 #[.pointer (some ⟨W,0,none⟩),.slice A ws.length c,.int .i64 (n:Int)] w (ziw B W N ga ca ws n w):=by
 obtain⟨b,gW,rfl,gR,_⟩:=zoE hS gw;have hG:ats.length=ws.length:=by have:=hL.ats.len;rw[this,lstS,Qh]
 have HS:=hIx hS;have y:=hIx hL;clear hS hL
 go_in
 go_wp2
 go_loopw [7,17] (λv i wr=>Rel1 ws n ats w v i wr) (λ_ i _=>ws.length-(intOf i).toNat)
 case atStart=>exact⟨0,Qm _,rfl,Qg _ _,OwnG.nil _ _ _⟩
 case round=>
  obtain⟨k,hk,rfl,hb,hO⟩:=hrel
  by_cases d:k<ws.length
  ·have HO:=hIx hO
   have hh:B<=w.heap.size:=Qn y.out.mkr.base.1 (Q5 y.out.mkr.lt.1);obtain⟨_,_,e,_,hc⟩:=zoE (HS.out.below (hb.mono hh)) d;injection e with e
   injection e with e1 e2 _
   subst e1;subst e2
   have hM:=y.out.mkr.below hb;have J:=(hM.at k (by omega)).1;obtain⟨_,_,gn,_⟩:=hM.cells;have ht:=hM.lt;have gS:=zhj (lstS ws) n ats k;have h6:=hIx λh=>zuU (ws:=ws) (n:=n) (ats:=ats) d h
   have X:=hIx λh=>zvk (ws:=ws) (n:=n) (ats:=ats) d (by omega) h
   clear hM hO;generalize ws[k]=s at hc h6 X;generalize ats[k]=a at J h6 X
   by_cases h5:n<s.size
   ·have Q:=hIx (X.out h5)
    clear h6 X;generalize hx:s[n]=x at Q;have gj:wr.heap.size<(wr.alloc (.cells #[.int .i64 (a:Int),.int .u8 x.toNat] 275)).drew.heap.size:=by simp
    have hW:Below wr.heap.size wr (wr.alloc (.cells #[.int .i64 (a:Int),.int .u8 x.toNat] 275)).drew:=WaL.drew;have gr:=Qp wr (.cells #[.int .i64 (a:Int),.int .u8 x.toNat] 275);have hH:=hb.size;have HH:Hid (Calls prog 179 #[u7,.agg #[.int .i64 (a:Int),.int .u8 x.toNat]] (wr.alloc (.cells #[.int .i64 (a:Int),.int .u8 x.toNat] 275)).drew λr w'=>r=.returned (.bool (decide ((a,x)∈gath (lstS ws) n ats k)))/\Below (wr.alloc (.cells #[.int .i64 (a:Int),.int .u8 x.toNat] 275)).drew.heap.size (wr.alloc (.cells #[.int .i64 (a:Int),.int .u8 x.toNat] 275)).drew w'):=hIx (zwf (HO.out.below hW) (by omega) (a,x))
    by_cases hg:(a,x)∈gath (lstS ws) n ats k
    ·rw[Qu hg]at HH
     rw[Qi hg]at Q;go_wp2_with fail
     go_region
     go_wp2_with (go_at_call 179;refine HH.out.mono ?_;rintro e w2 ⟨rfl,z⟩);exact⟨⟨k+1,by omega,rfl,(hb.trans (hW.mono hH)).trans (z.mono (by simp;omega)),by rw[Q.out];exact(HO.out.below hW).below z⟩,by simp[intOf] <;> omega⟩
    ·rw[Qs hg]at HH
     rw[Qe hg]at Q;go_wp2_with fail
     go_region
     go_wp2_with (first|(go_at_call 179;refine HH.out.mono ?_;rintro e w2 ⟨rfl,z⟩;have g9:=(z.block wr.heap.size gj).trans gr;have hd:=Qf w2 wr.heap.size 0 _ _ _ g9;have hT:=Qf w2 wr.heap.size 1 _ _ _ g9;have gf:=(HO.out.below hW).below z;have gu:=z.size;simp at gu)|(at_builtin;refine zax rowE rfl _ _ rfl w.heap.size _ (gath (lstS ws) n ats k) rfl gf (by omega) _ (a,x) rfl w2.heap.size rfl 1 rfl (by omega) ?_;intro v' w3 gs t k6 hJ));exact⟨⟨k+1,by omega,rfl,((hb.trans (hW.mono hH)).trans (z.mono (by simp;omega))).trans t,by rw[Q.out];exact gs⟩,by simp[intOf] <;> omega⟩
   ·have Q:=hIx (h6.out h5)
    clear h6 X;go_wp2;exact⟨⟨k+1,by omega,rfl,hb,by rw[Q.out];exact HO.out⟩,by simp[intOf] <;> omega⟩
  ·obtain rfl:k=ws.length:=by omega
   have HR:=hIx (zvh hO hb.size (zqZ y.out.lev.inv y.out.ats y.out.few) (by have:=zhj (lstS ws) n ats ws.length;omega));have Q:=hIx (hO.form);have gx:=hO.form;obtain⟨A0,c0,rfl,_⟩:=gx;have hh:B<=w.heap.size:=Qn y.out.mkr.base.1 (Q5 y.out.mkr.lt.1);clear hO Q;go_wp2_with (go_at_call 180;refine HR.out.mono ?_;rintro e w1 ⟨rfl,z,es,C,hE⟩);have ge:=C.length_eq;have HE:Hid (EdgesOf (lstS ws) n ats es):=hIx (EdgesOf.perm (by have:=zqg (lstS ws) n ats;rwa[show (lstS ws).length=ws.length by rw[lstS,Qh]]at this) C);have hz:=hb.trans z;have hD:=y.out.mkr.below hz;clear HR hb z d hk;have k2:es.length<=30:=by have:=zhj (lstS ws) n ats ws.length;omega
   generalize (gath (lstS ws) n ats ws.length).length=m at *;subst ge
   go_loopw [50] (λi wr=>Rel2 B W N ga ca ws n ats w es ss (.slice A0 es.length c0) i wr) (λi _=>es.length-(intOf i).toNat)
   case atStart=>exact⟨0,g,cap,ns,ss,l,Qm _,rfl,hz.mono hh,hE,hD,⟨y.out.lev.inv,by simp⟩,y.out.next,y.out.few⟩
   case round=>
    obtain⟨k,g2,H,u,gz,l2,hk,rfl,t,ha,S,E,D,P⟩:=hrel;have hy:=hIx t;clear hz hD hE t
    by_cases d:k<es.length
    ·obtain⟨p,Y,hY,h8,gg⟩:=E.next y.out.lev y.out.ats HE.out d
     obtain⟨gE,k7,k8,cE,gq,gi,g0,hm,hq⟩:=ha.at k d;injection gq with e1 e2 e3
     subst e1;subst e3
     obtain⟨hd,hT,gp,gy⟩:=S.cells;rw[Qh]at hd;have HM:=hIx S;have gC:=hIx ha;have f:=hIx E;have HN:=hIx D;clear S ha E D C e2;have ht:=HM.out.lt;have kb:Hid (es[k]? = some es[k]):=hIx (Qc d);generalize he:es[k]=e at *;obtain⟨up,x⟩:=e;dsimp only at Y hY h8 hm hq
     by_cases h4:u.length=400
     ·rw[h4]at hd
      have hR:B<=wr.heap.size:=Qn hh (Qn (Q5 (by have:=gi;have:=(Q1.1 g0).1;omega)) (Qd _));go_wp2;go_ret;exact⟨hy.out.alloc hR _,.inl ⟨rfl,f.out.full y.out.lev y.out.ats HE.out d h4⟩⟩
     ·have k1:(u.length==400)=false:=Qb.2 h4
      have gL:((u.length:Int)==400)=false:=Qb.2 (by omega);have hR:w.heap.size<wr.heap.size:=by have:=(Q1.1 g0).1;omega
      have gv:=zxH f.out.inv HN.out Y h8;obtain⟨o,h7⟩:=zdN HM.out.map ((up:Int),x) u.length ⟨by omega,by have:=f.out.inv.lt Y;show (up:Int)<_;omega⟩ gv
      have hu:(Instr.mapUpdate 240 (.map (some N)) (.agg #[.int .i64 (up:Int),.int .u8 x.toNat]) (.int .i64 (u.length:Int))).run prog (wr.alloc (.cells #[.int .i64 (up:Int),.int .u8 x.toNat] 275)).drew=.ok () (ChangeMaps.setBlock (wr.alloc (.cells #[.int .i64 (up:Int),.int .u8 x.toNat] 275)).drew N o):=
       (h7 (wr.alloc (.cells #[.int .i64 (up:Int),.int .u8 x.toNat] 275)).drew (Qt _ _ _ ht.2.2.2)).1
      have Z:=(h7 (wr.alloc (.cells #[.int .i64 (up:Int),.int .u8 x.toNat] 275)).drew (Qt _ _ _ ht.2.2.2)).2;clear h7;go_upto_region 16 with fail
      go_wp2_with fail
      go_region
      have gd:Below B wr (ChangeMaps.setBlock (wr.alloc (.cells #[.int .i64 (up:Int),.int .u8 x.toNat] 275)).drew N o):=((Qg _ _).alloc (by omega) _).drew.trans (zdg _ _ _ _ HM.out.low.2)
      have h0:(ChangeMaps.setBlock (wr.alloc (.cells #[.int .i64 (up:Int),.int .u8 x.toNat] 275)).drew N o).heap[wr.heap.size]? = some (.cells #[.int .i64 (up:Int),.int .u8 x.toNat] 275):=
       (zlD _ _ _ _ (by omega)).trans (Qp wr (.cells #[.int .i64 (up:Int),.int .u8 x.toNat] 275))
      have hP:∀j,j<wr.heap.size->N≠j->(ChangeMaps.setBlock (wr.alloc (.cells #[.int .i64 (up:Int),.int .u8 x.toNat] 275)).drew N o).heap[j]? = wr.heap[j]? := λj hj hs=>
       (zlD _ _ _ _ hs).trans (Qt wr (.cells #[.int .i64 (up:Int),.int .u8 x.toNat] 275) j hj)
      have V:=(HM.out.below (((Qg _ _).alloc (Qd _) (.cells #[.int .i64 (up:Int),.int .u8 x.toNat] 275)).drew)).put Z;have k5:wr.heap.size<(ChangeMaps.setBlock (wr.alloc (.cells #[.int .i64 (up:Int),.int .u8 x.toNat] 275)).drew N o).heap.size:=(Q1.1 h0).1;clear hu Z;generalize ChangeMaps.setBlock (wr.alloc (.cells #[.int .i64 (up:Int),.int .u8 x.toNat] 275)).drew N o=W2 at *
      have g1:∀(j:Nat) cs fz,wr.heap[j]? = some (.cells cs 275 fz)->N≠j:=λj cs fz hj e=>by
       obtain⟨gV,ck,hV,_⟩:=HM.out.map;rw[e,hj]at hV;cases hV
      have gt:=hIx (gC.out.keep λj cs fz hj=>hP j (zc2 hj) (g1 j cs fz hj));have hF:=hIx (zup f.out.inv HN.out P Y h8 u.length (w:=W2.drew) (by have:=V.toF;rw[zpo]at this;exact this.drew));have hU:=Qf W2 wr.heap.size 0 _ _ _ h0;have hi:=Qf W2 wr.heap.size 1 _ _ _ h0;obtain⟨hA,_,_,gU⟩:=V.cells;rw[Qh]at hA;have h9:=hIx V;have gJ:=V.lt;clear V hd hT gp gy hm hq hP g1;go_upto_region 17 with fail
      have hI:=h9.out.ne.1;have hZ:=hIx (Rel2.step d he hy.out gd gt.out h9.out f.out HN.out P h4 Y hY h8 gg);have gF:=hIx (λ(w3:World) (h3:Below W2.heap.size W2 w3)=>h9.out.below h3);have ke:wr.heap.size≠g2:=by omega
      have gk:W2.drew.cell? ⟨W,0,none⟩=some (.slice (some ⟨g2,0,none⟩) u.length H)/\W2.drew.cell? ⟨wr.heap.size,0,none⟩=some (.int .i64 (up:Int))/\W2.drew.cell? ⟨wr.heap.size,1,none⟩=some (.int .u8 x.toNat):=⟨hA,hU,hi⟩
      refine zoF 14 (λw'=>w'.cell? ⟨W,0,none⟩=some (.slice (some ⟨g2,0,none⟩) u.length H)/\w'.cell? ⟨wr.heap.size,0,none⟩=some (.int .i64 (up:Int))/\w'.cell? ⟨wr.heap.size,1,none⟩=some (.int .u8 x.toNat)) (by kernel_rfl) gk ?_;intro gl;refine zbG (i:=0) (v:=?v0) (some 70) rfl rfl (by kernel_rfl) (by kernel_rfl) (by kernel_rfl) (by decide) (λ_ _ _ h=>h) (by rfl) ?hy0 (by assumption) ?rest0
      case hy0=>(intro w;go_simp;try rfl)
      intro gl;simp only[Act.put,Q0,Zb,Zj];refine zbG (i:=1) (v:=?v1) (some 71) rfl rfl (by kernel_rfl) (by kernel_rfl) (by kernel_rfl) (by decide) (λ_ _ _ h=>h) (by rfl) ?hy1 (by assumption) ?rest1
      case hy1=>(intro w;go_simp;try rfl)
      intro kf;simp only[Act.put,Q0,Zb,Zj];refine zbG (i:=2) (v:=?v2) (some 72) rfl rfl (by kernel_rfl) (by kernel_rfl) (by kernel_rfl) (by decide) (λ_ _ _ h=>h) (by rfl) ?hy2 (by assumption) ?rest2
      case hy2=>(intro w;go_simp;try rfl)
      intro k4;simp only[Act.put,Q0,Zb,Zj];refine zbG (i:=3) (v:=?v3) (some 73) rfl rfl (by kernel_rfl) (by kernel_rfl) (by kernel_rfl) (by decide) (λ_ _ _ h=>h) (by rfl) ?hy3 (by assumption) ?rest3
      case hy3=>(intro w;go_simp;try rfl)
      intro gO;simp only[Act.put,Q0,Zb,Zj];refine zdB (i:=4) (v:=?v4) [14] (some 74) rfl rfl (by kernel_rfl) (by kernel_rfl) (by kernel_rfl) (by decide) (by kernel_rfl) (by decide) (by kernel_rfl) (λ_ _ _ h=>h) (by rfl) ?hy4 (by assumption) ?rest4
      case hy4=>(intro w I;(try dsimp only at I);go_simp;try rfl)
      intro ka;simp only[Act.put,Q0,Zb,Zj];refine zbG (i:=5) (v:=?v5) (some 75) rfl rfl (by kernel_rfl) (by kernel_rfl) (by kernel_rfl) (by decide) (λ_ _ _ h=>h) (by rfl) ?hy5 (by assumption) ?rest5
      case hy5=>(intro w;go_simp;try rfl)
      intro gQ;simp only[Act.put,Q0,Zb,Zj];refine zdB (i:=6) (v:=?v6) [12,13,14] (some 76) rfl rfl (by kernel_rfl) (by kernel_rfl) (by kernel_rfl) (by decide) (by kernel_rfl) (by decide) (by kernel_rfl) (λ_ _ _ h=>h) (by rfl) ?hy6 (by assumption) ?rest6
      case hy6=>(intro w I;(try dsimp only at I);go_simp;try rfl)
      intro kg;simp only[Act.put,Q0,Zb,Zj];refine zbG (i:=7) (v:=?v7) (some 77) rfl rfl (by kernel_rfl) (by kernel_rfl) (by kernel_rfl) (by decide) (λ_ _ _ h=>h) (by rfl) ?hy7 (by assumption) ?rest7
      case hy7=>(intro w;go_simp;try rfl)
      intro kc;simp only[Act.put,Q0,Zb,Zj];refine zdB (i:=8) (v:=?v8) [12,13,14] (some 78) rfl rfl (by kernel_rfl) (by kernel_rfl) (by kernel_rfl) (by decide) (by kernel_rfl) (by decide) (by kernel_rfl) (λ_ _ _ h=>h) (by rfl) ?hy8 (by assumption) ?rest8
      case hy8=>(intro w I;(try dsimp only at I);go_simp;try rfl)
      intro gK;simp only[Act.put,Q0,Zb,Zj];refine zbG (i:=9) (v:=?v9) (some 79) rfl rfl (by kernel_rfl) (by kernel_rfl) (by kernel_rfl) (by decide) (λ_ _ _ h=>h) (by rfl) ?hy9 (by assumption) ?rest9
      case hy9=>(intro w;go_simp;try rfl)
      intro gM;simp only[Act.put,Q0,Zb,Zj];refine zdB (i:=10) (v:=?v10) [11,12,13,14] (some 80) rfl rfl (by kernel_rfl) (by kernel_rfl) (by kernel_rfl) (by decide) (by kernel_rfl) (by decide) (by kernel_rfl) (λ_ _ _ h=>h) (by rfl) ?hy10 (by assumption) ?rest10
      case hy10=>(intro w I;(try dsimp only at I);go_simp;try rfl)
      intro gI;simp only[Act.put,Q0,Zb,Zj];refine zkb (i:=11) (some 81) (.call {callee:=.value (.func 182),args:=#[.tmp 79,.tmp 80],argTypes:=#[237,275]}) (by kernel_rfl) rfl rfl rfl (by rfl) ?_;intro k0 g5
      go_simp
      go_at_call 182
      refine hF.out.mono ?_;rintro e w3 ⟨⟨r,rfl,hr⟩,ho⟩;have t:Below W2.heap.size W2 w3:=undrew ho;have gA:=hIx (h9.out.below t).own;have hJ:=t.size;refine g5.out _ _ ⟨zaa t hA,zaa t hU,zaa t hi⟩ λG=>?_
      try simp only[Act.put,Q0,Zb,Zj]
      refine zbG (i:=12) (v:=?v12) (some 82) rfl rfl (by kernel_rfl) (by kernel_rfl) (by kernel_rfl) (by decide) (λ_ _ _ h=>h) (by rfl) ?hy12 (by assumption) ?rest12
      case hy12=>(intro w;go_simp;try rfl)
      intro gH
      try simp only[Act.put,Q0,Zb,Zj]
      refine zkb (i:=13) (some 83) (.buildSlice 192 1 #[(0,.tmp 82)]) (by kernel_rfl) rfl rfl rfl (by rfl) ?_;intro gT hN
      go_simp
      refine hN.out _ _ ⟨zaa WaL G.1,zaa WaL G.2.1,zaa WaL G.2.2⟩ λhX=>?_
      try simp only[Act.put,Q0,Zb,Zj]
      refine zdX (i:=14) (some 84) (.call {callee:=.builtin .append,args:=#[.tmp 74,.tmp 83],argTypes:=#[192,192]}) (by kernel_rfl) rfl rfl rfl (by rfl) (by kernel_rfl) ?_;intro gN gc;refine ze4 rowN (.tmp 74) (.tmp 83) rfl B (.slice (some ⟨g2,0,none⟩) u.length H) (u.map nilE) rfl (by have:=gA.out;rwa[Qh]at this) (by have:=t.size;omega) _ (nilE ⟨x,up,r⟩) rfl _ rfl 1 rfl (by rw[Qh];omega) ?_;intro v4 w4 hw gb g6 gB;obtain⟨g4,c4,rfl,_,_⟩:=hw.head (by simp);have O:∀j,j<w3.heap.size->g2≠j->w4.heap[j]? = w3.heap[j]? := λj hj hs=>g6 j hj (λe=>hs (QD e))
      have e0:w4.cell? ⟨W,0,none⟩=some (.slice (some ⟨g2,0,none⟩) u.length H):=(zeo (O W (by omega) (XB hI)) 0).trans G.1;have ef:w4.frozen? ⟨W,0,none⟩=false:=(zna (O W (by omega) (XB hI)) 0).trans (gF.out w3 t).cells.2.2.2;refine gc.out _ _ ?_
      try simp only[Act.put,Q0,Zb,Zj]
      refine zdX (i:=15) (some 85) (.nilCheck (.tmp 70)) (by kernel_rfl) rfl rfl rfl (by rfl) (by kernel_rfl) ?_;intro k9 hC
      go_simp
      refine hC.out _ _ ?_
      try simp only[Act.put,Q0,Zb,Zj]
      refine zdX (i:=16) (some 86) (.fieldAddr 242 (.tmp 85) 0) (by kernel_rfl) rfl rfl rfl (by rfl) (by kernel_rfl) ?_;intro k3 g8
      go_simp
      refine g8.out _ _ ?_
      try simp only[Act.put,Q0,Zb,Zj]
      refine zdX (i:=17) none (.store 192 (.tmp 86) (.tmp 84)) (by kernel_rfl) rfl rfl rfl (by rfl) (by kernel_rfl) ?_;intro gX g7
      go_simp
      refine g7.out _ _ ?_;refine zow (by kernel_rfl) ?_ _;have gD:=hZ.out r w3 w4 g4 c4 hr t hw gb O;clear t ho hw gb O g6 gB hJ G hX;go_wp2;exact⟨gD,by simp[intOf] <;> omega⟩
    ·obtain rfl:k=es.length:=by omega
     obtain⟨_,_,hB,_⟩:=S.cells;have HM:=hIx S;have f:=hIx E;have HN:=hIx D;have HF:=hIx P;clear S E D ha C hB d hk P;go_wp2
     go_loopw [90] (λi wq=>Rel3 B W N ga ca ws n w ats u gz l2 g2 H i wq) (λi _=>ws.length-(intOf i).toNat)
     case atStart=>exact⟨0,ats,Qm _,rfl,hy.out,HM.out,hG,λj hj=>absurd hj (by omega),λ_ _=>rfl⟩
     case round=>
      obtain⟨k,L,hk,rfl,hf,F,K,U,T⟩:=hrel
      by_cases d:k<ws.length
      ·obtain⟨_,_,e,_,hc⟩:=zoE (HS.out.below hf) d
       injection e with e
       injection e with e1 e2 _
       subst e1;subst e2
       obtain⟨_,kd,gn,_⟩:=F.cells;obtain⟨J,gG⟩:=F.at k (by omega);have Q:=hIx (Rel3.pass y.out.ats f.out d (hb:=hf) (hM:=F) (hl:=K) (h1:=U) (h2:=T));have HG:=hIx (Rel3.go y.out.ats HE.out f.out HN.out d (hb:=hf.drew) (hM:=F.below (Qg _ _).drew) (hl:=K) (h1:=U) (h2:=T));have hp:=F.map;have hv:L.getD k 0=L[k]:=by rw[Qk,Qc (by omega)];rfl
       rw[hv]at HG
       have hQ:L[k]<65536:=by
        have h1:=y.out.lev.inv.lt (y.out.ats.str k (by rw[lstS,Qh];exact d));have h2:=y.out.few;rw[<-T k (Qd _),hv]at h1;omega
       clear F U T hv;generalize ws[k]=s at hc Q HG;generalize L[k]=a at J HG hQ
       by_cases h5:n<s.size
       ·obtain⟨q,g3,gY,hK⟩:=HG.out h5
        have HQ:=hIx hK;clear HG Q hK;generalize hx:s[n]=x at g3
        have gP:(Instr.lookup 240 (.map (some N)) (.agg #[.int .i64 (a:Int),.int .u8 x.toNat]) false).run prog wr.drew=.ok (.int .i64 (q:Int)) wr.drew:=by
         have:=zlP (w:=wr.drew) (MpAt.keep hp rfl) ((a:Int),x) ⟨by omega,by show (a:Int)<_;omega⟩;rw[g3]at this;exact this
        clear hp;go_wp2_with fail
        go_region
        go_wp2;exact⟨HQ.out,by simp[intOf] <;> omega⟩
       ·have gh:=hIx (Q.out h5)
        clear HG Q;go_wp2;exact⟨gh.out,by simp[intOf] <;> omega⟩
      ·obtain rfl:k=ws.length:=by omega
       have HD:=hIx (Rel3.done y.out.lev y.out.ats HE.out f.out HN.out HF.out hf F K U);clear F U T;go_wp2;go_ret;exact HD.out
section
variable {ws:List ByteArray} {lo g cap:Nat} {ns:List zaC} {ss:List (List UInt8)} {ms:List zcK} {w:World}
theorem zq6(c:zjz ws)(s:ByteArray)(h:s.size<=8192)(a:TreeIs w lo ws g cap ns ss ms):
 Calls prog 282 #[.slice (some ⟨g,0,none⟩) ms.length cap,.int .i64 (ws.length:Int),.string s] w λe w'=>e=.returned (.int .i64 0)/\Below w.heap.size w w':=by
 have b:=hIx (zqX ws c.few lo g cap ns ss ms w a);have f:decide ((8192:Int)<(s.size:Int))=false:=by simp;omega
 clear a
 go_in
 go_wp2_with (go_at_call 304;refine b.out.mono ?_;rintro e d ⟨rfl,hb⟩);go_ret;exact⟨rfl,hb⟩
theorem ztH(f:zjz ws)(s:ByteArray)(h:s.size<=8192)(c:TreeIs w lo ws g cap ns ss ms):
 Calls prog 248 #[.slice (some ⟨g,0,none⟩) ms.length cap,.int .i64 (ws.length:Int),.string s] w λe w'=>
  e=.returned (.tuple #[.bool (decide (0<(zba (lstS ws) s.data.toList s.data.toList.length).length)),.int .i64 0])/\Below w.heap.size w w':=by
 have j:=hIx (zq6 f s h c);have m:Hid (∀a,Below w.heap.size w a->Calls prog 283 #[.slice (some ⟨g,0,none⟩) ms.length cap,.string s,.int .i64 1] a (zpS (lstS ws) s.data.toList 1 a)):=hIx λa hb=>zrS ws f 1 (.inl rfl) s h lo g cap ns ss ms a (c.below hb)
 have k:Hid (decide (0<(zm8 (lstS ws) s.data.toList 1).length)=decide (0<(zba (lstS ws) s.data.toList s.data.toList.length).length)):=by
  unfold Hid zm8;rw[Qi rfl];generalize zba (lstS ws) s.data.toList s.data.toList.length=l;cases l with
  |nil=>rfl
  |cons y r=>simp
 clear c f
 go_in
 go_wp2_with (first|(go_at_call 282;refine j.out.mono ?_;rintro e a ⟨rfl,hb⟩)|(go_at_call 283;refine(m.out _ hb).mono ?_;rintro e w2 ⟨v,rfl,i,d⟩;obtain⟨n,c5,rfl,_⟩:=i.form))
 go_ret2
 exact⟨Zt (λb=>Ending.returned (.tuple #[.bool b,.int .i64 0])) k.out,hb.trans (d.mono hb.size)⟩
end
theorem znD:zxt:=λws n h1 h2 j A c B e i a f g cap d b l ats w k h=>zoa ws n h1 h2 j A c B e i a f g cap d b l ats w k h
def zxQ(ws:List ByteArray)(w:World)(e:Ending)(w':World):Prop:=
 Below w.heap.size w w'/\((∃r:Nat,0<r/\e=.returned (.tuple #[.slice none 0 0,.int .i64 (r:Int)])/\(zcB ws≠0\/Full (lstS ws)))\/(zjz ws/\∃g cap c b a,e=.returned (.tuple #[.slice (some ⟨g,0,none⟩) a.length cap,.int .i64 0])/\TreeIs w' w.heap.size ws g cap c b a))
theorem zo1(A:Option Addr)(c n:Nat)(ws:List ByteArray)(w:World)(b:ws.length=n)(h:Sl w w.heap.size 1 A n (ws.map Value.string)):
 Calls prog 106 #[.slice A n c] w (zxQ ws w):=by
 by_cases a:zcB ws=0
 ·refine(zm9 znD A c n ws w b h a).mono ?_
  rintro e w' ⟨hb,⟨rfl,f⟩|⟨g,cap,k,i,d,rfl,j⟩⟩
  ·exact⟨hb,.inl ⟨2,by decide,rfl,.inr f⟩⟩
  ·exact⟨hb,.inr ⟨zcu a,g,cap,k,i,d,rfl,j⟩⟩
 ·refine(zgY A c n ws w b h a).mono ?_
  rintro e w' ⟨rfl,hb⟩;exact⟨hb,.inl ⟨zcB ws,by omega,rfl,.inl a⟩⟩
def OkW(ws:List ByteArray):Prop:=zjz ws/\¬Full (lstS ws)
theorem zg1{ws:List ByteArray}(h:zjz ws):zcB ws=0:=by
 unfold zcB;have h1:=h.few;have h2:=h.some
 have c:anyN (λj=>decide (40<(ws.getD j ByteArray.empty).size)) ws.length=false:=(zez _ _).2 λj a=>by
  rw[Qk,Qc a];have:=h.short ws[j] (Qy a)
  simpa using this
 have b:Lib.containsS ws ByteArray.empty=false:=by
  cases d:Lib.containsS ws ByteArray.empty with
  |false=>rfl
  |true=>exact absurd rfl (h.full _ ((Lib.containsS_iff _ _).1 d))
 rw[Qe (by omega),Qe (by rw[c];decide),Qe (by omega),Qe (by rw[b];decide)]
theorem zjY{ws:List ByteArray}(h:zjz ws):∀v∈lstS ws,v.length<=40:=λv a=>by
 obtain⟨x,b,rfl⟩:=QO.1 a;have:=h.short x b
 simpa using this
section
variable {A:Option Addr} {c n:Nat} {ws:List ByteArray} {w:World}
theorem zvf(a:OkW ws)(k:ws.length=n)(h:Sl w w.heap.size 1 A n (ws.map Value.string)):
 Calls prog 106 #[.slice A n c] w λe w'=>Below w.heap.size w w'/\∃g cap i f d,e=.returned (.tuple #[.slice (some ⟨g,0,none⟩) d.length cap,.int .i64 0])/\TreeIs w' w.heap.size ws g cap i f d:=by
 refine(zo1 A c n ws w k h).mono ?_;rintro e w' ⟨hb,⟨r,_,_,b⟩|⟨_,g,cap,i,f,d,rfl,j⟩⟩
 ·rcases b with b|b
  ·exact absurd (zg1 a.1) b
  ·exact absurd b a.2
 ·exact⟨hb,g,cap,i,f,d,rfl,j⟩
theorem zx8(a:¬OkW ws)(i:ws.length=n)(h:Sl w w.heap.size 1 A n (ws.map Value.string)):
 Calls prog 106 #[.slice A n c] w λe w'=>Below w.heap.size w w'/\∃r:Nat,0<r/\e=.returned (.tuple #[.slice none 0 0,.int .i64 (r:Int)]):=by
 refine(zo1 A c n ws w i h).mono ?_;rintro e w' ⟨hb,⟨r,f,rfl,_⟩|⟨d,g,cap,l,k,j,rfl,b⟩⟩
 ·exact⟨hb,r,f,rfl⟩
 ·exact absurd ⟨d,zgR b.lev (zjY d) b.few⟩ a
end
section
open Classical in
noncomputable def mkC(ws:List ByteArray):Nat:=if zcB ws≠0 then zcB ws else if Full (lstS ws)then 2 else 0
theorem ztG{ws:List ByteArray}:mkC ws=0↔OkW ws:=by
 unfold mkC
 by_cases a:zcB ws=0
 ·rw[Qe (by rw[a];decide)]
  by_cases b:Full (lstS ws)
  ·rw[Qi b];exact⟨λe=>absurd e (by decide),λh=>absurd b h.2⟩
  ·rw[Qe b];exact⟨λ_=>⟨zcu a,b⟩,λ_=>rfl⟩
 ·rw[Qi a];exact⟨λe=>absurd e a,λh=>absurd (zg1 h.1) a⟩
theorem zr8(A:Option Addr)(c n:Nat)(ws:List ByteArray)(w:World)(f:ws.length=n)(h:Sl w w.heap.size 1 A n (ws.map Value.string)):
 Calls prog 106 #[.slice A n c] w λe w'=>Below w.heap.size w w'/\∃v,e=.returned (.tuple #[v,.int .i64 (mkC ws:Nat)]):=by
 by_cases a:zcB ws=0
 ·refine(zm9 znD A c n ws w f h a).mono ?_
  rintro e w' ⟨hb,⟨rfl,i⟩|⟨g,cap,l,k,j,rfl,b⟩⟩
  ·have e:mkC ws=2:=by unfold mkC;rw[Qe (by rw[a];decide),Qi i]
   rw[e];exact⟨hb,_,rfl⟩
  ·have d:=zcu a
   rw[ztG.2 ⟨d,zgR b.lev (zjY d) b.few⟩];exact⟨hb,_,rfl⟩
 ·refine(zgY A c n ws w f h a).mono ?_
  rintro e w' ⟨rfl,hb⟩;have e:mkC ws=zcB ws:=by unfold mkC;rw[Qi a]
  rw[e];exact⟨hb,_,rfl⟩
end
def zeV(b:UInt8):UInt8:=if 65<=b.toNat/\b.toNat<=90 then b+32 else b
def zav(l:List UInt8):List UInt8:=l.map zeV
def zbw(k:Nat)(l:List UInt8):List UInt8:=(l.take k).map zeV++l.drop k
theorem zjs(k:Nat)(l:List UInt8):(zbw k l).length=l.length:=by
 simp[zbw];omega
theorem zkM(k:Nat)(l:List UInt8)(h:k<l.length)(a:k<(zbw k l).length):(zbw k l)[k]=l[k]:=by
 have e:(zbw k l)[k]? = l[k]? := by
  unfold zbw;rw[QZ (by simp;omega)];simp[Xb (Q5 h)]
 rw[Qc a,Qc h]at e;exact QD e
theorem zi2(k:Nat)(l:List UInt8)(h:k<l.length):(zbw k l).set k (zeV l[k])=zbw (k+1) l:=by
 have a:((l.take k).map zeV).length=k:=by simp;omega
 unfold zbw;rw[ZV k _ (by omega),a,Xh,Zf h,Zb,Qq h,QU,QH]
 rfl
theorem zl6(k:Nat)(l:List UInt8)(h:k<l.length)(e:zeV l[k]=l[k]):zbw k l=zbw (k+1) l:=by
 rw[<-zi2 k l h,e];refine(List.ext_getElem (by simp) λi h1 h2=>?_).symm;rw[List.getElem_set]
 split
 ·rename_i a;subst a;rw[zkM _ _ h]
 ·rfl
theorem zmS(l:List UInt8):zbw 0 l=l:=by simp[zbw]
theorem znL(k:Nat)(l:List UInt8)(h:l.length<=k):zbw k l=zav l:=by
 simp[zbw,zav,QC h,QP h]
def zva(s:ByteArray)(w:World)(g:Nat)(i:Value)(wr:World):Prop:=
 ∃k:Nat,k<=s.size/\i=.int .i64 k/\BytesAt wr g (zbw k s.data.toList)/\Below w.heap.size w wr
def zbN(r:ByteArray)(w:World)(e:Ending)(w':World):Prop:=e=.returned (.string r)/\Below w.heap.size w w'
theorem zbg(s:ByteArray)(w:World)(z:s.size<=maxLen):
 Calls prog 64 #[.string s] w (zbN (bs (zav s.data.toList)) w):=by
 unfold maxLen at z
 go_in
 go_wp2_with (refine zer rfl _ 9 140 5 rfl underlying9 underlying140 underlying5 _ rfl ?_;intro c D H l g m);have G:=hIx m;clear m;have u:w.heap.size<=w.heap.size:=Qd _
 go_loopw [10] (λi wr=>zva s w w.heap.size i wr) (λi _=>s.size-(intOf i).toNat)
 case atStart=>exact⟨0,Qm _,rfl,by rw[zmS];exact l,g⟩
 case round=>
  obtain⟨k,F,rfl,hb,b⟩:=hrel;clear l g;have d:Hid ((zbw k s.data.toList).length=s.size):=by unfold Hid;rw[zjs];simp
  by_cases f:k<s.size
  ·have hl:k<(zbw k s.data.toList).length:=by rw[d.out];exact f
   have e:k<s.data.toList.length:=by simpa using f
   have o:=hb.cell hl;have B:=hb.free hl;have h:=zkM k s.data.toList e hl;rw[h]at o;have r:=hIx hb;have v:=(s.data.toList[k]).toNat_lt;clear hb h;have I:Hid (s.data.toList[k]=s.data.toList[k]):=rfl;generalize t:s.data.toList[k]=x at *;have j:=hIx t;clear t
   by_cases n:65<=(x.toNat:Int)/\(x.toNat:Int)<=90
   ·have q:=n.1
    have E:=n.2
    have a:Hid ((zeV x).toNat=x.toNat+32):=by
     unfold Hid zeV;rw[Qi (by omega),UInt8.toNat_add];simp;omega
    go_wp2
    go_roundw
    case rel=>
     refine⟨k+1,by omega,by go_num,?_,b.setCell (p:=⟨w.heap.size,k,none⟩) u _⟩;rw[<-zi2 k _ e,j.out];have:=r.out.set hl (zeV x);rw[a.out]at this;exact this
    case measure=>simp[intOf] <;> omega
   ·have a:zeV x=x:=by unfold zeV;rw[Qe (by omega)]
    have y:=hIx a;clear a
    rcases(show (x.toNat:Int)<65\/90<(x.toNat:Int)by omega)with q|q
    all_goals
     clear n
     go_wp2
     go_roundw
     case rel=>
      refine⟨k+1,by omega,by go_num,?_,b⟩;rw[<-zl6 k _ e (by rw[j.out];exact y.out)];exact r.out
     case measure=>simp[intOf] <;> omega
  ·have C:=zcW (P:=prog) hb 140 9 5 s.size c (by rw[d.out]) underlying140 underlying5 underlying9
   have A:=hIx (znL k s.data.toList (by simp;omega));clear hb
   go_wp2
   go_ret;exact⟨by rw[A.out];rfl,b⟩
def zgw(b:UInt8):Bool:=b==32||b==9
theorem zuR{b:UInt8}(h:(b.toNat:Int)=32\/(b.toNat:Int)=9):zgw b=true:=by
 unfold zgw
 rcases h with h|h
 ·rw[show b=32 from Zu.1 (show b.toNat=32 by omega)];rfl
 ·rw[show b=9 from Zu.1 (show b.toNat=9 by omega)];rfl
theorem zr1{b:UInt8}(h:¬(b.toNat:Int)=32)(a:¬(b.toNat:Int)=9):zgw b=false:=by
 unfold zgw;rw[Xv];exact⟨Qb.2 (by rintro rfl;exact h rfl),Qb.2 (by rintro rfl;exact a rfl)⟩
def zc7(l:List UInt8):List UInt8:=(l.reverse.dropWhile zgw).reverse
def zaF(l:List UInt8):List UInt8:=zc7 (l.dropWhile zgw)
theorem zgP(l:List UInt8)(b:UInt8)(h:zgw b=true):zc7 (l++[b])=zc7 l:=by simp[zc7,h]
theorem zmu(l:List UInt8)(b:UInt8)(h:zgw b=false):zc7 (l++[b])=l++[b]:=by simp[zc7,h]
def zvR(s:ByteArray)(i:Value):Prop:=∃k:Nat,k<=s.size/\i=.int .i64 k/\zaF s.data.toList=zc7 ((s.data.toList.drop k).dropWhile zgw)
def zwT(s:ByteArray)(a:Nat)(i:Value):Prop:=∃b:Nat,a<=b/\b<=s.size/\i=.int .i64 b/\zaF s.data.toList=zc7 ((s.data.toList.take b).drop a)
theorem zdK(s:ByteArray)(w:World)(K:s.size<=maxLen):
 Calls prog 80 #[.string s] w λe w'=>e=.returned (.string (bs (zaF s.data.toList)))/\w'=w:=by
 unfold maxLen at K;have t:Hid (s.data.toList.length=s.size):=by unfold Hid;simp
 have L:Hid (∀i n,(s.extract i n).data.toList=(s.data.toList.take n).drop i):=λi n=>by rw[ZG,List.drop_take]
 go_in
 go_wp2
 go_loop [3] (λi=>zvR s i) (λi=>s.size-(intOf i).toNat)
 case atStart=>exact⟨0,Qm _,rfl,rfl⟩
 case round=>
  obtain⟨k,G,rfl,r⟩:=hrel;have v:=hIx r;clear r
  by_cases d:∃h:k<s.size,(s[k].toNat:Int)=32\/(s[k].toNat:Int)=9
  ·obtain⟨f,j⟩:=d
   have B:=hIx (zaG s k f);have q:=hIx (zuR j)
   rcases j with h1|h1
   ·have A:((s[k].toNat:Int)==32)=true:=Zk.2 h1
    clear h1
    go_wp2
    go_round
    case rel=>exact⟨k+1,by omega,by go_num,by rw[v.out,B.out,Xy,q.out];rfl⟩
    case measure=>simp[intOf] <;> omega
   ·have A:((s[k].toNat:Int)==32)=false:=Qb.2 (by omega)
    have F:((s[k].toNat:Int)==9)=true:=Zk.2 h1;clear h1
    go_wp2
    go_round
    case rel=>exact⟨k+1,by omega,by go_num,by rw[v.out,B.out,Xy,q.out];rfl⟩
    case measure=>simp[intOf] <;> omega
  ·have m:zaF s.data.toList=zc7 ((s.data.toList.take s.size).drop k):=by
    rw[v.out,QC (by rw[t.out];exact Qd _)]
    by_cases f:k<s.size
    ·have hb:zgw s[k]=false:=zr1 (λh=>d ⟨f,.inl h⟩) (λh=>d ⟨f,.inr h⟩)
     rw[zaG s k f,Xy,hb];rfl
    ·rw[QP (by rw[t.out];omega)];rfl
   have J:=hIx m;clear m
   have g:¬k<s.size\/∃h:k<s.size,((s[k].toNat:Int)==32)=false/\((s[k].toNat:Int)==9)=false:=by
    by_cases f:k<s.size
    ·exact .inr ⟨f,Qb.2 (λh=>d ⟨f,.inl h⟩),Qb.2 (λh=>d ⟨f,.inr h⟩)⟩
    ·exact .inl f
   clear d
   rcases g with C|⟨f,A,F⟩
   all_goals
    go_wp2
    go_loop [4] (λi=>zwT s k i) (λi=>(intOf i).toNat)
    case atStart=>exact⟨s.size,G,Qd _,rfl,J.out⟩
    case round=>
     obtain⟨b,E,D,rfl,r⟩:=hrel;have o:=hIx r;clear r
     by_cases d:∃h:b-1<s.size,k<b/\((s[b-1].toNat:Int)=32\/(s[b-1].toNat:Int)=9)
     ·obtain⟨a,l,j⟩:=d
      have q:=hIx (zuR j)
      have p:Hid ((s.data.toList.take b).drop k=(s.data.toList.take (b-1)).drop k++[s[b-1]]):=by
       unfold Hid;have e:=zhT s (b-1) a;rw[show b-1+1=b by omega]at e;rw[e,ZL (by rw[Qz,t.out];omega)]
      obtain⟨c,rfl⟩:∃c,b=c+1:=⟨b-1,by omega⟩
      simp only[Nat.add_sub_cancel]at j q p a;have u:(k:Int)<(c:Int)+1:=by omega
      have x:((c:Int)+1-1)=c:=by omega
      rcases j with h1|h1
      ·have y:((s[c].toNat:Int)==32)=true:=Zk.2 h1
       clear h1
       go_wp2
       go_round
       case rel=>exact⟨c,by omega,by omega,by go_num,by rw[o.out,p.out,zgP _ _ q.out]⟩
       case measure=>simp[intOf] <;> omega
      ·have y:((s[c].toNat:Int)==32)=false:=Qb.2 (by omega)
       have I:((s[c].toNat:Int)==9)=true:=Zk.2 h1;clear h1
       go_wp2
       go_round
       case rel=>exact⟨c,by omega,by omega,by go_num,by rw[o.out,p.out,zgP _ _ q.out]⟩
       case measure=>simp[intOf] <;> omega
     ·have z:Hid (zc7 ((s.data.toList.take b).drop k)=(s.data.toList.take b).drop k):=by
       unfold Hid
       by_cases l:k<b
       ·have a:b-1<s.size:=by omega
        have e:=zhT s (b-1) a;rw[show b-1+1=b by omega]at e;rw[e,ZL (by rw[Qz,t.out];omega)];exact zmu _ _ (zr1 (λh=>d ⟨a,l,.inl h⟩) (λh=>d ⟨a,l,.inr h⟩))
       ·rw[QP (by rw[Qz];omega)];rfl
      have g:b=k\/∃(c:Nat) (h:c<s.size),b=c+1/\k<c+1/\((s[c].toNat:Int)==32)=false/\((s[c].toNat:Int)==9)=false:=by
       by_cases l:k<b
       ·have a:b-1<s.size:=by omega
        exact .inr ⟨b-1,a,by omega,by omega,Qb.2 (λh=>d ⟨a,l,.inl h⟩),Qb.2 (λh=>d ⟨a,l,.inr h⟩)⟩
       ·exact .inl (by omega)
      clear d
      rcases g with rfl|⟨c,N,rfl,H,y,I⟩
      ·go_wp2
       go_ret;exact⟨zs0 (zg5 (by rw[o.out,z.out,QP (by rw[Qz];omega)];rfl)),rfl⟩
      ·have u:(k:Int)<(c:Int)+1:=by omega
       have x:((c:Int)+1-1)=c:=by omega
       go_wp2
       go_ret;exact⟨zs0 (zg5 (by rw[L.out,o.out,z.out])),rfl⟩
