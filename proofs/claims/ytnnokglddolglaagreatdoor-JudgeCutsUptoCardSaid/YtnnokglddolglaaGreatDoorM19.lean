/- Lemmas for the last texts. -/
import Derived.Test.YtnnokglddolglaaGreatDoorM18
set_option maxHeartbeats 3200000
set_option maxRecDepth 100000
namespace Go.Proofs.YtnnokglddolglaaGreatDoor
open Go.RowKit Go.Proofs.Tryz
abbrev zd1:=Int × Int
def zb9(x:zd1):List Value:=[.int .u32 x.1,jA x.2]
theorem zqV(l:List zd1):(l.flatMap zb9).length=l.length*2:=by
 induction l with
 |nil=>rfl
 |cons x l ih=>rw[QH,Qa,ih];simp only[zb9,Qn,QS];omega
theorem zq1(l:List zd1):∀u∈l.flatMap zb9,u.oneCell'=true:=λu a=>by
 obtain⟨x,_,h⟩:=List.mem_flatMap.1 a;simp only[zb9,QI,ZY,or_false]at h
 rcases h with rfl|rfl <;> rfl
def OwnN(w:World)(base:Nat)(v:Value)(l:List zd1):Prop:=w.ownsRow base 248 2 v l.length (l.flatMap zb9)
theorem OwnN.nil(w:World)(base:Nat):OwnN w base (jD 0 0) []:=ZU w base 248 2
theorem OwnN.below{w w':World}{base:Nat}{v:Value}{l:List zd1}(h:OwnN w base v l)(hb:w w'):OwnN w' base v l:=zaU h hb
theorem OwnN.keep{w w':World}{base:Nat}{v:Value}{l:List zd1}(h:OwnN w base v l)(b:∀g,v.ownBlock=some g->w'.heap[g]? = w.heap[g]?):OwnN w' base v l:=by
 refine⟨h.1,?_⟩
 rcases h.2 with d|⟨g,cap,a,h1,h2,e,c⟩
 ·exact .inl d
 ·exact .inr ⟨g,cap,a,h1,h2,(b g (by rw[h1];rfl)).trans e,c⟩
theorem OwnN.low{w:World}{base b:Nat}{v:Value}{l:List zd1}(h:OwnN w base v l)(hb:b<=base):OwnN w b v l:=
 ⟨h.1,h.2.imp_right λ⟨g,cap,a,h1,h2,c⟩=>⟨g,cap,a,h1,Ql hb h2,c⟩⟩
theorem OwnN.form{w:World}{base:Nat}{v:Value}{l:List zd1}(h:OwnN w base v l):∃A c,v=.slice A l.length c/\Sl w w.heap.size 2 A l.length (l.flatMap zb9):=by
 rcases h.2 with ⟨h1,h2⟩|⟨g,cap,a,h1,hb,e,_⟩
 ·have:l=[]:=QA h2
  subst this;exact⟨none,0,h1,Sl.nil _ _ _ _⟩
 ·refine⟨_,_,h1,zqV l,λd=>⟨g,0,rfl,?_,λj b=>?_⟩⟩
  ·exact(QK h g (by rw[h1];simp[Value.ownBlock])).2
  ·have:=Zq (g:=g) h (by rw[h1];simp[Value.ownBlock]) j _ (Qd b)
   rw[zba]at this;rw[Zh];exact this
theorem zvm:(prog.info? 248).map (λi=>(i.zero,i.size,i.bytes))=some (some (.agg #[.int .u32 0,jA 0]),2,16):=by kernel_rfl
section
variable {ops:Array Oper} {rest:List Oper} {o:Oper} {a:Act} {Q:Exit->Act->World->Prop} {w:World}
theorem zhw(f:o.guard=none)(s x:Operand)(y:o.op=.call {callee:=.builtin .append,args:=#[s,x],argTypes:=#[195,195]})
 (base:Nat) (v:Value) (l:List zd1) (B:a.eval s=v) (d:OwnN w base v l) (b:base<=w.heap.size)
 (n:List Value) (new:zd1) (E:n=zb9 new) (p:Nat) (m:w.heap.size=p) (c:Nat) (D:a.eval x=.slice p 1 c)
 (e:l.length<=4194304)
 (h:∀v' w',OwnN w' base v' (l++[new])->Below base w w'->(∀g,g<w.heap.size->v.ownBlock≠some g->w'.heap[g]? = w.heap[g]?)->w.heap.size<w'.heap.size->wpList prog ops Q rest (a.put o.dst v') w'):
 wpList prog ops Q (o::rest) a (w.alloc (.cells n.toArray 248)):=by
 subst E;subst m
 obtain⟨t,C,i,j,k⟩:=ZG zvm
 refine Xe f λ_ r=>zaV s x 195 y base 248 t _ 2 16 underlying195 C i j k rfl (by decide) v l.length (l.flatMap zb9) B d b (zb9 new) 1 c D rfl
  (λu z=>zq1 [new] u (by simpa using z)) (by unfold maxLen;omega) (by omega) λv' w' h1 h2 A q=>r _ _ (h v' w' (by unfold OwnN;rw[Qa,Q6];simpa using h1) h2 A q)
end
section
open Go.Sort
def TabOk (w:World):Prop:=∀w',w w'->Lib.TabIs prog w' "internal/strconv.uint64pow10" .u64 Lib.pow10Tab
theorem TabOk.of {w:World} (h:Lib.TabIs prog w "internal/strconv.uint64pow10" .u64 Lib.pow10Tab):TabOk w:=Lib.tabBelow_of_tabIs h
theorem TabOk.below{w w':World}(h:TabOk w)(hb:w w'):TabOk w':=λw2 a=>h w2 (hb.trans (a.mono hb.size))
theorem zhP(w:World)(k:Nat)(os:Array Obj):w (grow (w.drewN k) os):=
 ⟨rfl,rfl,rfl,by rw[size_grow];exact Nat.le_add_right _ _,λj a=>heap_grow_old (w.drewN k) os a⟩
theorem zg4(n:Nat)(w:World)(b:n<=9223372036854775807)(h:TabOk w):
 Calls prog 58 #[jA (n:Int)] w λe w'=>e=jC (.string (bs (Lib.decDigits n)))/\w w':=
 (strconv_Itoa (n:Int) (by omega) (by omega) w (h w (Qj _ _))).mono λe w' ⟨h1,a,os,h2⟩=>by
  subst h2;refine⟨?_,zhP w a os⟩;rw[h1];unfold Lib.itoa;rw[Qe (by omega)]
  rfl
end
def zgs(a:Nat)(b:Int)(w:World)(e:Ending)(w':World):Prop:=
 e=jC (if zqu a b=true then .tuple #[.string (bs (netT a b)),jA 0]else .tuple #[.string (.mk #[]),jA 1])/\w w'
def zfR(a:Nat):List ByteArray:=[bs (decS (octN a 24)),bs (decS (octN a 16)),bs (decS (octN a 8)),bs (decS (octN a 0))]
def zz1(a:Nat)(b:Int)(w c:World)(v i:Value)(wr:World):Prop:=
 ∃(k:Nat) (z:Int),k<=4/\z=24-8*(k:Int)/\i=jA z/\OwnS wr (w.heap.size+1) v ((zfR a).take k)/\NetAt w.heap.size (a:Int) b wr/\Below (w.heap.size+1) c wr
theorem zq3(a:Nat)(b:Int)(w:World)(ha:a<4294967296)(o:TabOk w):
 Calls prog 162 #[.agg #[.int .u32 (a:Int),jA b]] w (zgs a b w):=by
 obtain⟨t,s⟩:∃t,w.alloc (.cells #[.int .u32 (a:Int),jA b] 248)=t:=⟨_,rfl⟩
 have J:NetAt w.heap.size (a:Int) b t:=by rw[<-s];exact Qt w _
 have F:w t:=by rw[<-s];exact WaL
 have hg:w.heap.size<t.heap.size:=by rw[<-s];simp
 have h7:=o.below F;have A:=hIx s;have hy:=hIx h7;have Z:=hIx F;have l:Hid (zqu a b=(decide (0<=b)&&decide (b<=32)&&(a % 2 ^ topN b==0))):=rfl
 have p:Hid (bits .andNot .u32 (a:Int) (zeM b:Nat)=((a % 2 ^ topN b:Nat):Int)):=by
  unfold Hid;rw[u32_andNot_nat a (zeM b) ha (zkE b)];unfold zeM;rw[zi1 _ _ (ziq b)]
 have f:Hid (zqu a b=false->∀n,zgs a b w (jC (.tuple #[.string (.mk #[]),jA 1])) (t.drewN n)):=λh n=>⟨by rw[h];rfl,below_drewN Z.out n⟩
 have V:=hIx o;clear o s F h7;have ⟨r0,r1⟩:=J.cells;have g:=p.out
 by_cases c1:b<0
 ·have d1:decide (b<0)=true:=Qu c1
  have HP:=hIx (f.out (by rw[l.out,Qq (by omega)];rfl));clear c1 p g
  go_in
  go_upto_region 1 with fail
  rw[A.out]
  go_quiet ((go_at_call 185;exact Q9 (zdz _ _)))
  go_wp2;exact Qi (v:=.tuple #[.string (.mk #[]),jA 1]) (by simp[results,results162,go_sem]) rfl (HP.out nq)
 ·have d1:decide (b<0)=false:=Qq c1
  by_cases c2:32<b
  ·have d2:decide (32<b)=true:=Qu c2
   have HP:=hIx (f.out (by rw[l.out,Qq (by omega:¬b<=32),Bool.and_false];rfl));clear c1 c2 p g
   go_in
   go_upto_region 1 with fail
   rw[A.out]
   go_quiet ((go_at_call 185;exact Q9 (zdz _ _)))
   go_wp2;exact Qi (v:=.tuple #[.string (.mk #[]),jA 1]) (by simp[results,results162,go_sem]) rfl (HP.out nq)
  ·have d2:decide (32<b)=false:=Qq c2
   by_cases S:a % 2 ^ topN b=0
   rotate_left
   ·have HP:=hIx (f.out (by rw[l.out,Qb.2 S,Bool.and_false]))
    generalize a % 2 ^ topN b=z at *;have e1:((z:Int) != 0)=true:=by simp;omega
    clear c1 c2 p S l
    go_in
    go_upto_region 1 with fail
    rw[A.out]
    go_quiet ((go_at_call 185;exact Q9 (zdz _ _)))
    go_wp2;exact Qi (v:=.tuple #[.string (.mk #[]),jA 1]) (by simp[results,results162,go_sem]) rfl (HP.out nq)
   ·have h0:Hid (zqu a b=true):=by unfold Hid;rw[l.out,Qu (by omega),Qu (by omega),S];rfl
    rw[S]at g;clear p S l f
    go_in
    go_upto_region 1 with fail
    rw[A.out]
    go_quiet ((go_at_call 185;exact Q9 (zdz _ _)))
    go_wp2_with fail;have T:NetAt w.heap.size (a:Int) b (t.drewN nq):=J;have hc:Below (w.heap.size+1) t (t.drewN nq):=below_drewN (Qj _ _) nq
    go_loopw [4,5] (λv i wr=>zz1 a b w t v i wr) (λ_ i _=>(8+intOf i).toNat)
    case atStart=>exact⟨0,24,Qm _,rfl,rfl,OwnS.nil _ _,T,hc⟩
    case round=>
     obtain⟨k,z,hk,H,rfl,D,X,Y⟩:=hrel;have HA:=hIx ha;clear T hc J g r0 r1 ha;have h5:w wr:=Z.out.trans (Y.mono (Zc _));have HI:Hid (∀n:Nat,n<256->Calls prog 58 #[jA (n:Int)] wr λe w'=>e=jC (.string (bs (decS n)))/\wr w'):=λn hn=>zg4 n wr (by omega) (V.out.below h5)
     have c:w.heap.size+1<=wr.heap.size:=Ql hg Y.size;have ⟨r0,r1⟩:=X.cells;obtain⟨Ao,co,rfl,_⟩:=D.form;have hu:((zfR a).take k).length<=4:=by rw[QJ];omega
     by_cases hw:k<4
     ·have hr:0<=z:=by omega
      have hv:z<=32:=by omega
      have d3:decide (0<=z)=true:=Qu hr;have i8:IntKind.i64.wrap (z-8)=z-8:=Qx _ (by omega);have ho:=zrl a z.toNat
      have ht:bits .and .u32 ((a:Int) / 2 ^ z.toNat) 255=((octN a z.toNat:Nat):Int):=by
       have e:(a:Int) / 2 ^ z.toNat=((a / 2 ^ z.toNat:Nat):Int):=by push_cast;rfl
       have hm:a / 2 ^ z.toNat<4294967296:=Nat.lt_of_le_of_lt (Nat.div_le_self _ _) HA.out;rw[e,show (255:Int)=((255:Nat):Int)from rfl,u32_and_nat _ _ hm (by decide),show 255=2 ^ 8-1 from rfl,Nat.and_two_pow_sub_one_eq_mod]
       rfl
      have hp:Hid ((zfR a).take (k+1)=(zfR a).take k++[bs (decS (octN a z.toNat))]):=by
       unfold Hid;obtain rfl|rfl|rfl|rfl:k=0\/k=1\/k=2\/k=3:=by omega
       ·obtain rfl:z=24:=by omega
        rfl
       ·obtain rfl:z=16:=by omega
        rfl
       ·obtain rfl:z=8:=by omega
        rfl
       ·obtain rfl:z=0:=by omega
        rfl
      have G:=hIx (HI.out (octN a z.toNat) ho);have i9:IntKind.i64.wrap ((octN a z.toNat:Nat):Int)=((octN a z.toNat:Nat):Int):=Qx _ (by omega);generalize octN a z.toNat=oc at *;generalize (zfR a).take k=h6 at *;have HO:=hIx D;have u:=hIx X;have m:=hIx Y;have hq:=hIx H;clear HI ho X D Y H;go_wp2_with (first|(go_at_call 58;refine G.out.mono ?_;rintro e w2 ⟨rfl,I⟩;have hf:=HO.out.below I;have y:=Ql c I.size)|(at_builtin;refine zbz rfl (.tmp 28) (.tmp 36) rfl (w.heap.size+1) (.slice Ao h6.length co) h6 rfl hf y _ [bs (decS oc)] rfl 1 1 rfl rfl (by omega) ?_;intro v5 w5 hd d hD hC));have C:Below (w.heap.size+1) wr w5:=(I.mono c).trans d;exact⟨⟨k+1,z-8,by omega,by have:=hq.out;omega,rfl,by rw[hp.out];exact hd,u.out.below C (ZB _),m.out.trans C⟩,by dsimp only[intOf];omega⟩
     ·obtain rfl:k=4:=by omega
      obtain rfl:z=-8:=by omega
      have q:∀i,(decS (octN a i)).length<=6:=λi=>(zkW 5 (octN a i) (by have:=zrl a i;omega)).2
      have h8:(zf0 a).length<=30:=by
       unfold zf0;rw[zrM];have h1:=q 24;have h2:=q 16;have h3:=q 8;have h4:=q 0;simp only[Qa,Qn];omega
      have P:=D.sl;have L:(zfR a).take 4=zfR a:=rfl;rw[L]at D P;obtain⟨bo,oo,rfl,hh,Q⟩:=P.src (by rw[Qh];show 0<4;decide)
      have B:(zfR a).length<=co:=by
       rcases D.2 with ⟨e,_⟩|⟨_,_,_,e,_,_,h9,_⟩
       ·cases e
       ·injection e with _ _ e;rw[e];exact h9
      have O:Lib.join ((zfR a).map (·.data.toList)) [46]=zf0 a:=rfl
      have hj:=strings_Join bo oo co (zfR a) ⟨#[46]⟩ wr (λj x hx=>by
       have he:j<((zfR a).map Value.string).length:=by rw[Qh];exact(Qw.1 hx).1
       rw[Q j he,Zm];obtain⟨h9,hi⟩:=Qw.1 hx;rw[hi]) hh (by show 4<=_;decide) B (by show (Lib.join ((zfR a).map (·.data.toList)) [46]).length<=_;rw[O];omega)
      rw[show (ByteArray.mk #[46]).data.toList=[46]from rfl,O,show ByteArray.mk (zf0 a).toArray=bs (zf0 a)from rfl]at hj;obtain⟨n4,K⟩:∃n4,n4=(zfR a).length:=⟨_,rfl⟩
      rw[L,<-K];rw[<-K]at hj;have U:=hIx hj;have m:=hIx h5;have u:=hIx X;have hE:(bs (zf0 a)).size<=30:=by rw[zae];exact h8
      clear hj D P Q B O q h8 HI Y X H L K
      by_cases c3:b<32
      ·have d4:decide (b<32)=true:=Qu c3
       obtain⟨n,rfl⟩:∃n:Nat,b=(n:Int):=⟨b.toNat,by omega⟩
       have E:Hid (bs (netT a (n:Int))=bs (zf0 a)++(ByteArray.mk #[47]++bs (decS n))):=by
        unfold Hid netT;rw[Qg c3,Q8]
        apply XT
        simp[bs]
       have hF:(bs (decS n)).size<=6:=by rw[zae];exact(zkW 5 n (by omega)).2
       have G:Hid (∀W,w W->Calls prog 58 #[jA (n:Int)] W λe w'=>e=jC (.string (bs (decS n)))/\W w'):=λW hb=>zg4 n W (by omega) (V.out.below hb)
       have s1:(1:Nat)+(bs (decS n)).size<=9223372036854775807:=by omega
       have s2:(bs (zf0 a)).size+(1+(bs (decS n)).size)<=9223372036854775807:=by omega
       generalize bs (zf0 a)=AT at *;generalize bs (decS n)=DT at *;clear c1 c2 c3;go_wp2_with (first|(go_at_call 211;refine U.out.mono ?_;rintro e w5 ⟨rfl,d⟩;have r:w w5:=m.out.trans (d.mono m.out.size);have N:=u.out.below d c;have ⟨q0,q1⟩:=N.cells)|(go_at_call 58;refine(G.out _ r).mono ?_;rintro e w7 ⟨rfl,hs⟩));exact Qi (v:=.tuple #[.string (AT++(ByteArray.mk #[47]++DT)),jA 0]) (by simp[results,results162,go_sem]) rfl ⟨by rw[h0.out,Qg rfl,E.out],r.trans (hs.mono r.size)⟩
      ·have d4:decide (b<32)=false:=Qq c3
       have E:Hid (bs (netT a b)=bs (zf0 a)):=by unfold Hid netT;rw[Qe c3]
       generalize bs (zf0 a)=AT at *;clear c1 c2 c3;go_wp2_with (go_at_call 211;refine U.out.mono ?_;rintro e w5 ⟨rfl,d⟩;have r:w w5:=m.out.trans (d.mono m.out.size);have N:=u.out.below d c;have ⟨q0,q1⟩:=N.cells);exact Qi (v:=.tuple #[.string AT,jA 0]) (by simp[results,results162,go_sem]) rfl ⟨by rw[h0.out,Qg rfl,E.out],r⟩
def ze0:List jE->Int
 | []=>0
 |x::r=>match netP x with
  |.ok _=>ze0 r
  |.error e=>e
def zbQ:List jE->List zd1
 | []=>[]
 |x::r=>match netP x with
  |.ok p=>((p.1:Int),p.2)::zbQ r
  |.error _=>zbQ r
theorem zmT:∀(c:List jE) (k:Nat) (b:k<c.length) (e:Int),ze0 (c.take k)=0->netP c[k]=.error e->ze0 c=e
 | [],_,b,_,_,_=>absurd b (by simp)
 |x::r,0,_,e,_,h=>by
  have f:netP x=.error e:=h;rw[ze0,f]
 |x::r,k+1,b,e,a,h=>by
  rw[Xl,ze0]at a;rw[ze0];cases d:netP x with
  |ok p=>rw[d]at a;exact zmT r k (by simpa using b) e a h
  |error g=>
   rw[d]at a;dsimp only at a;rcases zkA d with h1|h1 <;> omega
theorem zjJ:∀(a:List jE) (k:Nat) (c:k<a.length) (p:Nat × Int),ze0 (a.take k)=0->netP a[k]=.ok p->ze0 (a.take (k+1))=0/\zbQ (a.take (k+1))=zbQ (a.take k)++[((p.1:Int),p.2)]
 | [],_,c,_,_,_=>absurd c (by simp)
 |x::r,0,_,p,_,h=>by
  have f:netP x=.ok p:=h;have e:(x::r).take 1=[x]:=rfl;rw[e,ze0,zbQ,f];exact⟨rfl,rfl⟩
 |x::r,k+1,c,p,b,h=>by
  rw[Xl,ze0]at b;rw[Xl,Xl,ze0,zbQ,zbQ];cases d:netP x with
  |ok q=>
   rw[d]at b;obtain⟨h1,h2⟩:=zjJ r k (by simpa using c) p b h;exact⟨h1,by dsimp only;rw[h2];rfl⟩
  |error g=>
   rw[d]at b;dsimp only at b;rcases zkA d with h1|h1 <;> omega
def zi9(s:jE):Int:=if 30<(splL 44 s).length then 2 else ze0 (splL 44 s)
def zdv(s:jE)(w:World)(e:Ending)(w':World):Prop:=
 ∃v,e=jC (.tuple #[v,jA (zi9 s)])/\(zi9 s=0->OwnN w' w.heap.size v (zbQ (splL 44 s)))/\(zi9 s≠0->v=jD 0 0)/\w w'
def zAa(a:List jE)(w b:World)(v i:Value)(wr:World):Prop:=
 ∃k:Nat,k<=a.length/\i=jA k/\Hid (ze0 (a.take k)=0/\(zbQ (a.take k)).length<=30)/\OwnN wr (w.heap.size+1) v (zbQ (a.take k))/\Below (w.heap.size+1) b wr
theorem ziC:∀a:List jE,(zbQ a).length<=a.length
 | []=>Qc _
 |x::r=>by
  have:=ziC r;rw[zbQ]
  split
  ·simpa using this
  ·rw[Qn];omega
theorem zl4(s:ByteArray)(w:World)(hs:s.size<=4194304)(G:LibOk w):
 Calls prog 107 #[.string s] w (zdv s.data.toList w):=by
 have h6:Hid (∀W,w W->LibOk W):=λW hb=>G.below hb
 obtain⟨m0,Q⟩:=G;have hz:0<w.heap.size:=QQ w _ Q;have A:=strings_Split s ⟨#[44]⟩ m0 w (by omega) Q (by decide);have D:=zbZ 44 s;have E:=Xh ⟨#[44]⟩ (by decide) 0 _ s rfl;have h5:=zbV 44 s.data.toList;have hh:s.data.toList.length=s.size:=by simp
 generalize Lib.splitB ⟨#[44]⟩ 0 (Lib.countB s ⟨#[44]⟩) s=d at A D E;generalize Lib.countB s ⟨#[44]⟩=n at A E;rw[<-E]at A;have r:(splL 44 s.data.toList).length=d.length:=by rw[<-D,Qh]
 have u:∀j (h:j<d.length) (h2:j<(splL 44 s.data.toList).length),(splL 44 s.data.toList)[j]=d[j].data.toList/\d[j].size<=4194304:=λj h h2=>by
  have e:(splL 44 s.data.toList)[j]=d[j].data.toList:=by simp[<-D]
  refine⟨e,?_⟩;have h3:=h5 _ (Qz h2);rw[e]at h3;simp at h3;omega
 obtain⟨V,z⟩:∃V,w.alloc (.cells (d.map Value.string).toArray 9)=V:=⟨_,rfl⟩
 have h9:∀W,Below (w.heap.size+1) V W->∀j (h:j<d.length),W.cell? ⟨w.heap.size,j,none⟩=some (.string d[j]):=λW hb j h=>by
  have hi:Below (w.alloc (.cells (d.map Value.string).toArray 9)).heap.size (w.alloc (.cells (d.map Value.string).toArray 9)) W:=by rw[<-z]at hb;simpa using hb
  rw[zao hi j];simp[h]
 have hr:w.heap.size+1<=V.heap.size:=by rw[<-z];simp
 have J:w V:=by rw[<-z];exact WaL
 have K:Calls prog 77 #[.string s,.string ⟨#[44]⟩] w λe w'=>e=jC (.slice w.heap.size d.length d.length)/\w'=V:=by rw[<-z];exact A
 have Z:=hIx K;have C:=hIx h9;have I:=hIx J;have B:=hIx u
 have c:Hid (∀(v:Value) (f:Int) (W:World),f=(if 30<(splL 44 s.data.toList).length then 2 else ze0 (splL 44 s.data.toList))->(f=0->OwnN W w.heap.size v (zbQ (splL 44 s.data.toList)))->(f≠0->v=jD 0 0)->w W->zdv s.data.toList w (jC (.tuple #[v,jA f])) W):=hIx λv f W h1 h2 h3 h4=>by
  have e:zi9 s.data.toList=f:=h1.symm;unfold zdv;rw[e];exact⟨v,rfl,h2,h3,h4⟩
 rw[r]at c;generalize zdv s.data.toList w=P at *;generalize splL 44 s.data.toList=qs at *;clear A K D E h9 J u z Q h5 hh
 by_cases h8:30<d.length
 ·rw[Qg h8]at c
  have d1:decide (30<(d.length:Int))=true:=by simp;omega
  clear C B
  go_in
  go_wp2_with (go_at_call 77;refine Z.out.mono ?_;rintro e w1 ⟨rfl,N⟩;rw[N]);exact c.out _ _ _ rfl (λe=>absurd e (by decide)) (λ_=>rfl) I.out
 ·rw[Qe h8]at c
  have d1:decide (30<(d.length:Int))=false:=by simp;omega
  have F:=hIx r
  go_in
  go_wp2_with (go_at_call 77;refine Z.out.mono ?_;rintro e w1 ⟨rfl,N⟩;rw[N]);clear r
  go_loopw [5,17] (λv i wr=>zAa qs w V v i wr) (λ_ i _=>d.length-(intOf i).toNat)
  case atStart=>exact⟨0,Qm _,rfl,⟨rfl,Qm _⟩,OwnN.nil _ _,Qj _ _⟩
  case round=>
   obtain⟨k,hk,rfl,H,L,S⟩:=hrel;rw[F.out]at hk;have q:w.heap.size+1<=wr.heap.size:=Ql hr S.size;have y:w wr:=I.out.trans (S.mono (Zc _));obtain⟨Ao,co,rfl,_⟩:=L.form;have hy:=H.out.2
   by_cases t:k<d.length
   ·have d2:decide ((k:Int)<(d.length:Int))=true:=by simp;omega
    have i7:IntKind.i64.wrap ((k:Int)+1)=(k:Int)+1:=Qx _ (by omega);have hc:=C.out wr S k t;obtain⟨u,hm⟩:=B.out k t (by rw[F.out];exact t);have m:=zjs d[k] wr (h6.out wr y) hm;unfold zes at m;rw[<-u]at m;cases X:netP (qs[k]'(by rw[F.out];exact t))with
    |error e0=>
     have he:=zmT qs k (by rw[F.out];exact t) e0 H.out.1 X;have hv:=zkA X;rw[X]at m;have O:=hIx m;have hg:=hIx he.symm;have l:=hIx y;have hu:(e0==0)=false:=Qb.2 (by omega);generalize d[k]=x at *;clear L S y m X he u B C H;go_wp2_with (first|(go_at_call 146;refine O.out.mono ?_;rintro e w2 ⟨rfl,g⟩;unfold netV));exact c.out _ _ _ hg.out (λe=>by omega) (λ_=>rfl) ((l.out.trans (g.mono l.out.size)).alloc (l.out.trans (g.mono l.out.size)).size _)
    |ok p=>
     obtain⟨h1,h2⟩:=zjJ qs k (by rw[F.out];exact t) p H.out.1 X;rw[X]at m;have O:=hIx m;have Y:=ziC (qs.take (k+1));have T:(qs.take (k+1)).length<=d.length:=by rw[QJ,F.out];omega
     have hj:Hid (ze0 (qs.take (k+1))=0/\(zbQ (qs.take (k+1))).length<=30):=⟨h1,by omega⟩
     have hq:=hIx h2;obtain⟨a,b⟩:=p;generalize zbQ (qs.take k)=U at *;generalize d[k]=x at *;have HO:=hIx L;have l:=hIx S;clear L S y m X h1 h2 Y T u B C H;go_wp2_with (first|(go_at_call 146;refine O.out.mono ?_;rintro e w2 ⟨rfl,g⟩;unfold netV;have hf:=λo=>HO.out.below (g.alloc g.size o);have ho:∀o,w.heap.size+1<=(w2.alloc o).heap.size:=λo=>by rw[Qp];exact XU (Ql q g.size))|(at_builtin;refine zhw rfl (.tmp 29) (.tmp 31) rfl (w.heap.size+1) (.slice Ao U.length co) U rfl (by exact hf _) (by exact ho _) _ ((a:Int),b) rfl (w2.heap.size+1) (by rw[Qp]) 1 rfl (by omega) ?_;intro v5 w5 ha ht hx hw));have h0:Below (w.heap.size+1) wr w5:=((g.mono q).trans ((Qj _ _).alloc (Ql q g.size) _)).trans ht;exact⟨⟨k+1,by rw[F.out];omega,rfl,hj,by rw[hq.out];exact ha,l.out.trans h0⟩,by dsimp only[intOf];omega⟩
   ·have hd:k=d.length:=by omega
    subst hd;have h7:qs.take d.length=qs:=QF (Nat.le_of_eq F.out);rw[h7]at H L;have HO:=hIx (L.low (Zc _));have l:=hIx y;have HE:=hIx H.out.1;rw[h7];have hp:Hid (∀W,OwnN W w.heap.size (.slice Ao (zbQ qs).length co) (zbQ qs)->w W->P (jC (.tuple #[.slice Ao (zbQ qs).length co,jA 0])) W):=hIx λW h1 h2=>c.out _ 0 W HE.out.symm (λ_=>h1) (λe=>absurd rfl e) h2
    clear c;generalize zbQ qs=U at *;clear L S y H B C;go_wp2;exact hp.out _ HO.out l.out
def zcp(l:jE):Set4 × Int:=if okB l=true then (setF (inB l),0)else (.zero,3)
def zis(l:jE)(w:World)(e:Ending)(w':World):Prop:=
 e=jC (.tuple #[setA (zcp l).1,jA (zcp l).2])/\w w'
def RowsW(w:World)(g:Nat)(a:List ByteArray):Prop:=w.heap[g]? = some (.cells (a.map Value.string).toArray 9 (0,0))
theorem RowsW.cell{w:World}{g:Nat}{a:List ByteArray}(h:RowsW w g a)(j:Nat)(b:j<a.length):w.cell? ⟨g,j,none⟩=some (.string a[j]):=by
 have:=Qf w g j _ _ (0,0) h;rw[this];simp[b]
theorem RowsW.far{w:World}{g:Nat}{b:List ByteArray}(h:RowsW w g b){k:Nat}(a:g≠k)(j:Nat)(u:Value):RowsW (w.setCell ⟨k,j,none⟩ u) g b:=(Qk w ⟨k,j,none⟩ u g a).trans h
theorem RowsW.below{B:Nat}{w w':World}{g:Nat}{a:List ByteArray}(h:RowsW w g a)(hb:Below B w w')(b:g<B):RowsW w' g a:=(hb.block g b).trans h
theorem RowsW.lt{w:World}{g:Nat}{a:List ByteArray}(h:RowsW w g a):g<w.heap.size:=by
 unfold RowsW at h;rw[QV]at h;exact h.1
def mixW(j:Nat)(s u:Set4):Set4:=⟨if 0<j then u.a else s.a,if 1<j then u.b else s.b,if 2<j then u.c else s.c,if 3<j then u.d else s.d⟩
theorem zr2(s u:Set4):mixW 4 s u=u:=rfl
theorem zvv(j:Nat)(a:j<4)(s u:Set4):putW (mixW j s u) j (u.word j)=mixW (j+1) s u:=by
 match j,a with
 |0,_=>rfl
 |1,_=>rfl
 |2,_=>rfl
 |3,_=>rfl
theorem zte(j:Nat)(a:j<4)(s u:Set4):(mixW j s u).word j=s.word j:=by
 match j,a with
 |0,_=>rfl
 |1,_=>rfl
 |2,_=>rfl
 |3,_=>rfl
theorem zk5(f g:Nat->Bool)(j:Nat)(a:j<4):bits .or .u64 ((setF f).word j) ((setF g).word j)=(setF λk=>f k||g k).word j:=by
 rw[zdw f j a,zdw g j a,zdw _ j a,bits_or_u64_nat _ _ (ziR _ _) (ziR _ _),zwO]
theorem zyk(s:Set4)(k:Nat)(e:k<4):([jB s.a,jB s.b,jB s.c,jB s.d]:List Value)[k]? = some (jB (s.word k)):=by
 match k,e with
 |0,_=>rfl
 |1,_=>rfl
 |2,_=>rfl
 |3,_=>rfl
theorem zsQ:(prog.info? 180).map (λi=>(i.zero,i.size,i.bytes))=some (some (jB 0),1,8):=by kernel_rfl
theorem zrz(s:Set4)(k:Nat)(f:k<4)(w:World):(Instr.index 182 (.agg #[jB s.a,jB s.b,jB s.c,jB s.d]) (jA (k:Int))).run prog w=.ok (jB (s.word k)) w:=by
 obtain⟨m,j,i,e,h⟩:=ZG zsQ
 have g:(#[jB s.a,jB s.b,jB s.c,jB s.d]:Array Value)[k]? = some (jB (s.word k)):=by
  have:=zyk s k f
  simpa using this
 have l:(Go.sizeOf 180).run prog w=.ok 1 w:=by simp[Go.sizeOf,typeInfo,j,e]
 generalize (#[jB s.a,jB s.b,jB s.c,jB s.d]:Array Value)=cs at *;unfold Instr.index;simp[ZV underlying182,asIntOf,go_sem,f,l,g]
def zzL(P:List jE)(a:List ByteArray)(w:World)(i:Value)(wr:World):Prop:=
 ∃k:Nat,k<=a.length/\i=jA k/\Hid ((P.take k).all okR=true)/\FourW wr (w.heap.size+1) (setF (anyR (P.take k)))/\FourW wr w.heap.size (setF λ_=>false)/\RowsW wr (w.heap.size+2) a/\w wr
def zzc(s u:Set4)(a:List ByteArray)(w:World)(i:Value)(wr:World):Prop:=
 ∃j:Nat,j<=4/\i=jA j/\FourW wr (w.heap.size+1) (mixW j s u)/\FourW wr w.heap.size (setF λ_=>false)/\RowsW wr (w.heap.size+2) a/\w wr
theorem zl1(s:ByteArray)(w:World)(hr:LibOk w)(hs:s.size<=4194304):Calls prog 108 #[.string s] w (zis s.data.toList w):=by
 obtain⟨m0,h6⟩:=hr;have g4:0<w.heap.size:=QQ w _ h6;have hp:∀W,w W->W.cell? (0:)=some (jA m0):=λW hb=>(hb.cell (p:=⟨0,0,none⟩) g4).trans h6
 have A:Hid (∀W,w W->Calls prog 77 #[.string s,.string ⟨#[44]⟩] W _):=λW hb=>strings_Split s ⟨#[44]⟩ m0 W (by omega) (hp W hb) (by decide)
 have he:=zbZ 44 s;have o:=Xh ⟨#[44]⟩ (by decide) 0 _ s rfl;generalize Lib.splitB ⟨#[44]⟩ 0 (Lib.countB s ⟨#[44]⟩) s=g at A he o;generalize Lib.countB s ⟨#[44]⟩=n at A o;rw[<-o]at A
 have h0:∀W,W=(w.alloc (.cells #[jB 0,jB 0,jB 0,jB 0] 182)).alloc (.cells #[jB 0,jB 0,jB 0,jB 0] 182)->FourW W (w.heap.size+1) (setF λ_=>false)/\FourW W w.heap.size (setF λ_=>false)/\w W/\W.heap.size=w.heap.size+2:=λW hW=>by
  have hb:w W:=by rw[hW];exact WaL.alloc (by simp) _
  refine⟨?_,?_,hb,by rw[hW];simp⟩
  ·have:=FourW.new (w.alloc (.cells #[jB 0,jB 0,jB 0,jB 0] 182))
   rw[Qp]at this;rw[hW];exact this
  ·rw[hW]
   exact(Qr _ _ _ (by simp)).trans (FourW.new w)
 have H0:=hIx h0;have hC:=hIx he;have hQ:=hIx hp;clear he o h6 h0 hp
 go_in
 obtain⟨Y,h3,N,h5⟩:=H0.out _ rfl;have hm:=A.out _ N;go_wp2_with fail;generalize (w.alloc (.cells #[jB 0,jB 0,jB 0,jB 0] 182)).alloc (.cells #[jB 0,jB 0,jB 0,jB 0] 182)=W0 at *;have C:RowsW (W0.alloc (.cells (g.map Value.string).toArray 9)) (w.heap.size+2) g:=by rw[<-h5];exact Qt W0 _
 have t:w (W0.alloc (.cells (g.map Value.string).toArray 9)):=N.alloc N.size _;have hg:=Y.below ((Qj _ _).alloc (Qc _) (.cells (g.map Value.string).toArray 9)) Y.lt;have hh:=h3.below ((Qj _ _).alloc (Qc _) (.cells (g.map Value.string).toArray 9)) h3.lt;rw[h5]at hm;clear Y h3 N h5 A H0;refine hm.mono ?_;rintro e w1 ⟨rfl,hu⟩;rw[<-hu]at C t hg hh;clear hu hm W0;have o:(splL 44 s.data.toList).length=g.length:=by rw[<-hC.out,Qh]
 have g7:g.length<=4194305:=by
  have h1:=zdK 44 s.data.toList;rw[show s.data.toList.length=s.size by simp]at h1;omega
 have O:=hIx o;clear o;go_wp2
 go_loopw [17] (λi wr=>zzL (splL 44 s.data.toList) g w i wr) (λi _=>g.length-(intOf i).toNat)
 case atStart=>exact⟨0,Qm _,rfl,rfl,hg,hh,C,t⟩
 case round=>
  obtain⟨k,hk,rfl,K,u,z,H,T⟩:=hrel;clear C t hg hh
  by_cases L:k<g.length
  ·have d2:decide ((k:Int)<(g.length:Int))=true:=by simp;omega
   have i7:IntKind.i64.wrap ((k:Int)+1)=(k:Int)+1:=Qx _ (by omega);have hc:=H.cell k L
   have hx:(splL 44 s.data.toList)[k]'(by rw[O.out];exact L)=g[k].data.toList:=by
    have:=hC.out;simp only[<-this,Zm]
   have g1:g[k].size<=s.size:=by
    have h1:=zbV 44 s.data.toList _ (Qz (by rw[O.out];exact L));rw[hx]at h1
    simpa using h1
   have J:Hid ((splL 44 s.data.toList).take (k+1)=(splL 44 s.data.toList).take k++[g[k].data.toList]):=by
    unfold Hid;rw[Qs (by rw[O.out];exact L),hx]
   have V:Hid (g[k].data.toList∈splL 44 s.data.toList):=by
    unfold Hid;rw[<-hx];exact Qz _
   clear hx;generalize g[k]=x at hc J V g1;have hcut:=strings_Cut x ⟨#[45]⟩ m0 wr (by omega) (hQ.out wr T);have g3:=zcM x.data.toList [45];have hT:x.data.toList.length=x.size:=by simp
   have t:(bs (Lib.cut x.data.toList [45]).1).size<=4194304:=by rw[zae];omega
   have hd:(bs (Lib.cut x.data.toList [45]).2.1).size<=4194304:=by rw[zae];omega
   have h9:Hid (loR x.data.toList=numB 255 (Lib.cut x.data.toList [45]).1):=rfl;have G:Hid (hiR x.data.toList=numB 255 (if (Lib.cut x.data.toList [45]).2.2=true then (Lib.cut x.data.toList [45]).2.1 else (Lib.cut x.data.toList [45]).1)):=rfl;have X:Hid (∀(y:jE) W,(bs y).size<=4194304->Calls prog 147 #[.string (bs y),jA 255] W λe w'=>e=jC (jA (numB 255 y))/\w'=W):=λy W h=>zkM (bs y) 255 W (by unfold maxLen;omega)
   have hL:=hIx hcut;clear hcut g3 hT;go_wp2_with fail;refine hL.out.mono ?_;rintro e w2 ⟨rfl,nq,rfl⟩;have E:FourW (wr.drewN nq) (w.heap.size+1) (setF (anyR ((splL 44 s.data.toList).take k))):=u;have l:FourW (wr.drewN nq) w.heap.size (setF λ_=>false):=z;have P:RowsW (wr.drewN nq) (w.heap.size+2) g:=H;have B:=below_drewN T nq;clear u z H T hL;generalize wr.drewN nq=wd at *;clear hc;generalize (Lib.cut x.data.toList [45]).1=ca at *;generalize (Lib.cut x.data.toList [45]).2.1=cb at *;generalize (Lib.cut x.data.toList [45]).2.2=two at *;obtain⟨cc,m⟩:∃cc,cc=(if two=true then cb else ca):=⟨_,rfl⟩
   rw[<-m]at G;have hz:(bs cc).size<=4194304:=by rw[m];split <;> assumption
   have hf:=hIx m;have hn:=λW=>X.out ca W t
   have Z:=λW=>X.out cc W hz
   rw[<-h9.out]at hn;rw[<-G.out]at Z;have h8:=hIx hn;have h4:=hIx Z;have hP:-1<=loR x.data.toList:=by rw[h9.out];exact zrq _ _
   have hV:hiR x.data.toList<=255:=by rw[G.out];exact zxg _ _ (by decide)
   have hK:-1<=hiR x.data.toList:=by rw[G.out];exact zrq _ _
   clear hn Z X h9 G m t hd hz
   go_upto_if 28 with fail
   go_cut [8]from 29 to 29 (λs8 wx=>s8=.string (bs cc)/\wx=wd)
   case first=>
    cases two with
    |true=>
     have m:=hf.out;rw[Qg rfl]at m;subst m;go_wp2;go_meet;exact⟨rfl,rfl⟩
    |false=>
     have m:=hf.out;rw[Qe (by decide)]at m;subst m;go_wp2;go_meet;exact⟨rfl,rfl⟩
   case rest=>
    obtain⟨rfl,rfl⟩:=hcut;go_wp2_with fail;refine(h8.out _).mono ?_;rintro e w3 ⟨rfl,rfl⟩;go_wp2_with fail;refine(h4.out _).mono ?_;rintro e w4 ⟨rfl,rfl⟩
    by_cases f:okR x.data.toList=true
    ·have hY:0<=loR x.data.toList/\loR x.data.toList<=hiR x.data.toList:=by unfold okR at f;simpa using f
     obtain⟨a,ha⟩:∃a:Nat,loR x.data.toList=a:=⟨(loR x.data.toList).toNat,by omega⟩
     obtain⟨b,hb⟩:∃b:Nat,hiR x.data.toList=b:=⟨(hiR x.data.toList).toNat,by omega⟩
     have g0:a<=b:=by omega
     have hd:b<256:=by omega
     have hE:Hid (setF (λy=>decide (a<=y)&&decide (y<=b))=setF (inR x.data.toList)):=zbW λy _=>by
      unfold inR;rw[ha,hb]
      congr 1
      ·exact decide_eq_decide.2 (by omega)
      ·exact decide_eq_decide.2 (by omega)
     have Q:=zcs a b g0 hd;rw[hE.out]at Q
     have hD:Hid (setF (λy=>anyR ((splL 44 s.data.toList).take k) y||inR x.data.toList y)=setF (anyR ((splL 44 s.data.toList).take (k+1)))):=zbW λy _=>by
      rw[J.out];unfold anyR;rw[List.any_append];simp
     have hX:Hid (((splL 44 s.data.toList).take (k+1)).all okR=true):=by
      unfold Hid;rw[J.out,List.all_append,K.out];simp[f]
     have o0:=zk5 (anyR ((splL 44 s.data.toList).take k)) (inR x.data.toList) 0 (by decide);have o1:=zk5 (anyR ((splL 44 s.data.toList).take k)) (inR x.data.toList) 1 (by decide);have o2:=zk5 (anyR ((splL 44 s.data.toList).take k)) (inR x.data.toList) 2 (by decide);have o3:=zk5 (anyR ((splL 44 s.data.toList).take k)) (inR x.data.toList) 3 (by decide);rw[hD.out]at o0 o1 o2 o3;rw[ha,hb];have hN:=hIx (And.intro o0 (And.intro o1 (And.intro o2 o3)));obtain⟨S,hS⟩:∃S,S=setF (anyR ((splL 44 s.data.toList).take k)):=⟨_,rfl⟩
     obtain⟨U,hU⟩:∃U,U=setF (anyR ((splL 44 s.data.toList).take (k+1))):=⟨_,rfl⟩
     obtain⟨R,H⟩:∃R,R=setF (inR x.data.toList):=⟨_,rfl⟩
     rw[<-hS,<-hU,<-H]at hN;rw[<-hS]at E;rw[<-H]at Q;have HU:=hIx hU;have hI:=hIx Q;have d3:decide ((a:Int)<0)=false:=Qq (by omega);have d4:decide ((b:Int)<(a:Int))=false:=Qq (by omega);clear Q hS hU H o0 o1 o2 o3 hD hE ha hb hY f K J h8 h4 hf hP hV hK;go_wp2_with fail;refine(hI.out _).mono ?_;rintro e w5 ⟨rfl,F⟩;have hq:=E.below F E.lt;have hH:=l.below F l.lt;have hJ:=P.below F P.lt;have hG:=B.trans (F.mono B.size);unfold setA;clear F E l P B hI;go_wp2
     go_loopw [45] (λi wr=>zzc S U g w i wr) (λi _=>4-(intOf i).toNat)
     case atStart=>exact⟨0,by decide,rfl,hq,hH,hJ,hG⟩
     case round=>
      obtain⟨j,hj,rfl,u,z,H,T⟩:=hrel;clear hq hH hJ hG
      by_cases D:j<4
      ·have I:=u.put j D (U.word j)
       rw[zvv j D]at I;have h7:=u.cell j D;rw[zte j D]at h7;have g5:=u.free j;have ht:=z.far (k:=w.heap.size+1) (by omega) j (jB (U.word j));have hA:=H.far (k:=w.heap.size+1) (by omega) j (jB (U.word j));have hv:=T.setCell (p:=⟨w.heap.size+1,j,none⟩) (Zc _) (jB (U.word j));have X:=hIx (And.intro I (And.intro ht (And.intro hA hv)));clear u z H T I ht hA hv;have g6:=λW=>zrz R j D W
       have hw:bits .or .u64 (S.word j) (R.word j)=U.word j:=by
        obtain⟨o0,o1,o2,o3⟩:=hN.out;obtain rfl|rfl|rfl|rfl:j=0\/j=1\/j=2\/j=3:=by omega
        ·exact o0
        ·exact o1
        ·exact o2
        ·exact o3
       generalize R.word j=rj at *;generalize S.word j=sj at *;generalize U.word j=uj at *;go_wp2_with fail
       go_roundw
       case rel=>exact⟨j+1,by omega,by go_num,X.out.1,X.out.2.1,X.out.2.2.1,X.out.2.2.2⟩
       case measure=>simp[intOf] <;> omega
      ·obtain rfl:j=4:=by omega
       rw[zr2,HU.out]at u;go_wp2_with fail
       go_roundw
       case rel=>exact⟨k+1,by omega,by go_num,hX,u,z,H,T⟩
       case measure=>simp[intOf] <;> omega
    ·have hy:okB s.data.toList=false:=by
      cases h:okB s.data.toList with
      |false=>rfl
      |true=>exact absurd (Zl.1 h _ V.out) f
     have ho:Hid (zcp s.data.toList=(.zero,3)):=by unfold Hid zcp;rw[hy];rfl
     have hw:loR x.data.toList<0\/(0<=loR x.data.toList/\hiR x.data.toList<loR x.data.toList):=by
      unfold okR at f;simp only[QU,QY]at f;omega
     have ⟨z0,z1,z2,z3⟩:=l.cells;have y0:=l.free 0;have y1:=l.free 1;have y2:=l.free 2;have y3:=l.free 3;have q:=l.fill .zero;have r:=(((B.setCell (p:=⟨w.heap.size,0,none⟩) (Qc _) (jB 0)).setCell (p:=⟨w.heap.size,1,none⟩) (Qc _) (jB 0)).setCell (p:=⟨w.heap.size,2,none⟩) (Qc _) (jB 0)).setCell (p:=⟨w.heap.size,3,none⟩) (Qc _) (jB 0);have hO:=hIx q;have g2:=hIx r;generalize loR x.data.toList=lo at *;generalize hiR x.data.toList=hi at *;clear q r hy f E l P B h8 h4
     rcases hw with h1|⟨h1,h2⟩
     have d3:decide (lo<0)=true:=Qu h1
     rotate_left
     have d3:decide (lo<0)=false:=Qq (by omega);have d4:decide (hi<lo)=true:=Qu h2
     all_goals
      go_wp2_with fail;have q:=hO.out;have r:=g2.out;rw[show Set4.zero.a=0 from rfl,show Set4.zero.b=0 from rfl,show Set4.zero.c=0 from rfl,show Set4.zero.d=0 from rfl]at q;generalize ((((w4.setCell w.heap.size (jB 0)).setCell ⟨w.heap.size,1,none⟩ (jB 0)).setCell ⟨w.heap.size,2,none⟩ (jB 0)).setCell ⟨w.heap.size,3,none⟩ (jB 0))=WF at *;obtain⟨s0,s1,s2,s3⟩:=q.cells;exact Qi (v:=.tuple #[setA .zero,jA 3]) (by simp[results,results108,go_sem,s0,s1,s2,s3,setA]) rfl ⟨by rw[ho.out],r⟩
  ·obtain rfl:k=g.length:=by omega
   have d2:decide ((g.length:Int)<(g.length:Int))=false:=by simp
   rw[<-O.out,QZ]at K u;have ho:Hid (zcp s.data.toList=(setF (inB s.data.toList),0)):=by unfold Hid zcp okB;rw[Qg K.out]
   obtain⟨S,hS⟩:∃S,S=setF (anyR (splL 44 s.data.toList)):=⟨_,rfl⟩
   rw[<-hS]at u;have HS:=hIx hS;clear hS;have ⟨c0,c1,c2,c3⟩:=u.cells;have ⟨z0,z1,z2,z3⟩:=z.cells;have y0:=z.free 0;have y1:=z.free 1;have y2:=z.free 2;have y3:=z.free 3;go_wp2_with fail;have q:=z.fill S;have r:=(((T.setCell (p:=⟨w.heap.size,0,none⟩) (Qc _) (jB S.a)).setCell (p:=⟨w.heap.size,1,none⟩) (Qc _) (jB S.b)).setCell (p:=⟨w.heap.size,2,none⟩) (Qc _) (jB S.c)).setCell (p:=⟨w.heap.size,3,none⟩) (Qc _) (jB S.d);generalize ((((wr.setCell w.heap.size (jB S.a)).setCell ⟨w.heap.size,1,none⟩ (jB S.b)).setCell ⟨w.heap.size,2,none⟩ (jB S.c)).setCell ⟨w.heap.size,3,none⟩ (jB S.d))=WF at *;obtain⟨s0,s1,s2,s3⟩:=q.cells;exact Qi (v:=.tuple #[setA S,jA 0]) (by simp[results,results108,go_sem,s0,s1,s2,s3,setA]) rfl ⟨by rw[ho.out,HS.out];rfl,r⟩
